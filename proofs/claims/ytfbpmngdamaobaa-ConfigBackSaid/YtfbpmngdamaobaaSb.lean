/- Slices of bytes that come in. No condition. -/
import Derived.Test.YtfbpmngdamaobaaOA
import Derived.Test.YtfbpmngdamaobaaFv
namespace Go.Proofs.Ytfbpmngdamaobaa
open Go.RowKit Go.WideShapes Go.ChangeShapes Go.Deep Go.Joins
structure Bs where
  A : Option Addr
  c : Nat
  xs : List Int
def Bs.v (b : Bs) : Value := .slice b.A b.xs.length b.c
structure Bs.At (b : Bs) (w : World) : Prop where
  le : b.xs.length ≤ b.c
  max : b.c ≤ maxLen
  src : Src w 1 b.A b.xs.length (bc b.xs)
  byt : Byt b.xs
theorem Bs.At.len {b : Bs} {w : World} (h : b.At w) : b.xs.length ≤ maxLen := Nat.le_trans h.le h.max
theorem byt_of_wf {xs : List Int} (h : ∀ a ∈ xs, (Lit.int .u8 a).wf = true) : Byt xs := fun x hx => by
  have := h x hx
  simp [Lit.wf, IntKind.min, IntKind.max, IntKind.signed, IntKind.bits] at this
  omega
section
variable {H : Type} {enc : TypeId × Value → H} {w : World}
theorem trod_bytes {fuel : Nat} {cs : List Value} {x : DataW H × List MemPlace} (h : DataW.trod enc Try.prog w 0 (fun _ => true) true fuel 37 cs = some x) : ∃ b : Bs, cs = [b.v] ∧ b.At w := by
  obtain ⟨A, n, c, xs, h1, h2, h3, h4, h5⟩ := open_intsI Try.underlying37 Try.underlying5 (by kernel_rfl) h
  have hn : xs.length = n := by have := h4.len; simpa using this
  subst hn
  exact ⟨⟨A, c, xs⟩, h1, h2, h3, h4, byt_of_wf h5⟩
set_option maxRecDepth 100000 in
theorem open_suint8 {r : Reach} {b0 : Nat} {v : Value} {d : DataW H} {p : List MemPlace} (hv : Value.okWide Try.prog w r b0 37 v) (h : DataW.Trod enc Try.prog w 0 (fun _ => true) true 37 v d p) (hlt : ∀ x ∈ p, x.block < w.heap.size) : ∃ b : Bs, v = b.v ∧ b.At w := by
  obtain ⟨a, len, cap, rfl⟩ := okWide_slice Try.underlying37 hv
  obtain ⟨fuel, hf⟩ := h
  obtain ⟨b, hb, hA⟩ := trod_bytes hf
  simp [Value.cells] at hb
  exact ⟨b, hb, hA⟩
end
end Go.Proofs.Ytfbpmngdamaobaa
