/- Slices of integers that come in. No condition. -/
import Derived.Test.YtgjaiikfgejgoaaFs
namespace Go.Proofs.Ytgjaiikfgejgoaa
open Go.RowKit Go.WideShapes Go.ChangeShapes Go.Deep Go.Joins

/-- A slice of numbers that came in: its address, its capacity, its elements. -/
structure Sl where
  A : Option Addr
  c : Nat
  xs : List Int
def Sl.v (s : Sl) : Value := .slice s.A s.xs.length s.c
structure Sl.At (s : Sl) (k : IntKind) (w : World) : Prop where
  le : s.xs.length ≤ s.c
  max : s.c ≤ maxLen
  cells : 0 < s.xs.length → ∃ b off, s.A = some ⟨b, off, none⟩ ∧ b < w.heap.size ∧ ∀ j, j < s.xs.length → w.cell? ⟨b, off + j, none⟩ = some (.int k (s.xs[j]?.getD 0))
  wf : ∀ x ∈ s.xs, (Lit.int k x).wf = true
theorem Sl.At.ext {s : Sl} {k : IntKind} {w w' : World} (h : s.At k w) (hx : Ext w w') : s.At k w' :=
  ⟨h.le, h.max, fun h0 => by
    obtain ⟨b, off, hA, hb, hc⟩ := h.cells h0
    exact ⟨b, off, hA, Nat.lt_of_lt_of_le hb hx.size, fun j hj => (hx.facts.1 _ _ hb).trans (hc j hj)⟩, h.wf⟩
section
variable {H : Type} {enc : TypeId × Value → H} {P : Program} {w : World}
theorem open_sl {r : Reach} {b0 : Nat} {t e : TypeId} {k : IntKind} {v : Value} {d : DataW H} {p : List MemPlace} (ht : P.underlying t = some (.slice e)) (he : P.underlying e = some (.int k)) (hC : P.cellsOf e = 1)
    (hv : Value.okWide P w r b0 t v) (h : DataW.Trod enc P w 0 (fun _ => true) true t v d p) (hlt : ∀ x ∈ p, x.block < w.heap.size) : ∃ s : Sl, v = s.v ∧ s.At k w := by
  obtain ⟨a, len, cap, rfl⟩ := okWide_slice ht hv
  obtain ⟨fuel, hf⟩ := h
  rcases open_ints ht he hC hf with ⟨hcs, _⟩ | ⟨x, l, c, zs, hcs, _, hl, hm, hz, hx, hcell, hwz⟩
  · simp [Value.cells] at hcs
    obtain ⟨rfl, rfl, rfl⟩ := hcs
    exact ⟨⟨none, 0, []⟩, rfl, by simp, by simp, by simp, by simp⟩
  · simp [Value.cells] at hcs
    obtain ⟨rfl, rfl, rfl⟩ := hcs
    have hz' : zs.length = cap := by simpa using hz
    have hxl : (zs.take len).length = len := by rw [List.length_take]; omega
    refine ⟨⟨some x, cap, zs.take len⟩, by simp [Sl.v, hxl], by simpa [hxl] using hl, hm, fun h0 => ?_, fun y hy => hwz y (List.mem_of_mem_take hy)⟩
    rw [hxl] at h0
    obtain ⟨b, off, spot⟩ := x
    have hc := hcell 0 (by omega)
    have hspot : spot = none := by simpa [Addr.add] using World.cell?_spot hc
    subst hspot
    refine ⟨b, off, rfl, ?_, fun j hj => ?_⟩
    · have h1 : w.cell? ⟨b, off, none⟩ = some (.int k (zs.getD 0 0)) := by simpa [Addr.add] using hc
      rcases Nat.lt_or_ge b w.heap.size with hb | hb
      · exact hb
      · simp [World.cell?, Array.getElem?_eq_none hb] at h1
    · rw [hxl] at hj
      have := hcell j (by omega)
      rw [Addr.add_lit] at this
      rw [this, List.getElem?_take, if_pos hj]
      simp
end
end Go.Proofs.Ytgjaiikfgejgoaa
