/- States of pauses that come in. No condition. -/
import Derived.Test.YtmgcnjcdbidcfaaGs
import Derived.Test.YtmgcnjcdbidcfaaFq
namespace Go.Proofs.Ytmgcnjcdbidcfaa
open Go.RowKit Go.WideShapes Go.ChangeShapes Go.Deep Go.Joins
section
variable {H : Type} {enc : TypeId × Value → H} {w : World} {base : Nat} {spare : Nat → Bool} {held : Bool}
theorem open_st22 {r : Reach} {b0 : Nat} {v : Value} {d : DataW H} {p : List MemPlace} (hv : Value.okWide Try.prog w r b0 25 v) (h : DataW.Trod enc Try.prog w base spare held 25 v d p) : ∃ a b c, v = .agg #[.int .i64 a, .int .i64 b, .int .i64 c] ∧ I64 a ∧ I64 b ∧ I64 c := by
  obtain ⟨xs, rfl, hl, hI⟩ := open_aggI Try.underlying25 (by kernel_rfl) (by kernel_rfl) (by kernel_rfl) hv h
  match xs, hl with
  | [a, b, c], _ => exact ⟨a, b, c, rfl, hI _ (by simp), hI _ (by simp), hI _ (by simp)⟩
theorem open_sint64 {r : Reach} {b0 : Nat} {v : Value} {d : DataW H} {p : List MemPlace} (hv : Value.okWide Try.prog w r b0 49 v) (h : DataW.Trod enc Try.prog w 0 (fun _ => true) true 49 v d p) (hlt : ∀ x ∈ p, x.block < w.heap.size) : ∃ x : Sl, v = x.v ∧ x.At .i64 w :=
  open_sl Try.underlying49 Try.underlying2 (by kernel_rfl) hv h hlt
end
end Go.Proofs.Ytmgcnjcdbidcfaa
