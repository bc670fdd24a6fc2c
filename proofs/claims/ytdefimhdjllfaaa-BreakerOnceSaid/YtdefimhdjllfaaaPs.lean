/- States of pauses that come in. No condition. -/
import Derived.Test.YtdefimhdjllfaaaGs
import Derived.Test.YtdefimhdjllfaaaFq
namespace Go.Proofs.Ytdefimhdjllfaaa
open Go.RowKit Go.WideShapes Go.ChangeShapes Go.Deep Go.Joins
section
variable {H : Type} {enc : TypeId × Value → H} {w : World} {base : Nat} {spare : Nat → Bool} {held : Bool}
theorem open_sint64 {r : Reach} {b0 : Nat} {v : Value} {d : DataW H} {p : List MemPlace} (hv : Value.okWide Try.prog w r b0 28 v) (h : DataW.Trod enc Try.prog w 0 (fun _ => true) true 28 v d p) (hlt : ∀ x ∈ p, x.block < w.heap.size) : ∃ x : Sl, v = x.v ∧ x.At .i64 w :=
  open_sl Try.underlying28 Try.underlying2 (by kernel_rfl) hv h hlt
end
end Go.Proofs.Ytdefimhdjllfaaa
