/- Messages that come in. No condition. -/
import Derived.Test.YtgjaiikfgejgoaaM1
import Derived.Test.YtgjaiikfgejgoaaFv
namespace Go.Proofs.Ytgjaiikfgejgoaa
open Go.RowKit Go.WideShapes Go.ChangeShapes Go.Deep Go.Joins
theorem msg_of (xs : List Int) (h : xs.length = 9) (hI : ∀ x ∈ xs, I64 x) : ∃ m : Mg, Value.agg (xs.map (Value.int .i64)).toArray = .agg #[.int .i64 m.kind, .int .i64 m.sym, .int .i64 m.seq, .int .i64 m.tick, .int .i64 m.id, .int .i64 m.wth, .int .i64 m.price, .int .i64 m.qty, .int .i64 m.code] ∧ m.Ok := by
  match xs, h with
  | [a, b, c, d, e, f, g, i, j], _ =>
    exact ⟨⟨a, b, c, d, e, f, g, i, j⟩, rfl, ⟨hI _ (by simp), hI _ (by simp), hI _ (by simp), hI _ (by simp), hI _ (by simp), hI _ (by simp), hI _ (by simp), hI _ (by simp), hI _ (by simp)⟩⟩
section
variable {H : Type} {enc : TypeId × Value → H} {w : World} {base : Nat} {spare : Nat → Bool} {held : Bool}
end
end Go.Proofs.Ytgjaiikfgejgoaa
