/- Commands that come in. No condition. -/
import Derived.Test.YthfomohophmbaaaK1
import Derived.Test.YthfomohophmbaaaFv
namespace Go.Proofs.Ythfomohophmbaaa
open Go.RowKit Go.WideShapes Go.ChangeShapes Go.Deep Go.Joins
theorem cmd_of (xs : List Int) (h : xs.length = 9) (hI : ∀ x ∈ xs, I64 x) : ∃ c : Cm, Value.agg (xs.map (Value.int .i64)).toArray = .agg #[.int .i64 c.kind, .int .i64 c.sym, .int .i64 c.id, .int .i64 c.own, .int .i64 c.side, .int .i64 c.typ, .int .i64 c.price, .int .i64 c.qty, .int .i64 c.flags] ∧ c.Ok := by
  match xs, h with
  | [a, b, c, d, e, f, g, i, j], _ =>
    exact ⟨⟨a, b, c, d, e, f, g, i, j⟩, rfl, ⟨hI _ (by simp), hI _ (by simp), hI _ (by simp), hI _ (by simp), hI _ (by simp), hI _ (by simp), hI _ (by simp), hI _ (by simp), hI _ (by simp)⟩⟩
section
variable {H : Type} {enc : TypeId × Value → H} {w : World} {base : Nat} {spare : Nat → Bool} {held : Bool}
theorem open_apiCommand {r : Reach} {b0 : Nat} {v : Value} {d : DataW H} {p : List MemPlace} (hv : Value.okWide Try.prog w r b0 37 v) (h : DataW.Trod enc Try.prog w base spare held 37 v d p) (hlt : ∀ x ∈ p, x.block < w.heap.size) : ∃ c : Cm, v = .agg #[.int .i64 c.kind, .int .i64 c.sym, .int .i64 c.id, .int .i64 c.own, .int .i64 c.side, .int .i64 c.typ, .int .i64 c.price, .int .i64 c.qty, .int .i64 c.flags] ∧ c.Ok := by
  obtain ⟨xs, rfl, hl, hI⟩ := open_aggI Try.underlying37 (by kernel_rfl) (by kernel_rfl) (by kernel_rfl) hv h
  exact cmd_of xs hl hI
end
end Go.Proofs.Ythfomohophmbaaa
