/- Messages that come in. No condition. -/
import Derived.Test.YtndcmjpacailjaaM1
import Derived.Test.YtndcmjpacailjaaFv
namespace Go.Proofs.Ytndcmjpacailjaa
open Go.RowKit Go.WideShapes Go.ChangeShapes Go.Deep Go.Joins
theorem msg_of (xs : List Int) (h : xs.length = 9) (hI : ∀ x ∈ xs, I64 x) : ∃ m : Mg, Value.agg (xs.map (Value.int .i64)).toArray = .agg #[.int .i64 m.kind, .int .i64 m.sym, .int .i64 m.seq, .int .i64 m.tick, .int .i64 m.id, .int .i64 m.wth, .int .i64 m.price, .int .i64 m.qty, .int .i64 m.code] ∧ m.Ok := by
  match xs, h with
  | [a, b, c, d, e, f, g, i, j], _ =>
    exact ⟨⟨a, b, c, d, e, f, g, i, j⟩, rfl, ⟨hI _ (by simp), hI _ (by simp), hI _ (by simp), hI _ (by simp), hI _ (by simp), hI _ (by simp), hI _ (by simp), hI _ (by simp), hI _ (by simp)⟩⟩
section
variable {H : Type} {enc : TypeId × Value → H} {w : World} {base : Nat} {spare : Nat → Bool} {held : Bool}
theorem open_apiMsg {r : Reach} {b0 : Nat} {v : Value} {d : DataW H} {p : List MemPlace} (hv : Value.okWide Try.prog w r b0 23 v) (h : DataW.Trod enc Try.prog w base spare held 23 v d p) (hlt : ∀ x ∈ p, x.block < w.heap.size) : ∃ m : Mg, v = .agg #[.int .i64 m.kind, .int .i64 m.sym, .int .i64 m.seq, .int .i64 m.tick, .int .i64 m.id, .int .i64 m.wth, .int .i64 m.price, .int .i64 m.qty, .int .i64 m.code] ∧ m.Ok := by
  obtain ⟨xs, rfl, hl, hI⟩ := open_aggI Try.underlying23 (by kernel_rfl) (by kernel_rfl) (by kernel_rfl) hv h
  exact msg_of xs hl hI
end
end Go.Proofs.Ytndcmjpacailjaa
