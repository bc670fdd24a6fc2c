/- Symbols and bands that come in. No condition. -/
import Derived.Test.YtdefimhdjllfaaaSy
import Derived.Test.YtdefimhdjllfaaaFs
namespace Go.Proofs.Ytdefimhdjllfaaa
open Go.RowKit Go.WideShapes Go.ChangeShapes Go.Deep Go.Joins
theorem sym_of (xs : List Int) (h : xs.length = 16) (hI : ∀ x ∈ xs, I64 x) : ∃ s : Sym, Value.agg (xs.map (Value.int .i64)).toArray = symV s ∧ s.I := by
  match xs, h with
  | [a, b, c, d, e, f, g, i, j, k, l, m, n, o, p, q], _ =>
    exact ⟨⟨a, b, c, d, e, f, g, i, j, k, l, m, n, o, p, q⟩, rfl, ⟨hI _ (by simp), hI _ (by simp), hI _ (by simp), hI _ (by simp), hI _ (by simp), hI _ (by simp), hI _ (by simp), hI _ (by simp), hI _ (by simp), hI _ (by simp), hI _ (by simp), hI _ (by simp), hI _ (by simp), hI _ (by simp), hI _ (by simp), hI _ (by simp)⟩⟩
theorem two_of (xs : List Int) (h : xs.length = 2) (hI : ∀ x ∈ xs, I64 x) : ∃ a b, Value.agg (xs.map (Value.int .i64)).toArray = .agg #[.int .i64 a, .int .i64 b] ∧ I64 a ∧ I64 b := by
  match xs, h with
  | [a, b], _ => exact ⟨a, b, rfl, hI _ (by simp), hI _ (by simp)⟩
section
variable {H : Type} {enc : TypeId × Value → H} {w : World} {base : Nat} {spare : Nat → Bool} {held : Bool}
theorem open_sym {r : Reach} {b0 : Nat} {v : Value} {d : DataW H} {p : List MemPlace} (hv : Value.okWide Try.prog w r b0 55 v) (h : DataW.Trod enc Try.prog w base spare held 55 v d p) : ∃ s : Sym, v = symV s ∧ s.I := by
  obtain ⟨xs, rfl, hl, hI⟩ := open_aggI Try.underlying55 (by kernel_rfl) (by kernel_rfl) (by kernel_rfl) hv h
  exact sym_of xs hl hI
end
end Go.Proofs.Ytdefimhdjllfaaa
