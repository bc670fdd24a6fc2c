/- Frames (layer 4): a joiner's Add. Condition: at most 10^6 bytes. -/
import Derived.Test.YtndcmjpacailjaaJ1
import Derived.WalkMore
namespace Go.Proofs.Ytndcmjpacailjaa
open Go.RowKit
attribute [local go_sem] Later.cell QUpon_value QUpon_enter MUpon_value run_eql_slice_nil
/-- What Add tells: the payloads, what it holds, its fault. -/
def joinD (bs : List Int) (f : Int) (x : List Int) : List (List Int) × List Int × Int := if f ≠ 0 then ([], bs, f) else ((cut (bs ++ x)).1, if (cut (bs ++ x)).2.2 = 4 then [] else (cut (bs ++ x)).2.1, if (cut (bs ++ x)).2.2 = 4 then 4 else 0)
def lenJ (w : World) (g : Nat) : Nat := match w.cell? ⟨g, 0, none⟩ with | some (.slice _ n _) => n | _ => 0
theorem lenJ_at {w : World} {g : Nat} {t : TypeId} {A : Option Addr} {n c : Nat} {v : Value} (h : At w g t #[.slice A n c, v]) : lenJ w g = n := by
  have := h.cell 0
  unfold lenJ
  rw [this]
  rfl
end Go.Proofs.Ytndcmjpacailjaa
