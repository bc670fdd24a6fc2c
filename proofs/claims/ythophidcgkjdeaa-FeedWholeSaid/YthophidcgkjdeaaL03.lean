/- Laws of layer 3: what must come at any rate; unlike numbers. No condition. -/
import Derived.Test.YthophidcgkjdeaaO7
namespace Go.Proofs.Ythophidcgkjdeaa
open Go.RowKit
attribute [local go_sem] Later.cell QUpon_value QUpon_enter MUpon_value run_eql_slice_nil
theorem Wr.new {w : World} {g : Nat} (h : At w g 83 #[.slice none 0 0]) : Wr w g none [] := ⟨(fun x hx => by simp at hx), (fun k hk => by simp [ablk] at hk), ⟨0, h, Row.nil _ _ _ _⟩⟩
theorem Puts.ext0 {w0 w w1 : World} {g : Nat} {A1 : Option Addr} {bs : List Int} (h : Puts w g none bs w1 A1) (hx : Ext w0 w) (hg : w0.heap.size ≤ g) : Ext w0 w1 :=
  (Chg.step (Chg.of_ext hx []) h.chg (fun i hi => by simp [ablk] at hi; right; omega)).ext (by simp)
theorem numB_300 : numB 300 = [172, 2] := by rw [numB_big (by decide), numB_small (by decide)]; rfl
theorem rdnum_nil (w : World) : Calls Try.prog 45 #[.pointer none] w fun e w' => e = .returned (.int .u64 0) ∧ Ext w w' := by
  go_enter Try.func45, Try.ntmps45
  go_wp2_with fail
  go_step3
  go_wp2_with fail
  go_step3
  go_wp2_with fail
  go_loopw [2, 4] (fun n j wr => n = .int .u64 0 ∧ j = .int .i64 0 ∧ wr = w) (fun _ _ _ => 0)
  case atStart => exact ⟨rfl, rfl, rfl⟩
  case round =>
    obtain ⟨rfl, rfl, rfl⟩ := hrel
    go_wp2_with fail
    refine (take_nil 1 _).mono ?_
    rintro e w1 ⟨rfl, hx1⟩
    go_wp2_with fail
    try rw [Exit.noGoto_ret]
    first | refine fin_ret rfl (fun K hK => ?_) | refine fin_norm rfl (fun K hK => ?_)
    simp [results, Try.results45, go_sem, rsat]
    try go_simp
    refine hK _ ?_
    clear hK K
    exact ⟨rfl, hx1⟩
end Go.Proofs.Ythophidcgkjdeaa
