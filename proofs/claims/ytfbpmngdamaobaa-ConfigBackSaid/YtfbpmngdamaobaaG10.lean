/- Plain(1) of law07, with its symbol. No condition. -/
import Derived.Test.YtfbpmngdamaobaaG9
namespace Go.Proofs.Ytfbpmngdamaobaa
open Go.RowKit

theorem cfg_field0 (x0 x1 x2 x3 x4 x5 x6 x7 : Value) (w : World) : (Instr.field 27 (.agg #[x0, x1, x2, x3, x4, x5, x6, x7]) 0).run Try.prog w = .ok x0 w := by kernel_rfl
theorem plain1_c (w : World) : Calls Try.prog 22 #[.int .i64 1] w fun e w' => ∃ g c h, e = .returned (.agg #[.slice (some ⟨g, 0, none⟩) 1 c, .slice (some ⟨h, 0, none⟩) 3 3, .int .i64 10000, .int .i64 700, .int .i64 1300, .int .i64 2000, .int .i64 15, .int .i64 30]) ∧
    subAt w' g 0 16 = #[.int .i64 5, .int .i64 1000, .int .i64 2000, .int .i64 500, .int .i64 20, .int .i64 100, .int .i64 3, .int .i64 10, .int .i64 5, .int .i64 2, .int .i64 500, .int .i64 500, .int .i64 1, .int .i64 40, .int .i64 12, .int .i64 1000] ∧
    (w.heap.size ≤ g ∧ g < w'.heap.size ∧ 1 ≤ c ∧ c ≤ maxLen) ∧ At w' h 54 rowsC ∧ Ext w w' := by
  refine (plain_c 1 (by decide) w).mono ?_
  rintro e w' ⟨v, h, rfl, hown, hh, hR, hx⟩
  rcases hown.2 with ⟨_, h0⟩ | ⟨g, c, cur, rfl, hg, hhp, hnc, hcm, hcs, htk⟩
  · exact absurd h0 (by decide)
  · have hs := own_sub hown 0 (by decide) (by decide)
    have hlt : g < w'.heap.size := (Array.getElem?_eq_some_iff.1 hhp).1
    exact ⟨g, c, h, rfl, by simpa [plains, plainL] using hs, ⟨hg, hlt, hnc, hcm⟩, hR, hx⟩
end Go.Proofs.Ytfbpmngdamaobaa
