/- Law ConfigChecks. No condition. -/
import Derived.Test.YtfbpmngdamaobaaZ2
import Derived.Test.YtfbpmngdamaobaaR7
import Derived.Test.YtfbpmngdamaobaaG10
namespace Go.Proofs.Ytfbpmngdamaobaa
open Go.RowKit
attribute [local go_sem] Later.cell QUpon_value QUpon_enter MUpon_value cfg_field0
attribute [local go_sem ↓ high] loadSym_is storeSym_is loadCfg_is storeCfg_is
attribute [local go_sem] run_loadSym run_loadSym_at run_storeSym run_loadCfg run_loadCfg_at run_storeCfg one_int one_bool one_slice one_ptr one_str setRow_new setRow_past cell_ca frozen_ca cellsAt_alloc_at cellsAt_alloc_past cellsAt_drew cellsAt_later cellsAt_setCell cellsAt_set_same cellsAt_setRow_same cellsAt_setRow_far subAt_alloc subAt_drew subAt_later subAt_setCell subAt_setRow ltn_2 ltn_3 ltn_4 ltn_5
theorem plainS_I7 : plainS.I := by unfold plainS; constructor <;> exact ⟨by decide, by decide⟩
def s1003 : Sym := ⟨5, 1003, 2000, 500, 20, 100, 3, 10, 5, 2, 500, 500, 1, 40, 12, 1000⟩
theorem s1003_I : s1003.I := by unfold s1003; constructor <;> exact ⟨by decide, by decide⟩
theorem symI_plain : symI plainS = 0 := by rfl
theorem symI_1003 : symI s1003 = 8 := by rfl
theorem bound_plain : boundI plainS = 25 := by rfl
set_option maxRecDepth 100000 in
theorem plain2_c (w : World) : Calls Try.prog 22 #[.int .i64 2] w fun e w' => Ext w w' ∧ ∃ x : Cfg, e = .returned x.v ∧ x.At w' ∧ checkI x = (0, 0) := by
  refine (plain_c 2 (by decide) w).mono ?_
  rintro e w' ⟨v, h, rfl, hown, _, hR, hx⟩
  obtain ⟨A, c, rfl, R, _⟩ := Row.of_own hown (by decide)
  refine ⟨hx, ⟨A, c, [plainS, plainS], some ⟨h, 0, none⟩, 3, [⟨5, 1⟩, ⟨10, 2⟩, ⟨500, 0⟩], 10000, 700, 1300, 2000, 15, 30⟩, rfl, ⟨⟨R.le, R.max, R.src⟩, fun s hs => ?_, ⟨by simp, by simp [maxLen], Src.at hR rfl⟩, fun r hr => ?_, ⟨by simp, by simp⟩, ⟨by simp, by simp⟩, ⟨by simp, by simp⟩, ⟨by simp, by simp⟩, ⟨by simp, by simp⟩, ⟨by simp, by simp⟩⟩, rfl⟩
  · simp only [List.mem_cons, List.not_mem_nil, or_false, or_self] at hs
    rw [hs]
    exact plainS_I7
  · simp only [List.mem_cons, List.not_mem_nil, or_false] at hr
    rcases hr with rfl | rfl | rfl <;> (constructor <;> exact ⟨by decide, by decide⟩)
set_option maxHeartbeats 2000000 in
set_option maxRecDepth 100000 in
theorem alive_c7 (w : World) : Calls Try.prog 8 #[] w fun e w' => e = .returned (.bool true) ∧ Ext w w' := by
  have C1 := symbol_c s1003 s1003_I
  rw [symI_1003] at C1
  unfold symV symC s1003 at C1
  have C2 := bound_c plainS plainS_I7
  rw [bound_plain] at C2
  unfold symV symC plainS at C2
  have HC1 := Lib.hid C1
  have HC2 := Lib.hid C2
  clear C1 C2
  go_enter Try.func8, Try.ntmps8
  go_wp2_with fail
  refine (plain1_c w).mono ?_
  rintro e w1 ⟨g, c, h, rfl, hs, ⟨hg1, hg2, hc1, hc2⟩, _, hx1⟩
  unfold maxLen at hc2
  go_wp2_with fail
  obtain ⟨w2, hw2⟩ : ∃ w2 : World, w2 = w1.alloc (.cells #[.int .i64 5, .int .i64 1003, .int .i64 2000, .int .i64 500, .int .i64 20, .int .i64 100, .int .i64 3, .int .i64 10, .int .i64 5, .int .i64 2, .int .i64 500, .int .i64 500, .int .i64 1, .int .i64 40, .int .i64 12, .int .i64 1000] 35) := ⟨_, rfl⟩
  have x2 : Ext w w2 := by rw [hw2]; exact hx1.alloc _
  have A2 : At w2 w1.heap.size 35 #[.int .i64 5, .int .i64 1003, .int .i64 2000, .int .i64 500, .int .i64 20, .int .i64 100, .int .i64 3, .int .i64 10, .int .i64 5, .int .i64 2, .int .i64 500, .int .i64 500, .int .i64 1, .int .i64 40, .int .i64 12, .int .i64 1000] := by rw [hw2]; exact At.new _ _ _
  rw [← hw2]
  clear hw2 hs hg1 hg2 hc1 hc2
  refine (plain2_c w2).mono ?_
  rintro e w3 ⟨hx3, x, rfl, hX, hc⟩
  have CC := check_c x w3 hX
  rw [hc] at CC
  simp only at CC
  have A3 := A2.ext hx3
  unfold Cfg.v
  clear hc hX
  go_wp2_with fail
  refine CC.mono ?_
  rintro e w4 ⟨rfl, hx4⟩
  have A4 := A3.ext hx4
  have e4 := cellsAt_at A4
  have s4 := A4.lt
  go_wp2_with fail
  refine (HC1.out _).mono ?_
  rintro e w5 ⟨rfl, hx5⟩
  go_wp2_with fail
  refine (plain1_c w5).mono ?_
  rintro e w6 ⟨g, c, h, rfl, hs, ⟨hg1, hg2, hc1, hc2⟩, _, hx6⟩
  unfold maxLen at hc2
  go_wp2_with fail
  refine (HC2.out _).mono ?_
  rintro e w7 ⟨rfl, hx7⟩
  go_wp2_with fail
  first | refine fin_ret rfl (fun K hK => ?_) | refine fin_norm rfl (fun K hK => ?_)
  simp [results, Try.results8, go_sem, rsat]
  try go_simp
  refine hK _ ?_
  clear hK K
  exact ⟨rfl, ((((x2.trans hx3).trans hx4).trans hx5).trans hx6).trans hx7⟩
end Go.Proofs.Ytfbpmngdamaobaa
