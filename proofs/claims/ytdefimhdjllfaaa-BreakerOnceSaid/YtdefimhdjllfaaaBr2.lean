/- Halts of the market (layer 23), 2: the document's Level; Span, Halted, halt, Index. Condition: a right configuration, ticks up to 2^60. -/
import Derived.Test.YtdefimhdjllfaaaBr
namespace Go.Proofs.Ytdefimhdjllfaaa
open Go.RowKit
attribute [local go_sem] Later.cell QUpon_value QUpon_enter MUpon_value
attribute [local go_sem ↓ high] loadSym_is storeSym_is loadCfg_is storeCfg_is
attribute [local go_sem] run_loadSym run_loadSym_at run_storeSym run_loadCfg run_loadCfg_at run_storeCfg one_int one_bool one_slice one_ptr one_str setRow_new setRow_past cell_ca frozen_ca cellsAt_alloc_at cellsAt_alloc_past cellsAt_drew cellsAt_later cellsAt_setCell cellsAt_set_same cellsAt_setRow_same cellsAt_setRow_far subAt_alloc subAt_drew subAt_later subAt_setCell subAt_setRow ltn_2 ltn_3 ltn_4 ltn_5
set_option maxHeartbeats 4000000 in
set_option maxRecDepth 100000 in
theorem rlevel_c (x : Cfg) (hF : x.Fine) (i : Int) (hi : I64 i) (w : World) : Calls Try.prog 18 #[.agg #[.slice x.A x.l.length x.c, .slice x.B x.t.length x.d, .int .i64 x.ix, .int .i64 x.f1, .int .i64 x.f2, .int .i64 x.f3, .int .i64 x.h1, .int .i64 x.h2], .int .i64 i] w fun e w' => e = .returned (.int .i64 (levelI x i)) ∧ Ext w w' := by
  unfold levelI
  by_cases h1 : i < 1
  · rw [if_pos (.inl h1)]
    go_enter Try.func18, Try.ntmps18
    go_wp2_with fail
    first | refine fin_ret rfl (fun K hK => ?_) | refine fin_norm rfl (fun K hK => ?_)
    simp [results, Try.results18, go_sem, rsat]
    try go_simp
    refine hK _ ?_
    clear hK K
    exact ⟨rfl, (by repeat (first | (with_reducible exact Ext.refl _) | (with_reducible assumption) | (with_reducible refine Ext.alloc ?_ _) | (with_reducible refine Ext.drew ?_) | (with_reducible refine Ext.drewN ?_ _) | (with_reducible refine Ext.setCell ?_ (by simp; try omega) _) | (with_reducible refine Ext.setRow ?_ (by simp; try omega) _)))⟩
  by_cases h2 : 1099511627776 < i
  · rw [if_pos (.inr h2)]
    go_enter Try.func18, Try.ntmps18
    go_wp2_with fail
    first | refine fin_ret rfl (fun K hK => ?_) | refine fin_norm rfl (fun K hK => ?_)
    simp [results, Try.results18, go_sem, rsat]
    try go_simp
    refine hK _ ?_
    clear hK K
    exact ⟨rfl, (by repeat (first | (with_reducible exact Ext.refl _) | (with_reducible assumption) | (with_reducible refine Ext.alloc ?_ _) | (with_reducible refine Ext.drew ?_) | (with_reducible refine Ext.drewN ?_ _) | (with_reducible refine Ext.setCell ?_ (by simp; try omega) _) | (with_reducible refine Ext.setRow ?_ (by simp; try omega) _)))⟩
  rw [if_neg (by omega)]
  have hix := hF.ix
  have b1 := fall_bd hF.ix hF.f1
  have b2 := fall_bd hF.ix hF.f2
  have b3 := fall_bd hF.ix hF.f3
  obtain ⟨l1, l2⟩ := prod_lt hF
  have w1 : wrap64 (x.ix - i) = x.ix - i := wrap64_in ⟨by omega, by omega⟩
  have w2 : wrap64 ((x.ix - i) * 10000) = (x.ix - i) * 10000 := wrap64_in ⟨by omega, by omega⟩
  have m1 : wrap64 (x.ix * x.f1) = x.ix * x.f1 := wrap64_in ⟨by omega, by omega⟩
  have m2 : wrap64 (x.ix * x.f2) = x.ix * x.f2 := wrap64_in ⟨by omega, by omega⟩
  have m3 : wrap64 (x.ix * x.f3) = x.ix * x.f3 := wrap64_in ⟨by omega, by omega⟩
  generalize hG : (x.ix - i) * 10000 = G at w2
  have hG2 : -10995116277760000 ≤ G ∧ G ≤ 10995116277760000 := by omega
  generalize hP1 : x.ix * x.f1 = P1 at m1 l1 b1
  generalize hP2 : x.ix * x.f2 = P2 at m2 l1 l2 b2
  generalize hP3 : x.ix * x.f3 = P3 at m3 l2 b3
  unfold levF
  have n0 : IntKind.i64.wrap G = G := by rw [IntWalk.i64_left, w2]
  have n1 : IntKind.i64.wrap P1 = P1 := by rw [IntWalk.i64_left, m1]
  have n2 : IntKind.i64.wrap P2 = P2 := by rw [IntWalk.i64_left, m2]
  have n3 : IntKind.i64.wrap P3 = P3 := by rw [IntWalk.i64_left, m3]
  have n4 : IntKind.i64.wrap (x.ix - i) = x.ix - i := by rw [IntWalk.i64_left, w1]
  have iw0 : IntKind.i64.wrap 0 = 0 := by decide
  have iw1 : IntKind.i64.wrap 1 = 1 := by decide
  have iw2 : IntKind.i64.wrap 2 = 2 := by decide
  by_cases c3 : P3 ≤ G
  · rw [if_pos c3]
    have c2 : P2 ≤ G := by omega
    have c1 : P1 ≤ G := by omega
    go_enter Try.func18, Try.ntmps18
    go_wp2_with fail
    refine wp_loop_rounds 4 ?_
    rw [rounds_succ]
    go_wp2_with fail
    refine wp_region_x 14 [0, 1, 0, 0, 0, 0, 1, 0, 0, 0, 0, 1, 0, 0] (by kernel_rfl) (by kernel_rfl) (by kernel_rfl) ?_
    simp only [List.take_succ_cons, List.take_zero, List.drop_succ_cons, List.drop_zero]
    refine hl_pure (fun K hK => ?_)
    go_simp
    refine hK _ ?_
    clear hK K
    refine hl_quiet (fun K hK => ?_)
    go_simp
    refine hK _ ?_
    clear hK K
    refine hl_pure (fun K hK => ?_)
    go_simp
    refine hK _ ?_
    clear hK K
    refine hl_pure (fun K hK => ?_)
    go_simp
    refine hK _ ?_
    clear hK K
    refine hl_pure (fun K hK => ?_)
    go_simp
    refine hK _ ?_
    clear hK K
    refine hl_pure (fun K hK => ?_)
    go_simp
    refine hK _ ?_
    clear hK K
    refine hl_quiet (fun K hK => ?_)
    go_simp
    refine hK _ ?_
    clear hK K
    refine hl_pure (fun K hK => ?_)
    go_simp
    refine hK _ ?_
    clear hK K
    refine hl_pure (fun K hK => ?_)
    go_simp
    refine hK _ ?_
    clear hK K
    refine hl_pure (fun K hK => ?_)
    go_simp
    refine hK _ ?_
    clear hK K
    refine hl_pure (fun K hK => ?_)
    go_simp
    refine hK _ ?_
    clear hK K
    refine hl_quiet (fun K hK => ?_)
    go_simp
    refine hK _ ?_
    clear hK K
    refine hl_pure (fun K hK => ?_)
    go_simp
    refine hK _ ?_
    clear hK K
    refine hl_pure (fun K hK => ?_)
    go_simp
    refine hK _ ?_
    clear hK K
    refine hl_nil ?_
    intro w3 hx3 K hK
    have M3 : At w3 w.heap.size 27 #[.slice x.A x.l.length x.c, .slice x.B x.t.length x.d, .int .i64 x.ix, .int .i64 x.f1, .int .i64 x.f2, .int .i64 x.f3, .int .i64 x.h1, .int .i64 x.h2] := At.ext (by repeat (first | (with_reducible exact At.new _ _ _) | ((with_reducible refine At.new' _ _ _ _ ?_); simp; done) | (with_reducible assumption) | (with_reducible refine At.drew ?_) | (with_reducible refine At.alloc ?_ _) | (with_reducible apply At.upd) | (with_reducible apply At.setRow) | (with_reducible refine At.rowFar ?_ (by first | (simp; done) | (simp; omega) | omega) _) | ((with_reducible refine At.far ?_ (by first | (simp; done) | (simp; omega) | omega) _)) | (with_reducible rfl) | (simp; done))) hx3
    have y3 : Ext w w3 := Ext.trans (by repeat (first | (with_reducible exact Ext.refl _) | (with_reducible assumption) | (with_reducible refine Ext.alloc ?_ _) | (with_reducible refine Ext.drew ?_) | (with_reducible refine Ext.drewN ?_ _) | (with_reducible refine Ext.setCell ?_ (by simp; try omega) _) | (with_reducible refine Ext.setRow ?_ (by simp; try omega) _))) hx3
    have e3 := cellsAt_at M3
    have s3 := M3.lt
    go_wp2_with fail
    rw [rounds_succ]
    go_wp2_with fail
    refine wp_region_x 14 [0, 1, 0, 0, 0, 0, 1, 0, 0, 0, 0, 1, 0, 0] (by kernel_rfl) (by kernel_rfl) (by kernel_rfl) ?_
    simp only [List.take_succ_cons, List.take_zero, List.drop_succ_cons, List.drop_zero]
    refine hl_pure (fun K hK => ?_)
    go_simp
    refine hK _ ?_
    clear hK K
    refine hl_quiet (fun K hK => ?_)
    go_simp
    refine hK _ ?_
    clear hK K
    refine hl_pure (fun K hK => ?_)
    go_simp
    refine hK _ ?_
    clear hK K
    refine hl_pure (fun K hK => ?_)
    go_simp
    refine hK _ ?_
    clear hK K
    refine hl_pure (fun K hK => ?_)
    go_simp
    refine hK _ ?_
    clear hK K
    refine hl_pure (fun K hK => ?_)
    go_simp
    refine hK _ ?_
    clear hK K
    refine hl_quiet (fun K hK => ?_)
    go_simp
    refine hK _ ?_
    clear hK K
    refine hl_pure (fun K hK => ?_)
    go_simp
    refine hK _ ?_
    clear hK K
    refine hl_pure (fun K hK => ?_)
    go_simp
    refine hK _ ?_
    clear hK K
    refine hl_pure (fun K hK => ?_)
    go_simp
    refine hK _ ?_
    clear hK K
    refine hl_pure (fun K hK => ?_)
    go_simp
    refine hK _ ?_
    clear hK K
    refine hl_quiet (fun K hK => ?_)
    go_simp
    refine hK _ ?_
    clear hK K
    refine hl_pure (fun K hK => ?_)
    go_simp
    refine hK _ ?_
    clear hK K
    refine hl_pure (fun K hK => ?_)
    go_simp
    refine hK _ ?_
    clear hK K
    refine hl_nil ?_
    intro w4 hx4 K hK
    have M4 := M3.ext hx4
    have y4 := y3.trans hx4
    have e4 := cellsAt_at M4
    have s4 := M4.lt
    go_wp2_with fail
    rw [rounds_succ]
    go_wp2_with fail
    refine wp_region_x 14 [0, 1, 0, 0, 0, 0, 1, 0, 0, 0, 0, 1, 0, 0] (by kernel_rfl) (by kernel_rfl) (by kernel_rfl) ?_
    simp only [List.take_succ_cons, List.take_zero, List.drop_succ_cons, List.drop_zero]
    refine hl_pure (fun K hK => ?_)
    go_simp
    refine hK _ ?_
    clear hK K
    refine hl_quiet (fun K hK => ?_)
    go_simp
    refine hK _ ?_
    clear hK K
    refine hl_pure (fun K hK => ?_)
    go_simp
    refine hK _ ?_
    clear hK K
    refine hl_pure (fun K hK => ?_)
    go_simp
    refine hK _ ?_
    clear hK K
    refine hl_pure (fun K hK => ?_)
    go_simp
    refine hK _ ?_
    clear hK K
    refine hl_pure (fun K hK => ?_)
    go_simp
    refine hK _ ?_
    clear hK K
    refine hl_quiet (fun K hK => ?_)
    go_simp
    refine hK _ ?_
    clear hK K
    refine hl_pure (fun K hK => ?_)
    go_simp
    refine hK _ ?_
    clear hK K
    refine hl_pure (fun K hK => ?_)
    go_simp
    refine hK _ ?_
    clear hK K
    refine hl_pure (fun K hK => ?_)
    go_simp
    refine hK _ ?_
    clear hK K
    refine hl_pure (fun K hK => ?_)
    go_simp
    refine hK _ ?_
    clear hK K
    refine hl_quiet (fun K hK => ?_)
    go_simp
    refine hK _ ?_
    clear hK K
    refine hl_pure (fun K hK => ?_)
    go_simp
    refine hK _ ?_
    clear hK K
    refine hl_pure (fun K hK => ?_)
    go_simp
    refine hK _ ?_
    clear hK K
    refine hl_nil ?_
    intro w5 hx5 K hK
    have M5 := M4.ext hx5
    have y5 := y4.trans hx5
    have e5 := cellsAt_at M5
    have s5 := M5.lt
    go_wp2_with fail
    rw [rounds_succ]
    go_wp2_with fail
    first | refine fin_ret rfl (fun K hK => ?_) | refine fin_norm rfl (fun K hK => ?_)
    simp [results, Try.results18, go_sem, rsat]
    try go_simp
    refine hK _ ?_
    clear hK K
    exact ⟨rfl, y5⟩
  rw [if_neg c3]
  by_cases c2 : P2 ≤ G
  · rw [if_pos c2]
    have c1 : P1 ≤ G := by omega
    go_enter Try.func18, Try.ntmps18
    go_wp2_with fail
    refine wp_loop_rounds 4 ?_
    rw [rounds_succ]
    go_wp2_with fail
    refine wp_region_x 14 [0, 1, 0, 0, 0, 0, 1, 0, 0, 0, 0, 1, 0, 0] (by kernel_rfl) (by kernel_rfl) (by kernel_rfl) ?_
    simp only [List.take_succ_cons, List.take_zero, List.drop_succ_cons, List.drop_zero]
    refine hl_pure (fun K hK => ?_)
    go_simp
    refine hK _ ?_
    clear hK K
    refine hl_quiet (fun K hK => ?_)
    go_simp
    refine hK _ ?_
    clear hK K
    refine hl_pure (fun K hK => ?_)
    go_simp
    refine hK _ ?_
    clear hK K
    refine hl_pure (fun K hK => ?_)
    go_simp
    refine hK _ ?_
    clear hK K
    refine hl_pure (fun K hK => ?_)
    go_simp
    refine hK _ ?_
    clear hK K
    refine hl_pure (fun K hK => ?_)
    go_simp
    refine hK _ ?_
    clear hK K
    refine hl_quiet (fun K hK => ?_)
    go_simp
    refine hK _ ?_
    clear hK K
    refine hl_pure (fun K hK => ?_)
    go_simp
    refine hK _ ?_
    clear hK K
    refine hl_pure (fun K hK => ?_)
    go_simp
    refine hK _ ?_
    clear hK K
    refine hl_pure (fun K hK => ?_)
    go_simp
    refine hK _ ?_
    clear hK K
    refine hl_pure (fun K hK => ?_)
    go_simp
    refine hK _ ?_
    clear hK K
    refine hl_quiet (fun K hK => ?_)
    go_simp
    refine hK _ ?_
    clear hK K
    refine hl_pure (fun K hK => ?_)
    go_simp
    refine hK _ ?_
    clear hK K
    refine hl_pure (fun K hK => ?_)
    go_simp
    refine hK _ ?_
    clear hK K
    refine hl_nil ?_
    intro w3 hx3 K hK
    have M3 : At w3 w.heap.size 27 #[.slice x.A x.l.length x.c, .slice x.B x.t.length x.d, .int .i64 x.ix, .int .i64 x.f1, .int .i64 x.f2, .int .i64 x.f3, .int .i64 x.h1, .int .i64 x.h2] := At.ext (by repeat (first | (with_reducible exact At.new _ _ _) | ((with_reducible refine At.new' _ _ _ _ ?_); simp; done) | (with_reducible assumption) | (with_reducible refine At.drew ?_) | (with_reducible refine At.alloc ?_ _) | (with_reducible apply At.upd) | (with_reducible apply At.setRow) | (with_reducible refine At.rowFar ?_ (by first | (simp; done) | (simp; omega) | omega) _) | ((with_reducible refine At.far ?_ (by first | (simp; done) | (simp; omega) | omega) _)) | (with_reducible rfl) | (simp; done))) hx3
    have y3 : Ext w w3 := Ext.trans (by repeat (first | (with_reducible exact Ext.refl _) | (with_reducible assumption) | (with_reducible refine Ext.alloc ?_ _) | (with_reducible refine Ext.drew ?_) | (with_reducible refine Ext.drewN ?_ _) | (with_reducible refine Ext.setCell ?_ (by simp; try omega) _) | (with_reducible refine Ext.setRow ?_ (by simp; try omega) _))) hx3
    have e3 := cellsAt_at M3
    have s3 := M3.lt
    go_wp2_with fail
    rw [rounds_succ]
    go_wp2_with fail
    refine wp_region_x 14 [0, 1, 0, 0, 0, 0, 1, 0, 0, 0, 0, 1, 0, 0] (by kernel_rfl) (by kernel_rfl) (by kernel_rfl) ?_
    simp only [List.take_succ_cons, List.take_zero, List.drop_succ_cons, List.drop_zero]
    refine hl_pure (fun K hK => ?_)
    go_simp
    refine hK _ ?_
    clear hK K
    refine hl_quiet (fun K hK => ?_)
    go_simp
    refine hK _ ?_
    clear hK K
    refine hl_pure (fun K hK => ?_)
    go_simp
    refine hK _ ?_
    clear hK K
    refine hl_pure (fun K hK => ?_)
    go_simp
    refine hK _ ?_
    clear hK K
    refine hl_pure (fun K hK => ?_)
    go_simp
    refine hK _ ?_
    clear hK K
    refine hl_pure (fun K hK => ?_)
    go_simp
    refine hK _ ?_
    clear hK K
    refine hl_quiet (fun K hK => ?_)
    go_simp
    refine hK _ ?_
    clear hK K
    refine hl_pure (fun K hK => ?_)
    go_simp
    refine hK _ ?_
    clear hK K
    refine hl_pure (fun K hK => ?_)
    go_simp
    refine hK _ ?_
    clear hK K
    refine hl_pure (fun K hK => ?_)
    go_simp
    refine hK _ ?_
    clear hK K
    refine hl_pure (fun K hK => ?_)
    go_simp
    refine hK _ ?_
    clear hK K
    refine hl_quiet (fun K hK => ?_)
    go_simp
    refine hK _ ?_
    clear hK K
    refine hl_pure (fun K hK => ?_)
    go_simp
    refine hK _ ?_
    clear hK K
    refine hl_pure (fun K hK => ?_)
    go_simp
    refine hK _ ?_
    clear hK K
    refine hl_nil ?_
    intro w4 hx4 K hK
    have M4 := M3.ext hx4
    have y4 := y3.trans hx4
    have e4 := cellsAt_at M4
    have s4 := M4.lt
    go_wp2_with fail
    rw [rounds_succ]
    go_wp2_with fail
    refine wp_region_x 14 [0, 1, 0, 0, 0, 0, 1, 0, 0, 0, 0, 1, 0, 0] (by kernel_rfl) (by kernel_rfl) (by kernel_rfl) ?_
    simp only [List.take_succ_cons, List.take_zero, List.drop_succ_cons, List.drop_zero]
    refine hl_pure (fun K hK => ?_)
    go_simp
    refine hK _ ?_
    clear hK K
    refine hl_quiet (fun K hK => ?_)
    go_simp
    refine hK _ ?_
    clear hK K
    refine hl_pure (fun K hK => ?_)
    go_simp
    refine hK _ ?_
    clear hK K
    refine hl_pure (fun K hK => ?_)
    go_simp
    refine hK _ ?_
    clear hK K
    refine hl_pure (fun K hK => ?_)
    go_simp
    refine hK _ ?_
    clear hK K
    refine hl_pure (fun K hK => ?_)
    go_simp
    refine hK _ ?_
    clear hK K
    refine hl_quiet (fun K hK => ?_)
    go_simp
    refine hK _ ?_
    clear hK K
    refine hl_pure (fun K hK => ?_)
    go_simp
    refine hK _ ?_
    clear hK K
    refine hl_pure (fun K hK => ?_)
    go_simp
    refine hK _ ?_
    clear hK K
    refine hl_pure (fun K hK => ?_)
    go_simp
    refine hK _ ?_
    clear hK K
    refine hl_pure (fun K hK => ?_)
    go_simp
    refine hK _ ?_
    clear hK K
    refine hl_quiet (fun K hK => ?_)
    go_simp
    refine hK _ ?_
    clear hK K
    refine hl_pure (fun K hK => ?_)
    go_simp
    refine hK _ ?_
    clear hK K
    refine hl_pure (fun K hK => ?_)
    go_simp
    refine hK _ ?_
    clear hK K
    refine hl_nil ?_
    intro w5 hx5 K hK
    have M5 := M4.ext hx5
    have y5 := y4.trans hx5
    have e5 := cellsAt_at M5
    have s5 := M5.lt
    go_wp2_with fail
    rw [rounds_succ]
    go_wp2_with fail
    first | refine fin_ret rfl (fun K hK => ?_) | refine fin_norm rfl (fun K hK => ?_)
    simp [results, Try.results18, go_sem, rsat]
    try go_simp
    refine hK _ ?_
    clear hK K
    exact ⟨rfl, y5⟩
  rw [if_neg c2]
  by_cases c1 : P1 ≤ G
  · rw [if_pos c1]
    go_enter Try.func18, Try.ntmps18
    go_wp2_with fail
    refine wp_loop_rounds 4 ?_
    rw [rounds_succ]
    go_wp2_with fail
    refine wp_region_x 14 [0, 1, 0, 0, 0, 0, 1, 0, 0, 0, 0, 1, 0, 0] (by kernel_rfl) (by kernel_rfl) (by kernel_rfl) ?_
    simp only [List.take_succ_cons, List.take_zero, List.drop_succ_cons, List.drop_zero]
    refine hl_pure (fun K hK => ?_)
    go_simp
    refine hK _ ?_
    clear hK K
    refine hl_quiet (fun K hK => ?_)
    go_simp
    refine hK _ ?_
    clear hK K
    refine hl_pure (fun K hK => ?_)
    go_simp
    refine hK _ ?_
    clear hK K
    refine hl_pure (fun K hK => ?_)
    go_simp
    refine hK _ ?_
    clear hK K
    refine hl_pure (fun K hK => ?_)
    go_simp
    refine hK _ ?_
    clear hK K
    refine hl_pure (fun K hK => ?_)
    go_simp
    refine hK _ ?_
    clear hK K
    refine hl_quiet (fun K hK => ?_)
    go_simp
    refine hK _ ?_
    clear hK K
    refine hl_pure (fun K hK => ?_)
    go_simp
    refine hK _ ?_
    clear hK K
    refine hl_pure (fun K hK => ?_)
    go_simp
    refine hK _ ?_
    clear hK K
    refine hl_pure (fun K hK => ?_)
    go_simp
    refine hK _ ?_
    clear hK K
    refine hl_pure (fun K hK => ?_)
    go_simp
    refine hK _ ?_
    clear hK K
    refine hl_quiet (fun K hK => ?_)
    go_simp
    refine hK _ ?_
    clear hK K
    refine hl_pure (fun K hK => ?_)
    go_simp
    refine hK _ ?_
    clear hK K
    refine hl_pure (fun K hK => ?_)
    go_simp
    refine hK _ ?_
    clear hK K
    refine hl_nil ?_
    intro w3 hx3 K hK
    have M3 : At w3 w.heap.size 27 #[.slice x.A x.l.length x.c, .slice x.B x.t.length x.d, .int .i64 x.ix, .int .i64 x.f1, .int .i64 x.f2, .int .i64 x.f3, .int .i64 x.h1, .int .i64 x.h2] := At.ext (by repeat (first | (with_reducible exact At.new _ _ _) | ((with_reducible refine At.new' _ _ _ _ ?_); simp; done) | (with_reducible assumption) | (with_reducible refine At.drew ?_) | (with_reducible refine At.alloc ?_ _) | (with_reducible apply At.upd) | (with_reducible apply At.setRow) | (with_reducible refine At.rowFar ?_ (by first | (simp; done) | (simp; omega) | omega) _) | ((with_reducible refine At.far ?_ (by first | (simp; done) | (simp; omega) | omega) _)) | (with_reducible rfl) | (simp; done))) hx3
    have y3 : Ext w w3 := Ext.trans (by repeat (first | (with_reducible exact Ext.refl _) | (with_reducible assumption) | (with_reducible refine Ext.alloc ?_ _) | (with_reducible refine Ext.drew ?_) | (with_reducible refine Ext.drewN ?_ _) | (with_reducible refine Ext.setCell ?_ (by simp; try omega) _) | (with_reducible refine Ext.setRow ?_ (by simp; try omega) _))) hx3
    have e3 := cellsAt_at M3
    have s3 := M3.lt
    go_wp2_with fail
    rw [rounds_succ]
    go_wp2_with fail
    refine wp_region_x 14 [0, 1, 0, 0, 0, 0, 1, 0, 0, 0, 0, 1, 0, 0] (by kernel_rfl) (by kernel_rfl) (by kernel_rfl) ?_
    simp only [List.take_succ_cons, List.take_zero, List.drop_succ_cons, List.drop_zero]
    refine hl_pure (fun K hK => ?_)
    go_simp
    refine hK _ ?_
    clear hK K
    refine hl_quiet (fun K hK => ?_)
    go_simp
    refine hK _ ?_
    clear hK K
    refine hl_pure (fun K hK => ?_)
    go_simp
    refine hK _ ?_
    clear hK K
    refine hl_pure (fun K hK => ?_)
    go_simp
    refine hK _ ?_
    clear hK K
    refine hl_pure (fun K hK => ?_)
    go_simp
    refine hK _ ?_
    clear hK K
    refine hl_pure (fun K hK => ?_)
    go_simp
    refine hK _ ?_
    clear hK K
    refine hl_quiet (fun K hK => ?_)
    go_simp
    refine hK _ ?_
    clear hK K
    refine hl_pure (fun K hK => ?_)
    go_simp
    refine hK _ ?_
    clear hK K
    refine hl_pure (fun K hK => ?_)
    go_simp
    refine hK _ ?_
    clear hK K
    refine hl_pure (fun K hK => ?_)
    go_simp
    refine hK _ ?_
    clear hK K
    refine hl_pure (fun K hK => ?_)
    go_simp
    refine hK _ ?_
    clear hK K
    refine hl_quiet (fun K hK => ?_)
    go_simp
    refine hK _ ?_
    clear hK K
    refine hl_pure (fun K hK => ?_)
    go_simp
    refine hK _ ?_
    clear hK K
    refine hl_pure (fun K hK => ?_)
    go_simp
    refine hK _ ?_
    clear hK K
    refine hl_nil ?_
    intro w4 hx4 K hK
    have M4 := M3.ext hx4
    have y4 := y3.trans hx4
    have e4 := cellsAt_at M4
    have s4 := M4.lt
    go_wp2_with fail
    rw [rounds_succ]
    go_wp2_with fail
    refine wp_region_x 14 [0, 1, 0, 0, 0, 0, 1, 0, 0, 0, 0, 1, 0, 0] (by kernel_rfl) (by kernel_rfl) (by kernel_rfl) ?_
    simp only [List.take_succ_cons, List.take_zero, List.drop_succ_cons, List.drop_zero]
    refine hl_pure (fun K hK => ?_)
    go_simp
    refine hK _ ?_
    clear hK K
    refine hl_quiet (fun K hK => ?_)
    go_simp
    refine hK _ ?_
    clear hK K
    refine hl_pure (fun K hK => ?_)
    go_simp
    refine hK _ ?_
    clear hK K
    refine hl_pure (fun K hK => ?_)
    go_simp
    refine hK _ ?_
    clear hK K
    refine hl_pure (fun K hK => ?_)
    go_simp
    refine hK _ ?_
    clear hK K
    refine hl_pure (fun K hK => ?_)
    go_simp
    refine hK _ ?_
    clear hK K
    refine hl_quiet (fun K hK => ?_)
    go_simp
    refine hK _ ?_
    clear hK K
    refine hl_pure (fun K hK => ?_)
    go_simp
    refine hK _ ?_
    clear hK K
    refine hl_pure (fun K hK => ?_)
    go_simp
    refine hK _ ?_
    clear hK K
    refine hl_pure (fun K hK => ?_)
    go_simp
    refine hK _ ?_
    clear hK K
    refine hl_pure (fun K hK => ?_)
    go_simp
    refine hK _ ?_
    clear hK K
    refine hl_quiet (fun K hK => ?_)
    go_simp
    refine hK _ ?_
    clear hK K
    refine hl_pure (fun K hK => ?_)
    go_simp
    refine hK _ ?_
    clear hK K
    refine hl_pure (fun K hK => ?_)
    go_simp
    refine hK _ ?_
    clear hK K
    refine hl_nil ?_
    intro w5 hx5 K hK
    have M5 := M4.ext hx5
    have y5 := y4.trans hx5
    have e5 := cellsAt_at M5
    have s5 := M5.lt
    go_wp2_with fail
    rw [rounds_succ]
    go_wp2_with fail
    first | refine fin_ret rfl (fun K hK => ?_) | refine fin_norm rfl (fun K hK => ?_)
    simp [results, Try.results18, go_sem, rsat]
    try go_simp
    refine hK _ ?_
    clear hK K
    exact ⟨rfl, y5⟩
  · rw [if_neg c1]
    go_enter Try.func18, Try.ntmps18
    go_wp2_with fail
    refine wp_loop_rounds 4 ?_
    rw [rounds_succ]
    go_wp2_with fail
    refine wp_region_x 14 [0, 1, 0, 0, 0, 0, 1, 0, 0, 0, 0, 1, 0, 0] (by kernel_rfl) (by kernel_rfl) (by kernel_rfl) ?_
    simp only [List.take_succ_cons, List.take_zero, List.drop_succ_cons, List.drop_zero]
    refine hl_pure (fun K hK => ?_)
    go_simp
    refine hK _ ?_
    clear hK K
    refine hl_quiet (fun K hK => ?_)
    go_simp
    refine hK _ ?_
    clear hK K
    refine hl_pure (fun K hK => ?_)
    go_simp
    refine hK _ ?_
    clear hK K
    refine hl_pure (fun K hK => ?_)
    go_simp
    refine hK _ ?_
    clear hK K
    refine hl_pure (fun K hK => ?_)
    go_simp
    refine hK _ ?_
    clear hK K
    refine hl_pure (fun K hK => ?_)
    go_simp
    refine hK _ ?_
    clear hK K
    refine hl_quiet (fun K hK => ?_)
    go_simp
    refine hK _ ?_
    clear hK K
    refine hl_pure (fun K hK => ?_)
    go_simp
    refine hK _ ?_
    clear hK K
    refine hl_pure (fun K hK => ?_)
    go_simp
    refine hK _ ?_
    clear hK K
    refine hl_pure (fun K hK => ?_)
    go_simp
    refine hK _ ?_
    clear hK K
    refine hl_pure (fun K hK => ?_)
    go_simp
    refine hK _ ?_
    clear hK K
    refine hl_quiet (fun K hK => ?_)
    go_simp
    refine hK _ ?_
    clear hK K
    refine hl_pure (fun K hK => ?_)
    go_simp
    refine hK _ ?_
    clear hK K
    refine hl_pure (fun K hK => ?_)
    go_simp
    refine hK _ ?_
    clear hK K
    refine hl_nil ?_
    intro w3 hx3 K hK
    have M3 : At w3 w.heap.size 27 #[.slice x.A x.l.length x.c, .slice x.B x.t.length x.d, .int .i64 x.ix, .int .i64 x.f1, .int .i64 x.f2, .int .i64 x.f3, .int .i64 x.h1, .int .i64 x.h2] := At.ext (by repeat (first | (with_reducible exact At.new _ _ _) | ((with_reducible refine At.new' _ _ _ _ ?_); simp; done) | (with_reducible assumption) | (with_reducible refine At.drew ?_) | (with_reducible refine At.alloc ?_ _) | (with_reducible apply At.upd) | (with_reducible apply At.setRow) | (with_reducible refine At.rowFar ?_ (by first | (simp; done) | (simp; omega) | omega) _) | ((with_reducible refine At.far ?_ (by first | (simp; done) | (simp; omega) | omega) _)) | (with_reducible rfl) | (simp; done))) hx3
    have y3 : Ext w w3 := Ext.trans (by repeat (first | (with_reducible exact Ext.refl _) | (with_reducible assumption) | (with_reducible refine Ext.alloc ?_ _) | (with_reducible refine Ext.drew ?_) | (with_reducible refine Ext.drewN ?_ _) | (with_reducible refine Ext.setCell ?_ (by simp; try omega) _) | (with_reducible refine Ext.setRow ?_ (by simp; try omega) _))) hx3
    have e3 := cellsAt_at M3
    have s3 := M3.lt
    go_wp2_with fail
    rw [rounds_succ]
    go_wp2_with fail
    refine wp_region_x 14 [0, 1, 0, 0, 0, 0, 1, 0, 0, 0, 0, 1, 0, 0] (by kernel_rfl) (by kernel_rfl) (by kernel_rfl) ?_
    simp only [List.take_succ_cons, List.take_zero, List.drop_succ_cons, List.drop_zero]
    refine hl_pure (fun K hK => ?_)
    go_simp
    refine hK _ ?_
    clear hK K
    refine hl_quiet (fun K hK => ?_)
    go_simp
    refine hK _ ?_
    clear hK K
    refine hl_pure (fun K hK => ?_)
    go_simp
    refine hK _ ?_
    clear hK K
    refine hl_pure (fun K hK => ?_)
    go_simp
    refine hK _ ?_
    clear hK K
    refine hl_pure (fun K hK => ?_)
    go_simp
    refine hK _ ?_
    clear hK K
    refine hl_pure (fun K hK => ?_)
    go_simp
    refine hK _ ?_
    clear hK K
    refine hl_quiet (fun K hK => ?_)
    go_simp
    refine hK _ ?_
    clear hK K
    refine hl_pure (fun K hK => ?_)
    go_simp
    refine hK _ ?_
    clear hK K
    refine hl_pure (fun K hK => ?_)
    go_simp
    refine hK _ ?_
    clear hK K
    refine hl_pure (fun K hK => ?_)
    go_simp
    refine hK _ ?_
    clear hK K
    refine hl_pure (fun K hK => ?_)
    go_simp
    refine hK _ ?_
    clear hK K
    refine hl_quiet (fun K hK => ?_)
    go_simp
    refine hK _ ?_
    clear hK K
    refine hl_pure (fun K hK => ?_)
    go_simp
    refine hK _ ?_
    clear hK K
    refine hl_pure (fun K hK => ?_)
    go_simp
    refine hK _ ?_
    clear hK K
    refine hl_nil ?_
    intro w4 hx4 K hK
    have M4 := M3.ext hx4
    have y4 := y3.trans hx4
    have e4 := cellsAt_at M4
    have s4 := M4.lt
    go_wp2_with fail
    rw [rounds_succ]
    go_wp2_with fail
    refine wp_region_x 14 [0, 1, 0, 0, 0, 0, 1, 0, 0, 0, 0, 1, 0, 0] (by kernel_rfl) (by kernel_rfl) (by kernel_rfl) ?_
    simp only [List.take_succ_cons, List.take_zero, List.drop_succ_cons, List.drop_zero]
    refine hl_pure (fun K hK => ?_)
    go_simp
    refine hK _ ?_
    clear hK K
    refine hl_quiet (fun K hK => ?_)
    go_simp
    refine hK _ ?_
    clear hK K
    refine hl_pure (fun K hK => ?_)
    go_simp
    refine hK _ ?_
    clear hK K
    refine hl_pure (fun K hK => ?_)
    go_simp
    refine hK _ ?_
    clear hK K
    refine hl_pure (fun K hK => ?_)
    go_simp
    refine hK _ ?_
    clear hK K
    refine hl_pure (fun K hK => ?_)
    go_simp
    refine hK _ ?_
    clear hK K
    refine hl_quiet (fun K hK => ?_)
    go_simp
    refine hK _ ?_
    clear hK K
    refine hl_pure (fun K hK => ?_)
    go_simp
    refine hK _ ?_
    clear hK K
    refine hl_pure (fun K hK => ?_)
    go_simp
    refine hK _ ?_
    clear hK K
    refine hl_pure (fun K hK => ?_)
    go_simp
    refine hK _ ?_
    clear hK K
    refine hl_pure (fun K hK => ?_)
    go_simp
    refine hK _ ?_
    clear hK K
    refine hl_quiet (fun K hK => ?_)
    go_simp
    refine hK _ ?_
    clear hK K
    refine hl_pure (fun K hK => ?_)
    go_simp
    refine hK _ ?_
    clear hK K
    refine hl_pure (fun K hK => ?_)
    go_simp
    refine hK _ ?_
    clear hK K
    refine hl_nil ?_
    intro w5 hx5 K hK
    have M5 := M4.ext hx5
    have y5 := y4.trans hx5
    have e5 := cellsAt_at M5
    have s5 := M5.lt
    go_wp2_with fail
    rw [rounds_succ]
    go_wp2_with fail
    first | refine fin_ret rfl (fun K hK => ?_) | refine fin_norm rfl (fun K hK => ?_)
    simp [results, Try.results18, go_sem, rsat]
    try go_simp
    refine hK _ ?_
    clear hK K
    exact ⟨rfl, y5⟩
theorem levelI_4 (x : Cfg) (i : Int) : levelI x i = 0 ∨ levelI x i = 1 ∨ levelI x i = 2 ∨ levelI x i = 3 := by
  unfold levelI levF
  repeat' split
  all_goals simp
def spanI (x : Cfg) (k : Int) : Int := if k = 1 then x.h1 else if k = 2 then x.h2 else 0
theorem span_c (x : Cfg) (k : Int) (hk : I64 k) (w : World) : Calls Try.prog 12 #[.agg #[.slice x.A x.l.length x.c, .slice x.B x.t.length x.d, .int .i64 x.ix, .int .i64 x.f1, .int .i64 x.f2, .int .i64 x.f3, .int .i64 x.h1, .int .i64 x.h2], .int .i64 k] w fun e w' => e = .returned (.int .i64 (spanI x k)) ∧ Ext w w' := by
  unfold spanI
  have iw0 : IntKind.i64.wrap 0 = 0 := by decide
  have iw1 : IntKind.i64.wrap 1 = 1 := by decide
  by_cases h1 : k = 1
  · subst h1
    rw [if_pos rfl]
    go_enter Try.func12, Try.ntmps12
    go_wp2_with fail
    first | refine fin_ret rfl (fun K hK => ?_) | refine fin_norm rfl (fun K hK => ?_)
    simp [results, Try.results12, go_sem, rsat]
    try go_simp
    refine hK _ ?_
    clear hK K
    exact ⟨rfl, (by repeat (first | (with_reducible exact Ext.refl _) | (with_reducible assumption) | (with_reducible refine Ext.alloc ?_ _) | (with_reducible refine Ext.drew ?_) | (with_reducible refine Ext.drewN ?_ _) | (with_reducible refine Ext.setCell ?_ (by simp; try omega) _) | (with_reducible refine Ext.setRow ?_ (by simp; try omega) _)))⟩
  by_cases h2 : k = 2
  · subst h2
    rw [if_neg (by decide), if_pos rfl]
    go_enter Try.func12, Try.ntmps12
    go_wp2_with fail
    first | refine fin_ret rfl (fun K hK => ?_) | refine fin_norm rfl (fun K hK => ?_)
    simp [results, Try.results12, go_sem, rsat]
    try go_simp
    refine hK _ ?_
    clear hK K
    exact ⟨rfl, (by repeat (first | (with_reducible exact Ext.refl _) | (with_reducible assumption) | (with_reducible refine Ext.alloc ?_ _) | (with_reducible refine Ext.drew ?_) | (with_reducible refine Ext.drewN ?_ _) | (with_reducible refine Ext.setCell ?_ (by simp; try omega) _) | (with_reducible refine Ext.setRow ?_ (by simp; try omega) _)))⟩
  rw [if_neg h1, if_neg h2]
  have b1 : (k == 1) = false := beq_eq_false_iff_ne.2 h1
  have b2 : (k == 2) = false := beq_eq_false_iff_ne.2 h2
  go_enter Try.func12, Try.ntmps12
  go_wp2_with fail
  first | refine fin_ret rfl (fun K hK => ?_) | refine fin_norm rfl (fun K hK => ?_)
  simp [results, Try.results12, go_sem, rsat]
  try go_simp
  refine hK _ ?_
  clear hK K
  exact ⟨rfl, (by repeat (first | (with_reducible exact Ext.refl _) | (with_reducible assumption) | (with_reducible refine Ext.alloc ?_ _) | (with_reducible refine Ext.drew ?_) | (with_reducible refine Ext.drewN ?_ _) | (with_reducible refine Ext.setCell ?_ (by simp; try omega) _) | (with_reducible refine Ext.setRow ?_ (by simp; try omega) _)))⟩
theorem rspan_c (x : Cfg) (k : Int) (hk : I64 k) (w : World) : Calls Try.prog 20 #[.agg #[.slice x.A x.l.length x.c, .slice x.B x.t.length x.d, .int .i64 x.ix, .int .i64 x.f1, .int .i64 x.f2, .int .i64 x.f3, .int .i64 x.h1, .int .i64 x.h2], .int .i64 k] w fun e w' => e = .returned (.int .i64 (spanI x k)) ∧ Ext w w' := by
  unfold spanI
  have iw0 : IntKind.i64.wrap 0 = 0 := by decide
  have iw1 : IntKind.i64.wrap 1 = 1 := by decide
  by_cases h1 : k = 1
  · subst h1
    rw [if_pos rfl]
    go_enter Try.func20, Try.ntmps20
    go_wp2_with fail
    first | refine fin_ret rfl (fun K hK => ?_) | refine fin_norm rfl (fun K hK => ?_)
    simp [results, Try.results20, go_sem, rsat]
    try go_simp
    refine hK _ ?_
    clear hK K
    exact ⟨rfl, (by repeat (first | (with_reducible exact Ext.refl _) | (with_reducible assumption) | (with_reducible refine Ext.alloc ?_ _) | (with_reducible refine Ext.drew ?_) | (with_reducible refine Ext.drewN ?_ _) | (with_reducible refine Ext.setCell ?_ (by simp; try omega) _) | (with_reducible refine Ext.setRow ?_ (by simp; try omega) _)))⟩
  by_cases h2 : k = 2
  · subst h2
    rw [if_neg (by decide), if_pos rfl]
    go_enter Try.func20, Try.ntmps20
    go_wp2_with fail
    first | refine fin_ret rfl (fun K hK => ?_) | refine fin_norm rfl (fun K hK => ?_)
    simp [results, Try.results20, go_sem, rsat]
    try go_simp
    refine hK _ ?_
    clear hK K
    exact ⟨rfl, (by repeat (first | (with_reducible exact Ext.refl _) | (with_reducible assumption) | (with_reducible refine Ext.alloc ?_ _) | (with_reducible refine Ext.drew ?_) | (with_reducible refine Ext.drewN ?_ _) | (with_reducible refine Ext.setCell ?_ (by simp; try omega) _) | (with_reducible refine Ext.setRow ?_ (by simp; try omega) _)))⟩
  rw [if_neg h1, if_neg h2]
  by_cases h3 : k < 1
  ·
    go_enter Try.func20, Try.ntmps20
    go_wp2_with fail
    first | refine fin_ret rfl (fun K hK => ?_) | refine fin_norm rfl (fun K hK => ?_)
    simp [results, Try.results20, go_sem, rsat]
    try go_simp
    refine hK _ ?_
    clear hK K
    exact ⟨rfl, (by repeat (first | (with_reducible exact Ext.refl _) | (with_reducible assumption) | (with_reducible refine Ext.alloc ?_ _) | (with_reducible refine Ext.drew ?_) | (with_reducible refine Ext.drewN ?_ _) | (with_reducible refine Ext.setCell ?_ (by simp; try omega) _) | (with_reducible refine Ext.setRow ?_ (by simp; try omega) _)))⟩
  · have h4 : 2 < k := by omega
    go_enter Try.func20, Try.ntmps20
    go_wp2_with fail
    first | refine fin_ret rfl (fun K hK => ?_) | refine fin_norm rfl (fun K hK => ?_)
    simp [results, Try.results20, go_sem, rsat]
    try go_simp
    refine hK _ ?_
    clear hK K
    exact ⟨rfl, (by repeat (first | (with_reducible exact Ext.refl _) | (with_reducible assumption) | (with_reducible refine Ext.alloc ?_ _) | (with_reducible refine Ext.drew ?_) | (with_reducible refine Ext.drewN ?_ _) | (with_reducible refine Ext.setCell ?_ (by simp; try omega) _) | (with_reducible refine Ext.setRow ?_ (by simp; try omega) _)))⟩
def haltedB (sh : Bool) (un t : Int) : Bool := !sh && decide (t < un)
theorem halted_c (u0 u1 sh : Bool) (un t : Int) (w : World) : Calls Try.prog 11 #[.agg #[.bool u0, .bool u1, .int .i64 un, .bool sh], .int .i64 t] w fun e w' => e = .returned (.bool (haltedB sh un t)) ∧ Ext w w' := by
  unfold haltedB
  cases sh
  · by_cases h : t < un
    · rw [decide_eq_true h]
      go_enter Try.func11, Try.ntmps11
      go_wp2_with fail
      first | refine fin_ret rfl (fun K hK => ?_) | refine fin_norm rfl (fun K hK => ?_)
      simp [results, Try.results11, go_sem, rsat]
      try go_simp
      refine hK _ ?_
      clear hK K
      exact ⟨rfl, (by repeat (first | (with_reducible exact Ext.refl _) | (with_reducible assumption) | (with_reducible refine Ext.alloc ?_ _) | (with_reducible refine Ext.drew ?_) | (with_reducible refine Ext.drewN ?_ _) | (with_reducible refine Ext.setCell ?_ (by simp; try omega) _) | (with_reducible refine Ext.setRow ?_ (by simp; try omega) _)))⟩
    · rw [decide_eq_false h]
      go_enter Try.func11, Try.ntmps11
      go_wp2_with fail
      first | refine fin_ret rfl (fun K hK => ?_) | refine fin_norm rfl (fun K hK => ?_)
      simp [results, Try.results11, go_sem, rsat]
      try go_simp
      refine hK _ ?_
      clear hK K
      exact ⟨rfl, (by repeat (first | (with_reducible exact Ext.refl _) | (with_reducible assumption) | (with_reducible refine Ext.alloc ?_ _) | (with_reducible refine Ext.drew ?_) | (with_reducible refine Ext.drewN ?_ _) | (with_reducible refine Ext.setCell ?_ (by simp; try omega) _) | (with_reducible refine Ext.setRow ?_ (by simp; try omega) _)))⟩
  ·
    go_enter Try.func11, Try.ntmps11
    go_wp2_with fail
    first | refine fin_ret rfl (fun K hK => ?_) | refine fin_norm rfl (fun K hK => ?_)
    simp [results, Try.results11, go_sem, rsat]
    try go_simp
    refine hK _ ?_
    clear hK K
    exact ⟨rfl, (by repeat (first | (with_reducible exact Ext.refl _) | (with_reducible assumption) | (with_reducible refine Ext.alloc ?_ _) | (with_reducible refine Ext.drew ?_) | (with_reducible refine Ext.drewN ?_ _) | (with_reducible refine Ext.setCell ?_ (by simp; try omega) _) | (with_reducible refine Ext.setRow ?_ (by simp; try omega) _)))⟩
theorem rhalted_c (u0 u1 sh : Bool) (un t : Int) (w : World) : Calls Try.prog 19 #[.agg #[.bool u0, .bool u1, .int .i64 un, .bool sh], .int .i64 t] w fun e w' => e = .returned (.bool (haltedB sh un t)) ∧ Ext w w' := by
  unfold haltedB
  cases sh
  · by_cases h : t < un
    · rw [decide_eq_true h]
      go_enter Try.func19, Try.ntmps19
      go_wp2_with fail
      first | refine fin_ret rfl (fun K hK => ?_) | refine fin_norm rfl (fun K hK => ?_)
      simp [results, Try.results19, go_sem, rsat]
      try go_simp
      refine hK _ ?_
      clear hK K
      exact ⟨rfl, (by repeat (first | (with_reducible exact Ext.refl _) | (with_reducible assumption) | (with_reducible refine Ext.alloc ?_ _) | (with_reducible refine Ext.drew ?_) | (with_reducible refine Ext.drewN ?_ _) | (with_reducible refine Ext.setCell ?_ (by simp; try omega) _) | (with_reducible refine Ext.setRow ?_ (by simp; try omega) _)))⟩
    · rw [decide_eq_false h]
      go_enter Try.func19, Try.ntmps19
      go_wp2_with fail
      first | refine fin_ret rfl (fun K hK => ?_) | refine fin_norm rfl (fun K hK => ?_)
      simp [results, Try.results19, go_sem, rsat]
      try go_simp
      refine hK _ ?_
      clear hK K
      exact ⟨rfl, (by repeat (first | (with_reducible exact Ext.refl _) | (with_reducible assumption) | (with_reducible refine Ext.alloc ?_ _) | (with_reducible refine Ext.drew ?_) | (with_reducible refine Ext.drewN ?_ _) | (with_reducible refine Ext.setCell ?_ (by simp; try omega) _) | (with_reducible refine Ext.setRow ?_ (by simp; try omega) _)))⟩
  ·
    go_enter Try.func19, Try.ntmps19
    go_wp2_with fail
    first | refine fin_ret rfl (fun K hK => ?_) | refine fin_norm rfl (fun K hK => ?_)
    simp [results, Try.results19, go_sem, rsat]
    try go_simp
    refine hK _ ?_
    clear hK K
    exact ⟨rfl, (by repeat (first | (with_reducible exact Ext.refl _) | (with_reducible assumption) | (with_reducible refine Ext.alloc ?_ _) | (with_reducible refine Ext.drew ?_) | (with_reducible refine Ext.drewN ?_ _) | (with_reducible refine Ext.setCell ?_ (by simp; try omega) _) | (with_reducible refine Ext.setRow ?_ (by simp; try omega) _)))⟩
set_option maxHeartbeats 1000000 in
set_option maxRecDepth 100000 in
theorem halt1_c (x : Cfg) (hF : x.Fine) (u0 u1 sh : Bool) (un t : Int) (ht : 0 ≤ t ∧ t ≤ 1152921504606846976) (w : World) : Calls Try.prog 17 #[.agg #[.bool u0, .bool u1, .int .i64 un, .bool sh], .agg #[.slice x.A x.l.length x.c, .slice x.B x.t.length x.d, .int .i64 x.ix, .int .i64 x.f1, .int .i64 x.f2, .int .i64 x.f3, .int .i64 x.h1, .int .i64 x.h2], .int .i64 1, .int .i64 t] w fun e w' => e = .returned (.tuple #[.agg #[.bool true, .bool u1, .int .i64 (t + x.h1), .bool sh], .int .i64 1]) ∧ Ext w w' := by
  have hw : wrap64 (t + x.h1) = t + x.h1 := wrap64_in ⟨by have := hF.h1; omega, by have := hF.h1; omega⟩
  have C := span_c x 1 ⟨by decide, by decide⟩
  rw [show spanI x 1 = x.h1 from rfl] at C
  have HC := Lib.hid C
  clear C
  have iw0 : IntKind.i64.wrap 0 = 0 := by decide
  go_enter Try.func17, Try.ntmps17
  go_wp2_with fail
  refine wp_loop_rounds 2 ?_
  rw [rounds_succ]
  go_wp2_with fail
  rw [rounds_succ]
  go_wp2_with fail
  refine (HC.out _).mono ?_
  rintro e w1 ⟨rfl, hxw1⟩
  have A_w1 := At.ext (g := w.heap.size) (t := 33) (cs := #[.bool true, .bool u1, .int .i64 un, .bool sh]) (by repeat (first | (with_reducible exact At.new _ _ _) | ((with_reducible refine At.new' _ _ _ _ ?_); simp; done) | (with_reducible assumption) | (with_reducible refine At.drew ?_) | (with_reducible refine At.alloc ?_ _) | (with_reducible apply At.upd) | (with_reducible apply At.setRow) | (with_reducible refine At.rowFar ?_ (by first | (simp; done) | (simp; omega) | omega) _) | ((with_reducible refine At.far ?_ (by first | (simp; done) | (simp; omega) | omega) _)) | (with_reducible rfl) | (simp; done))) hxw1
  have B_w1 := At.ext (g := w.heap.size + 1 + 1) (t := 33) (cs := #[.bool false, .bool false, .int .i64 0, .bool false]) (by repeat (first | (with_reducible exact At.new _ _ _) | ((with_reducible refine At.new' _ _ _ _ ?_); simp; done) | (with_reducible assumption) | (with_reducible refine At.drew ?_) | (with_reducible refine At.alloc ?_ _) | (with_reducible apply At.upd) | (with_reducible apply At.setRow) | (with_reducible refine At.rowFar ?_ (by first | (simp; done) | (simp; omega) | omega) _) | ((with_reducible refine At.far ?_ (by first | (simp; done) | (simp; omega) | omega) _)) | (with_reducible rfl) | (simp; done))) hxw1
  have xw1 : Ext w w1 := Ext.trans (by repeat (first | (with_reducible exact Ext.refl _) | (with_reducible assumption) | (with_reducible refine Ext.alloc ?_ _) | (with_reducible refine Ext.drew ?_) | (with_reducible refine Ext.drewN ?_ _) | (with_reducible refine Ext.setCell ?_ (by simp; try omega) _) | (with_reducible refine Ext.setRow ?_ (by simp; try omega) _))) hxw1
  clear hxw1
  have s_A_w1 := A_w1.lt
  have c_A_w1_0 := A_w1.cell 0
  have f_A_w1_0 := A_w1.frozen 0
  have c_A_w1_1 := A_w1.cell 1
  have f_A_w1_1 := A_w1.frozen 1
  have c_A_w1_2 := A_w1.cell 2
  have f_A_w1_2 := A_w1.frozen 2
  have c_A_w1_3 := A_w1.cell 3
  have f_A_w1_3 := A_w1.frozen 3
  simp only [List.getElem?_toArray, List.getElem?_cons_zero, List.getElem?_cons_succ] at c_A_w1_0 c_A_w1_1 c_A_w1_2 c_A_w1_3
  have s_B_w1 := B_w1.lt
  have c_B_w1_0 := B_w1.cell 0
  have f_B_w1_0 := B_w1.frozen 0
  have c_B_w1_1 := B_w1.cell 1
  have f_B_w1_1 := B_w1.frozen 1
  have c_B_w1_2 := B_w1.cell 2
  have f_B_w1_2 := B_w1.frozen 2
  have c_B_w1_3 := B_w1.cell 3
  have f_B_w1_3 := B_w1.frozen 3
  simp only [List.getElem?_toArray, List.getElem?_cons_zero, List.getElem?_cons_succ] at c_B_w1_0 c_B_w1_1 c_B_w1_2 c_B_w1_3
  go_wp2_with fail
  first | refine fin_ret rfl (fun K hK => ?_) | refine fin_norm rfl (fun K hK => ?_)
  simp [results, Try.results17, go_sem, rsat]
  try go_simp
  refine hK _ ?_
  clear hK K
  exact ⟨rfl, (by repeat (first | (with_reducible exact Ext.refl _) | (with_reducible assumption) | (with_reducible refine Ext.alloc ?_ _) | (with_reducible refine Ext.drew ?_) | (with_reducible refine Ext.drewN ?_ _) | (with_reducible refine Ext.setCell ?_ (by simp; try omega) _) | (with_reducible refine Ext.setRow ?_ (by simp; try omega) _)))⟩
set_option maxHeartbeats 1000000 in
set_option maxRecDepth 100000 in
theorem halt2_c (x : Cfg) (hF : x.Fine) (u0 u1 sh : Bool) (un t : Int) (ht : 0 ≤ t ∧ t ≤ 1152921504606846976) (w : World) : Calls Try.prog 17 #[.agg #[.bool u0, .bool u1, .int .i64 un, .bool sh], .agg #[.slice x.A x.l.length x.c, .slice x.B x.t.length x.d, .int .i64 x.ix, .int .i64 x.f1, .int .i64 x.f2, .int .i64 x.f3, .int .i64 x.h1, .int .i64 x.h2], .int .i64 2, .int .i64 t] w fun e w' => e = .returned (.tuple #[.agg #[.bool true, .bool true, .int .i64 (t + x.h2), .bool sh], .int .i64 2]) ∧ Ext w w' := by
  have hw : wrap64 (t + x.h2) = t + x.h2 := wrap64_in ⟨by have := hF.h2; omega, by have := hF.h2; omega⟩
  have C := span_c x 2 ⟨by decide, by decide⟩
  rw [show spanI x 2 = x.h2 from rfl] at C
  have HC := Lib.hid C
  clear C
  have iw0 : IntKind.i64.wrap 0 = 0 := by decide
  have iw1 : IntKind.i64.wrap 1 = 1 := by decide
  go_enter Try.func17, Try.ntmps17
  go_wp2_with fail
  refine wp_loop_rounds 3 ?_
  rw [rounds_succ]
  go_wp2_with fail
  rw [rounds_succ]
  go_wp2_with fail
  rw [rounds_succ]
  go_wp2_with fail
  refine (HC.out _).mono ?_
  rintro e w1 ⟨rfl, hxw1⟩
  have A_w1 := At.ext (g := w.heap.size) (t := 33) (cs := #[.bool true, .bool true, .int .i64 un, .bool sh]) (by repeat (first | (with_reducible exact At.new _ _ _) | ((with_reducible refine At.new' _ _ _ _ ?_); simp; done) | (with_reducible assumption) | (with_reducible refine At.drew ?_) | (with_reducible refine At.alloc ?_ _) | (with_reducible apply At.upd) | (with_reducible apply At.setRow) | (with_reducible refine At.rowFar ?_ (by first | (simp; done) | (simp; omega) | omega) _) | ((with_reducible refine At.far ?_ (by first | (simp; done) | (simp; omega) | omega) _)) | (with_reducible rfl) | (simp; done))) hxw1
  have B_w1 := At.ext (g := w.heap.size + 1 + 1) (t := 33) (cs := #[.bool false, .bool false, .int .i64 0, .bool false]) (by repeat (first | (with_reducible exact At.new _ _ _) | ((with_reducible refine At.new' _ _ _ _ ?_); simp; done) | (with_reducible assumption) | (with_reducible refine At.drew ?_) | (with_reducible refine At.alloc ?_ _) | (with_reducible apply At.upd) | (with_reducible apply At.setRow) | (with_reducible refine At.rowFar ?_ (by first | (simp; done) | (simp; omega) | omega) _) | ((with_reducible refine At.far ?_ (by first | (simp; done) | (simp; omega) | omega) _)) | (with_reducible rfl) | (simp; done))) hxw1
  have xw1 : Ext w w1 := Ext.trans (by repeat (first | (with_reducible exact Ext.refl _) | (with_reducible assumption) | (with_reducible refine Ext.alloc ?_ _) | (with_reducible refine Ext.drew ?_) | (with_reducible refine Ext.drewN ?_ _) | (with_reducible refine Ext.setCell ?_ (by simp; try omega) _) | (with_reducible refine Ext.setRow ?_ (by simp; try omega) _))) hxw1
  clear hxw1
  have s_A_w1 := A_w1.lt
  have c_A_w1_0 := A_w1.cell 0
  have f_A_w1_0 := A_w1.frozen 0
  have c_A_w1_1 := A_w1.cell 1
  have f_A_w1_1 := A_w1.frozen 1
  have c_A_w1_2 := A_w1.cell 2
  have f_A_w1_2 := A_w1.frozen 2
  have c_A_w1_3 := A_w1.cell 3
  have f_A_w1_3 := A_w1.frozen 3
  simp only [List.getElem?_toArray, List.getElem?_cons_zero, List.getElem?_cons_succ] at c_A_w1_0 c_A_w1_1 c_A_w1_2 c_A_w1_3
  have s_B_w1 := B_w1.lt
  have c_B_w1_0 := B_w1.cell 0
  have f_B_w1_0 := B_w1.frozen 0
  have c_B_w1_1 := B_w1.cell 1
  have f_B_w1_1 := B_w1.frozen 1
  have c_B_w1_2 := B_w1.cell 2
  have f_B_w1_2 := B_w1.frozen 2
  have c_B_w1_3 := B_w1.cell 3
  have f_B_w1_3 := B_w1.frozen 3
  simp only [List.getElem?_toArray, List.getElem?_cons_zero, List.getElem?_cons_succ] at c_B_w1_0 c_B_w1_1 c_B_w1_2 c_B_w1_3
  go_wp2_with fail
  first | refine fin_ret rfl (fun K hK => ?_) | refine fin_norm rfl (fun K hK => ?_)
  simp [results, Try.results17, go_sem, rsat]
  try go_simp
  refine hK _ ?_
  clear hK K
  exact ⟨rfl, (by repeat (first | (with_reducible exact Ext.refl _) | (with_reducible assumption) | (with_reducible refine Ext.alloc ?_ _) | (with_reducible refine Ext.drew ?_) | (with_reducible refine Ext.drewN ?_ _) | (with_reducible refine Ext.setCell ?_ (by simp; try omega) _) | (with_reducible refine Ext.setRow ?_ (by simp; try omega) _)))⟩
end Go.Proofs.Ytdefimhdjllfaaa
