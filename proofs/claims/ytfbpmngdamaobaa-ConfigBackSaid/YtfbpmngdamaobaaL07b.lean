/- Law ConfigChecks, 2. No condition. -/
import Derived.Test.YtfbpmngdamaobaaZ3
import Derived.Test.YtfbpmngdamaobaaL07
namespace Go.Proofs.Ytfbpmngdamaobaa
open Go.RowKit
attribute [local go_sem] Later.cell QUpon_value QUpon_enter MUpon_value cfg_field0
attribute [local go_sem ↓ high] loadSym_is storeSym_is loadCfg_is storeCfg_is
attribute [local go_sem] run_loadSym run_loadSym_at run_storeSym run_loadCfg run_loadCfg_at run_storeCfg one_int one_bool one_slice one_ptr one_str setRow_new setRow_past cell_ca frozen_ca cellsAt_alloc_at cellsAt_alloc_past cellsAt_drew cellsAt_later cellsAt_setCell cellsAt_set_same cellsAt_setRow_same cellsAt_setRow_far subAt_alloc subAt_drew subAt_later subAt_setCell subAt_setRow ltn_2 ltn_3 ltn_4 ltn_5
def lightB (x : Cfg) : Bool := decide (x.l.length ≤ 20) && decide (x.t.length ≤ 40)
theorem light7_c (x : Cfg) (hl : x.l.length ≤ 9223372036854775807) (ht : x.t.length ≤ 9223372036854775807) (w : World) : Calls Try.prog 7 #[.agg #[.slice x.A x.l.length x.c, .slice x.B x.t.length x.d, .int .i64 x.ix, .int .i64 x.f1, .int .i64 x.f2, .int .i64 x.f3, .int .i64 x.h1, .int .i64 x.h2]] w fun e w' => e = .returned (.bool (lightB x)) ∧ Ext w w' := by
  unfold lightB
  by_cases h1 : x.l.length ≤ 20
  · by_cases h2 : x.t.length ≤ 40
    · rw [decide_eq_true h1, decide_eq_true h2]
      go_enter Try.func7, Try.ntmps7
      go_wp2_with fail
      first | refine fin_ret rfl (fun K hK => ?_) | refine fin_norm rfl (fun K hK => ?_)
      simp [results, Try.results7, go_sem, rsat]
      try go_simp
      refine hK _ ?_
      clear hK K
      refine ⟨?_, (by repeat (first | (with_reducible exact Ext.refl _) | (with_reducible assumption) | (with_reducible refine Ext.alloc ?_ _) | (with_reducible refine Ext.drew ?_) | (with_reducible refine Ext.drewN ?_ _) | (with_reducible refine Ext.setCell ?_ (by simp; try omega) _) | (with_reducible refine Ext.setRow ?_ (by simp; try omega) _)))⟩
      first | rfl | (congr 2; simp; omega)
    · rw [decide_eq_true h1, decide_eq_false h2]
      go_enter Try.func7, Try.ntmps7
      go_wp2_with fail
      first | refine fin_ret rfl (fun K hK => ?_) | refine fin_norm rfl (fun K hK => ?_)
      simp [results, Try.results7, go_sem, rsat]
      try go_simp
      refine hK _ ?_
      clear hK K
      refine ⟨?_, (by repeat (first | (with_reducible exact Ext.refl _) | (with_reducible assumption) | (with_reducible refine Ext.alloc ?_ _) | (with_reducible refine Ext.drew ?_) | (with_reducible refine Ext.drewN ?_ _) | (with_reducible refine Ext.setCell ?_ (by simp; try omega) _) | (with_reducible refine Ext.setRow ?_ (by simp; try omega) _)))⟩
      first | rfl | (congr 2; simp; omega)
  · rw [decide_eq_false h1, Bool.false_and]
    go_enter Try.func7, Try.ntmps7
    go_wp2_with fail
    first | refine fin_ret rfl (fun K hK => ?_) | refine fin_norm rfl (fun K hK => ?_)
    simp [results, Try.results7, go_sem, rsat]
    try go_simp
    refine hK _ ?_
    clear hK K
    exact ⟨rfl, (by repeat (first | (with_reducible exact Ext.refl _) | (with_reducible assumption) | (with_reducible refine Ext.alloc ?_ _) | (with_reducible refine Ext.drew ?_) | (with_reducible refine Ext.drewN ?_ _) | (with_reducible refine Ext.setCell ?_ (by simp; try omega) _) | (with_reducible refine Ext.setRow ?_ (by simp; try omega) _)))⟩
set_option maxHeartbeats 2000000 in
set_option maxRecDepth 100000 in
theorem configchecks_c (x : Cfg) (w : World) (h : x.At w) : Calls Try.prog 3 #[x.v] w fun e w' => e = .returned (.bool true) ∧ Ext w w' := by
  unfold Cfg.v
  have hlm : x.l.length ≤ 9223372036854775807 := by have := h.syms.le; have := h.syms.max; unfold maxLen at this; omega
  have htm : x.t.length ≤ 9223372036854775807 := by have := h.rows.le; have := h.rows.max; unfold maxLen at this; omega
  have CL := light7_c x hlm htm
  cases hL : lightB x with
  | false =>
    rw [hL] at CL
    have HCL := Lib.hid CL
    clear CL
    go_enter Try.func3, Try.ntmps3
    go_wp2_with fail
    refine (HCL.out _).mono ?_
    rintro e w1 ⟨rfl, hx1⟩
    go_wp2_with fail
    refine (alive_c7 _).mono ?_
    rintro e w2 ⟨rfl, hx2⟩
    go_wp2_with fail
    first | refine fin_ret rfl (fun K hK => ?_) | refine fin_norm rfl (fun K hK => ?_)
    simp [results, Try.results3, go_sem, rsat]
    try go_simp
    refine hK _ ?_
    clear hK K
    exact ⟨rfl, (Ext.trans (by repeat (first | (with_reducible exact Ext.refl _) | (with_reducible assumption) | (with_reducible refine Ext.alloc ?_ _) | (with_reducible refine Ext.drew ?_) | (with_reducible refine Ext.drewN ?_ _) | (with_reducible refine Ext.setCell ?_ (by simp; try omega) _) | (with_reducible refine Ext.setRow ?_ (by simp; try omega) _))) hx1).trans hx2⟩
  | true =>
    rw [hL] at CL
    have C1 := fun W hx => check_c x W (h.ext hx)
    have C2 := fun W hx => rcheck_c x W (h.ext hx)
    generalize checkI x = r at C1 C2
    obtain ⟨fa, fb⟩ := r
    simp only at C1 C2
    have HCL := Lib.hid CL
    have HC1 := Lib.hid C1
    have HC2 := Lib.hid C2
    have ea : (fa == fa) = true := by simp
    have eb : (fb == fb) = true := by simp
    clear CL C1 C2 hL
    go_enter Try.func3, Try.ntmps3
    go_wp2_with fail
    refine (HCL.out _).mono ?_
    rintro e w1 ⟨rfl, hxw1⟩
    have X_w1 := At.ext (g := w.heap.size) (t := 27) (cs := #[.slice x.A x.l.length x.c, .slice x.B x.t.length x.d, .int .i64 x.ix, .int .i64 x.f1, .int .i64 x.f2, .int .i64 x.f3, .int .i64 x.h1, .int .i64 x.h2]) (by repeat (first | (with_reducible exact At.new _ _ _) | ((with_reducible refine At.new' _ _ _ _ ?_); simp; done) | (with_reducible assumption) | (with_reducible refine At.drew ?_) | (with_reducible refine At.alloc ?_ _) | (with_reducible apply At.upd) | (with_reducible apply At.setRow) | (with_reducible refine At.rowFar ?_ (by first | (simp; done) | (simp; omega) | omega) _) | ((with_reducible refine At.far ?_ (by first | (simp; done) | (simp; omega) | omega) _)) | (with_reducible rfl) | (simp; done))) hxw1
    have xw1 : Ext w w1 := Ext.trans (by repeat (first | (with_reducible exact Ext.refl _) | (with_reducible assumption) | (with_reducible refine Ext.alloc ?_ _) | (with_reducible refine Ext.drew ?_) | (with_reducible refine Ext.drewN ?_ _) | (with_reducible refine Ext.setCell ?_ (by simp; try omega) _) | (with_reducible refine Ext.setRow ?_ (by simp; try omega) _))) hxw1
    clear hxw1
    have s_X_w1 := X_w1.lt
    have e_X_w1 := cellsAt_at X_w1
    go_wp2_with fail
    refine (HC1.out _ (by repeat (first | (with_reducible exact Ext.refl _) | (with_reducible assumption) | (with_reducible refine Ext.alloc ?_ _) | (with_reducible refine Ext.drew ?_) | (with_reducible refine Ext.drewN ?_ _) | (with_reducible refine Ext.setCell ?_ (by simp; try omega) _) | (with_reducible refine Ext.setRow ?_ (by simp; try omega) _)))).mono ?_
    rintro e w2 ⟨rfl, hxw2⟩
    have X_w2 := At.ext (g := w.heap.size) (t := 27) (cs := #[.slice x.A x.l.length x.c, .slice x.B x.t.length x.d, .int .i64 x.ix, .int .i64 x.f1, .int .i64 x.f2, .int .i64 x.f3, .int .i64 x.h1, .int .i64 x.h2]) (by repeat (first | (with_reducible exact At.new _ _ _) | ((with_reducible refine At.new' _ _ _ _ ?_); simp; done) | (with_reducible assumption) | (with_reducible refine At.drew ?_) | (with_reducible refine At.alloc ?_ _) | (with_reducible apply At.upd) | (with_reducible apply At.setRow) | (with_reducible refine At.rowFar ?_ (by first | (simp; done) | (simp; omega) | omega) _) | ((with_reducible refine At.far ?_ (by first | (simp; done) | (simp; omega) | omega) _)) | (with_reducible rfl) | (simp; done))) hxw2
    have xw2 : Ext w w2 := Ext.trans (by repeat (first | (with_reducible exact Ext.refl _) | (with_reducible assumption) | (with_reducible refine Ext.alloc ?_ _) | (with_reducible refine Ext.drew ?_) | (with_reducible refine Ext.drewN ?_ _) | (with_reducible refine Ext.setCell ?_ (by simp; try omega) _) | (with_reducible refine Ext.setRow ?_ (by simp; try omega) _))) hxw2
    clear X_w1 s_X_w1 e_X_w1 hxw2 xw1
    have s_X_w2 := X_w2.lt
    have e_X_w2 := cellsAt_at X_w2
    go_wp2_with fail
    refine (HC2.out _ (by repeat (first | (with_reducible exact Ext.refl _) | (with_reducible assumption) | (with_reducible refine Ext.alloc ?_ _) | (with_reducible refine Ext.drew ?_) | (with_reducible refine Ext.drewN ?_ _) | (with_reducible refine Ext.setCell ?_ (by simp; try omega) _) | (with_reducible refine Ext.setRow ?_ (by simp; try omega) _)))).mono ?_
    rintro e w3 ⟨rfl, hxw3⟩
    have X_w3 := At.ext (g := w.heap.size) (t := 27) (cs := #[.slice x.A x.l.length x.c, .slice x.B x.t.length x.d, .int .i64 x.ix, .int .i64 x.f1, .int .i64 x.f2, .int .i64 x.f3, .int .i64 x.h1, .int .i64 x.h2]) (by repeat (first | (with_reducible exact At.new _ _ _) | ((with_reducible refine At.new' _ _ _ _ ?_); simp; done) | (with_reducible assumption) | (with_reducible refine At.drew ?_) | (with_reducible refine At.alloc ?_ _) | (with_reducible apply At.upd) | (with_reducible apply At.setRow) | (with_reducible refine At.rowFar ?_ (by first | (simp; done) | (simp; omega) | omega) _) | ((with_reducible refine At.far ?_ (by first | (simp; done) | (simp; omega) | omega) _)) | (with_reducible rfl) | (simp; done))) hxw3
    have xw3 : Ext w w3 := Ext.trans (by repeat (first | (with_reducible exact Ext.refl _) | (with_reducible assumption) | (with_reducible refine Ext.alloc ?_ _) | (with_reducible refine Ext.drew ?_) | (with_reducible refine Ext.drewN ?_ _) | (with_reducible refine Ext.setCell ?_ (by simp; try omega) _) | (with_reducible refine Ext.setRow ?_ (by simp; try omega) _))) hxw3
    clear X_w2 s_X_w2 e_X_w2 hxw3 xw2
    have s_X_w3 := X_w3.lt
    have e_X_w3 := cellsAt_at X_w3
    go_wp2_with fail
    go_loopw [7] (fun i wr => ∃ k : Nat, i = .int .i64 k ∧ k ≤ x.l.length ∧ Ext w wr ∧ At wr w.heap.size 27 #[.slice x.A x.l.length x.c, .slice x.B x.t.length x.d, .int .i64 x.ix, .int .i64 x.f1, .int .i64 x.f2, .int .i64 x.f3, .int .i64 x.h1, .int .i64 x.h2]) (fun i _ => x.l.length - (intOf i).toNat)
    case atStart => exact ⟨0, rfl, by omega, (by repeat (first | (with_reducible exact Ext.refl _) | (with_reducible assumption) | (with_reducible refine Ext.alloc ?_ _) | (with_reducible refine Ext.drew ?_) | (with_reducible refine Ext.drewN ?_ _) | (with_reducible refine Ext.setCell ?_ (by simp; try omega) _) | (with_reducible refine Ext.setRow ?_ (by simp; try omega) _))), (by repeat (first | (with_reducible exact At.new _ _ _) | ((with_reducible refine At.new' _ _ _ _ ?_); simp; done) | (with_reducible assumption) | (with_reducible refine At.drew ?_) | (with_reducible refine At.alloc ?_ _) | (with_reducible apply At.upd) | (with_reducible apply At.setRow) | (with_reducible refine At.rowFar ?_ (by first | (simp; done) | (simp; omega) | omega) _) | ((with_reducible refine At.far ?_ (by first | (simp; done) | (simp; omega) | omega) _)) | (with_reducible rfl) | (simp; done)))⟩
    case round =>
      obtain ⟨k, rfl, hk, hx, M2⟩ := hrel
      by_cases hlt : k < x.l.length
      · obtain ⟨b, off, hA, hb, hs⟩ := h.syms.symAt k hlt
        have hbr : b < wr.heap.size := Nat.lt_of_lt_of_le hb hx.size
        have hs2 := (subAt_ext hx hb).trans hs
        have hsI := h.symI x.l[k] (List.getElem_mem _)
        generalize x.l[k] = s at hs hs2 hsI
        have hs3 : subAt wr b (off + k * 16) 16 = #[.int .i64 s.grid, .int .i64 s.ref, .int .i64 s.stat, .int .i64 s.dyn, .int .i64 s.win, .int .i64 s.move, .int .i64 s.lim, .int .i64 s.pause, .int .i64 s.ext, .int .i64 s.mx, .int .i64 s.coll, .int .i64 s.wid, .int .i64 s.self, .int .i64 s.slots, .int .i64 s.lev, .int .i64 s.short] := hs2
        have CS := symbol_c s hsI
        have CR := rsymbol_c s hsI
        have CB := bound_c s hsI
        have CD := rbound_c s hsI
        unfold symV symC at CS CR CB CD
        generalize symI s = si at CS CR
        generalize boundI s = bi at CB CD
        rw [hA] at M2 ⊢
        have e2 := cellsAt_at M2
        have s2 := M2.lt
        have HCS := Lib.hid CS
        have HCR := Lib.hid CR
        have HCB := Lib.hid CB
        have HCD := Lib.hid CD
        have es : (si != si) = false := by simp
        have et : (bi != bi) = false := by simp
        clear CS CR CB CD hs2 hs
        go_wp2_with fail
        refine wp_region_x 28 [0, 1, 0, 0, 1, 1, 0, 1, 0, 0, 1, 1, 0, 0, 0, 1, 0, 0, 1, 1, 0, 1, 0, 0, 1, 1, 0, 0] (by kernel_rfl) (by kernel_rfl) (by kernel_rfl) ?_
        simp only [List.take_succ_cons, List.take_zero, List.drop_succ_cons, List.drop_zero]
        refine hl_pure (fun K hK => ?_)
        go_simp
        refine hK _ ?_
        clear hK K
        refine hl_quiet (fun K hK => ?_)
        go_simp
        refine hK _ ?_
        clear hK K
        refine hl_pure (fun K hK => ?_)
        go_simp
        refine hK _ ?_
        clear hK K
        refine hl_pure (fun K hK => ?_)
        go_simp
        refine hK _ ?_
        clear hK K
        refine hl_quiet (fun K hK => ?_)
        go_simp
        refine hK _ ?_
        clear hK K
        refine hl_quiet (fun K hK => ?_)
        go_simp
        first
          | (refine hK _ ?_; clear hK K)
          | (apply Exists.intro; refine ⟨fun x => ?_, hK _ ?_⟩
             · (exact HCS.out _)
             clear hK K)
        refine hl_pure (fun K hK => ?_)
        go_simp
        refine hK _ ?_
        clear hK K
        refine hl_quiet (fun K hK => ?_)
        go_simp
        refine hK _ ?_
        clear hK K
        refine hl_pure (fun K hK => ?_)
        go_simp
        refine hK _ ?_
        clear hK K
        refine hl_pure (fun K hK => ?_)
        go_simp
        refine hK _ ?_
        clear hK K
        refine hl_quiet (fun K hK => ?_)
        go_simp
        refine hK _ ?_
        clear hK K
        refine hl_quiet (fun K hK => ?_)
        go_simp
        first
          | (refine hK _ ?_; clear hK K)
          | (apply Exists.intro; refine ⟨fun x => ?_, hK _ ?_⟩
             · (exact HCR.out _)
             clear hK K)
        refine hl_pure (fun K hK => ?_)
        go_simp
        refine hK _ ?_
        clear hK K
        refine hl_pure (fun K hK => ?_)
        go_simp
        refine hK _ ?_
        clear hK K
        refine hl_pure (fun K hK => ?_)
        go_simp
        refine hK _ ?_
        clear hK K
        refine hl_quiet (fun K hK => ?_)
        go_simp
        refine hK _ ?_
        clear hK K
        refine hl_pure (fun K hK => ?_)
        go_simp
        refine hK _ ?_
        clear hK K
        refine hl_pure (fun K hK => ?_)
        go_simp
        refine hK _ ?_
        clear hK K
        refine hl_quiet (fun K hK => ?_)
        go_simp
        refine hK _ ?_
        clear hK K
        refine hl_quiet (fun K hK => ?_)
        go_simp
        first
          | (refine hK _ ?_; clear hK K)
          | (apply Exists.intro; refine ⟨fun x => ?_, hK _ ?_⟩
             · (exact HCB.out _)
             clear hK K)
        refine hl_pure (fun K hK => ?_)
        go_simp
        refine hK _ ?_
        clear hK K
        refine hl_quiet (fun K hK => ?_)
        go_simp
        refine hK _ ?_
        clear hK K
        refine hl_pure (fun K hK => ?_)
        go_simp
        refine hK _ ?_
        clear hK K
        refine hl_pure (fun K hK => ?_)
        go_simp
        refine hK _ ?_
        clear hK K
        refine hl_quiet (fun K hK => ?_)
        go_simp
        refine hK _ ?_
        clear hK K
        refine hl_quiet (fun K hK => ?_)
        go_simp
        first
          | (refine hK _ ?_; clear hK K)
          | (apply Exists.intro; refine ⟨fun x => ?_, hK _ ?_⟩
             · (exact HCD.out _)
             clear hK K)
        refine hl_pure (fun K hK => ?_)
        go_simp
        refine hK _ ?_
        clear hK K
        refine hl_pure (fun K hK => ?_)
        go_simp
        refine hK _ ?_
        clear hK K
        refine hl_nil ?_
        intro w4 hx4 K hK
        have M4 := M2.ext hx4
        go_wp2_with fail
        go_roundw
        case rel => exact ⟨k + 1, by go_num, by omega, hx.trans hx4, M4⟩
        case measure => simp [intOf]; omega
      · obtain rfl : k = x.l.length := by omega
        have e2 := cellsAt_at M2
        have s2 := M2.lt
        go_wp2_with fail
        refine (alive_c7 _).mono ?_
        rintro e w4 ⟨rfl, hx4⟩
        go_wp2_with fail
        first | refine fin_ret rfl (fun K hK => ?_) | refine fin_norm rfl (fun K hK => ?_)
        simp [results, Try.results3, go_sem, rsat]
        try go_simp
        refine hK _ ?_
        clear hK K
        exact ⟨rfl, hx.trans hx4⟩
end Go.Proofs.Ytfbpmngdamaobaa
