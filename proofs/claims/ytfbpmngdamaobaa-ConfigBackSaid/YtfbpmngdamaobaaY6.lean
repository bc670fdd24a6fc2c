/- Configurations (layer 7): Same, on both sides. No condition. -/
import Derived.Test.YtfbpmngdamaobaaY5
namespace Go.Proofs.Ytfbpmngdamaobaa
open Go.RowKit
attribute [local go_sem] Later.cell QUpon_value QUpon_enter MUpon_value
attribute [local go_sem ↓ high] loadSym_is storeSym_is loadCfg_is storeCfg_is
attribute [local go_sem] run_loadSym run_loadSym_at run_storeSym run_loadCfg run_loadCfg_at run_storeCfg one_int one_bool one_slice one_ptr one_str setRow_new setRow_past cell_ca frozen_ca cellsAt_alloc_at cellsAt_alloc_past cellsAt_drew cellsAt_later cellsAt_setCell cellsAt_set_same cellsAt_setRow_same cellsAt_setRow_far subAt_alloc subAt_drew subAt_later subAt_setCell subAt_setRow ltn_2 ltn_3 ltn_4 ltn_5
def sameB (x y : Cfg) : Bool := (((listEq eqS x.l y.l && listEq eqR x.t y.t) && (x.ix == y.ix)) && ((x.f1 == y.f1) && ((x.f2 == y.f2) && (x.f3 == y.f3)))) && ((x.h1 == y.h1) && (x.h2 == y.h2))
set_option maxHeartbeats 2000000 in
set_option maxRecDepth 100000 in
theorem csame_c (x y : Cfg) (w : World) (h : x.At w) (h' : y.At w) : Calls Try.prog 18 #[.agg #[.slice x.A x.l.length x.c, .slice x.B x.t.length x.d, .int .i64 x.ix, .int .i64 x.f1, .int .i64 x.f2, .int .i64 x.f3, .int .i64 x.h1, .int .i64 x.h2], .agg #[.slice y.A y.l.length y.c, .slice y.B y.t.length y.d, .int .i64 y.ix, .int .i64 y.f1, .int .i64 y.f2, .int .i64 y.f3, .int .i64 y.h1, .int .i64 y.h2]] w fun e w' => e = .returned (.bool (sameB x y)) ∧ Ext w w' := by
  have C1 := fun W (hw : Ext w W) => eqsyms_c x.A y.A x.c y.c x.l y.l W (h.syms.ext hw) (h'.syms.ext hw)
  have C2 := fun W (hw : Ext w W) => eqrows_c x.B y.B x.d y.d x.t y.t W (h.rows.ext hw) (h'.rows.ext hw)
  unfold sameB
  generalize listEq eqS x.l y.l = p at C1 ⊢
  generalize listEq eqR x.t y.t = q at C2 ⊢
  have E3 := fun W => arr3_in x.f1 x.f2 x.f3 y.f1 y.f2 y.f3 W
  have E2 := fun W => arr2_inY x.h1 x.h2 y.h1 y.h2 W
  generalize ((x.f1 == y.f1) && ((x.f2 == y.f2) && (x.f3 == y.f3))) = b3 at E3 ⊢
  generalize ((x.h1 == y.h1) && (x.h2 == y.h2)) = b2 at E2 ⊢
  generalize hi : (x.ix == y.ix) = bi
  have HC1 := Lib.hid C1
  have HC2 := Lib.hid C2
  clear C1 C2
  go_enter Try.func18, Try.ntmps18
  go_wp2_with fail
  go_wp2_with fail
  refine (HC1.out _ (by repeat (first | (with_reducible exact Ext.refl _) | (with_reducible assumption) | (with_reducible refine Ext.alloc ?_ _) | (with_reducible refine Ext.drew ?_) | (with_reducible refine Ext.drewN ?_ _) | (with_reducible refine Ext.setCell ?_ (by simp; try omega) _) | (with_reducible refine Ext.setRow ?_ (by simp; try omega) _)))).mono ?_
  rintro e w1 ⟨rfl, hxw1⟩
  have xw1 : Ext w w1 := Ext.trans (by repeat (first | (with_reducible exact Ext.refl _) | (with_reducible assumption) | (with_reducible refine Ext.alloc ?_ _) | (with_reducible refine Ext.drew ?_) | (with_reducible refine Ext.drewN ?_ _) | (with_reducible refine Ext.setCell ?_ (by simp; try omega) _) | (with_reducible refine Ext.setRow ?_ (by simp; try omega) _))) hxw1
  have lw1 := xw1.size
  have m0_w1 := At.ext (g := w.heap.size) (t := 27) (cs := #[.slice x.A x.l.length x.c, .slice x.B x.t.length x.d, .int .i64 x.ix, .int .i64 x.f1, .int .i64 x.f2, .int .i64 x.f3, .int .i64 x.h1, .int .i64 x.h2]) (by repeat (first | (with_reducible exact At.new _ _ _) | ((with_reducible refine At.new' _ _ _ _ ?_); simp; done) | (with_reducible assumption) | (with_reducible refine At.drew ?_) | (with_reducible refine At.alloc ?_ _) | (with_reducible apply At.upd) | (with_reducible apply At.setRow) | (with_reducible refine At.rowFar ?_ (by first | (simp; done) | (simp; omega) | omega) _) | ((with_reducible refine At.far ?_ (by first | (simp; done) | (simp; omega) | omega) _)) | (with_reducible rfl) | (simp; done))) hxw1
  have m1_w1 := At.ext (g := w.heap.size + 1) (t := 27) (cs := #[.slice y.A y.l.length y.c, .slice y.B y.t.length y.d, .int .i64 y.ix, .int .i64 y.f1, .int .i64 y.f2, .int .i64 y.f3, .int .i64 y.h1, .int .i64 y.h2]) (by repeat (first | (with_reducible exact At.new _ _ _) | ((with_reducible refine At.new' _ _ _ _ ?_); simp; done) | (with_reducible assumption) | (with_reducible refine At.drew ?_) | (with_reducible refine At.alloc ?_ _) | (with_reducible apply At.upd) | (with_reducible apply At.setRow) | (with_reducible refine At.rowFar ?_ (by first | (simp; done) | (simp; omega) | omega) _) | ((with_reducible refine At.far ?_ (by first | (simp; done) | (simp; omega) | omega) _)) | (with_reducible rfl) | (simp; done))) hxw1
  clear hxw1
  have s_m0_w1 := m0_w1.lt
  have e_m0_w1 := cellsAt_at m0_w1
  have s_m1_w1 := m1_w1.lt
  have e_m1_w1 := cellsAt_at m1_w1
  cases p with
  | false =>
    go_wp2_with fail
    first | refine fin_ret rfl (fun K hK => ?_) | refine fin_norm rfl (fun K hK => ?_)
    simp [results, Try.results18, go_sem, rsat]
    try go_simp
    refine hK _ ?_
    clear hK K
    exact ⟨rfl, (by repeat (first | (with_reducible exact Ext.refl _) | (with_reducible assumption) | (with_reducible refine Ext.alloc ?_ _) | (with_reducible refine Ext.drew ?_) | (with_reducible refine Ext.drewN ?_ _) | (with_reducible refine Ext.setCell ?_ (by simp; try omega) _) | (with_reducible refine Ext.setRow ?_ (by simp; try omega) _)))⟩
  | true =>
    go_wp2_with fail
    go_wp2_with fail
    refine (HC2.out _ (by repeat (first | (with_reducible exact Ext.refl _) | (with_reducible assumption) | (with_reducible refine Ext.alloc ?_ _) | (with_reducible refine Ext.drew ?_) | (with_reducible refine Ext.drewN ?_ _) | (with_reducible refine Ext.setCell ?_ (by simp; try omega) _) | (with_reducible refine Ext.setRow ?_ (by simp; try omega) _)))).mono ?_
    rintro e w2 ⟨rfl, hxw2⟩
    have xw2 : Ext w w2 := Ext.trans (by repeat (first | (with_reducible exact Ext.refl _) | (with_reducible assumption) | (with_reducible refine Ext.alloc ?_ _) | (with_reducible refine Ext.drew ?_) | (with_reducible refine Ext.drewN ?_ _) | (with_reducible refine Ext.setCell ?_ (by simp; try omega) _) | (with_reducible refine Ext.setRow ?_ (by simp; try omega) _))) hxw2
    have lw2 := xw2.size
    have m0_w2 := At.ext (g := w.heap.size) (t := 27) (cs := #[.slice x.A x.l.length x.c, .slice x.B x.t.length x.d, .int .i64 x.ix, .int .i64 x.f1, .int .i64 x.f2, .int .i64 x.f3, .int .i64 x.h1, .int .i64 x.h2]) (by repeat (first | (with_reducible exact At.new _ _ _) | ((with_reducible refine At.new' _ _ _ _ ?_); simp; done) | (with_reducible assumption) | (with_reducible refine At.drew ?_) | (with_reducible refine At.alloc ?_ _) | (with_reducible apply At.upd) | (with_reducible apply At.setRow) | (with_reducible refine At.rowFar ?_ (by first | (simp; done) | (simp; omega) | omega) _) | ((with_reducible refine At.far ?_ (by first | (simp; done) | (simp; omega) | omega) _)) | (with_reducible rfl) | (simp; done))) hxw2
    have m1_w2 := At.ext (g := w.heap.size + 1) (t := 27) (cs := #[.slice y.A y.l.length y.c, .slice y.B y.t.length y.d, .int .i64 y.ix, .int .i64 y.f1, .int .i64 y.f2, .int .i64 y.f3, .int .i64 y.h1, .int .i64 y.h2]) (by repeat (first | (with_reducible exact At.new _ _ _) | ((with_reducible refine At.new' _ _ _ _ ?_); simp; done) | (with_reducible assumption) | (with_reducible refine At.drew ?_) | (with_reducible refine At.alloc ?_ _) | (with_reducible apply At.upd) | (with_reducible apply At.setRow) | (with_reducible refine At.rowFar ?_ (by first | (simp; done) | (simp; omega) | omega) _) | ((with_reducible refine At.far ?_ (by first | (simp; done) | (simp; omega) | omega) _)) | (with_reducible rfl) | (simp; done))) hxw2
    clear m0_w1 s_m0_w1 e_m0_w1 m1_w1 s_m1_w1 e_m1_w1 hxw2 xw1
    have s_m0_w2 := m0_w2.lt
    have e_m0_w2 := cellsAt_at m0_w2
    have s_m1_w2 := m1_w2.lt
    have e_m1_w2 := cellsAt_at m1_w2
    cases q with
    | false =>
      go_wp2_with fail
      first | refine fin_ret rfl (fun K hK => ?_) | refine fin_norm rfl (fun K hK => ?_)
      simp [results, Try.results18, go_sem, rsat]
      try go_simp
      refine hK _ ?_
      clear hK K
      exact ⟨rfl, (by repeat (first | (with_reducible exact Ext.refl _) | (with_reducible assumption) | (with_reducible refine Ext.alloc ?_ _) | (with_reducible refine Ext.drew ?_) | (with_reducible refine Ext.drewN ?_ _) | (with_reducible refine Ext.setCell ?_ (by simp; try omega) _) | (with_reducible refine Ext.setRow ?_ (by simp; try omega) _)))⟩
    | true =>
      cases bi with
      | false =>
        go_wp2_with fail
        first | refine fin_ret rfl (fun K hK => ?_) | refine fin_norm rfl (fun K hK => ?_)
        simp [results, Try.results18, go_sem, rsat]
        try go_simp
        refine hK _ ?_
        clear hK K
        exact ⟨rfl, (by repeat (first | (with_reducible exact Ext.refl _) | (with_reducible assumption) | (with_reducible refine Ext.alloc ?_ _) | (with_reducible refine Ext.drew ?_) | (with_reducible refine Ext.drewN ?_ _) | (with_reducible refine Ext.setCell ?_ (by simp; try omega) _) | (with_reducible refine Ext.setRow ?_ (by simp; try omega) _)))⟩
      | true =>
        cases b3 with
        | false =>
          go_wp2_with fail
          first | refine fin_ret rfl (fun K hK => ?_) | refine fin_norm rfl (fun K hK => ?_)
          simp [results, Try.results18, go_sem, rsat]
          try go_simp
          refine hK _ ?_
          clear hK K
          exact ⟨rfl, (by repeat (first | (with_reducible exact Ext.refl _) | (with_reducible assumption) | (with_reducible refine Ext.alloc ?_ _) | (with_reducible refine Ext.drew ?_) | (with_reducible refine Ext.drewN ?_ _) | (with_reducible refine Ext.setCell ?_ (by simp; try omega) _) | (with_reducible refine Ext.setRow ?_ (by simp; try omega) _)))⟩
        | true =>
          go_wp2_with fail
          first | refine fin_ret rfl (fun K hK => ?_) | refine fin_norm rfl (fun K hK => ?_)
          simp [results, Try.results18, go_sem, rsat]
          try go_simp
          refine hK _ ?_
          clear hK K
          exact ⟨by cases b2 <;> rfl, (by repeat (first | (with_reducible exact Ext.refl _) | (with_reducible assumption) | (with_reducible refine Ext.alloc ?_ _) | (with_reducible refine Ext.drew ?_) | (with_reducible refine Ext.drewN ?_ _) | (with_reducible refine Ext.setCell ?_ (by simp; try omega) _) | (with_reducible refine Ext.setRow ?_ (by simp; try omega) _)))⟩
set_option maxHeartbeats 4000000 in
set_option maxRecDepth 100000 in
theorem rsame_c (x y : Cfg) (w : World) (h : x.At w) (h' : y.At w) : Calls Try.prog 19 #[.agg #[.slice x.A x.l.length x.c, .slice x.B x.t.length x.d, .int .i64 x.ix, .int .i64 x.f1, .int .i64 x.f2, .int .i64 x.f3, .int .i64 x.h1, .int .i64 x.h2], .agg #[.slice y.A y.l.length y.c, .slice y.B y.t.length y.d, .int .i64 y.ix, .int .i64 y.f1, .int .i64 y.f2, .int .i64 y.f3, .int .i64 y.h1, .int .i64 y.h2]] w fun e w' => e = .returned (.bool (sameB x y)) ∧ Ext w w' := by
  have z1 : x.l.length ≤ 9223372036854775807 := by have := h.syms.le; have := h.syms.max; unfold maxLen at this; omega
  have z2 : x.t.length ≤ 9223372036854775807 := by have := h.rows.le; have := h.rows.max; unfold maxLen at this; omega
  have z3 : y.l.length ≤ 9223372036854775807 := by have := h'.syms.le; have := h'.syms.max; unfold maxLen at this; omega
  have z4 : y.t.length ≤ 9223372036854775807 := by have := h'.rows.le; have := h'.rows.max; unfold maxLen at this; omega
  have E3 := fun W => arr3_in x.f1 x.f2 x.f3 y.f1 y.f2 y.f3 W
  have E2 := fun W => arr2_inY x.h1 x.h2 y.h1 y.h2 W
  have hS : sameB x y = ((((listEq eqS x.l y.l && listEq eqR x.t y.t) && (x.ix == y.ix)) && ((x.f1 == y.f1) && ((x.f2 == y.f2) && (x.f3 == y.f3)))) && ((x.h1 == y.h1) && (x.h2 == y.h2))) := rfl
  generalize ((x.f1 == y.f1) && ((x.f2 == y.f2) && (x.f3 == y.f3))) = b3 at E3 hS
  generalize ((x.h1 == y.h1) && (x.h2 == y.h2)) = b2 at E2 hS
  generalize hi : (x.ix == y.ix) = bi at hS
  have hin : (x.ix != y.ix) = !bi := by rw [← hi]; rfl
  generalize sameB x y = R at hS ⊢
  by_cases hll : x.l.length = y.l.length
  · have HLL := Lib.hid hll
    have hln : ((x.l.length : Int) != (y.l.length : Int)) = false := by simp [hll]
    clear hll
    by_cases htt : x.t.length = y.t.length
    · have HTT := Lib.hid htt
      have htn : ((x.t.length : Int) != (y.t.length : Int)) = false := by simp [htt]
      clear htt
      cases bi with
      | false =>
        rw [Bool.and_false, Bool.false_and, Bool.false_and] at hS
        subst hS
        go_enter Try.func19, Try.ntmps19
        go_wp2_with fail
        first | refine fin_ret rfl (fun K hK => ?_) | refine fin_norm rfl (fun K hK => ?_)
        simp [results, Try.results19, go_sem, rsat]
        try go_simp
        refine hK _ ?_
        clear hK K
        exact ⟨rfl, (by repeat (first | (with_reducible exact Ext.refl _) | (with_reducible assumption) | (with_reducible refine Ext.alloc ?_ _) | (with_reducible refine Ext.drew ?_) | (with_reducible refine Ext.drewN ?_ _) | (with_reducible refine Ext.setCell ?_ (by simp; try omega) _) | (with_reducible refine Ext.setRow ?_ (by simp; try omega) _)))⟩
      | true =>
        cases b3 with
        | false =>
          rw [Bool.and_false, Bool.false_and] at hS
          subst hS
          go_enter Try.func19, Try.ntmps19
          go_wp2_with fail
          first | refine fin_ret rfl (fun K hK => ?_) | refine fin_norm rfl (fun K hK => ?_)
          simp [results, Try.results19, go_sem, rsat]
          try go_simp
          refine hK _ ?_
          clear hK K
          exact ⟨rfl, (by repeat (first | (with_reducible exact Ext.refl _) | (with_reducible assumption) | (with_reducible refine Ext.alloc ?_ _) | (with_reducible refine Ext.drew ?_) | (with_reducible refine Ext.drewN ?_ _) | (with_reducible refine Ext.setCell ?_ (by simp; try omega) _) | (with_reducible refine Ext.setRow ?_ (by simp; try omega) _)))⟩
        | true =>
          cases b2 with
          | false =>
            rw [Bool.and_false] at hS
            subst hS
            go_enter Try.func19, Try.ntmps19
            go_wp2_with fail
            first | refine fin_ret rfl (fun K hK => ?_) | refine fin_norm rfl (fun K hK => ?_)
            simp [results, Try.results19, go_sem, rsat]
            try go_simp
            refine hK _ ?_
            clear hK K
            exact ⟨rfl, (by repeat (first | (with_reducible exact Ext.refl _) | (with_reducible assumption) | (with_reducible refine Ext.alloc ?_ _) | (with_reducible refine Ext.drew ?_) | (with_reducible refine Ext.drewN ?_ _) | (with_reducible refine Ext.setCell ?_ (by simp; try omega) _) | (with_reducible refine Ext.setRow ?_ (by simp; try omega) _)))⟩
          | true =>
            rw [Bool.and_true, Bool.and_true, Bool.and_true] at hS
            have HS := Lib.hid hS
            clear hS
            go_enter Try.func19, Try.ntmps19
            go_wp2_with fail
            go_loopw [5] (fun i wr => ∃ k : Nat, i = .int .i64 k ∧ k ≤ x.l.length ∧ Ext w wr ∧ At wr w.heap.size 27 #[.slice x.A x.l.length x.c, .slice x.B x.t.length x.d, .int .i64 x.ix, .int .i64 x.f1, .int .i64 x.f2, .int .i64 x.f3, .int .i64 x.h1, .int .i64 x.h2] ∧ At wr (w.heap.size + 1) 27 #[.slice y.A y.l.length y.c, .slice y.B y.t.length y.d, .int .i64 y.ix, .int .i64 y.f1, .int .i64 y.f2, .int .i64 y.f3, .int .i64 y.h1, .int .i64 y.h2] ∧ R = (listEq eqS (x.l.drop k) (y.l.drop k) && listEq eqR x.t y.t)) (fun i _ => x.l.length - (intOf i).toNat)
            case atStart => exact ⟨0, rfl, Nat.zero_le _, (by repeat (first | (with_reducible exact Ext.refl _) | (with_reducible assumption) | (with_reducible refine Ext.alloc ?_ _) | (with_reducible refine Ext.drew ?_) | (with_reducible refine Ext.drewN ?_ _) | (with_reducible refine Ext.setCell ?_ (by simp; try omega) _) | (with_reducible refine Ext.setRow ?_ (by simp; try omega) _))), (by repeat (first | (with_reducible exact At.new _ _ _) | ((with_reducible refine At.new' _ _ _ _ ?_); simp; done) | (with_reducible assumption) | (with_reducible refine At.drew ?_) | (with_reducible refine At.alloc ?_ _) | (with_reducible apply At.upd) | (with_reducible apply At.setRow) | (with_reducible refine At.rowFar ?_ (by first | (simp; done) | (simp; omega) | omega) _) | ((with_reducible refine At.far ?_ (by first | (simp; done) | (simp; omega) | omega) _)) | (with_reducible rfl) | (simp; done))), (by repeat (first | (with_reducible exact At.new _ _ _) | ((with_reducible refine At.new' _ _ _ _ ?_); simp; done) | (with_reducible assumption) | (with_reducible refine At.drew ?_) | (with_reducible refine At.alloc ?_ _) | (with_reducible apply At.upd) | (with_reducible apply At.setRow) | (with_reducible refine At.rowFar ?_ (by first | (simp; done) | (simp; omega) | omega) _) | ((with_reducible refine At.far ?_ (by first | (simp; done) | (simp; omega) | omega) _)) | (with_reducible rfl) | (simp; done))), HS.out⟩
            case round =>
              obtain ⟨k, rfl, hk, hx, M0, M1, hq⟩ := hrel
              by_cases hk1 : k < x.l.length
              · have hk2 : k < y.l.length := by have := HLL.out; omega
                obtain ⟨b0, off, hA, hbw, e1⟩ := (h.syms.ext hx).symAt k hk1
                obtain ⟨b1, off1, hB, hbw1, e2⟩ := (h'.syms.ext hx).symAt k hk2
                rw [listEq_drop hk1 hk2] at hq
                generalize x.l[k] = a at *
                generalize y.l[k] = b at *
                have e1' : subAt wr b0 (off + k * 16) 16 = #[.int .i64 a.grid, .int .i64 a.ref, .int .i64 a.stat, .int .i64 a.dyn, .int .i64 a.win, .int .i64 a.move, .int .i64 a.lim, .int .i64 a.pause, .int .i64 a.ext, .int .i64 a.mx, .int .i64 a.coll, .int .i64 a.wid, .int .i64 a.self, .int .i64 a.slots, .int .i64 a.lev, .int .i64 a.short] := e1
                have e2' : subAt wr b1 (off1 + k * 16) 16 = #[.int .i64 b.grid, .int .i64 b.ref, .int .i64 b.stat, .int .i64 b.dyn, .int .i64 b.win, .int .i64 b.move, .int .i64 b.lim, .int .i64 b.pause, .int .i64 b.ext, .int .i64 b.mx, .int .i64 b.coll, .int .i64 b.wid, .int .i64 b.self, .int .i64 b.slots, .int .i64 b.lev, .int .i64 b.short] := e2
                clear e1 e2
                have nq := fun W => neq_sym a b W
                have HQ := Lib.hid hq
                clear hq
                have c0 := cellsAt_at M0
                have s0 := M0.lt
                have c1 := cellsAt_at M1
                have s1 := M1.lt
                rw [hA] at c0 ⊢
                rw [hB] at c1 ⊢
                have HA := Lib.hid hA
                have HB := Lib.hid hB
                clear hA hB
                go_wp2_with fail
                refine wp_region_x 11 [0, 1, 0, 0, 1, 0, 1, 0, 0, 1, 0] (by kernel_rfl) (by kernel_rfl) (by kernel_rfl) ?_
                simp only [List.take_succ_cons, List.take_zero, List.drop_succ_cons, List.drop_zero]
                refine hl_pure (fun K hK => ?_)
                go_simp
                refine hK _ ?_
                clear hK K
                refine hl_quiet (fun K hK => ?_)
                go_simp
                refine hK _ ?_
                clear hK K
                refine hl_pure (fun K hK => ?_)
                go_simp
                refine hK _ ?_
                clear hK K
                refine hl_pure (fun K hK => ?_)
                go_simp
                refine hK _ ?_
                clear hK K
                refine hl_quiet (fun K hK => ?_)
                go_simp
                refine hK _ ?_
                clear hK K
                refine hl_pure (fun K hK => ?_)
                go_simp
                refine hK _ ?_
                clear hK K
                refine hl_quiet (fun K hK => ?_)
                go_simp
                refine hK _ ?_
                clear hK K
                refine hl_pure (fun K hK => ?_)
                go_simp
                refine hK _ ?_
                clear hK K
                refine hl_pure (fun K hK => ?_)
                go_simp
                refine hK _ ?_
                clear hK K
                refine hl_quiet (fun K hK => ?_)
                go_simp
                refine hK _ ?_
                clear hK K
                refine hl_pure (fun K hK => ?_)
                go_simp
                refine hK _ ?_
                clear hK K
                refine hl_nil ?_
                intro w2 hx2 K hK
                have hx3 : Ext w w2 := hx.trans hx2
                have M2 := M0.ext hx2
                have M3 := M1.ext hx2
                refine wpList_nil (hK _ _ ?_)
                cases hab : eqS a b with
                | false =>
                  rw [hab, Bool.false_and] at HQ
                  go_wp2_with fail
                  first | refine fin_ret rfl (fun K hK => ?_) | refine fin_norm rfl (fun K hK => ?_)
                  simp [results, Try.results19, go_sem, rsat]
                  try go_simp
                  refine hK _ ?_
                  clear hK K
                  exact ⟨by rw [HQ.out]; rfl, (by repeat (first | (with_reducible exact Ext.refl _) | (with_reducible assumption) | (with_reducible refine Ext.alloc ?_ _) | (with_reducible refine Ext.drew ?_) | (with_reducible refine Ext.drewN ?_ _) | (with_reducible refine Ext.setCell ?_ (by simp; try omega) _) | (with_reducible refine Ext.setRow ?_ (by simp; try omega) _)))⟩
                | true =>
                  rw [hab, Bool.true_and] at HQ
                  go_wp2_with fail
                  go_roundw
                  · exact ⟨k + 1, rfl, by omega, hx3, by rw [← HA.out]; exact M2, by rw [← HB.out]; exact M3, HQ.out⟩
                  · simp only [intOf]; omega
              · obtain rfl : k = x.l.length := by omega
                rw [show List.drop x.l.length y.l = [] from List.drop_eq_nil_of_le (by have := HLL.out; omega), List.drop_length] at hq
                have HR := Lib.hid (show R = listEq eqR x.t y.t from hq)
                clear hq
                have c0 := cellsAt_at M0
                have s0 := M0.lt
                have c1 := cellsAt_at M1
                have s1 := M1.lt
                go_wp2_with fail
                clear c0 s0 c1 s1
                go_loopw [6] (fun i wr => ∃ k : Nat, i = .int .i64 k ∧ k ≤ x.t.length ∧ Ext w wr ∧ At wr w.heap.size 27 #[.slice x.A x.l.length x.c, .slice x.B x.t.length x.d, .int .i64 x.ix, .int .i64 x.f1, .int .i64 x.f2, .int .i64 x.f3, .int .i64 x.h1, .int .i64 x.h2] ∧ At wr (w.heap.size + 1) 27 #[.slice y.A y.l.length y.c, .slice y.B y.t.length y.d, .int .i64 y.ix, .int .i64 y.f1, .int .i64 y.f2, .int .i64 y.f3, .int .i64 y.h1, .int .i64 y.h2] ∧ R = listEq eqR (x.t.drop k) (y.t.drop k)) (fun i _ => x.t.length - (intOf i).toNat)
                case atStart => exact ⟨0, rfl, Nat.zero_le _, hx, M0, M1, HR.out⟩
                case round =>
                  obtain ⟨k, rfl, hk, hx, M0, M1, hq⟩ := hrel
                  by_cases hk1 : k < x.t.length
                  · have hk2 : k < y.t.length := by have := HTT.out; omega
                    obtain ⟨b0, off, hA, hbw, d0, d1⟩ := (h.rows.ext hx).rowAt k hk1
                    obtain ⟨b1, off1, hB, hbw1, d2, d3⟩ := (h'.rows.ext hx).rowAt k hk2
                    rw [listEq_drop hk1 hk2] at hq
                    generalize x.t[k] = a at *
                    generalize y.t[k] = b at *
                    have nq := fun W => neq_row a b W
                    have HQ := Lib.hid hq
                    clear hq
                    have c0 := cellsAt_at M0
                    have s0 := M0.lt
                    have c1 := cellsAt_at M1
                    have s1 := M1.lt
                    rw [hA] at c0 ⊢
                    rw [hB] at c1 ⊢
                    have HA := Lib.hid hA
                    have HB := Lib.hid hB
                    clear hA hB
                    go_wp2_with fail
                    refine wp_region_x 11 [0, 1, 0, 0, 1, 0, 1, 0, 0, 1, 0] (by kernel_rfl) (by kernel_rfl) (by kernel_rfl) ?_
                    simp only [List.take_succ_cons, List.take_zero, List.drop_succ_cons, List.drop_zero]
                    refine hl_pure (fun K hK => ?_)
                    go_simp
                    refine hK _ ?_
                    clear hK K
                    refine hl_quiet (fun K hK => ?_)
                    go_simp
                    refine hK _ ?_
                    clear hK K
                    refine hl_pure (fun K hK => ?_)
                    go_simp
                    refine hK _ ?_
                    clear hK K
                    refine hl_pure (fun K hK => ?_)
                    go_simp
                    refine hK _ ?_
                    clear hK K
                    refine hl_quiet (fun K hK => ?_)
                    go_simp
                    refine hK _ ?_
                    clear hK K
                    refine hl_pure (fun K hK => ?_)
                    go_simp
                    refine hK _ ?_
                    clear hK K
                    refine hl_quiet (fun K hK => ?_)
                    go_simp
                    refine hK _ ?_
                    clear hK K
                    refine hl_pure (fun K hK => ?_)
                    go_simp
                    refine hK _ ?_
                    clear hK K
                    refine hl_pure (fun K hK => ?_)
                    go_simp
                    refine hK _ ?_
                    clear hK K
                    refine hl_quiet (fun K hK => ?_)
                    go_simp
                    refine hK _ ?_
                    clear hK K
                    refine hl_pure (fun K hK => ?_)
                    go_simp
                    refine hK _ ?_
                    clear hK K
                    refine hl_nil ?_
                    intro w2 hx2 K hK
                    have hx3 : Ext w w2 := hx.trans hx2
                    have M2 := M0.ext hx2
                    have M3 := M1.ext hx2
                    refine wpList_nil (hK _ _ ?_)
                    cases hab : eqR a b with
                    | false =>
                      rw [hab, Bool.false_and] at HQ
                      go_wp2_with fail
                      first | refine fin_ret rfl (fun K hK => ?_) | refine fin_norm rfl (fun K hK => ?_)
                      simp [results, Try.results19, go_sem, rsat]
                      try go_simp
                      refine hK _ ?_
                      clear hK K
                      exact ⟨by rw [HQ.out], (by repeat (first | (with_reducible exact Ext.refl _) | (with_reducible assumption) | (with_reducible refine Ext.alloc ?_ _) | (with_reducible refine Ext.drew ?_) | (with_reducible refine Ext.drewN ?_ _) | (with_reducible refine Ext.setCell ?_ (by simp; try omega) _) | (with_reducible refine Ext.setRow ?_ (by simp; try omega) _)))⟩
                    | true =>
                      rw [hab, Bool.true_and] at HQ
                      go_wp2_with fail
                      go_roundw
                      · exact ⟨k + 1, rfl, by omega, hx3, by rw [← HA.out]; exact M2, by rw [← HB.out]; exact M3, HQ.out⟩
                      · simp only [intOf]; omega
                  · obtain rfl : k = x.t.length := by omega
                    have c0 := cellsAt_at M0
                    have s0 := M0.lt
                    have c1 := cellsAt_at M1
                    have s1 := M1.lt
                    rw [show List.drop x.t.length y.t = [] from List.drop_eq_nil_of_le (by have := HTT.out; omega), List.drop_length] at hq
                    have HQ := Lib.hid hq
                    clear hq
                    go_wp2_with fail
                    first | refine fin_ret rfl (fun K hK => ?_) | refine fin_norm rfl (fun K hK => ?_)
                    simp [results, Try.results19, go_sem, rsat]
                    try go_simp
                    refine hK _ ?_
                    clear hK K
                    exact ⟨by rw [HQ.out]; rfl, (by repeat (first | (with_reducible exact Ext.refl _) | (with_reducible assumption) | (with_reducible refine Ext.alloc ?_ _) | (with_reducible refine Ext.drew ?_) | (with_reducible refine Ext.drewN ?_ _) | (with_reducible refine Ext.setCell ?_ (by simp; try omega) _) | (with_reducible refine Ext.setRow ?_ (by simp; try omega) _)))⟩
    · have htn : ((x.t.length : Int) != (y.t.length : Int)) = true := by simp; omega
      rw [listEq_len htt, Bool.and_false, Bool.false_and, Bool.false_and, Bool.false_and] at hS
      subst hS
      go_enter Try.func19, Try.ntmps19
      go_wp2_with fail
      first | refine fin_ret rfl (fun K hK => ?_) | refine fin_norm rfl (fun K hK => ?_)
      simp [results, Try.results19, go_sem, rsat]
      try go_simp
      refine hK _ ?_
      clear hK K
      exact ⟨rfl, (by repeat (first | (with_reducible exact Ext.refl _) | (with_reducible assumption) | (with_reducible refine Ext.alloc ?_ _) | (with_reducible refine Ext.drew ?_) | (with_reducible refine Ext.drewN ?_ _) | (with_reducible refine Ext.setCell ?_ (by simp; try omega) _) | (with_reducible refine Ext.setRow ?_ (by simp; try omega) _)))⟩
  · have hln : ((x.l.length : Int) != (y.l.length : Int)) = true := by simp; omega
    rw [listEq_len hll, Bool.false_and, Bool.false_and, Bool.false_and, Bool.false_and] at hS
    subst hS
    go_enter Try.func19, Try.ntmps19
    go_wp2_with fail
    first | refine fin_ret rfl (fun K hK => ?_) | refine fin_norm rfl (fun K hK => ?_)
    simp [results, Try.results19, go_sem, rsat]
    try go_simp
    refine hK _ ?_
    clear hK K
    exact ⟨rfl, (by repeat (first | (with_reducible exact Ext.refl _) | (with_reducible assumption) | (with_reducible refine Ext.alloc ?_ _) | (with_reducible refine Ext.drew ?_) | (with_reducible refine Ext.drewN ?_ _) | (with_reducible refine Ext.setCell ?_ (by simp; try omega) _) | (with_reducible refine Ext.setRow ?_ (by simp; try omega) _)))⟩
end Go.Proofs.Ytfbpmngdamaobaa
