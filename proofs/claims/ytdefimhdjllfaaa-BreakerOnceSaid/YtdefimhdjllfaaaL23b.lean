/- Law BreakerPlays. No condition. -/
import Derived.Test.YtdefimhdjllfaaaL23
import Derived.Test.YtdefimhdjllfaaaFq
namespace Go.Proofs.Ytdefimhdjllfaaa
open Go.RowKit
attribute [local go_sem] Later.cell QUpon_value QUpon_enter MUpon_value arr2_d
attribute [local go_sem ↓ high] loadSym_is storeSym_is loadCfg_is storeCfg_is
attribute [local go_sem] run_loadSym run_loadSym_at run_storeSym run_loadCfg run_loadCfg_at run_storeCfg one_int one_bool one_slice one_ptr one_str setRow_new setRow_past cell_ca frozen_ca cellsAt_alloc_at cellsAt_alloc_past cellsAt_drew cellsAt_later cellsAt_setCell cellsAt_set_same cellsAt_setRow_same cellsAt_setRow_far subAt_alloc subAt_drew subAt_later subAt_setCell subAt_setRow ltn_2 ltn_3 ltn_4 ltn_5
theorem own23_c (u0 u1 sh : Bool) (un : Int) (w : World) : Calls Try.prog 10 #[.agg #[.bool u0, .bool u1, .int .i64 un, .bool sh]] w fun e w' => e = .returned (.agg #[.bool u0, .bool u1, .int .i64 un, .bool sh]) ∧ Ext w w' := by
  go_enter Try.func10, Try.ntmps10
  go_wp2_with fail
  first | refine fin_ret rfl (fun K hK => ?_) | refine fin_norm rfl (fun K hK => ?_)
  simp [results, Try.results10, go_sem, rsat]
  try go_simp
  refine hK _ ?_
  clear hK K
  exact ⟨rfl, (by repeat (first | (with_reducible exact Ext.refl _) | (with_reducible assumption) | (with_reducible refine Ext.alloc ?_ _) | (with_reducible refine Ext.drew ?_) | (with_reducible refine Ext.drewN ?_ _) | (with_reducible refine Ext.setCell ?_ (by simp; try omega) _) | (with_reducible refine Ext.setRow ?_ (by simp; try omega) _)))⟩
theorem Sl.At.get {s : Sl} {w : World} (h : s.At .i64 w) (k : Nat) (hk : k < s.xs.length) : ∃ b off, s.A = some ⟨b, off, none⟩ ∧ b < w.heap.size ∧ w.cell? ⟨b, off + k, none⟩ = some (.int .i64 s.xs[k]) ∧ I64 s.xs[k] := by
  obtain ⟨b, off, hA, hb, hc⟩ := h.cells (by omega)
  have := hc k hk
  rw [List.getElem?_eq_getElem hk] at this
  exact ⟨b, off, hA, hb, this, I64.of_wf (h.wf _ (List.getElem_mem _))⟩
set_option maxHeartbeats 4000000 in
set_option maxRecDepth 100000 in
theorem breakerplays_c (x : Cfg) (gs is : Sl) (w : World) (h : x.At w) (hg : gs.At .i64 w) (hi : is.At .i64 w) : Calls Try.prog 3 #[x.v, gs.v, is.v] w fun e w' => e = .returned (.bool true) ∧ Ext w w' := by
  unfold Cfg.v Sl.v
  have C1 := fun W hx => right23_c x W (h.ext hx)
  have hgm : gs.xs.length ≤ 9223372036854775807 := by have := hg.le; have := hg.max; unfold maxLen at this; omega
  have him : is.xs.length ≤ 9223372036854775807 := by have := hi.le; have := hi.max; unfold maxLen at this; omega
  cases hr : right23 x with
  | false =>
    rw [hr] at C1
    have HC1 := Lib.hid C1
    clear C1
    go_enter Try.func3, Try.ntmps3
    go_wp2_with fail
    refine (HC1.out _ (by repeat (first | (with_reducible exact Ext.refl _) | (with_reducible assumption) | (with_reducible refine Ext.alloc ?_ _) | (with_reducible refine Ext.drew ?_) | (with_reducible refine Ext.drewN ?_ _) | (with_reducible refine Ext.setCell ?_ (by simp; try omega) _) | (with_reducible refine Ext.setRow ?_ (by simp; try omega) _)))).mono ?_
    rintro e w1 ⟨rfl, hx1⟩
    go_wp2_with fail
    refine (alive_c23 _).mono ?_
    rintro e w2 ⟨rfl, hx2⟩
    go_wp2_with fail
    first | refine fin_ret rfl (fun K hK => ?_) | refine fin_norm rfl (fun K hK => ?_)
    simp [results, Try.results3, go_sem, rsat]
    try go_simp
    refine hK _ ?_
    clear hK K
    exact ⟨rfl, (Ext.trans (by repeat (first | (with_reducible exact Ext.refl _) | (with_reducible assumption) | (with_reducible refine Ext.alloc ?_ _) | (with_reducible refine Ext.drew ?_) | (with_reducible refine Ext.drewN ?_ _) | (with_reducible refine Ext.setCell ?_ (by simp; try omega) _) | (with_reducible refine Ext.setRow ?_ (by simp; try omega) _))) hx1).trans hx2⟩
  | true =>
    rw [hr] at C1
    have hF := right_fine hr
    have HC1 := Lib.hid C1
    clear C1 hr
    by_cases h60 : 60 < gs.xs.length
    ·
      go_enter Try.func3, Try.ntmps3
      go_wp2_with fail
      refine (HC1.out _ (by repeat (first | (with_reducible exact Ext.refl _) | (with_reducible assumption) | (with_reducible refine Ext.alloc ?_ _) | (with_reducible refine Ext.drew ?_) | (with_reducible refine Ext.drewN ?_ _) | (with_reducible refine Ext.setCell ?_ (by simp; try omega) _) | (with_reducible refine Ext.setRow ?_ (by simp; try omega) _)))).mono ?_
      rintro e w1 ⟨rfl, hx1⟩
      go_wp2_with fail
      refine (alive_c23 _).mono ?_
      rintro e w2 ⟨rfl, hx2⟩
      go_wp2_with fail
      first | refine fin_ret rfl (fun K hK => ?_) | refine fin_norm rfl (fun K hK => ?_)
      simp [results, Try.results3, go_sem, rsat]
      try go_simp
      refine hK _ ?_
      clear hK K
      exact ⟨rfl, (Ext.trans (by repeat (first | (with_reducible exact Ext.refl _) | (with_reducible assumption) | (with_reducible refine Ext.alloc ?_ _) | (with_reducible refine Ext.drew ?_) | (with_reducible refine Ext.drewN ?_ _) | (with_reducible refine Ext.setCell ?_ (by simp; try omega) _) | (with_reducible refine Ext.setRow ?_ (by simp; try omega) _))) hx1).trans hx2⟩
    go_enter Try.func3, Try.ntmps3
    go_wp2_with fail
    refine (HC1.out _ (by repeat (first | (with_reducible exact Ext.refl _) | (with_reducible assumption) | (with_reducible refine Ext.alloc ?_ _) | (with_reducible refine Ext.drew ?_) | (with_reducible refine Ext.drewN ?_ _) | (with_reducible refine Ext.setCell ?_ (by simp; try omega) _) | (with_reducible refine Ext.setRow ?_ (by simp; try omega) _)))).mono ?_
    rintro e w1 ⟨rfl, hx1⟩
    have xw1 : Ext w w1 := Ext.trans (by repeat (first | (with_reducible exact Ext.refl _) | (with_reducible assumption) | (with_reducible refine Ext.alloc ?_ _) | (with_reducible refine Ext.drew ?_) | (with_reducible refine Ext.drewN ?_ _) | (with_reducible refine Ext.setCell ?_ (by simp; try omega) _) | (with_reducible refine Ext.setRow ?_ (by simp; try omega) _))) hx1
    have X1 : At w1 w.heap.size 27 #[.slice x.A x.l.length x.c, .slice x.B x.t.length x.d, .int .i64 x.ix, .int .i64 x.f1, .int .i64 x.f2, .int .i64 x.f3, .int .i64 x.h1, .int .i64 x.h2] := At.ext (by repeat (first | (with_reducible exact At.new _ _ _) | ((with_reducible refine At.new' _ _ _ _ ?_); simp; done) | (with_reducible assumption) | (with_reducible refine At.drew ?_) | (with_reducible refine At.alloc ?_ _) | (with_reducible apply At.upd) | (with_reducible apply At.setRow) | (with_reducible refine At.rowFar ?_ (by first | (simp; done) | (simp; omega) | omega) _) | ((with_reducible refine At.far ?_ (by first | (simp; done) | (simp; omega) | omega) _)) | (with_reducible rfl) | (simp; done))) hx1
    have e1 := cellsAt_at X1
    have s1 := X1.lt
    go_wp2_with fail
    obtain ⟨w2, hw2⟩ : ∃ w2 : World, w2 = (w1.alloc (.cells #[.bool false, .bool false, .int .i64 0, .bool false] 33)).alloc (.cells #[.bool false, .bool false, .int .i64 0, .bool false] 34) := ⟨_, rfl⟩
    have x2 : Ext w w2 := by rw [hw2]; exact (xw1.alloc _).alloc _
    have X2 : At w2 w.heap.size 27 #[.slice x.A x.l.length x.c, .slice x.B x.t.length x.d, .int .i64 x.ix, .int .i64 x.f1, .int .i64 x.f2, .int .i64 x.f3, .int .i64 x.h1, .int .i64 x.h2] := by rw [hw2]; exact (X1.alloc _).alloc _
    have A2 : At w2 w1.heap.size 33 #[.bool false, .bool false, .int .i64 0, .bool false] := by rw [hw2]; exact (At.new _ _ _).alloc _
    have B2 : At w2 (w1.heap.size + 1) 34 #[.bool false, .bool false, .int .i64 0, .bool false] := by rw [hw2]; exact At.new' _ _ _ _ (by simp)
    rw [← hw2]
    clear hw2 X1 e1
    generalize w1.heap.size = g1 at *
    have hg1 : w.heap.size < g1 := by omega
    go_loopw [9, 10] (fun t i wr => ∃ (k : Nat) (T : Int) (s : Bst), i = .int .i64 k ∧ t = .int .i64 T ∧ k ≤ gs.xs.length ∧ 0 ≤ T ∧ T ≤ k * 1125899906842624 ∧ Ext w wr ∧ At wr w.heap.size 27 #[.slice x.A x.l.length x.c, .slice x.B x.t.length x.d, .int .i64 x.ix, .int .i64 x.f1, .int .i64 x.f2, .int .i64 x.f3, .int .i64 x.h1, .int .i64 x.h2] ∧ At wr g1 33 #[.bool s.u0, .bool s.u1, .int .i64 s.un, .bool s.sh] ∧ At wr (g1 + 1) 34 #[.bool s.u0, .bool s.u1, .int .i64 s.un, .bool s.sh]) (fun _ i _ => gs.xs.length - (intOf i).toNat)
    case atStart => exact ⟨0, 0, ⟨false, false, 0, false⟩, rfl, rfl, by omega, by omega, by omega, x2, X2, A2, B2⟩
    case round =>
      obtain ⟨k, T, s, rfl, rfl, hk, hT0, hT1, hx, X3, A3, B3⟩ := hrel
      by_cases hlt : k < gs.xs.length ∧ k < is.xs.length
      · obtain ⟨hk1, hk2⟩ := hlt
        obtain ⟨b, off, hA, hb, c0, i0⟩ := hg.get k hk1
        obtain ⟨b2, off2, hB, hb2, c1, i1⟩ := hi.get k hk2
        have d0 := (hx.facts.1 _ _ hb).trans c0
        have d1 := (hx.facts.1 _ _ hb2).trans c1
        have hbr : b < wr.heap.size := Nat.lt_of_lt_of_le hb hx.size
        have hbr2 : b2 < wr.heap.size := Nat.lt_of_lt_of_le hb2 hx.size
        generalize gs.xs[k] = G at d0 c0 i0
        generalize is.xs[k] = I at d1 c1 i1
        rw [hA, hB]
        by_cases n1 : G < 0
        · go_wp2_with fail
          refine (alive_c23 _).mono ?_
          rintro e w4 ⟨rfl, hx4⟩
          go_wp2_with fail
          first | refine fin_ret rfl (fun K hK => ?_) | refine fin_norm rfl (fun K hK => ?_)
          simp [results, Try.results3, go_sem, rsat]
          try go_simp
          refine hK _ ?_
          clear hK K
          exact ⟨rfl, hx.trans hx4⟩
        by_cases n2 : 1125899906842624 < G
        · go_wp2_with fail
          refine (alive_c23 _).mono ?_
          rintro e w4 ⟨rfl, hx4⟩
          go_wp2_with fail
          first | refine fin_ret rfl (fun K hK => ?_) | refine fin_norm rfl (fun K hK => ?_)
          simp [results, Try.results3, go_sem, rsat]
          try go_simp
          refine hK _ ?_
          clear hK K
          exact ⟨rfl, hx.trans hx4⟩
        have hTb : T + G ≤ ((k : Int) + 1) * 1125899906842624 := by omega
        have hkb : (k : Int) + 1 ≤ 60 := by omega
        have hTG : 0 ≤ T + G ∧ T + G ≤ 1152921504606846976 := by omega
        have hwT : wrap64 (T + G) = T + G := wrap64_in ⟨by omega, by omega⟩
        have CI := bindex_c x hF s (T + G) I hTG i1
        have CR := rindex_c x hF s (T + G) I hTG i1
        generalize idxI x s (T + G) I = r at CI CR
        obtain ⟨⟨v0, v1, vn, vh⟩, n⟩ := r
        simp only at CI CR
        have CO := own23_c v0 v1 vh vn
        have HCI := Lib.hid CI
        have HCR := Lib.hid CR
        have HCO := Lib.hid CO
        clear CI CR CO
        have eX := cellsAt_at X3
        have sX := X3.lt
        have sA := A3.lt
        have sB := B3.lt
        have c_A3_0 := A3.cell 0
        have f_A3_0 := A3.frozen 0
        simp only [List.getElem?_toArray, List.getElem?_cons_zero, List.getElem?_cons_succ] at c_A3_0
        have c_A3_1 := A3.cell 1
        have f_A3_1 := A3.frozen 1
        simp only [List.getElem?_toArray, List.getElem?_cons_zero, List.getElem?_cons_succ] at c_A3_1
        have c_A3_2 := A3.cell 2
        have f_A3_2 := A3.frozen 2
        simp only [List.getElem?_toArray, List.getElem?_cons_zero, List.getElem?_cons_succ] at c_A3_2
        have c_A3_3 := A3.cell 3
        have f_A3_3 := A3.frozen 3
        simp only [List.getElem?_toArray, List.getElem?_cons_zero, List.getElem?_cons_succ] at c_A3_3
        have s_A3 := A3.lt
        have c_B3_0 := B3.cell 0
        have f_B3_0 := B3.frozen 0
        simp only [List.getElem?_toArray, List.getElem?_cons_zero, List.getElem?_cons_succ] at c_B3_0
        have c_B3_1 := B3.cell 1
        have f_B3_1 := B3.frozen 1
        simp only [List.getElem?_toArray, List.getElem?_cons_zero, List.getElem?_cons_succ] at c_B3_1
        have c_B3_2 := B3.cell 2
        have f_B3_2 := B3.frozen 2
        simp only [List.getElem?_toArray, List.getElem?_cons_zero, List.getElem?_cons_succ] at c_B3_2
        have c_B3_3 := B3.cell 3
        have f_B3_3 := B3.frozen 3
        simp only [List.getElem?_toArray, List.getElem?_cons_zero, List.getElem?_cons_succ] at c_B3_3
        have s_B3 := B3.lt
        go_wp2_with fail
        refine gen_world (fun W => W = wr) rfl (fun w3 hF3 => ?_)
        subst hF3
        refine wp_region_m 12 [1, 1, 0, 0, 0, 0, 1, 1, 0, 0, 0, 2] 11 (Made w3 33 #[.bool false, .bool false, .int .i64 0, .bool false]) _ (by kernel_rfl) (by kernel_rfl) rfl (by omega) rfl Made.ext ?_
        simp only [List.take_succ_cons, List.take_zero, List.drop_succ_cons, List.drop_zero]
        refine hl_quiet (fun K hK => ?_)
        go_simp
        refine hK _ ?_
        clear hK K
        refine hl_quiet (fun K hK => ?_)
        go_simp
        refine hK _ ?_
        clear hK K
        refine hl_pure (fun K hK => ?_)
        go_simp
        refine hK _ ?_
        clear hK K
        refine hl_pure (fun K hK => ?_)
        go_simp
        refine hK _ ?_
        clear hK K
        refine hl_pure (fun K hK => ?_)
        go_simp
        refine hK _ ?_
        clear hK K
        refine hl_pure (fun K hK => ?_)
        go_simp
        refine hK _ ?_
        clear hK K
        refine hl_quiet (fun K hK => ?_)
        go_simp
        refine hK _ ?_
        clear hK K
        refine hl_quiet (fun K hK => ?_)
        go_simp
        first
          | (refine hK _ ?_; clear hK K)
          | (apply Exists.intro; refine ⟨fun x => ?_, hK _ ?_⟩
             · (exact HCI.out _)
             clear hK K)
        refine hl_pure (fun K hK => ?_)
        go_simp
        refine hK _ ?_
        clear hK K
        refine hl_pure (fun K hK => ?_)
        go_simp
        refine hK _ ?_
        clear hK K
        refine hl_pure (fun K hK => ?_)
        go_simp
        refine hK _ ?_
        clear hK K
        refine hl_make rfl (fun x => by go_simp; exact Later.made x _ _) ?_
        refine hl_nil ?_
        intro uw4 w4 hx4 hu4 K hK
        obtain ⟨g4, rfl, hg4, hA4⟩ := hu4
        have X4 := X3.ext hx4
        have sg4 := hA4.lt
        have c_hA4_0 := hA4.cell 0
        have f_hA4_0 := hA4.frozen 0
        simp only [List.getElem?_toArray, List.getElem?_cons_zero, List.getElem?_cons_succ] at c_hA4_0
        have c_hA4_1 := hA4.cell 1
        have f_hA4_1 := hA4.frozen 1
        simp only [List.getElem?_toArray, List.getElem?_cons_zero, List.getElem?_cons_succ] at c_hA4_1
        have c_hA4_2 := hA4.cell 2
        have f_hA4_2 := hA4.frozen 2
        simp only [List.getElem?_toArray, List.getElem?_cons_zero, List.getElem?_cons_succ] at c_hA4_2
        have c_hA4_3 := hA4.cell 3
        have f_hA4_3 := hA4.frozen 3
        simp only [List.getElem?_toArray, List.getElem?_cons_zero, List.getElem?_cons_succ] at c_hA4_3
        have s_hA4 := hA4.lt
        go_wp2_with fail
        refine gen_world (fun W => Ext w3 W ∧ At W g4 33 #[.bool v0, .bool v1, .int .i64 vn, .bool vh]) ⟨(((hx4.setCell hg4 _).setCell hg4 _).setCell hg4 _).setCell hg4 _, (((hA4.set 0 _).set 1 _).set 2 _).set 3 _⟩ (fun w5 hF5 => ?_)
        obtain ⟨x5, P5⟩ := hF5
        clear hA4 hx4 X4 c_hA4_0 c_hA4_1 c_hA4_2 c_hA4_3 f_hA4_0 f_hA4_1 f_hA4_2 f_hA4_3 s_hA4 sg4
        have X5 := X3.ext x5
        have A5 := A3.ext x5
        have B5 := B3.ext x5
        have e5 := cellsAt_at X5
        have s5 := X5.lt
        have d15 := (x5.facts.1 _ _ hbr2).trans d1
        have hb5 := Nat.lt_of_lt_of_le hbr2 x5.size
        have c_B5_0 := B5.cell 0
        have f_B5_0 := B5.frozen 0
        simp only [List.getElem?_toArray, List.getElem?_cons_zero, List.getElem?_cons_succ] at c_B5_0
        have c_B5_1 := B5.cell 1
        have f_B5_1 := B5.frozen 1
        simp only [List.getElem?_toArray, List.getElem?_cons_zero, List.getElem?_cons_succ] at c_B5_1
        have c_B5_2 := B5.cell 2
        have f_B5_2 := B5.frozen 2
        simp only [List.getElem?_toArray, List.getElem?_cons_zero, List.getElem?_cons_succ] at c_B5_2
        have c_B5_3 := B5.cell 3
        have f_B5_3 := B5.frozen 3
        simp only [List.getElem?_toArray, List.getElem?_cons_zero, List.getElem?_cons_succ] at c_B5_3
        have s_B5 := B5.lt
        refine wp_region_m 12 [1, 1, 0, 0, 0, 0, 1, 1, 0, 0, 0, 2] 11 (Made w5 34 #[.bool false, .bool false, .int .i64 0, .bool false]) _ (by kernel_rfl) (by kernel_rfl) rfl (by omega) rfl Made.ext ?_
        simp only [List.take_succ_cons, List.take_zero, List.drop_succ_cons, List.drop_zero]
        refine hl_quiet (fun K hK => ?_)
        go_simp
        refine hK _ ?_
        clear hK K
        refine hl_quiet (fun K hK => ?_)
        go_simp
        refine hK _ ?_
        clear hK K
        refine hl_pure (fun K hK => ?_)
        go_simp
        refine hK _ ?_
        clear hK K
        refine hl_pure (fun K hK => ?_)
        go_simp
        refine hK _ ?_
        clear hK K
        refine hl_pure (fun K hK => ?_)
        go_simp
        refine hK _ ?_
        clear hK K
        refine hl_pure (fun K hK => ?_)
        go_simp
        refine hK _ ?_
        clear hK K
        refine hl_quiet (fun K hK => ?_)
        go_simp
        refine hK _ ?_
        clear hK K
        refine hl_quiet (fun K hK => ?_)
        go_simp
        first
          | (refine hK _ ?_; clear hK K)
          | (apply Exists.intro; refine ⟨fun x => ?_, hK _ ?_⟩
             · (exact HCR.out _)
             clear hK K)
        refine hl_pure (fun K hK => ?_)
        go_simp
        refine hK _ ?_
        clear hK K
        refine hl_pure (fun K hK => ?_)
        go_simp
        refine hK _ ?_
        clear hK K
        refine hl_pure (fun K hK => ?_)
        go_simp
        refine hK _ ?_
        clear hK K
        refine hl_make rfl (fun x => by go_simp; exact Later.made x _ _) ?_
        refine hl_nil ?_
        intro uw6 w6 hx6 hu6 K6 hK6
        obtain ⟨g6, rfl, hg6, hA6⟩ := hu6
        have sg6 := hA6.lt
        have c_hA6_0 := hA6.cell 0
        have f_hA6_0 := hA6.frozen 0
        simp only [List.getElem?_toArray, List.getElem?_cons_zero, List.getElem?_cons_succ] at c_hA6_0
        have c_hA6_1 := hA6.cell 1
        have f_hA6_1 := hA6.frozen 1
        simp only [List.getElem?_toArray, List.getElem?_cons_zero, List.getElem?_cons_succ] at c_hA6_1
        have c_hA6_2 := hA6.cell 2
        have f_hA6_2 := hA6.frozen 2
        simp only [List.getElem?_toArray, List.getElem?_cons_zero, List.getElem?_cons_succ] at c_hA6_2
        have c_hA6_3 := hA6.cell 3
        have f_hA6_3 := hA6.frozen 3
        simp only [List.getElem?_toArray, List.getElem?_cons_zero, List.getElem?_cons_succ] at c_hA6_3
        have s_hA6 := hA6.lt
        go_wp2_with fail
        refine gen_world (fun W => Ext w5 W ∧ At W g6 34 #[.bool v0, .bool v1, .int .i64 vn, .bool vh]) ⟨(((hx6.setCell hg6 _).setCell hg6 _).setCell hg6 _).setCell hg6 _, (((hA6.set 0 _).set 1 _).set 2 _).set 3 _⟩ (fun w7 hF7 => ?_)
        obtain ⟨x7, Q7⟩ := hF7
        clear hA6 hx6 c_hA6_0 c_hA6_1 c_hA6_2 c_hA6_3 f_hA6_0 f_hA6_1 f_hA6_2 f_hA6_3 s_hA6 sg6
        have P7 := P5.ext x7
        have c_P7_0 := P7.cell 0
        have f_P7_0 := P7.frozen 0
        simp only [List.getElem?_toArray, List.getElem?_cons_zero, List.getElem?_cons_succ] at c_P7_0
        have c_P7_1 := P7.cell 1
        have f_P7_1 := P7.frozen 1
        simp only [List.getElem?_toArray, List.getElem?_cons_zero, List.getElem?_cons_succ] at c_P7_1
        have c_P7_2 := P7.cell 2
        have f_P7_2 := P7.frozen 2
        simp only [List.getElem?_toArray, List.getElem?_cons_zero, List.getElem?_cons_succ] at c_P7_2
        have c_P7_3 := P7.cell 3
        have f_P7_3 := P7.frozen 3
        simp only [List.getElem?_toArray, List.getElem?_cons_zero, List.getElem?_cons_succ] at c_P7_3
        have s_P7 := P7.lt
        have c_Q7_0 := Q7.cell 0
        have f_Q7_0 := Q7.frozen 0
        simp only [List.getElem?_toArray, List.getElem?_cons_zero, List.getElem?_cons_succ] at c_Q7_0
        have c_Q7_1 := Q7.cell 1
        have f_Q7_1 := Q7.frozen 1
        simp only [List.getElem?_toArray, List.getElem?_cons_zero, List.getElem?_cons_succ] at c_Q7_1
        have c_Q7_2 := Q7.cell 2
        have f_Q7_2 := Q7.frozen 2
        simp only [List.getElem?_toArray, List.getElem?_cons_zero, List.getElem?_cons_succ] at c_Q7_2
        have c_Q7_3 := Q7.cell 3
        have f_Q7_3 := Q7.frozen 3
        simp only [List.getElem?_toArray, List.getElem?_cons_zero, List.getElem?_cons_succ] at c_Q7_3
        have s_Q7 := Q7.lt
        refine wp_region_x 9 [1, 1, 1, 0, 0, 0, 0, 0, 0] (by kernel_rfl) (by kernel_rfl) (by kernel_rfl) ?_
        simp only [List.take_succ_cons, List.take_zero, List.drop_succ_cons, List.drop_zero]
        refine hl_quiet (fun K hK => ?_)
        go_simp
        refine hK _ ?_
        clear hK K
        refine hl_quiet (fun K hK => ?_)
        go_simp
        refine hK _ ?_
        clear hK K
        refine hl_quiet (fun K hK => ?_)
        go_simp
        first
          | (refine hK _ ?_; clear hK K)
          | (apply Exists.intro; refine ⟨fun x => ?_, hK _ ?_⟩
             · (exact HCO.out _)
             clear hK K)
        refine hl_pure (fun K hK => ?_)
        go_simp
        refine hK _ ?_
        clear hK K
        refine hl_pure (fun K hK => ?_)
        go_simp
        refine hK _ ?_
        clear hK K
        refine hl_pure (fun K hK => ?_)
        go_simp
        refine hK _ ?_
        clear hK K
        refine hl_pure (fun K hK => ?_)
        go_simp
        refine hK _ ?_
        clear hK K
        refine hl_pure (fun K hK => ?_)
        go_simp
        refine hK _ ?_
        clear hK K
        refine hl_pure (fun K hK => ?_)
        go_simp
        refine hK _ ?_
        clear hK K
        refine hl_nil ?_
        intro w8 x8 K8 hK8
        have y8 := (x5.trans x7).trans x8
        have X8 := X3.ext y8
        have A8 := A3.ext y8
        have B8 := B3.ext y8
        have P8 := P7.ext x8
        have Q8 := Q7.ext x8
        have z8 := hx.trans y8
        have q1 : w.heap.size ≤ g1 := by omega
        have q2 : w.heap.size ≤ g1 + 1 := by omega
        have r1 : w.heap.size ≠ g1 := by omega
        have r2 : w.heap.size ≠ g1 + 1 := by omega
        have r3 : g1 ≠ g1 + 1 := by omega
        have r4 : g1 + 1 ≠ g1 := by omega
        have n48 : g4 ≠ g1 := by omega
        have n49 : g4 ≠ g1 + 1 := by omega
        have n68 : g6 ≠ g1 := by have := x5.size; omega
        have n69 : g6 ≠ g1 + 1 := by have := x5.size; omega
        have c_A8_0 := A8.cell 0
        have f_A8_0 := A8.frozen 0
        simp only [List.getElem?_toArray, List.getElem?_cons_zero, List.getElem?_cons_succ] at c_A8_0
        have c_A8_1 := A8.cell 1
        have f_A8_1 := A8.frozen 1
        simp only [List.getElem?_toArray, List.getElem?_cons_zero, List.getElem?_cons_succ] at c_A8_1
        have c_A8_2 := A8.cell 2
        have f_A8_2 := A8.frozen 2
        simp only [List.getElem?_toArray, List.getElem?_cons_zero, List.getElem?_cons_succ] at c_A8_2
        have c_A8_3 := A8.cell 3
        have f_A8_3 := A8.frozen 3
        simp only [List.getElem?_toArray, List.getElem?_cons_zero, List.getElem?_cons_succ] at c_A8_3
        have s_A8 := A8.lt
        have c_B8_0 := B8.cell 0
        have f_B8_0 := B8.frozen 0
        simp only [List.getElem?_toArray, List.getElem?_cons_zero, List.getElem?_cons_succ] at c_B8_0
        have c_B8_1 := B8.cell 1
        have f_B8_1 := B8.frozen 1
        simp only [List.getElem?_toArray, List.getElem?_cons_zero, List.getElem?_cons_succ] at c_B8_1
        have c_B8_2 := B8.cell 2
        have f_B8_2 := B8.frozen 2
        simp only [List.getElem?_toArray, List.getElem?_cons_zero, List.getElem?_cons_succ] at c_B8_2
        have c_B8_3 := B8.cell 3
        have f_B8_3 := B8.frozen 3
        simp only [List.getElem?_toArray, List.getElem?_cons_zero, List.getElem?_cons_succ] at c_B8_3
        have s_B8 := B8.lt
        have c_P8_0 := P8.cell 0
        have f_P8_0 := P8.frozen 0
        simp only [List.getElem?_toArray, List.getElem?_cons_zero, List.getElem?_cons_succ] at c_P8_0
        have c_P8_1 := P8.cell 1
        have f_P8_1 := P8.frozen 1
        simp only [List.getElem?_toArray, List.getElem?_cons_zero, List.getElem?_cons_succ] at c_P8_1
        have c_P8_2 := P8.cell 2
        have f_P8_2 := P8.frozen 2
        simp only [List.getElem?_toArray, List.getElem?_cons_zero, List.getElem?_cons_succ] at c_P8_2
        have c_P8_3 := P8.cell 3
        have f_P8_3 := P8.frozen 3
        simp only [List.getElem?_toArray, List.getElem?_cons_zero, List.getElem?_cons_succ] at c_P8_3
        have s_P8 := P8.lt
        have c_Q8_0 := Q8.cell 0
        have f_Q8_0 := Q8.frozen 0
        simp only [List.getElem?_toArray, List.getElem?_cons_zero, List.getElem?_cons_succ] at c_Q8_0
        have c_Q8_1 := Q8.cell 1
        have f_Q8_1 := Q8.frozen 1
        simp only [List.getElem?_toArray, List.getElem?_cons_zero, List.getElem?_cons_succ] at c_Q8_1
        have c_Q8_2 := Q8.cell 2
        have f_Q8_2 := Q8.frozen 2
        simp only [List.getElem?_toArray, List.getElem?_cons_zero, List.getElem?_cons_succ] at c_Q8_2
        have c_Q8_3 := Q8.cell 3
        have f_Q8_3 := Q8.frozen 3
        simp only [List.getElem?_toArray, List.getElem?_cons_zero, List.getElem?_cons_succ] at c_Q8_3
        have s_Q8 := Q8.lt
        go_wp2_with fail
        go_roundw
        case rel => exact ⟨k + 1, T + G, ⟨v0, v1, vn, vh⟩, by go_num, by go_num, by omega, by omega, by omega, ((((((((z8.setCell q1 _).setCell q1 _).setCell q1 _).setCell q1 _).setCell q2 _).setCell q2 _).setCell q2 _).setCell q2 _), ((((((((X8.far r1 _).far r1 _).far r1 _).far r1 _).far r2 _).far r2 _).far r2 _).far r2 _), ((((((((A8.set 0 _).set 1 _).set 2 _).set 3 _).far r3 _).far r3 _).far r3 _).far r3 _), ((((((((B8.far r4 _).far r4 _).far r4 _).far r4 _).set 0 _).set 1 _).set 2 _).set 3 _)⟩
        case measure => simp [intOf]; omega
      · by_cases hk1 : k < gs.xs.length
        · have hk2 : ¬ k < is.xs.length := fun h => hlt ⟨hk1, h⟩
          clear hlt
          go_wp2_with fail
          refine (alive_c23 _).mono ?_
          rintro e w4 ⟨rfl, hx4⟩
          go_wp2_with fail
          first | refine fin_ret rfl (fun K hK => ?_) | refine fin_norm rfl (fun K hK => ?_)
          simp [results, Try.results3, go_sem, rsat]
          try go_simp
          refine hK _ ?_
          clear hK K
          exact ⟨rfl, hx.trans hx4⟩
        · clear hlt
          go_wp2_with fail
          refine (alive_c23 _).mono ?_
          rintro e w4 ⟨rfl, hx4⟩
          go_wp2_with fail
          first | refine fin_ret rfl (fun K hK => ?_) | refine fin_norm rfl (fun K hK => ?_)
          simp [results, Try.results3, go_sem, rsat]
          try go_simp
          refine hK _ ?_
          clear hK K
          exact ⟨rfl, hx.trans hx4⟩
end Go.Proofs.Ytdefimhdjllfaaa
