/- Law BreakerOnce. No condition. -/
import Derived.Test.YtdefimhdjllfaaaL23b
import Derived.Test.YtdefimhdjllfaaaRp
namespace Go.Proofs.Ytdefimhdjllfaaa
open Go.RowKit
attribute [local go_sem] Later.cell QUpon_value QUpon_enter MUpon_value arr2_d Same.cell
attribute [local go_sem ↓ high] loadSym_is storeSym_is loadCfg_is storeCfg_is
attribute [local go_sem] run_loadSym run_loadSym_at run_storeSym run_loadCfg run_loadCfg_at run_storeCfg one_int one_bool one_slice one_ptr one_str setRow_new setRow_past cell_ca frozen_ca cellsAt_alloc_at cellsAt_alloc_past cellsAt_drew cellsAt_later cellsAt_setCell cellsAt_set_same cellsAt_setRow_same cellsAt_setRow_far subAt_alloc subAt_drew subAt_later subAt_setCell subAt_setRow ltn_2 ltn_3 ltn_4 ltn_5
/-- The four things an index may do. -/
theorem idx_cases (x : Cfg) (s : Bst) (t i : Int) : idxI x s t i = (s, 0) ∨ (idxI x s t i = (⟨s.u0, s.u1, 0, true⟩, 3) ∧ s.sh = false) ∨ (idxI x s t i = (⟨true, true, t + x.h2, false⟩, 2) ∧ s.sh = false ∧ ¬ t < s.un ∧ s.u1 = false) ∨ (idxI x s t i = (⟨true, s.u1, t + x.h1, false⟩, 1) ∧ s.sh = false ∧ ¬ t < s.un ∧ s.u0 = false) := by
  unfold idxI
  by_cases h1 : s.sh = true
  · rw [if_pos h1]; exact .inl rfl
  rw [if_neg h1]
  have hs : s.sh = false := by simpa using h1
  by_cases h2 : levelI x i = 3
  · rw [if_pos h2]; exact .inr (.inl ⟨rfl, hs⟩)
  rw [if_neg h2]
  by_cases h3 : t < s.un ∨ levelI x i = 0
  · rw [if_pos h3]; exact .inl rfl
  rw [if_neg h3]
  have hn : ¬ t < s.un := fun h => h3 (.inl h)
  by_cases h4 : levelI x i = 2 ∧ s.u1 = false
  · rw [if_pos h4, hs]; exact .inr (.inr (.inl ⟨rfl, rfl, hn, h4.2⟩))
  rw [if_neg h4]
  by_cases h5 : s.u0 = false
  · rw [if_pos h5, hs]; exact .inr (.inr (.inr ⟨rfl, rfl, hn, h5⟩))
  rw [if_neg h5]
  exact .inl rfl
set_option maxHeartbeats 4000000 in
set_option maxRecDepth 100000 in
theorem breakeronce_c (x : Cfg) (gs is : Sl) (w : World) (h : x.At w) (hg : gs.At .i64 w) (hi : is.At .i64 w) : Calls Try.prog 4 #[x.v, gs.v, is.v] w fun e w' => e = .returned (.bool true) ∧ Ext w w' := by
  unfold Cfg.v Sl.v
  have C1 := fun W hx => right23_c x W (h.ext hx)
  have hgm : gs.xs.length ≤ 9223372036854775807 := by have := hg.le; have := hg.max; unfold maxLen at this; omega
  have him : is.xs.length ≤ 9223372036854775807 := by have := hi.le; have := hi.max; unfold maxLen at this; omega
  cases hr : right23 x with
  | false =>
    rw [hr] at C1
    have HC1 := Lib.hid C1
    clear C1
    go_enter Try.func4, Try.ntmps4
    go_wp2_with fail
    refine (HC1.out _ (by repeat (first | (with_reducible exact Ext.refl _) | (with_reducible assumption) | (with_reducible refine Ext.alloc ?_ _) | (with_reducible refine Ext.drew ?_) | (with_reducible refine Ext.drewN ?_ _) | (with_reducible refine Ext.setCell ?_ (by simp; try omega) _) | (with_reducible refine Ext.setRow ?_ (by simp; try omega) _)))).mono ?_
    rintro e w1 ⟨rfl, hx1⟩
    go_wp2_with fail
    refine (alive_c23 _).mono ?_
    rintro e w2 ⟨rfl, hx2⟩
    go_wp2_with fail
    first | refine fin_ret rfl (fun K hK => ?_) | refine fin_norm rfl (fun K hK => ?_)
    simp [results, Try.results4, go_sem, rsat]
    try go_simp
    refine hK _ ?_
    clear hK K
    exact ⟨rfl, (Ext.trans (by repeat (first | (with_reducible exact Ext.refl _) | (with_reducible assumption) | (with_reducible refine Ext.alloc ?_ _) | (with_reducible refine Ext.drew ?_) | (with_reducible refine Ext.drewN ?_ _) | (with_reducible refine Ext.setCell ?_ (by simp; try omega) _) | (with_reducible refine Ext.setRow ?_ (by simp; try omega) _))) hx1).trans hx2⟩
  | true =>
    rw [hr] at C1
    have hF := right_fine hr
    have HC1 := Lib.hid C1
    clear C1 hr
    by_cases h60 : 60 < gs.xs.length
    ·
      go_enter Try.func4, Try.ntmps4
      go_wp2_with fail
      refine (HC1.out _ (by repeat (first | (with_reducible exact Ext.refl _) | (with_reducible assumption) | (with_reducible refine Ext.alloc ?_ _) | (with_reducible refine Ext.drew ?_) | (with_reducible refine Ext.drewN ?_ _) | (with_reducible refine Ext.setCell ?_ (by simp; try omega) _) | (with_reducible refine Ext.setRow ?_ (by simp; try omega) _)))).mono ?_
      rintro e w1 ⟨rfl, hx1⟩
      go_wp2_with fail
      refine (alive_c23 _).mono ?_
      rintro e w2 ⟨rfl, hx2⟩
      go_wp2_with fail
      first | refine fin_ret rfl (fun K hK => ?_) | refine fin_norm rfl (fun K hK => ?_)
      simp [results, Try.results4, go_sem, rsat]
      try go_simp
      refine hK _ ?_
      clear hK K
      exact ⟨rfl, (Ext.trans (by repeat (first | (with_reducible exact Ext.refl _) | (with_reducible assumption) | (with_reducible refine Ext.alloc ?_ _) | (with_reducible refine Ext.drew ?_) | (with_reducible refine Ext.drewN ?_ _) | (with_reducible refine Ext.setCell ?_ (by simp; try omega) _) | (with_reducible refine Ext.setRow ?_ (by simp; try omega) _))) hx1).trans hx2⟩
    go_enter Try.func4, Try.ntmps4
    go_wp2_with fail
    refine (HC1.out _ (by repeat (first | (with_reducible exact Ext.refl _) | (with_reducible assumption) | (with_reducible refine Ext.alloc ?_ _) | (with_reducible refine Ext.drew ?_) | (with_reducible refine Ext.drewN ?_ _) | (with_reducible refine Ext.setCell ?_ (by simp; try omega) _) | (with_reducible refine Ext.setRow ?_ (by simp; try omega) _)))).mono ?_
    rintro e w1 ⟨rfl, hx1⟩
    have xw1 : Ext w w1 := Ext.trans (by repeat (first | (with_reducible exact Ext.refl _) | (with_reducible assumption) | (with_reducible refine Ext.alloc ?_ _) | (with_reducible refine Ext.drew ?_) | (with_reducible refine Ext.drewN ?_ _) | (with_reducible refine Ext.setCell ?_ (by simp; try omega) _) | (with_reducible refine Ext.setRow ?_ (by simp; try omega) _))) hx1
    have X1 : At w1 w.heap.size 27 #[.slice x.A x.l.length x.c, .slice x.B x.t.length x.d, .int .i64 x.ix, .int .i64 x.f1, .int .i64 x.f2, .int .i64 x.f3, .int .i64 x.h1, .int .i64 x.h2] := At.ext (by repeat (first | (with_reducible exact At.new _ _ _) | ((with_reducible refine At.new' _ _ _ _ ?_); simp; done) | (with_reducible assumption) | (with_reducible refine At.drew ?_) | (with_reducible refine At.alloc ?_ _) | (with_reducible apply At.upd) | (with_reducible apply At.setRow) | (with_reducible refine At.rowFar ?_ (by first | (simp; done) | (simp; omega) | omega) _) | ((with_reducible refine At.far ?_ (by first | (simp; done) | (simp; omega) | omega) _)) | (with_reducible rfl) | (simp; done))) hx1
    have e1 := cellsAt_at X1
    have s1 := X1.lt
    go_wp2_with fail
    obtain ⟨w2, hw2⟩ : ∃ w2 : World, w2 = (w1.alloc (.cells #[.bool false, .bool false, .int .i64 0, .bool false] 33)).alloc (.cells #[.bool false, .bool false, .bool false, .bool false] 41) := ⟨_, rfl⟩
    have x2 : Ext w w2 := by rw [hw2]; exact (xw1.alloc _).alloc _
    have X2 : At w2 w.heap.size 27 #[.slice x.A x.l.length x.c, .slice x.B x.t.length x.d, .int .i64 x.ix, .int .i64 x.f1, .int .i64 x.f2, .int .i64 x.f3, .int .i64 x.h1, .int .i64 x.h2] := by rw [hw2]; exact (X1.alloc _).alloc _
    have A2 : At w2 w1.heap.size 33 #[.bool false, .bool false, .int .i64 0, .bool false] := by rw [hw2]; exact (At.new _ _ _).alloc _
    have B2 : At w2 (w1.heap.size + 1) 41 #[.bool false, .bool false, .bool false, .bool false] := by rw [hw2]; exact At.new' _ _ _ _ (by simp)
    rw [← hw2]
    clear hw2 X1 e1
    generalize w1.heap.size = g1 at *
    have hg1 : w.heap.size < g1 := by omega
    go_loopw [9, 10] (fun t i wr => ∃ (k : Nat) (T : Int) (s : Bst) (e1 e2 e3 : Bool), i = .int .i64 k ∧ t = .int .i64 T ∧ k ≤ gs.xs.length ∧ 0 ≤ T ∧ T ≤ k * 1125899906842624 ∧ Ext w wr ∧ At wr w.heap.size 27 #[.slice x.A x.l.length x.c, .slice x.B x.t.length x.d, .int .i64 x.ix, .int .i64 x.f1, .int .i64 x.f2, .int .i64 x.f3, .int .i64 x.h1, .int .i64 x.h2] ∧ At wr g1 33 #[.bool s.u0, .bool s.u1, .int .i64 s.un, .bool s.sh] ∧ At wr (g1 + 1) 41 #[.bool false, .bool e1, .bool e2, .bool e3] ∧ (e1 = true → s.u0 = true) ∧ (e2 = true → s.u1 = true) ∧ (e3 = true → s.sh = true)) (fun _ i _ => gs.xs.length - (intOf i).toNat)
    case atStart => exact ⟨0, 0, ⟨false, false, 0, false⟩, false, false, false, rfl, rfl, by omega, by omega, by omega, x2, X2, A2, B2, by simp, by simp, by simp⟩
    case round =>
      obtain ⟨k, T, ⟨u0, u1, un, sh⟩, e1, e2, e3, rfl, rfl, hk, hT0, hT1, hx, X3, A3, B3, i1, i2, i3⟩ := hrel
      simp only at A3 i1 i2 i3
      by_cases hlt : k < gs.xs.length ∧ k < is.xs.length
      · obtain ⟨hk1, hk2⟩ := hlt
        obtain ⟨b, off, hA, hb, c0, j0⟩ := hg.get k hk1
        obtain ⟨b2, off2, hB, hb2, c1, j1⟩ := hi.get k hk2
        have d0 := (hx.facts.1 _ _ hb).trans c0
        have d1 := (hx.facts.1 _ _ hb2).trans c1
        have hbr : b < wr.heap.size := Nat.lt_of_lt_of_le hb hx.size
        have hbr2 : b2 < wr.heap.size := Nat.lt_of_lt_of_le hb2 hx.size
        generalize gs.xs[k] = G at d0 c0 j0
        generalize is.xs[k] = I at d1 c1 j1
        rw [hA, hB]
        by_cases n1 : G < 0
        · go_wp2_with fail
          refine (alive_c23 _).mono ?_
          rintro e w4 ⟨rfl, hx4⟩
          go_wp2_with fail
          first | refine fin_ret rfl (fun K hK => ?_) | refine fin_norm rfl (fun K hK => ?_)
          simp [results, Try.results4, go_sem, rsat]
          try go_simp
          refine hK _ ?_
          clear hK K
          exact ⟨rfl, hx.trans hx4⟩
        by_cases n2 : 1125899906842624 < G
        · go_wp2_with fail
          refine (alive_c23 _).mono ?_
          rintro e w4 ⟨rfl, hx4⟩
          go_wp2_with fail
          first | refine fin_ret rfl (fun K hK => ?_) | refine fin_norm rfl (fun K hK => ?_)
          simp [results, Try.results4, go_sem, rsat]
          try go_simp
          refine hK _ ?_
          clear hK K
          exact ⟨rfl, hx.trans hx4⟩
        have hTb : T + G ≤ ((k : Int) + 1) * 1125899906842624 := by omega
        have hkb : (k : Int) + 1 ≤ 60 := by omega
        have hTG : 0 ≤ T + G ∧ T + G ≤ 1152921504606846976 := by omega
        have hwT : wrap64 (T + G) = T + G := wrap64_in ⟨by omega, by omega⟩
        have CI := bindex_c x hF ⟨u0, u1, un, sh⟩ (T + G) I hTG j1
        have CS := fun k hk => span_c x k hk
        have CH := halted_c u0 u1 sh un (T + G)
        have eX := cellsAt_at X3
        have sX := X3.lt
        have sA := A3.lt
        have sB := B3.lt
        have c_A3_0 := A3.cell 0
        have f_A3_0 := A3.frozen 0
        simp only [List.getElem?_toArray, List.getElem?_cons_zero, List.getElem?_cons_succ] at c_A3_0
        have c_A3_1 := A3.cell 1
        have f_A3_1 := A3.frozen 1
        simp only [List.getElem?_toArray, List.getElem?_cons_zero, List.getElem?_cons_succ] at c_A3_1
        have c_A3_2 := A3.cell 2
        have f_A3_2 := A3.frozen 2
        simp only [List.getElem?_toArray, List.getElem?_cons_zero, List.getElem?_cons_succ] at c_A3_2
        have c_A3_3 := A3.cell 3
        have f_A3_3 := A3.frozen 3
        simp only [List.getElem?_toArray, List.getElem?_cons_zero, List.getElem?_cons_succ] at c_A3_3
        have s_A3 := A3.lt
        have c_B3_0 := B3.cell 0
        have f_B3_0 := B3.frozen 0
        simp only [List.getElem?_toArray, List.getElem?_cons_zero, List.getElem?_cons_succ] at c_B3_0
        have c_B3_1 := B3.cell 1
        have f_B3_1 := B3.frozen 1
        simp only [List.getElem?_toArray, List.getElem?_cons_zero, List.getElem?_cons_succ] at c_B3_1
        have c_B3_2 := B3.cell 2
        have f_B3_2 := B3.frozen 2
        simp only [List.getElem?_toArray, List.getElem?_cons_zero, List.getElem?_cons_succ] at c_B3_2
        have c_B3_3 := B3.cell 3
        have f_B3_3 := B3.frozen 3
        simp only [List.getElem?_toArray, List.getElem?_cons_zero, List.getElem?_cons_succ] at c_B3_3
        have s_B3 := B3.lt
        have h1h := hF.h1
        have h2h := hF.h2
        rcases idx_cases x ⟨u0, u1, un, sh⟩ (T + G) I with hi0 | ⟨hi0, q1⟩ | ⟨hi0, q1, q2, q3⟩ | ⟨hi0, q1, q2, q3⟩
        · rw [hi0] at CI
          simp only at CI
          have HCI := Lib.hid CI
          clear CI hi0
          cases sh
          ·
            generalize haltedB false un (T + G) = hb0 at CH
            have HCH := Lib.hid CH
            clear CH
            go_wp2_with fail
            refine (HCH.out _).mono ?_
            rintro e w3 ⟨rfl, hx3⟩
            have X4 := X3.ext hx3
            have A4 := A3.ext hx3
            have B4 := B3.ext hx3
            have eX4 := cellsAt_at X4
            have sX4 := X4.lt
            have d14 := (hx3.facts.1 _ _ hbr2).trans d1
            have hb4 := Nat.lt_of_lt_of_le hbr2 hx3.size
            have c_A4_0 := A4.cell 0
            have f_A4_0 := A4.frozen 0
            simp only [List.getElem?_toArray, List.getElem?_cons_zero, List.getElem?_cons_succ] at c_A4_0
            have c_A4_1 := A4.cell 1
            have f_A4_1 := A4.frozen 1
            simp only [List.getElem?_toArray, List.getElem?_cons_zero, List.getElem?_cons_succ] at c_A4_1
            have c_A4_2 := A4.cell 2
            have f_A4_2 := A4.frozen 2
            simp only [List.getElem?_toArray, List.getElem?_cons_zero, List.getElem?_cons_succ] at c_A4_2
            have c_A4_3 := A4.cell 3
            have f_A4_3 := A4.frozen 3
            simp only [List.getElem?_toArray, List.getElem?_cons_zero, List.getElem?_cons_succ] at c_A4_3
            have s_A4 := A4.lt
            have c_B4_0 := B4.cell 0
            have f_B4_0 := B4.frozen 0
            simp only [List.getElem?_toArray, List.getElem?_cons_zero, List.getElem?_cons_succ] at c_B4_0
            have c_B4_1 := B4.cell 1
            have f_B4_1 := B4.frozen 1
            simp only [List.getElem?_toArray, List.getElem?_cons_zero, List.getElem?_cons_succ] at c_B4_1
            have c_B4_2 := B4.cell 2
            have f_B4_2 := B4.frozen 2
            simp only [List.getElem?_toArray, List.getElem?_cons_zero, List.getElem?_cons_succ] at c_B4_2
            have c_B4_3 := B4.cell 3
            have f_B4_3 := B4.frozen 3
            simp only [List.getElem?_toArray, List.getElem?_cons_zero, List.getElem?_cons_succ] at c_B4_3
            have s_B4 := B4.lt
            go_wp2_with fail
            refine wp_region_m 12 [1, 1, 0, 0, 0, 0, 1, 1, 0, 0, 0, 2] 11 (Made w3 33 #[.bool false, .bool false, .int .i64 0, .bool false]) _ (by kernel_rfl) (by kernel_rfl) rfl (by omega) rfl Made.ext ?_
            simp only [List.take_succ_cons, List.take_zero, List.drop_succ_cons, List.drop_zero]
            refine hl_quiet (fun K hK => ?_)
            go_simp
            refine hK _ ?_
            clear hK K
            refine hl_quiet (fun K hK => ?_)
            go_simp
            refine hK _ ?_
            clear hK K
            refine hl_pure (fun K hK => ?_)
            go_simp
            refine hK _ ?_
            clear hK K
            refine hl_pure (fun K hK => ?_)
            go_simp
            refine hK _ ?_
            clear hK K
            refine hl_pure (fun K hK => ?_)
            go_simp
            refine hK _ ?_
            clear hK K
            refine hl_pure (fun K hK => ?_)
            go_simp
            refine hK _ ?_
            clear hK K
            refine hl_quiet (fun K hK => ?_)
            go_simp
            refine hK _ ?_
            clear hK K
            refine hl_quiet (fun K hK => ?_)
            go_simp
            first
              | (refine hK _ ?_; clear hK K)
              | (apply Exists.intro; refine ⟨fun x => ?_, hK _ ?_⟩
                 · (exact HCI.out _)
                 clear hK K)
            refine hl_pure (fun K hK => ?_)
            go_simp
            refine hK _ ?_
            clear hK K
            refine hl_pure (fun K hK => ?_)
            go_simp
            refine hK _ ?_
            clear hK K
            refine hl_pure (fun K hK => ?_)
            go_simp
            refine hK _ ?_
            clear hK K
            refine hl_make rfl (fun x => by go_simp; exact Later.made x _ _) ?_
            refine hl_nil ?_
            intro uw4 w4 hx4 hu4 K hK
            obtain ⟨g4, rfl, hg4, hA4⟩ := hu4
            have sg4 := hA4.lt
            have c_hA4_0 := hA4.cell 0
            have f_hA4_0 := hA4.frozen 0
            simp only [List.getElem?_toArray, List.getElem?_cons_zero, List.getElem?_cons_succ] at c_hA4_0
            have c_hA4_1 := hA4.cell 1
            have f_hA4_1 := hA4.frozen 1
            simp only [List.getElem?_toArray, List.getElem?_cons_zero, List.getElem?_cons_succ] at c_hA4_1
            have c_hA4_2 := hA4.cell 2
            have f_hA4_2 := hA4.frozen 2
            simp only [List.getElem?_toArray, List.getElem?_cons_zero, List.getElem?_cons_succ] at c_hA4_2
            have c_hA4_3 := hA4.cell 3
            have f_hA4_3 := hA4.frozen 3
            simp only [List.getElem?_toArray, List.getElem?_cons_zero, List.getElem?_cons_succ] at c_hA4_3
            have s_hA4 := hA4.lt
            go_wp2_with fail
            refine gen_world (fun W => Ext w3 W ∧ At W g4 33 #[.bool u0, .bool u1, .int .i64 un, .bool false]) ⟨(((hx4.setCell hg4 _).setCell hg4 _).setCell hg4 _).setCell hg4 _, (((hA4.set 0 _).set 1 _).set 2 _).set 3 _⟩ (fun w5 hF5 => ?_)
            obtain ⟨x5, P5⟩ := hF5
            clear hA4 hx4 c_hA4_0 c_hA4_1 c_hA4_2 c_hA4_3 f_hA4_0 f_hA4_1 f_hA4_2 f_hA4_3 s_hA4 sg4
            have X5 := X4.ext x5
            have A5 := A4.ext x5
            have B5 := B4.ext x5
            have e5 := cellsAt_at X5
            have s5 := X5.lt
            have c_A5_0 := A5.cell 0
            have f_A5_0 := A5.frozen 0
            simp only [List.getElem?_toArray, List.getElem?_cons_zero, List.getElem?_cons_succ] at c_A5_0
            have c_A5_1 := A5.cell 1
            have f_A5_1 := A5.frozen 1
            simp only [List.getElem?_toArray, List.getElem?_cons_zero, List.getElem?_cons_succ] at c_A5_1
            have c_A5_2 := A5.cell 2
            have f_A5_2 := A5.frozen 2
            simp only [List.getElem?_toArray, List.getElem?_cons_zero, List.getElem?_cons_succ] at c_A5_2
            have c_A5_3 := A5.cell 3
            have f_A5_3 := A5.frozen 3
            simp only [List.getElem?_toArray, List.getElem?_cons_zero, List.getElem?_cons_succ] at c_A5_3
            have s_A5 := A5.lt
            have c_B5_0 := B5.cell 0
            have f_B5_0 := B5.frozen 0
            simp only [List.getElem?_toArray, List.getElem?_cons_zero, List.getElem?_cons_succ] at c_B5_0
            have c_B5_1 := B5.cell 1
            have f_B5_1 := B5.frozen 1
            simp only [List.getElem?_toArray, List.getElem?_cons_zero, List.getElem?_cons_succ] at c_B5_1
            have c_B5_2 := B5.cell 2
            have f_B5_2 := B5.frozen 2
            simp only [List.getElem?_toArray, List.getElem?_cons_zero, List.getElem?_cons_succ] at c_B5_2
            have c_B5_3 := B5.cell 3
            have f_B5_3 := B5.frozen 3
            simp only [List.getElem?_toArray, List.getElem?_cons_zero, List.getElem?_cons_succ] at c_B5_3
            have s_B5 := B5.lt
            have c_P5_0 := P5.cell 0
            have f_P5_0 := P5.frozen 0
            simp only [List.getElem?_toArray, List.getElem?_cons_zero, List.getElem?_cons_succ] at c_P5_0
            have c_P5_1 := P5.cell 1
            have f_P5_1 := P5.frozen 1
            simp only [List.getElem?_toArray, List.getElem?_cons_zero, List.getElem?_cons_succ] at c_P5_1
            have c_P5_2 := P5.cell 2
            have f_P5_2 := P5.frozen 2
            simp only [List.getElem?_toArray, List.getElem?_cons_zero, List.getElem?_cons_succ] at c_P5_2
            have c_P5_3 := P5.cell 3
            have f_P5_3 := P5.frozen 3
            simp only [List.getElem?_toArray, List.getElem?_cons_zero, List.getElem?_cons_succ] at c_P5_3
            have s_P5 := P5.lt
            refine wp_region_x 65 [0, 0, 0, 0, 0, 0, 0, 0, 0, 0, 0, 0, 1, 0, 0, 1, 0, 0, 0, 0, 0, 0, 0, 0, 0, 0, 0, 0, 0, 0, 1, 1, 0, 0, 0, 0, 0, 0, 0, 0, 0, 0, 0, 0, 1, 0, 1, 0, 1, 0, 0, 0, 0, 0, 0, 0, 0, 1, 0, 0, 1, 0, 0, 0, 0] (by kernel_rfl) (by kernel_rfl) (by kernel_rfl) ?_
            simp only [List.take_succ_cons, List.take_zero, List.drop_succ_cons, List.drop_zero]
            refine hl_pure (fun K hK => ?_)
            go_simp
            refine hK _ ?_
            clear hK K
            refine hl_pure (fun K hK => ?_)
            go_simp
            refine hK _ ?_
            clear hK K
            refine hl_pure (fun K hK => ?_)
            go_simp
            refine hK _ ?_
            clear hK K
            refine hl_pure (fun K hK => ?_)
            go_simp
            refine hK _ ?_
            clear hK K
            refine hl_pure (fun K hK => ?_)
            go_simp
            refine hK _ ?_
            clear hK K
            refine hl_pure (fun K hK => ?_)
            go_simp
            refine hK _ ?_
            clear hK K
            refine hl_pure (fun K hK => ?_)
            go_simp
            refine hK _ ?_
            clear hK K
            refine hl_pure (fun K hK => ?_)
            go_simp
            refine hK _ ?_
            clear hK K
            refine hl_pure (fun K hK => ?_)
            go_simp
            refine hK _ ?_
            clear hK K
            refine hl_pure (fun K hK => ?_)
            go_simp
            refine hK _ ?_
            clear hK K
            refine hl_pure (fun K hK => ?_)
            go_simp
            refine hK _ ?_
            clear hK K
            refine hl_pure (fun K hK => ?_)
            go_simp
            refine hK _ ?_
            clear hK K
            refine hl_quiet (fun K hK => ?_)
            go_simp
            refine hK _ ?_
            clear hK K
            refine hl_pure (fun K hK => ?_)
            go_simp
            refine hK _ ?_
            clear hK K
            refine hl_pure (fun K hK => ?_)
            go_simp
            refine hK _ ?_
            clear hK K
            refine hl_quiet (fun K hK => ?_)
            go_simp
            refine hK _ ?_
            clear hK K
            refine hl_pure (fun K hK => ?_)
            go_simp
            refine hK _ ?_
            clear hK K
            refine hl_pure (fun K hK => ?_)
            go_simp
            refine hK _ ?_
            clear hK K
            refine hl_pure (fun K hK => ?_)
            go_simp
            refine hK _ ?_
            clear hK K
            refine hl_pure (fun K hK => ?_)
            go_simp
            refine hK _ ?_
            clear hK K
            refine hl_pure (fun K hK => ?_)
            go_simp
            refine hK _ ?_
            clear hK K
            refine hl_pure (fun K hK => ?_)
            go_simp
            refine hK _ ?_
            clear hK K
            refine hl_pure (fun K hK => ?_)
            go_simp
            refine hK _ ?_
            clear hK K
            refine hl_pure (fun K hK => ?_)
            go_simp
            refine hK _ ?_
            clear hK K
            refine hl_pure (fun K hK => ?_)
            go_simp
            refine hK _ ?_
            clear hK K
            refine hl_pure (fun K hK => ?_)
            go_simp
            refine hK _ ?_
            clear hK K
            refine hl_pure (fun K hK => ?_)
            go_simp
            refine hK _ ?_
            clear hK K
            refine hl_pure (fun K hK => ?_)
            go_simp
            refine hK _ ?_
            clear hK K
            refine hl_pure (fun K hK => ?_)
            go_simp
            refine hK _ ?_
            clear hK K
            refine hl_pure (fun K hK => ?_)
            go_simp
            refine hK _ ?_
            clear hK K
            refine hl_quiet (fun K hK => ?_)
            go_simp
            refine hK _ ?_
            clear hK K
            refine hl_quiet (fun K hK => ?_)
            go_simp
            refine hK _ ?_
            clear hK K
            refine hl_pure (fun K hK => ?_)
            go_simp
            refine hK _ ?_
            clear hK K
            refine hl_pure (fun K hK => ?_)
            go_simp
            refine hK _ ?_
            clear hK K
            refine hl_pure (fun K hK => ?_)
            go_simp
            refine hK _ ?_
            clear hK K
            refine hl_pure (fun K hK => ?_)
            go_simp
            refine hK _ ?_
            clear hK K
            refine hl_pure (fun K hK => ?_)
            go_simp
            refine hK _ ?_
            clear hK K
            refine hl_pure (fun K hK => ?_)
            go_simp
            refine hK _ ?_
            clear hK K
            refine hl_pure (fun K hK => ?_)
            go_simp
            refine hK _ ?_
            clear hK K
            refine hl_pure (fun K hK => ?_)
            go_simp
            refine hK _ ?_
            clear hK K
            refine hl_pure (fun K hK => ?_)
            go_simp
            refine hK _ ?_
            clear hK K
            refine hl_pure (fun K hK => ?_)
            go_simp
            refine hK _ ?_
            clear hK K
            refine hl_pure (fun K hK => ?_)
            go_simp
            refine hK _ ?_
            clear hK K
            refine hl_pure (fun K hK => ?_)
            go_simp
            refine hK _ ?_
            clear hK K
            refine hl_quiet (fun K hK => ?_)
            go_simp
            refine hK _ ?_
            clear hK K
            refine hl_pure (fun K hK => ?_)
            go_simp
            refine hK _ ?_
            clear hK K
            refine hl_quiet (fun K hK => ?_)
            go_simp
            refine hK _ ?_
            clear hK K
            refine hl_pure (fun K hK => ?_)
            go_simp
            refine hK _ ?_
            clear hK K
            refine hl_quiet (fun K hK => ?_)
            go_simp
            first
              | (refine hK _ ?_; clear hK K)
              | (apply Exists.intro; refine ⟨fun x => ?_, hK _ ?_⟩
                 · (exact CS _ (by decide) _)
                 clear hK K)
            refine hl_pure (fun K hK => ?_)
            go_simp
            refine hK _ ?_
            clear hK K
            refine hl_pure (fun K hK => ?_)
            go_simp
            refine hK _ ?_
            clear hK K
            refine hl_pure (fun K hK => ?_)
            go_simp
            refine hK _ ?_
            clear hK K
            refine hl_pure (fun K hK => ?_)
            go_simp
            refine hK _ ?_
            clear hK K
            refine hl_pure (fun K hK => ?_)
            go_simp
            refine hK _ ?_
            clear hK K
            refine hl_pure (fun K hK => ?_)
            go_simp
            refine hK _ ?_
            clear hK K
            refine hl_pure (fun K hK => ?_)
            go_simp
            refine hK _ ?_
            clear hK K
            refine hl_pure (fun K hK => ?_)
            go_simp
            refine hK _ ?_
            clear hK K
            refine hl_quiet (fun K hK => ?_)
            go_simp
            refine hK _ ?_
            clear hK K
            refine hl_pure (fun K hK => ?_)
            go_simp
            refine hK _ ?_
            clear hK K
            refine hl_pure (fun K hK => ?_)
            go_simp
            refine hK _ ?_
            clear hK K
            refine hl_quiet (fun K hK => ?_)
            go_simp
            refine hK _ ?_
            clear hK K
            refine hl_pure (fun K hK => ?_)
            go_simp
            refine hK _ ?_
            clear hK K
            refine hl_pure (fun K hK => ?_)
            go_simp
            refine hK _ ?_
            clear hK K
            refine hl_pure (fun K hK => ?_)
            go_simp
            refine hK _ ?_
            clear hK K
            refine hl_pure (fun K hK => ?_)
            go_simp
            refine hK _ ?_
            clear hK K
            refine hl_nil ?_
            intro w6 x6 K6 hK6
            have y6 := x5.trans x6
            have X6 := X4.ext y6
            have A6 := A4.ext y6
            have B6 := B4.ext y6
            have P6 := P5.ext x6
            have z6 := hx.trans (hx3.trans y6)
            have q1 : w.heap.size ≤ g1 := by omega
            have q2 : w.heap.size ≤ g1 + 1 := by omega
            have r1 : w.heap.size ≠ g1 := by omega
            have r2 : w.heap.size ≠ g1 + 1 := by omega
            have r3 : g1 ≠ g1 + 1 := by omega
            have r4 : g1 + 1 ≠ g1 := by omega
            have n48 : g4 ≠ g1 := by have := hx3.size; omega
            have n49 : g4 ≠ g1 + 1 := by have := hx3.size; omega
            have c_A6_0 := A6.cell 0
            have f_A6_0 := A6.frozen 0
            simp only [List.getElem?_toArray, List.getElem?_cons_zero, List.getElem?_cons_succ] at c_A6_0
            have c_A6_1 := A6.cell 1
            have f_A6_1 := A6.frozen 1
            simp only [List.getElem?_toArray, List.getElem?_cons_zero, List.getElem?_cons_succ] at c_A6_1
            have c_A6_2 := A6.cell 2
            have f_A6_2 := A6.frozen 2
            simp only [List.getElem?_toArray, List.getElem?_cons_zero, List.getElem?_cons_succ] at c_A6_2
            have c_A6_3 := A6.cell 3
            have f_A6_3 := A6.frozen 3
            simp only [List.getElem?_toArray, List.getElem?_cons_zero, List.getElem?_cons_succ] at c_A6_3
            have s_A6 := A6.lt
            have c_B6_0 := B6.cell 0
            have f_B6_0 := B6.frozen 0
            simp only [List.getElem?_toArray, List.getElem?_cons_zero, List.getElem?_cons_succ] at c_B6_0
            have c_B6_1 := B6.cell 1
            have f_B6_1 := B6.frozen 1
            simp only [List.getElem?_toArray, List.getElem?_cons_zero, List.getElem?_cons_succ] at c_B6_1
            have c_B6_2 := B6.cell 2
            have f_B6_2 := B6.frozen 2
            simp only [List.getElem?_toArray, List.getElem?_cons_zero, List.getElem?_cons_succ] at c_B6_2
            have c_B6_3 := B6.cell 3
            have f_B6_3 := B6.frozen 3
            simp only [List.getElem?_toArray, List.getElem?_cons_zero, List.getElem?_cons_succ] at c_B6_3
            have s_B6 := B6.lt
            have c_P6_0 := P6.cell 0
            have f_P6_0 := P6.frozen 0
            simp only [List.getElem?_toArray, List.getElem?_cons_zero, List.getElem?_cons_succ] at c_P6_0
            have c_P6_1 := P6.cell 1
            have f_P6_1 := P6.frozen 1
            simp only [List.getElem?_toArray, List.getElem?_cons_zero, List.getElem?_cons_succ] at c_P6_1
            have c_P6_2 := P6.cell 2
            have f_P6_2 := P6.frozen 2
            simp only [List.getElem?_toArray, List.getElem?_cons_zero, List.getElem?_cons_succ] at c_P6_2
            have c_P6_3 := P6.cell 3
            have f_P6_3 := P6.frozen 3
            simp only [List.getElem?_toArray, List.getElem?_cons_zero, List.getElem?_cons_succ] at c_P6_3
            have s_P6 := P6.lt
            refine wpList_nil (hK6 _ _ ?_)
            go_wp2_with fail
            go_roundw
            case rel => exact ⟨k + 1, T + G, ⟨u0, u1, un, false⟩, e1, e2, e3, by go_num, rfl, by omega, by omega, by omega, ((((z6.setCell q1 _).setCell q1 _).setCell q1 _).setCell q1 _), ((((X6.far r1 _).far r1 _).far r1 _).far r1 _), ((((A6.set 0 _).set 1 _).set 2 _).set 3 _), ((((B6.far r4 _).far r4 _).far r4 _).far r4 _), i1, i2, i3⟩
            case measure => simp [intOf]; omega
          ·
            generalize haltedB true un (T + G) = hb0 at CH
            have HCH := Lib.hid CH
            clear CH
            go_wp2_with fail
            refine (HCH.out _).mono ?_
            rintro e w3 ⟨rfl, hx3⟩
            have X4 := X3.ext hx3
            have A4 := A3.ext hx3
            have B4 := B3.ext hx3
            have eX4 := cellsAt_at X4
            have sX4 := X4.lt
            have d14 := (hx3.facts.1 _ _ hbr2).trans d1
            have hb4 := Nat.lt_of_lt_of_le hbr2 hx3.size
            have c_A4_0 := A4.cell 0
            have f_A4_0 := A4.frozen 0
            simp only [List.getElem?_toArray, List.getElem?_cons_zero, List.getElem?_cons_succ] at c_A4_0
            have c_A4_1 := A4.cell 1
            have f_A4_1 := A4.frozen 1
            simp only [List.getElem?_toArray, List.getElem?_cons_zero, List.getElem?_cons_succ] at c_A4_1
            have c_A4_2 := A4.cell 2
            have f_A4_2 := A4.frozen 2
            simp only [List.getElem?_toArray, List.getElem?_cons_zero, List.getElem?_cons_succ] at c_A4_2
            have c_A4_3 := A4.cell 3
            have f_A4_3 := A4.frozen 3
            simp only [List.getElem?_toArray, List.getElem?_cons_zero, List.getElem?_cons_succ] at c_A4_3
            have s_A4 := A4.lt
            have c_B4_0 := B4.cell 0
            have f_B4_0 := B4.frozen 0
            simp only [List.getElem?_toArray, List.getElem?_cons_zero, List.getElem?_cons_succ] at c_B4_0
            have c_B4_1 := B4.cell 1
            have f_B4_1 := B4.frozen 1
            simp only [List.getElem?_toArray, List.getElem?_cons_zero, List.getElem?_cons_succ] at c_B4_1
            have c_B4_2 := B4.cell 2
            have f_B4_2 := B4.frozen 2
            simp only [List.getElem?_toArray, List.getElem?_cons_zero, List.getElem?_cons_succ] at c_B4_2
            have c_B4_3 := B4.cell 3
            have f_B4_3 := B4.frozen 3
            simp only [List.getElem?_toArray, List.getElem?_cons_zero, List.getElem?_cons_succ] at c_B4_3
            have s_B4 := B4.lt
            go_wp2_with fail
            refine wp_region_m 12 [1, 1, 0, 0, 0, 0, 1, 1, 0, 0, 0, 2] 11 (Made w3 33 #[.bool false, .bool false, .int .i64 0, .bool false]) _ (by kernel_rfl) (by kernel_rfl) rfl (by omega) rfl Made.ext ?_
            simp only [List.take_succ_cons, List.take_zero, List.drop_succ_cons, List.drop_zero]
            refine hl_quiet (fun K hK => ?_)
            go_simp
            refine hK _ ?_
            clear hK K
            refine hl_quiet (fun K hK => ?_)
            go_simp
            refine hK _ ?_
            clear hK K
            refine hl_pure (fun K hK => ?_)
            go_simp
            refine hK _ ?_
            clear hK K
            refine hl_pure (fun K hK => ?_)
            go_simp
            refine hK _ ?_
            clear hK K
            refine hl_pure (fun K hK => ?_)
            go_simp
            refine hK _ ?_
            clear hK K
            refine hl_pure (fun K hK => ?_)
            go_simp
            refine hK _ ?_
            clear hK K
            refine hl_quiet (fun K hK => ?_)
            go_simp
            refine hK _ ?_
            clear hK K
            refine hl_quiet (fun K hK => ?_)
            go_simp
            first
              | (refine hK _ ?_; clear hK K)
              | (apply Exists.intro; refine ⟨fun x => ?_, hK _ ?_⟩
                 · (exact HCI.out _)
                 clear hK K)
            refine hl_pure (fun K hK => ?_)
            go_simp
            refine hK _ ?_
            clear hK K
            refine hl_pure (fun K hK => ?_)
            go_simp
            refine hK _ ?_
            clear hK K
            refine hl_pure (fun K hK => ?_)
            go_simp
            refine hK _ ?_
            clear hK K
            refine hl_make rfl (fun x => by go_simp; exact Later.made x _ _) ?_
            refine hl_nil ?_
            intro uw4 w4 hx4 hu4 K hK
            obtain ⟨g4, rfl, hg4, hA4⟩ := hu4
            have sg4 := hA4.lt
            have c_hA4_0 := hA4.cell 0
            have f_hA4_0 := hA4.frozen 0
            simp only [List.getElem?_toArray, List.getElem?_cons_zero, List.getElem?_cons_succ] at c_hA4_0
            have c_hA4_1 := hA4.cell 1
            have f_hA4_1 := hA4.frozen 1
            simp only [List.getElem?_toArray, List.getElem?_cons_zero, List.getElem?_cons_succ] at c_hA4_1
            have c_hA4_2 := hA4.cell 2
            have f_hA4_2 := hA4.frozen 2
            simp only [List.getElem?_toArray, List.getElem?_cons_zero, List.getElem?_cons_succ] at c_hA4_2
            have c_hA4_3 := hA4.cell 3
            have f_hA4_3 := hA4.frozen 3
            simp only [List.getElem?_toArray, List.getElem?_cons_zero, List.getElem?_cons_succ] at c_hA4_3
            have s_hA4 := hA4.lt
            go_wp2_with fail
            refine gen_world (fun W => Ext w3 W ∧ At W g4 33 #[.bool u0, .bool u1, .int .i64 un, .bool true]) ⟨(((hx4.setCell hg4 _).setCell hg4 _).setCell hg4 _).setCell hg4 _, (((hA4.set 0 _).set 1 _).set 2 _).set 3 _⟩ (fun w5 hF5 => ?_)
            obtain ⟨x5, P5⟩ := hF5
            clear hA4 hx4 c_hA4_0 c_hA4_1 c_hA4_2 c_hA4_3 f_hA4_0 f_hA4_1 f_hA4_2 f_hA4_3 s_hA4 sg4
            have X5 := X4.ext x5
            have A5 := A4.ext x5
            have B5 := B4.ext x5
            have e5 := cellsAt_at X5
            have s5 := X5.lt
            have c_A5_0 := A5.cell 0
            have f_A5_0 := A5.frozen 0
            simp only [List.getElem?_toArray, List.getElem?_cons_zero, List.getElem?_cons_succ] at c_A5_0
            have c_A5_1 := A5.cell 1
            have f_A5_1 := A5.frozen 1
            simp only [List.getElem?_toArray, List.getElem?_cons_zero, List.getElem?_cons_succ] at c_A5_1
            have c_A5_2 := A5.cell 2
            have f_A5_2 := A5.frozen 2
            simp only [List.getElem?_toArray, List.getElem?_cons_zero, List.getElem?_cons_succ] at c_A5_2
            have c_A5_3 := A5.cell 3
            have f_A5_3 := A5.frozen 3
            simp only [List.getElem?_toArray, List.getElem?_cons_zero, List.getElem?_cons_succ] at c_A5_3
            have s_A5 := A5.lt
            have c_B5_0 := B5.cell 0
            have f_B5_0 := B5.frozen 0
            simp only [List.getElem?_toArray, List.getElem?_cons_zero, List.getElem?_cons_succ] at c_B5_0
            have c_B5_1 := B5.cell 1
            have f_B5_1 := B5.frozen 1
            simp only [List.getElem?_toArray, List.getElem?_cons_zero, List.getElem?_cons_succ] at c_B5_1
            have c_B5_2 := B5.cell 2
            have f_B5_2 := B5.frozen 2
            simp only [List.getElem?_toArray, List.getElem?_cons_zero, List.getElem?_cons_succ] at c_B5_2
            have c_B5_3 := B5.cell 3
            have f_B5_3 := B5.frozen 3
            simp only [List.getElem?_toArray, List.getElem?_cons_zero, List.getElem?_cons_succ] at c_B5_3
            have s_B5 := B5.lt
            have c_P5_0 := P5.cell 0
            have f_P5_0 := P5.frozen 0
            simp only [List.getElem?_toArray, List.getElem?_cons_zero, List.getElem?_cons_succ] at c_P5_0
            have c_P5_1 := P5.cell 1
            have f_P5_1 := P5.frozen 1
            simp only [List.getElem?_toArray, List.getElem?_cons_zero, List.getElem?_cons_succ] at c_P5_1
            have c_P5_2 := P5.cell 2
            have f_P5_2 := P5.frozen 2
            simp only [List.getElem?_toArray, List.getElem?_cons_zero, List.getElem?_cons_succ] at c_P5_2
            have c_P5_3 := P5.cell 3
            have f_P5_3 := P5.frozen 3
            simp only [List.getElem?_toArray, List.getElem?_cons_zero, List.getElem?_cons_succ] at c_P5_3
            have s_P5 := P5.lt
            refine wp_region_x 65 [0, 0, 0, 0, 0, 0, 0, 0, 0, 0, 0, 0, 1, 0, 0, 1, 0, 0, 0, 0, 0, 0, 0, 0, 0, 0, 0, 0, 0, 0, 1, 1, 0, 0, 0, 0, 0, 0, 0, 0, 0, 0, 0, 0, 1, 0, 1, 0, 1, 0, 0, 0, 0, 0, 0, 0, 0, 1, 0, 0, 1, 0, 0, 0, 0] (by kernel_rfl) (by kernel_rfl) (by kernel_rfl) ?_
            simp only [List.take_succ_cons, List.take_zero, List.drop_succ_cons, List.drop_zero]
            refine hl_pure (fun K hK => ?_)
            go_simp
            refine hK _ ?_
            clear hK K
            refine hl_pure (fun K hK => ?_)
            go_simp
            refine hK _ ?_
            clear hK K
            refine hl_pure (fun K hK => ?_)
            go_simp
            refine hK _ ?_
            clear hK K
            refine hl_pure (fun K hK => ?_)
            go_simp
            refine hK _ ?_
            clear hK K
            refine hl_pure (fun K hK => ?_)
            go_simp
            refine hK _ ?_
            clear hK K
            refine hl_pure (fun K hK => ?_)
            go_simp
            refine hK _ ?_
            clear hK K
            refine hl_pure (fun K hK => ?_)
            go_simp
            refine hK _ ?_
            clear hK K
            refine hl_pure (fun K hK => ?_)
            go_simp
            refine hK _ ?_
            clear hK K
            refine hl_pure (fun K hK => ?_)
            go_simp
            refine hK _ ?_
            clear hK K
            refine hl_pure (fun K hK => ?_)
            go_simp
            refine hK _ ?_
            clear hK K
            refine hl_pure (fun K hK => ?_)
            go_simp
            refine hK _ ?_
            clear hK K
            refine hl_pure (fun K hK => ?_)
            go_simp
            refine hK _ ?_
            clear hK K
            refine hl_quiet (fun K hK => ?_)
            go_simp
            refine hK _ ?_
            clear hK K
            refine hl_pure (fun K hK => ?_)
            go_simp
            refine hK _ ?_
            clear hK K
            refine hl_pure (fun K hK => ?_)
            go_simp
            refine hK _ ?_
            clear hK K
            refine hl_quiet (fun K hK => ?_)
            go_simp
            refine hK _ ?_
            clear hK K
            refine hl_pure (fun K hK => ?_)
            go_simp
            refine hK _ ?_
            clear hK K
            refine hl_pure (fun K hK => ?_)
            go_simp
            refine hK _ ?_
            clear hK K
            refine hl_pure (fun K hK => ?_)
            go_simp
            refine hK _ ?_
            clear hK K
            refine hl_pure (fun K hK => ?_)
            go_simp
            refine hK _ ?_
            clear hK K
            refine hl_pure (fun K hK => ?_)
            go_simp
            refine hK _ ?_
            clear hK K
            refine hl_pure (fun K hK => ?_)
            go_simp
            refine hK _ ?_
            clear hK K
            refine hl_pure (fun K hK => ?_)
            go_simp
            refine hK _ ?_
            clear hK K
            refine hl_pure (fun K hK => ?_)
            go_simp
            refine hK _ ?_
            clear hK K
            refine hl_pure (fun K hK => ?_)
            go_simp
            refine hK _ ?_
            clear hK K
            refine hl_pure (fun K hK => ?_)
            go_simp
            refine hK _ ?_
            clear hK K
            refine hl_pure (fun K hK => ?_)
            go_simp
            refine hK _ ?_
            clear hK K
            refine hl_pure (fun K hK => ?_)
            go_simp
            refine hK _ ?_
            clear hK K
            refine hl_pure (fun K hK => ?_)
            go_simp
            refine hK _ ?_
            clear hK K
            refine hl_pure (fun K hK => ?_)
            go_simp
            refine hK _ ?_
            clear hK K
            refine hl_quiet (fun K hK => ?_)
            go_simp
            refine hK _ ?_
            clear hK K
            refine hl_quiet (fun K hK => ?_)
            go_simp
            refine hK _ ?_
            clear hK K
            refine hl_pure (fun K hK => ?_)
            go_simp
            refine hK _ ?_
            clear hK K
            refine hl_pure (fun K hK => ?_)
            go_simp
            refine hK _ ?_
            clear hK K
            refine hl_pure (fun K hK => ?_)
            go_simp
            refine hK _ ?_
            clear hK K
            refine hl_pure (fun K hK => ?_)
            go_simp
            refine hK _ ?_
            clear hK K
            refine hl_pure (fun K hK => ?_)
            go_simp
            refine hK _ ?_
            clear hK K
            refine hl_pure (fun K hK => ?_)
            go_simp
            refine hK _ ?_
            clear hK K
            refine hl_pure (fun K hK => ?_)
            go_simp
            refine hK _ ?_
            clear hK K
            refine hl_pure (fun K hK => ?_)
            go_simp
            refine hK _ ?_
            clear hK K
            refine hl_pure (fun K hK => ?_)
            go_simp
            refine hK _ ?_
            clear hK K
            refine hl_pure (fun K hK => ?_)
            go_simp
            refine hK _ ?_
            clear hK K
            refine hl_pure (fun K hK => ?_)
            go_simp
            refine hK _ ?_
            clear hK K
            refine hl_pure (fun K hK => ?_)
            go_simp
            refine hK _ ?_
            clear hK K
            refine hl_quiet (fun K hK => ?_)
            go_simp
            refine hK _ ?_
            clear hK K
            refine hl_pure (fun K hK => ?_)
            go_simp
            refine hK _ ?_
            clear hK K
            refine hl_quiet (fun K hK => ?_)
            go_simp
            refine hK _ ?_
            clear hK K
            refine hl_pure (fun K hK => ?_)
            go_simp
            refine hK _ ?_
            clear hK K
            refine hl_quiet (fun K hK => ?_)
            go_simp
            first
              | (refine hK _ ?_; clear hK K)
              | (apply Exists.intro; refine ⟨fun x => ?_, hK _ ?_⟩
                 · (exact CS _ (by decide) _)
                 clear hK K)
            refine hl_pure (fun K hK => ?_)
            go_simp
            refine hK _ ?_
            clear hK K
            refine hl_pure (fun K hK => ?_)
            go_simp
            refine hK _ ?_
            clear hK K
            refine hl_pure (fun K hK => ?_)
            go_simp
            refine hK _ ?_
            clear hK K
            refine hl_pure (fun K hK => ?_)
            go_simp
            refine hK _ ?_
            clear hK K
            refine hl_pure (fun K hK => ?_)
            go_simp
            refine hK _ ?_
            clear hK K
            refine hl_pure (fun K hK => ?_)
            go_simp
            refine hK _ ?_
            clear hK K
            refine hl_pure (fun K hK => ?_)
            go_simp
            refine hK _ ?_
            clear hK K
            refine hl_pure (fun K hK => ?_)
            go_simp
            refine hK _ ?_
            clear hK K
            refine hl_quiet (fun K hK => ?_)
            go_simp
            refine hK _ ?_
            clear hK K
            refine hl_pure (fun K hK => ?_)
            go_simp
            refine hK _ ?_
            clear hK K
            refine hl_pure (fun K hK => ?_)
            go_simp
            refine hK _ ?_
            clear hK K
            refine hl_quiet (fun K hK => ?_)
            go_simp
            refine hK _ ?_
            clear hK K
            refine hl_pure (fun K hK => ?_)
            go_simp
            refine hK _ ?_
            clear hK K
            refine hl_pure (fun K hK => ?_)
            go_simp
            refine hK _ ?_
            clear hK K
            refine hl_pure (fun K hK => ?_)
            go_simp
            refine hK _ ?_
            clear hK K
            refine hl_pure (fun K hK => ?_)
            go_simp
            refine hK _ ?_
            clear hK K
            refine hl_nil ?_
            intro w6 x6 K6 hK6
            have y6 := x5.trans x6
            have X6 := X4.ext y6
            have A6 := A4.ext y6
            have B6 := B4.ext y6
            have P6 := P5.ext x6
            have z6 := hx.trans (hx3.trans y6)
            have q1 : w.heap.size ≤ g1 := by omega
            have q2 : w.heap.size ≤ g1 + 1 := by omega
            have r1 : w.heap.size ≠ g1 := by omega
            have r2 : w.heap.size ≠ g1 + 1 := by omega
            have r3 : g1 ≠ g1 + 1 := by omega
            have r4 : g1 + 1 ≠ g1 := by omega
            have n48 : g4 ≠ g1 := by have := hx3.size; omega
            have n49 : g4 ≠ g1 + 1 := by have := hx3.size; omega
            have c_A6_0 := A6.cell 0
            have f_A6_0 := A6.frozen 0
            simp only [List.getElem?_toArray, List.getElem?_cons_zero, List.getElem?_cons_succ] at c_A6_0
            have c_A6_1 := A6.cell 1
            have f_A6_1 := A6.frozen 1
            simp only [List.getElem?_toArray, List.getElem?_cons_zero, List.getElem?_cons_succ] at c_A6_1
            have c_A6_2 := A6.cell 2
            have f_A6_2 := A6.frozen 2
            simp only [List.getElem?_toArray, List.getElem?_cons_zero, List.getElem?_cons_succ] at c_A6_2
            have c_A6_3 := A6.cell 3
            have f_A6_3 := A6.frozen 3
            simp only [List.getElem?_toArray, List.getElem?_cons_zero, List.getElem?_cons_succ] at c_A6_3
            have s_A6 := A6.lt
            have c_B6_0 := B6.cell 0
            have f_B6_0 := B6.frozen 0
            simp only [List.getElem?_toArray, List.getElem?_cons_zero, List.getElem?_cons_succ] at c_B6_0
            have c_B6_1 := B6.cell 1
            have f_B6_1 := B6.frozen 1
            simp only [List.getElem?_toArray, List.getElem?_cons_zero, List.getElem?_cons_succ] at c_B6_1
            have c_B6_2 := B6.cell 2
            have f_B6_2 := B6.frozen 2
            simp only [List.getElem?_toArray, List.getElem?_cons_zero, List.getElem?_cons_succ] at c_B6_2
            have c_B6_3 := B6.cell 3
            have f_B6_3 := B6.frozen 3
            simp only [List.getElem?_toArray, List.getElem?_cons_zero, List.getElem?_cons_succ] at c_B6_3
            have s_B6 := B6.lt
            have c_P6_0 := P6.cell 0
            have f_P6_0 := P6.frozen 0
            simp only [List.getElem?_toArray, List.getElem?_cons_zero, List.getElem?_cons_succ] at c_P6_0
            have c_P6_1 := P6.cell 1
            have f_P6_1 := P6.frozen 1
            simp only [List.getElem?_toArray, List.getElem?_cons_zero, List.getElem?_cons_succ] at c_P6_1
            have c_P6_2 := P6.cell 2
            have f_P6_2 := P6.frozen 2
            simp only [List.getElem?_toArray, List.getElem?_cons_zero, List.getElem?_cons_succ] at c_P6_2
            have c_P6_3 := P6.cell 3
            have f_P6_3 := P6.frozen 3
            simp only [List.getElem?_toArray, List.getElem?_cons_zero, List.getElem?_cons_succ] at c_P6_3
            have s_P6 := P6.lt
            refine wpList_nil (hK6 _ _ ?_)
            go_wp2_with fail
            go_roundw
            case rel => exact ⟨k + 1, T + G, ⟨u0, u1, un, true⟩, e1, e2, e3, by go_num, rfl, by omega, by omega, by omega, ((((z6.setCell q1 _).setCell q1 _).setCell q1 _).setCell q1 _), ((((X6.far r1 _).far r1 _).far r1 _).far r1 _), ((((A6.set 0 _).set 1 _).set 2 _).set 3 _), ((((B6.far r4 _).far r4 _).far r4 _).far r4 _), i1, i2, fun _ => rfl⟩
            case measure => simp [intOf]; omega
        · rw [hi0] at CI
          simp only at CI
          have HCI := Lib.hid CI
          clear CI hi0
          simp only at q1
          subst q1
          have he3 : e3 = false := by cases e3 with | false => rfl | true => cases i3 rfl
          subst he3
          generalize haltedB false un (T + G) = hb0 at CH
          have HCH := Lib.hid CH
          clear CH
          go_wp2_with fail
          refine (HCH.out _).mono ?_
          rintro e w3 ⟨rfl, hx3⟩
          have X4 := X3.ext hx3
          have A4 := A3.ext hx3
          have B4 := B3.ext hx3
          have eX4 := cellsAt_at X4
          have sX4 := X4.lt
          have d14 := (hx3.facts.1 _ _ hbr2).trans d1
          have hb4 := Nat.lt_of_lt_of_le hbr2 hx3.size
          have c_A4_0 := A4.cell 0
          have f_A4_0 := A4.frozen 0
          simp only [List.getElem?_toArray, List.getElem?_cons_zero, List.getElem?_cons_succ] at c_A4_0
          have c_A4_1 := A4.cell 1
          have f_A4_1 := A4.frozen 1
          simp only [List.getElem?_toArray, List.getElem?_cons_zero, List.getElem?_cons_succ] at c_A4_1
          have c_A4_2 := A4.cell 2
          have f_A4_2 := A4.frozen 2
          simp only [List.getElem?_toArray, List.getElem?_cons_zero, List.getElem?_cons_succ] at c_A4_2
          have c_A4_3 := A4.cell 3
          have f_A4_3 := A4.frozen 3
          simp only [List.getElem?_toArray, List.getElem?_cons_zero, List.getElem?_cons_succ] at c_A4_3
          have s_A4 := A4.lt
          have c_B4_0 := B4.cell 0
          have f_B4_0 := B4.frozen 0
          simp only [List.getElem?_toArray, List.getElem?_cons_zero, List.getElem?_cons_succ] at c_B4_0
          have c_B4_1 := B4.cell 1
          have f_B4_1 := B4.frozen 1
          simp only [List.getElem?_toArray, List.getElem?_cons_zero, List.getElem?_cons_succ] at c_B4_1
          have c_B4_2 := B4.cell 2
          have f_B4_2 := B4.frozen 2
          simp only [List.getElem?_toArray, List.getElem?_cons_zero, List.getElem?_cons_succ] at c_B4_2
          have c_B4_3 := B4.cell 3
          have f_B4_3 := B4.frozen 3
          simp only [List.getElem?_toArray, List.getElem?_cons_zero, List.getElem?_cons_succ] at c_B4_3
          have s_B4 := B4.lt
          go_wp2_with fail
          refine wp_region_m 12 [1, 1, 0, 0, 0, 0, 1, 1, 0, 0, 0, 2] 11 (Made w3 33 #[.bool false, .bool false, .int .i64 0, .bool false]) _ (by kernel_rfl) (by kernel_rfl) rfl (by omega) rfl Made.ext ?_
          simp only [List.take_succ_cons, List.take_zero, List.drop_succ_cons, List.drop_zero]
          refine hl_quiet (fun K hK => ?_)
          go_simp
          refine hK _ ?_
          clear hK K
          refine hl_quiet (fun K hK => ?_)
          go_simp
          refine hK _ ?_
          clear hK K
          refine hl_pure (fun K hK => ?_)
          go_simp
          refine hK _ ?_
          clear hK K
          refine hl_pure (fun K hK => ?_)
          go_simp
          refine hK _ ?_
          clear hK K
          refine hl_pure (fun K hK => ?_)
          go_simp
          refine hK _ ?_
          clear hK K
          refine hl_pure (fun K hK => ?_)
          go_simp
          refine hK _ ?_
          clear hK K
          refine hl_quiet (fun K hK => ?_)
          go_simp
          refine hK _ ?_
          clear hK K
          refine hl_quiet (fun K hK => ?_)
          go_simp
          first
            | (refine hK _ ?_; clear hK K)
            | (apply Exists.intro; refine ⟨fun x => ?_, hK _ ?_⟩
               · (exact HCI.out _)
               clear hK K)
          refine hl_pure (fun K hK => ?_)
          go_simp
          refine hK _ ?_
          clear hK K
          refine hl_pure (fun K hK => ?_)
          go_simp
          refine hK _ ?_
          clear hK K
          refine hl_pure (fun K hK => ?_)
          go_simp
          refine hK _ ?_
          clear hK K
          refine hl_make rfl (fun x => by go_simp; exact Later.made x _ _) ?_
          refine hl_nil ?_
          intro uw4 w4 hx4 hu4 K hK
          obtain ⟨g4, rfl, hg4, hA4⟩ := hu4
          have sg4 := hA4.lt
          have c_hA4_0 := hA4.cell 0
          have f_hA4_0 := hA4.frozen 0
          simp only [List.getElem?_toArray, List.getElem?_cons_zero, List.getElem?_cons_succ] at c_hA4_0
          have c_hA4_1 := hA4.cell 1
          have f_hA4_1 := hA4.frozen 1
          simp only [List.getElem?_toArray, List.getElem?_cons_zero, List.getElem?_cons_succ] at c_hA4_1
          have c_hA4_2 := hA4.cell 2
          have f_hA4_2 := hA4.frozen 2
          simp only [List.getElem?_toArray, List.getElem?_cons_zero, List.getElem?_cons_succ] at c_hA4_2
          have c_hA4_3 := hA4.cell 3
          have f_hA4_3 := hA4.frozen 3
          simp only [List.getElem?_toArray, List.getElem?_cons_zero, List.getElem?_cons_succ] at c_hA4_3
          have s_hA4 := hA4.lt
          go_wp2_with fail
          refine gen_world (fun W => Ext w3 W ∧ At W g4 33 #[.bool u0, .bool u1, .int .i64 0, .bool true]) ⟨(((hx4.setCell hg4 _).setCell hg4 _).setCell hg4 _).setCell hg4 _, (((hA4.set 0 _).set 1 _).set 2 _).set 3 _⟩ (fun w5 hF5 => ?_)
          obtain ⟨x5, P5⟩ := hF5
          clear hA4 hx4 c_hA4_0 c_hA4_1 c_hA4_2 c_hA4_3 f_hA4_0 f_hA4_1 f_hA4_2 f_hA4_3 s_hA4 sg4
          have X5 := X4.ext x5
          have A5 := A4.ext x5
          have B5 := B4.ext x5
          have e5 := cellsAt_at X5
          have s5 := X5.lt
          have c_A5_0 := A5.cell 0
          have f_A5_0 := A5.frozen 0
          simp only [List.getElem?_toArray, List.getElem?_cons_zero, List.getElem?_cons_succ] at c_A5_0
          have c_A5_1 := A5.cell 1
          have f_A5_1 := A5.frozen 1
          simp only [List.getElem?_toArray, List.getElem?_cons_zero, List.getElem?_cons_succ] at c_A5_1
          have c_A5_2 := A5.cell 2
          have f_A5_2 := A5.frozen 2
          simp only [List.getElem?_toArray, List.getElem?_cons_zero, List.getElem?_cons_succ] at c_A5_2
          have c_A5_3 := A5.cell 3
          have f_A5_3 := A5.frozen 3
          simp only [List.getElem?_toArray, List.getElem?_cons_zero, List.getElem?_cons_succ] at c_A5_3
          have s_A5 := A5.lt
          have c_B5_0 := B5.cell 0
          have f_B5_0 := B5.frozen 0
          simp only [List.getElem?_toArray, List.getElem?_cons_zero, List.getElem?_cons_succ] at c_B5_0
          have c_B5_1 := B5.cell 1
          have f_B5_1 := B5.frozen 1
          simp only [List.getElem?_toArray, List.getElem?_cons_zero, List.getElem?_cons_succ] at c_B5_1
          have c_B5_2 := B5.cell 2
          have f_B5_2 := B5.frozen 2
          simp only [List.getElem?_toArray, List.getElem?_cons_zero, List.getElem?_cons_succ] at c_B5_2
          have c_B5_3 := B5.cell 3
          have f_B5_3 := B5.frozen 3
          simp only [List.getElem?_toArray, List.getElem?_cons_zero, List.getElem?_cons_succ] at c_B5_3
          have s_B5 := B5.lt
          have c_P5_0 := P5.cell 0
          have f_P5_0 := P5.frozen 0
          simp only [List.getElem?_toArray, List.getElem?_cons_zero, List.getElem?_cons_succ] at c_P5_0
          have c_P5_1 := P5.cell 1
          have f_P5_1 := P5.frozen 1
          simp only [List.getElem?_toArray, List.getElem?_cons_zero, List.getElem?_cons_succ] at c_P5_1
          have c_P5_2 := P5.cell 2
          have f_P5_2 := P5.frozen 2
          simp only [List.getElem?_toArray, List.getElem?_cons_zero, List.getElem?_cons_succ] at c_P5_2
          have c_P5_3 := P5.cell 3
          have f_P5_3 := P5.frozen 3
          simp only [List.getElem?_toArray, List.getElem?_cons_zero, List.getElem?_cons_succ] at c_P5_3
          have s_P5 := P5.lt
          refine wp_region_x 65 [0, 0, 0, 0, 0, 0, 0, 0, 0, 0, 0, 0, 1, 0, 0, 1, 0, 0, 0, 0, 0, 0, 0, 0, 0, 0, 0, 0, 0, 0, 1, 1, 0, 0, 0, 0, 0, 0, 0, 0, 0, 0, 0, 0, 1, 0, 1, 0, 1, 0, 0, 0, 0, 0, 0, 0, 0, 1, 0, 0, 1, 0, 0, 0, 0] (by kernel_rfl) (by kernel_rfl) (by kernel_rfl) ?_
          simp only [List.take_succ_cons, List.take_zero, List.drop_succ_cons, List.drop_zero]
          refine hl_pure (fun K hK => ?_)
          go_simp
          refine hK _ ?_
          clear hK K
          refine hl_pure (fun K hK => ?_)
          go_simp
          refine hK _ ?_
          clear hK K
          refine hl_pure (fun K hK => ?_)
          go_simp
          refine hK _ ?_
          clear hK K
          refine hl_pure (fun K hK => ?_)
          go_simp
          refine hK _ ?_
          clear hK K
          refine hl_pure (fun K hK => ?_)
          go_simp
          refine hK _ ?_
          clear hK K
          refine hl_pure (fun K hK => ?_)
          go_simp
          refine hK _ ?_
          clear hK K
          refine hl_pure (fun K hK => ?_)
          go_simp
          refine hK _ ?_
          clear hK K
          refine hl_pure (fun K hK => ?_)
          go_simp
          refine hK _ ?_
          clear hK K
          refine hl_pure (fun K hK => ?_)
          go_simp
          refine hK _ ?_
          clear hK K
          refine hl_pure (fun K hK => ?_)
          go_simp
          refine hK _ ?_
          clear hK K
          refine hl_pure (fun K hK => ?_)
          go_simp
          refine hK _ ?_
          clear hK K
          refine hl_pure (fun K hK => ?_)
          go_simp
          refine hK _ ?_
          clear hK K
          refine hl_quiet (fun K hK => ?_)
          go_simp
          refine hK _ ?_
          clear hK K
          refine hl_pure (fun K hK => ?_)
          go_simp
          refine hK _ ?_
          clear hK K
          refine hl_pure (fun K hK => ?_)
          go_simp
          refine hK _ ?_
          clear hK K
          refine hl_quiet (fun K hK => ?_)
          go_simp
          refine hK _ ?_
          clear hK K
          refine hl_pure (fun K hK => ?_)
          go_simp
          refine hK _ ?_
          clear hK K
          refine hl_pure (fun K hK => ?_)
          go_simp
          refine hK _ ?_
          clear hK K
          refine hl_pure (fun K hK => ?_)
          go_simp
          refine hK _ ?_
          clear hK K
          refine hl_pure (fun K hK => ?_)
          go_simp
          refine hK _ ?_
          clear hK K
          refine hl_pure (fun K hK => ?_)
          go_simp
          refine hK _ ?_
          clear hK K
          refine hl_pure (fun K hK => ?_)
          go_simp
          refine hK _ ?_
          clear hK K
          refine hl_pure (fun K hK => ?_)
          go_simp
          refine hK _ ?_
          clear hK K
          refine hl_pure (fun K hK => ?_)
          go_simp
          refine hK _ ?_
          clear hK K
          refine hl_pure (fun K hK => ?_)
          go_simp
          refine hK _ ?_
          clear hK K
          refine hl_pure (fun K hK => ?_)
          go_simp
          refine hK _ ?_
          clear hK K
          refine hl_pure (fun K hK => ?_)
          go_simp
          refine hK _ ?_
          clear hK K
          refine hl_pure (fun K hK => ?_)
          go_simp
          refine hK _ ?_
          clear hK K
          refine hl_pure (fun K hK => ?_)
          go_simp
          refine hK _ ?_
          clear hK K
          refine hl_pure (fun K hK => ?_)
          go_simp
          refine hK _ ?_
          clear hK K
          refine hl_quiet (fun K hK => ?_)
          go_simp
          refine hK _ ?_
          clear hK K
          refine hl_quiet (fun K hK => ?_)
          go_simp
          refine hK _ ?_
          clear hK K
          refine hl_pure (fun K hK => ?_)
          go_simp
          refine hK _ ?_
          clear hK K
          refine hl_pure (fun K hK => ?_)
          go_simp
          refine hK _ ?_
          clear hK K
          refine hl_pure (fun K hK => ?_)
          go_simp
          refine hK _ ?_
          clear hK K
          refine hl_pure (fun K hK => ?_)
          go_simp
          refine hK _ ?_
          clear hK K
          refine hl_pure (fun K hK => ?_)
          go_simp
          refine hK _ ?_
          clear hK K
          refine hl_pure (fun K hK => ?_)
          go_simp
          refine hK _ ?_
          clear hK K
          refine hl_pure (fun K hK => ?_)
          go_simp
          refine hK _ ?_
          clear hK K
          refine hl_pure (fun K hK => ?_)
          go_simp
          refine hK _ ?_
          clear hK K
          refine hl_pure (fun K hK => ?_)
          go_simp
          refine hK _ ?_
          clear hK K
          refine hl_pure (fun K hK => ?_)
          go_simp
          refine hK _ ?_
          clear hK K
          refine hl_pure (fun K hK => ?_)
          go_simp
          refine hK _ ?_
          clear hK K
          refine hl_pure (fun K hK => ?_)
          go_simp
          refine hK _ ?_
          clear hK K
          refine hl_quiet (fun K hK => ?_)
          go_simp
          refine hK _ ?_
          clear hK K
          refine hl_pure (fun K hK => ?_)
          go_simp
          refine hK _ ?_
          clear hK K
          refine hl_quiet (fun K hK => ?_)
          go_simp
          refine hK _ ?_
          clear hK K
          refine hl_pure (fun K hK => ?_)
          go_simp
          refine hK _ ?_
          clear hK K
          refine hl_quiet (fun K hK => ?_)
          go_simp
          first
            | (refine hK _ ?_; clear hK K)
            | (apply Exists.intro; refine ⟨fun x => ?_, hK _ ?_⟩
               · (exact CS _ (by decide) _)
               clear hK K)
          refine hl_pure (fun K hK => ?_)
          go_simp
          refine hK _ ?_
          clear hK K
          refine hl_pure (fun K hK => ?_)
          go_simp
          refine hK _ ?_
          clear hK K
          refine hl_pure (fun K hK => ?_)
          go_simp
          refine hK _ ?_
          clear hK K
          refine hl_pure (fun K hK => ?_)
          go_simp
          refine hK _ ?_
          clear hK K
          refine hl_pure (fun K hK => ?_)
          go_simp
          refine hK _ ?_
          clear hK K
          refine hl_pure (fun K hK => ?_)
          go_simp
          refine hK _ ?_
          clear hK K
          refine hl_pure (fun K hK => ?_)
          go_simp
          refine hK _ ?_
          clear hK K
          refine hl_pure (fun K hK => ?_)
          go_simp
          refine hK _ ?_
          clear hK K
          refine hl_quiet (fun K hK => ?_)
          go_simp
          refine hK _ ?_
          clear hK K
          refine hl_pure (fun K hK => ?_)
          go_simp
          refine hK _ ?_
          clear hK K
          refine hl_pure (fun K hK => ?_)
          go_simp
          refine hK _ ?_
          clear hK K
          refine hl_quiet (fun K hK => ?_)
          go_simp
          refine hK _ ?_
          clear hK K
          refine hl_pure (fun K hK => ?_)
          go_simp
          refine hK _ ?_
          clear hK K
          refine hl_pure (fun K hK => ?_)
          go_simp
          refine hK _ ?_
          clear hK K
          refine hl_pure (fun K hK => ?_)
          go_simp
          refine hK _ ?_
          clear hK K
          refine hl_pure (fun K hK => ?_)
          go_simp
          refine hK _ ?_
          clear hK K
          refine hl_nil ?_
          intro w6 x6 K6 hK6
          have y6 := x5.trans x6
          have X6 := X4.ext y6
          have A6 := A4.ext y6
          have B6 := B4.ext y6
          have P6 := P5.ext x6
          have z6 := hx.trans (hx3.trans y6)
          have q1 : w.heap.size ≤ g1 := by omega
          have q2 : w.heap.size ≤ g1 + 1 := by omega
          have r1 : w.heap.size ≠ g1 := by omega
          have r2 : w.heap.size ≠ g1 + 1 := by omega
          have r3 : g1 ≠ g1 + 1 := by omega
          have r4 : g1 + 1 ≠ g1 := by omega
          have n48 : g4 ≠ g1 := by have := hx3.size; omega
          have n49 : g4 ≠ g1 + 1 := by have := hx3.size; omega
          have c_A6_0 := A6.cell 0
          have f_A6_0 := A6.frozen 0
          simp only [List.getElem?_toArray, List.getElem?_cons_zero, List.getElem?_cons_succ] at c_A6_0
          have c_A6_1 := A6.cell 1
          have f_A6_1 := A6.frozen 1
          simp only [List.getElem?_toArray, List.getElem?_cons_zero, List.getElem?_cons_succ] at c_A6_1
          have c_A6_2 := A6.cell 2
          have f_A6_2 := A6.frozen 2
          simp only [List.getElem?_toArray, List.getElem?_cons_zero, List.getElem?_cons_succ] at c_A6_2
          have c_A6_3 := A6.cell 3
          have f_A6_3 := A6.frozen 3
          simp only [List.getElem?_toArray, List.getElem?_cons_zero, List.getElem?_cons_succ] at c_A6_3
          have s_A6 := A6.lt
          have c_B6_0 := B6.cell 0
          have f_B6_0 := B6.frozen 0
          simp only [List.getElem?_toArray, List.getElem?_cons_zero, List.getElem?_cons_succ] at c_B6_0
          have c_B6_1 := B6.cell 1
          have f_B6_1 := B6.frozen 1
          simp only [List.getElem?_toArray, List.getElem?_cons_zero, List.getElem?_cons_succ] at c_B6_1
          have c_B6_2 := B6.cell 2
          have f_B6_2 := B6.frozen 2
          simp only [List.getElem?_toArray, List.getElem?_cons_zero, List.getElem?_cons_succ] at c_B6_2
          have c_B6_3 := B6.cell 3
          have f_B6_3 := B6.frozen 3
          simp only [List.getElem?_toArray, List.getElem?_cons_zero, List.getElem?_cons_succ] at c_B6_3
          have s_B6 := B6.lt
          have c_P6_0 := P6.cell 0
          have f_P6_0 := P6.frozen 0
          simp only [List.getElem?_toArray, List.getElem?_cons_zero, List.getElem?_cons_succ] at c_P6_0
          have c_P6_1 := P6.cell 1
          have f_P6_1 := P6.frozen 1
          simp only [List.getElem?_toArray, List.getElem?_cons_zero, List.getElem?_cons_succ] at c_P6_1
          have c_P6_2 := P6.cell 2
          have f_P6_2 := P6.frozen 2
          simp only [List.getElem?_toArray, List.getElem?_cons_zero, List.getElem?_cons_succ] at c_P6_2
          have c_P6_3 := P6.cell 3
          have f_P6_3 := P6.frozen 3
          simp only [List.getElem?_toArray, List.getElem?_cons_zero, List.getElem?_cons_succ] at c_P6_3
          have s_P6 := P6.lt
          refine wpList_nil (hK6 _ _ ?_)
          go_wp2_with fail
          go_roundw
          case rel => exact ⟨k + 1, T + G, ⟨u0, u1, 0, true⟩, e1, e2, true, by go_num, rfl, by omega, by omega, by omega, (((((z6.setCell q2 _).setCell q1 _).setCell q1 _).setCell q1 _).setCell q1 _), (((((X6.far r2 _).far r1 _).far r1 _).far r1 _).far r1 _), (((((A6.far r3 _).set 0 _).set 1 _).set 2 _).set 3 _), (((((B6.set 3 _).far r4 _).far r4 _).far r4 _).far r4 _), i1, i2, fun _ => rfl⟩
          case measure => simp [intOf]; omega
        · rw [hi0] at CI
          simp only at CI
          have HCI := Lib.hid CI
          clear CI hi0
          simp only at q1
          subst q1
          have he3 : e3 = false := by cases e3 with | false => rfl | true => cases i3 rfl
          subst he3
          simp only at q2 q3
          have hhb : haltedB false un (T + G) = false := by unfold haltedB; rw [decide_eq_false q2]; rfl
          rw [hhb] at CH
          subst q3
          clear hhb
          have CS2 : ∀ w, Calls Try.prog 12 #[.agg #[.slice x.A x.l.length x.c, .slice x.B x.t.length x.d, .int .i64 x.ix, .int .i64 x.f1, .int .i64 x.f2, .int .i64 x.f3, .int .i64 x.h1, .int .i64 x.h2], .int .i64 2] w fun e w' => e = .returned (.int .i64 x.h2) ∧ Ext w w' := CS 2 (by decide)
          have hwS : wrap64 (T + G + x.h2) = T + G + x.h2 := wrap64_in ⟨by omega, by omega⟩
          have hwS2 : IntKind.i64.wrap (T + G + x.h2) = T + G + x.h2 := by rw [IntWalk.i64_left]; exact hwS
          have he2 : e2 = false := by cases e2 with | false => rfl | true => cases i2 rfl
          subst he2
          have HCH := Lib.hid CH
          clear CH
          go_wp2_with fail
          refine (HCH.out _).mono ?_
          rintro e w3 ⟨rfl, hx3⟩
          have X4 := X3.ext hx3
          have A4 := A3.ext hx3
          have B4 := B3.ext hx3
          have eX4 := cellsAt_at X4
          have sX4 := X4.lt
          have d14 := (hx3.facts.1 _ _ hbr2).trans d1
          have hb4 := Nat.lt_of_lt_of_le hbr2 hx3.size
          have c_A4_0 := A4.cell 0
          have f_A4_0 := A4.frozen 0
          simp only [List.getElem?_toArray, List.getElem?_cons_zero, List.getElem?_cons_succ] at c_A4_0
          have c_A4_1 := A4.cell 1
          have f_A4_1 := A4.frozen 1
          simp only [List.getElem?_toArray, List.getElem?_cons_zero, List.getElem?_cons_succ] at c_A4_1
          have c_A4_2 := A4.cell 2
          have f_A4_2 := A4.frozen 2
          simp only [List.getElem?_toArray, List.getElem?_cons_zero, List.getElem?_cons_succ] at c_A4_2
          have c_A4_3 := A4.cell 3
          have f_A4_3 := A4.frozen 3
          simp only [List.getElem?_toArray, List.getElem?_cons_zero, List.getElem?_cons_succ] at c_A4_3
          have s_A4 := A4.lt
          have c_B4_0 := B4.cell 0
          have f_B4_0 := B4.frozen 0
          simp only [List.getElem?_toArray, List.getElem?_cons_zero, List.getElem?_cons_succ] at c_B4_0
          have c_B4_1 := B4.cell 1
          have f_B4_1 := B4.frozen 1
          simp only [List.getElem?_toArray, List.getElem?_cons_zero, List.getElem?_cons_succ] at c_B4_1
          have c_B4_2 := B4.cell 2
          have f_B4_2 := B4.frozen 2
          simp only [List.getElem?_toArray, List.getElem?_cons_zero, List.getElem?_cons_succ] at c_B4_2
          have c_B4_3 := B4.cell 3
          have f_B4_3 := B4.frozen 3
          simp only [List.getElem?_toArray, List.getElem?_cons_zero, List.getElem?_cons_succ] at c_B4_3
          have s_B4 := B4.lt
          go_wp2_with fail
          refine wp_region_m 12 [1, 1, 0, 0, 0, 0, 1, 1, 0, 0, 0, 2] 11 (Made w3 33 #[.bool false, .bool false, .int .i64 0, .bool false]) _ (by kernel_rfl) (by kernel_rfl) rfl (by omega) rfl Made.ext ?_
          simp only [List.take_succ_cons, List.take_zero, List.drop_succ_cons, List.drop_zero]
          refine hl_quiet (fun K hK => ?_)
          go_simp
          refine hK _ ?_
          clear hK K
          refine hl_quiet (fun K hK => ?_)
          go_simp
          refine hK _ ?_
          clear hK K
          refine hl_pure (fun K hK => ?_)
          go_simp
          refine hK _ ?_
          clear hK K
          refine hl_pure (fun K hK => ?_)
          go_simp
          refine hK _ ?_
          clear hK K
          refine hl_pure (fun K hK => ?_)
          go_simp
          refine hK _ ?_
          clear hK K
          refine hl_pure (fun K hK => ?_)
          go_simp
          refine hK _ ?_
          clear hK K
          refine hl_quiet (fun K hK => ?_)
          go_simp
          refine hK _ ?_
          clear hK K
          refine hl_quiet (fun K hK => ?_)
          go_simp
          first
            | (refine hK _ ?_; clear hK K)
            | (apply Exists.intro; refine ⟨fun x => ?_, hK _ ?_⟩
               · (exact HCI.out _)
               clear hK K)
          refine hl_pure (fun K hK => ?_)
          go_simp
          refine hK _ ?_
          clear hK K
          refine hl_pure (fun K hK => ?_)
          go_simp
          refine hK _ ?_
          clear hK K
          refine hl_pure (fun K hK => ?_)
          go_simp
          refine hK _ ?_
          clear hK K
          refine hl_make rfl (fun x => by go_simp; exact Later.made x _ _) ?_
          refine hl_nil ?_
          intro uw4 w4 hx4 hu4 K hK
          obtain ⟨g4, rfl, hg4, hA4⟩ := hu4
          have sg4 := hA4.lt
          have c_hA4_0 := hA4.cell 0
          have f_hA4_0 := hA4.frozen 0
          simp only [List.getElem?_toArray, List.getElem?_cons_zero, List.getElem?_cons_succ] at c_hA4_0
          have c_hA4_1 := hA4.cell 1
          have f_hA4_1 := hA4.frozen 1
          simp only [List.getElem?_toArray, List.getElem?_cons_zero, List.getElem?_cons_succ] at c_hA4_1
          have c_hA4_2 := hA4.cell 2
          have f_hA4_2 := hA4.frozen 2
          simp only [List.getElem?_toArray, List.getElem?_cons_zero, List.getElem?_cons_succ] at c_hA4_2
          have c_hA4_3 := hA4.cell 3
          have f_hA4_3 := hA4.frozen 3
          simp only [List.getElem?_toArray, List.getElem?_cons_zero, List.getElem?_cons_succ] at c_hA4_3
          have s_hA4 := hA4.lt
          go_wp2_with fail
          refine gen_world (fun W => Ext w3 W ∧ At W g4 33 #[.bool true, .bool true, .int .i64 (T + G + x.h2), .bool false]) ⟨(((hx4.setCell hg4 _).setCell hg4 _).setCell hg4 _).setCell hg4 _, (((hA4.set 0 _).set 1 _).set 2 _).set 3 _⟩ (fun w5 hF5 => ?_)
          obtain ⟨x5, P5⟩ := hF5
          clear hA4 hx4 c_hA4_0 c_hA4_1 c_hA4_2 c_hA4_3 f_hA4_0 f_hA4_1 f_hA4_2 f_hA4_3 s_hA4 sg4
          have X5 := X4.ext x5
          have A5 := A4.ext x5
          have B5 := B4.ext x5
          have e5 := cellsAt_at X5
          have s5 := X5.lt
          have c_A5_0 := A5.cell 0
          have f_A5_0 := A5.frozen 0
          simp only [List.getElem?_toArray, List.getElem?_cons_zero, List.getElem?_cons_succ] at c_A5_0
          have c_A5_1 := A5.cell 1
          have f_A5_1 := A5.frozen 1
          simp only [List.getElem?_toArray, List.getElem?_cons_zero, List.getElem?_cons_succ] at c_A5_1
          have c_A5_2 := A5.cell 2
          have f_A5_2 := A5.frozen 2
          simp only [List.getElem?_toArray, List.getElem?_cons_zero, List.getElem?_cons_succ] at c_A5_2
          have c_A5_3 := A5.cell 3
          have f_A5_3 := A5.frozen 3
          simp only [List.getElem?_toArray, List.getElem?_cons_zero, List.getElem?_cons_succ] at c_A5_3
          have s_A5 := A5.lt
          have c_B5_0 := B5.cell 0
          have f_B5_0 := B5.frozen 0
          simp only [List.getElem?_toArray, List.getElem?_cons_zero, List.getElem?_cons_succ] at c_B5_0
          have c_B5_1 := B5.cell 1
          have f_B5_1 := B5.frozen 1
          simp only [List.getElem?_toArray, List.getElem?_cons_zero, List.getElem?_cons_succ] at c_B5_1
          have c_B5_2 := B5.cell 2
          have f_B5_2 := B5.frozen 2
          simp only [List.getElem?_toArray, List.getElem?_cons_zero, List.getElem?_cons_succ] at c_B5_2
          have c_B5_3 := B5.cell 3
          have f_B5_3 := B5.frozen 3
          simp only [List.getElem?_toArray, List.getElem?_cons_zero, List.getElem?_cons_succ] at c_B5_3
          have s_B5 := B5.lt
          have c_P5_0 := P5.cell 0
          have f_P5_0 := P5.frozen 0
          simp only [List.getElem?_toArray, List.getElem?_cons_zero, List.getElem?_cons_succ] at c_P5_0
          have c_P5_1 := P5.cell 1
          have f_P5_1 := P5.frozen 1
          simp only [List.getElem?_toArray, List.getElem?_cons_zero, List.getElem?_cons_succ] at c_P5_1
          have c_P5_2 := P5.cell 2
          have f_P5_2 := P5.frozen 2
          simp only [List.getElem?_toArray, List.getElem?_cons_zero, List.getElem?_cons_succ] at c_P5_2
          have c_P5_3 := P5.cell 3
          have f_P5_3 := P5.frozen 3
          simp only [List.getElem?_toArray, List.getElem?_cons_zero, List.getElem?_cons_succ] at c_P5_3
          have s_P5 := P5.lt
          refine wp_region_x 65 [0, 0, 0, 0, 0, 0, 0, 0, 0, 0, 0, 0, 1, 0, 0, 1, 0, 0, 0, 0, 0, 0, 0, 0, 0, 0, 0, 0, 0, 0, 1, 1, 0, 0, 0, 0, 0, 0, 0, 0, 0, 0, 0, 0, 1, 0, 1, 0, 1, 0, 0, 0, 0, 0, 0, 0, 0, 1, 0, 0, 1, 0, 0, 0, 0] (by kernel_rfl) (by kernel_rfl) (by kernel_rfl) ?_
          simp only [List.take_succ_cons, List.take_zero, List.drop_succ_cons, List.drop_zero]
          refine hl_pure (fun K hK => ?_)
          go_simp
          refine hK _ ?_
          clear hK K
          refine hl_pure (fun K hK => ?_)
          go_simp
          refine hK _ ?_
          clear hK K
          refine hl_pure (fun K hK => ?_)
          go_simp
          refine hK _ ?_
          clear hK K
          refine hl_pure (fun K hK => ?_)
          go_simp
          refine hK _ ?_
          clear hK K
          refine hl_pure (fun K hK => ?_)
          go_simp
          refine hK _ ?_
          clear hK K
          refine hl_pure (fun K hK => ?_)
          go_simp
          refine hK _ ?_
          clear hK K
          refine hl_pure (fun K hK => ?_)
          go_simp
          refine hK _ ?_
          clear hK K
          refine hl_pure (fun K hK => ?_)
          go_simp
          refine hK _ ?_
          clear hK K
          refine hl_pure (fun K hK => ?_)
          go_simp
          refine hK _ ?_
          clear hK K
          refine hl_pure (fun K hK => ?_)
          go_simp
          refine hK _ ?_
          clear hK K
          refine hl_pure (fun K hK => ?_)
          go_simp
          refine hK _ ?_
          clear hK K
          refine hl_pure (fun K hK => ?_)
          go_simp
          refine hK _ ?_
          clear hK K
          refine hl_quiet (fun K hK => ?_)
          go_simp
          refine hK _ ?_
          clear hK K
          refine hl_pure (fun K hK => ?_)
          go_simp
          refine hK _ ?_
          clear hK K
          refine hl_pure (fun K hK => ?_)
          go_simp
          refine hK _ ?_
          clear hK K
          refine hl_quiet (fun K hK => ?_)
          go_simp
          refine hK _ ?_
          clear hK K
          refine hl_pure (fun K hK => ?_)
          go_simp
          refine hK _ ?_
          clear hK K
          refine hl_pure (fun K hK => ?_)
          go_simp
          refine hK _ ?_
          clear hK K
          refine hl_pure (fun K hK => ?_)
          go_simp
          refine hK _ ?_
          clear hK K
          refine hl_pure (fun K hK => ?_)
          go_simp
          refine hK _ ?_
          clear hK K
          refine hl_pure (fun K hK => ?_)
          go_simp
          refine hK _ ?_
          clear hK K
          refine hl_pure (fun K hK => ?_)
          go_simp
          refine hK _ ?_
          clear hK K
          refine hl_pure (fun K hK => ?_)
          go_simp
          refine hK _ ?_
          clear hK K
          refine hl_pure (fun K hK => ?_)
          go_simp
          refine hK _ ?_
          clear hK K
          refine hl_pure (fun K hK => ?_)
          go_simp
          refine hK _ ?_
          clear hK K
          refine hl_pure (fun K hK => ?_)
          go_simp
          refine hK _ ?_
          clear hK K
          refine hl_pure (fun K hK => ?_)
          go_simp
          refine hK _ ?_
          clear hK K
          refine hl_pure (fun K hK => ?_)
          go_simp
          refine hK _ ?_
          clear hK K
          refine hl_pure (fun K hK => ?_)
          go_simp
          refine hK _ ?_
          clear hK K
          refine hl_pure (fun K hK => ?_)
          go_simp
          refine hK _ ?_
          clear hK K
          refine hl_quiet (fun K hK => ?_)
          go_simp
          refine hK _ ?_
          clear hK K
          refine hl_quiet (fun K hK => ?_)
          go_simp
          refine hK _ ?_
          clear hK K
          refine hl_pure (fun K hK => ?_)
          go_simp
          refine hK _ ?_
          clear hK K
          refine hl_pure (fun K hK => ?_)
          go_simp
          refine hK _ ?_
          clear hK K
          refine hl_pure (fun K hK => ?_)
          go_simp
          refine hK _ ?_
          clear hK K
          refine hl_pure (fun K hK => ?_)
          go_simp
          refine hK _ ?_
          clear hK K
          refine hl_pure (fun K hK => ?_)
          go_simp
          refine hK _ ?_
          clear hK K
          refine hl_pure (fun K hK => ?_)
          go_simp
          refine hK _ ?_
          clear hK K
          refine hl_pure (fun K hK => ?_)
          go_simp
          refine hK _ ?_
          clear hK K
          refine hl_pure (fun K hK => ?_)
          go_simp
          refine hK _ ?_
          clear hK K
          refine hl_pure (fun K hK => ?_)
          go_simp
          refine hK _ ?_
          clear hK K
          refine hl_pure (fun K hK => ?_)
          go_simp
          refine hK _ ?_
          clear hK K
          refine hl_pure (fun K hK => ?_)
          go_simp
          refine hK _ ?_
          clear hK K
          refine hl_pure (fun K hK => ?_)
          go_simp
          refine hK _ ?_
          clear hK K
          refine hl_quiet (fun K hK => ?_)
          go_simp
          refine hK _ ?_
          clear hK K
          refine hl_pure (fun K hK => ?_)
          go_simp
          refine hK _ ?_
          clear hK K
          refine hl_quiet (fun K hK => ?_)
          go_simp
          refine hK _ ?_
          clear hK K
          refine hl_pure (fun K hK => ?_)
          go_simp
          refine hK _ ?_
          clear hK K
          refine hl_quiet (fun K hK => ?_)
          go_simp
          first
            | (refine hK _ ?_; clear hK K)
            | (apply Exists.intro; refine ⟨fun x => ?_, hK _ ?_⟩
               · (exact CS2 _)
               clear hK K)
          refine hl_pure (fun K hK => ?_)
          go_simp
          refine hK _ ?_
          clear hK K
          refine hl_pure (fun K hK => ?_)
          go_simp
          refine hK _ ?_
          clear hK K
          refine hl_pure (fun K hK => ?_)
          go_simp
          refine hK _ ?_
          clear hK K
          refine hl_pure (fun K hK => ?_)
          go_simp
          refine hK _ ?_
          clear hK K
          refine hl_pure (fun K hK => ?_)
          go_simp
          refine hK _ ?_
          clear hK K
          refine hl_pure (fun K hK => ?_)
          go_simp
          refine hK _ ?_
          clear hK K
          refine hl_pure (fun K hK => ?_)
          go_simp
          refine hK _ ?_
          clear hK K
          refine hl_pure (fun K hK => ?_)
          go_simp
          refine hK _ ?_
          clear hK K
          refine hl_quiet (fun K hK => ?_)
          go_simp
          refine hK _ ?_
          clear hK K
          refine hl_pure (fun K hK => ?_)
          go_simp
          refine hK _ ?_
          clear hK K
          refine hl_pure (fun K hK => ?_)
          go_simp
          refine hK _ ?_
          clear hK K
          refine hl_quiet (fun K hK => ?_)
          go_simp
          refine hK _ ?_
          clear hK K
          refine hl_pure (fun K hK => ?_)
          go_simp
          refine hK _ ?_
          clear hK K
          refine hl_pure (fun K hK => ?_)
          go_simp
          refine hK _ ?_
          clear hK K
          refine hl_pure (fun K hK => ?_)
          go_simp
          refine hK _ ?_
          clear hK K
          refine hl_pure (fun K hK => ?_)
          go_simp
          refine hK _ ?_
          clear hK K
          refine hl_nil ?_
          intro w6 x6 K6 hK6
          have y6 := x5.trans x6
          have X6 := X4.ext y6
          have A6 := A4.ext y6
          have B6 := B4.ext y6
          have P6 := P5.ext x6
          have z6 := hx.trans (hx3.trans y6)
          have q1 : w.heap.size ≤ g1 := by omega
          have q2 : w.heap.size ≤ g1 + 1 := by omega
          have r1 : w.heap.size ≠ g1 := by omega
          have r2 : w.heap.size ≠ g1 + 1 := by omega
          have r3 : g1 ≠ g1 + 1 := by omega
          have r4 : g1 + 1 ≠ g1 := by omega
          have n48 : g4 ≠ g1 := by have := hx3.size; omega
          have n49 : g4 ≠ g1 + 1 := by have := hx3.size; omega
          have c_A6_0 := A6.cell 0
          have f_A6_0 := A6.frozen 0
          simp only [List.getElem?_toArray, List.getElem?_cons_zero, List.getElem?_cons_succ] at c_A6_0
          have c_A6_1 := A6.cell 1
          have f_A6_1 := A6.frozen 1
          simp only [List.getElem?_toArray, List.getElem?_cons_zero, List.getElem?_cons_succ] at c_A6_1
          have c_A6_2 := A6.cell 2
          have f_A6_2 := A6.frozen 2
          simp only [List.getElem?_toArray, List.getElem?_cons_zero, List.getElem?_cons_succ] at c_A6_2
          have c_A6_3 := A6.cell 3
          have f_A6_3 := A6.frozen 3
          simp only [List.getElem?_toArray, List.getElem?_cons_zero, List.getElem?_cons_succ] at c_A6_3
          have s_A6 := A6.lt
          have c_B6_0 := B6.cell 0
          have f_B6_0 := B6.frozen 0
          simp only [List.getElem?_toArray, List.getElem?_cons_zero, List.getElem?_cons_succ] at c_B6_0
          have c_B6_1 := B6.cell 1
          have f_B6_1 := B6.frozen 1
          simp only [List.getElem?_toArray, List.getElem?_cons_zero, List.getElem?_cons_succ] at c_B6_1
          have c_B6_2 := B6.cell 2
          have f_B6_2 := B6.frozen 2
          simp only [List.getElem?_toArray, List.getElem?_cons_zero, List.getElem?_cons_succ] at c_B6_2
          have c_B6_3 := B6.cell 3
          have f_B6_3 := B6.frozen 3
          simp only [List.getElem?_toArray, List.getElem?_cons_zero, List.getElem?_cons_succ] at c_B6_3
          have s_B6 := B6.lt
          have c_P6_0 := P6.cell 0
          have f_P6_0 := P6.frozen 0
          simp only [List.getElem?_toArray, List.getElem?_cons_zero, List.getElem?_cons_succ] at c_P6_0
          have c_P6_1 := P6.cell 1
          have f_P6_1 := P6.frozen 1
          simp only [List.getElem?_toArray, List.getElem?_cons_zero, List.getElem?_cons_succ] at c_P6_1
          have c_P6_2 := P6.cell 2
          have f_P6_2 := P6.frozen 2
          simp only [List.getElem?_toArray, List.getElem?_cons_zero, List.getElem?_cons_succ] at c_P6_2
          have c_P6_3 := P6.cell 3
          have f_P6_3 := P6.frozen 3
          simp only [List.getElem?_toArray, List.getElem?_cons_zero, List.getElem?_cons_succ] at c_P6_3
          have s_P6 := P6.lt
          refine wpList_nil (hK6 _ _ ?_)
          go_wp2_with fail
          go_roundw
          case rel => exact ⟨k + 1, T + G, ⟨true, true, T + G + x.h2, false⟩, e1, true, false, by go_num, rfl, by omega, by omega, by omega, (((((z6.setCell q2 _).setCell q1 _).setCell q1 _).setCell q1 _).setCell q1 _), (((((X6.far r2 _).far r1 _).far r1 _).far r1 _).far r1 _), (((((A6.far r3 _).set 0 _).set 1 _).set 2 _).set 3 _), (((((B6.set 2 _).far r4 _).far r4 _).far r4 _).far r4 _), fun _ => rfl, fun _ => rfl, fun h => (by cases h)⟩
          case measure => simp [intOf]; omega
        · rw [hi0] at CI
          simp only at CI
          have HCI := Lib.hid CI
          clear CI hi0
          simp only at q1
          subst q1
          have he3 : e3 = false := by cases e3 with | false => rfl | true => cases i3 rfl
          subst he3
          simp only at q2 q3
          have hhb : haltedB false un (T + G) = false := by unfold haltedB; rw [decide_eq_false q2]; rfl
          rw [hhb] at CH
          subst q3
          clear hhb
          have CS2 : ∀ w, Calls Try.prog 12 #[.agg #[.slice x.A x.l.length x.c, .slice x.B x.t.length x.d, .int .i64 x.ix, .int .i64 x.f1, .int .i64 x.f2, .int .i64 x.f3, .int .i64 x.h1, .int .i64 x.h2], .int .i64 1] w fun e w' => e = .returned (.int .i64 x.h1) ∧ Ext w w' := CS 1 (by decide)
          have hwS : wrap64 (T + G + x.h1) = T + G + x.h1 := wrap64_in ⟨by omega, by omega⟩
          have hwS2 : IntKind.i64.wrap (T + G + x.h1) = T + G + x.h1 := by rw [IntWalk.i64_left]; exact hwS
          have he1 : e1 = false := by cases e1 with | false => rfl | true => cases i1 rfl
          subst he1
          have HCH := Lib.hid CH
          clear CH
          go_wp2_with fail
          refine (HCH.out _).mono ?_
          rintro e w3 ⟨rfl, hx3⟩
          have X4 := X3.ext hx3
          have A4 := A3.ext hx3
          have B4 := B3.ext hx3
          have eX4 := cellsAt_at X4
          have sX4 := X4.lt
          have d14 := (hx3.facts.1 _ _ hbr2).trans d1
          have hb4 := Nat.lt_of_lt_of_le hbr2 hx3.size
          have c_A4_0 := A4.cell 0
          have f_A4_0 := A4.frozen 0
          simp only [List.getElem?_toArray, List.getElem?_cons_zero, List.getElem?_cons_succ] at c_A4_0
          have c_A4_1 := A4.cell 1
          have f_A4_1 := A4.frozen 1
          simp only [List.getElem?_toArray, List.getElem?_cons_zero, List.getElem?_cons_succ] at c_A4_1
          have c_A4_2 := A4.cell 2
          have f_A4_2 := A4.frozen 2
          simp only [List.getElem?_toArray, List.getElem?_cons_zero, List.getElem?_cons_succ] at c_A4_2
          have c_A4_3 := A4.cell 3
          have f_A4_3 := A4.frozen 3
          simp only [List.getElem?_toArray, List.getElem?_cons_zero, List.getElem?_cons_succ] at c_A4_3
          have s_A4 := A4.lt
          have c_B4_0 := B4.cell 0
          have f_B4_0 := B4.frozen 0
          simp only [List.getElem?_toArray, List.getElem?_cons_zero, List.getElem?_cons_succ] at c_B4_0
          have c_B4_1 := B4.cell 1
          have f_B4_1 := B4.frozen 1
          simp only [List.getElem?_toArray, List.getElem?_cons_zero, List.getElem?_cons_succ] at c_B4_1
          have c_B4_2 := B4.cell 2
          have f_B4_2 := B4.frozen 2
          simp only [List.getElem?_toArray, List.getElem?_cons_zero, List.getElem?_cons_succ] at c_B4_2
          have c_B4_3 := B4.cell 3
          have f_B4_3 := B4.frozen 3
          simp only [List.getElem?_toArray, List.getElem?_cons_zero, List.getElem?_cons_succ] at c_B4_3
          have s_B4 := B4.lt
          go_wp2_with fail
          refine wp_region_m 12 [1, 1, 0, 0, 0, 0, 1, 1, 0, 0, 0, 2] 11 (Made w3 33 #[.bool false, .bool false, .int .i64 0, .bool false]) _ (by kernel_rfl) (by kernel_rfl) rfl (by omega) rfl Made.ext ?_
          simp only [List.take_succ_cons, List.take_zero, List.drop_succ_cons, List.drop_zero]
          refine hl_quiet (fun K hK => ?_)
          go_simp
          refine hK _ ?_
          clear hK K
          refine hl_quiet (fun K hK => ?_)
          go_simp
          refine hK _ ?_
          clear hK K
          refine hl_pure (fun K hK => ?_)
          go_simp
          refine hK _ ?_
          clear hK K
          refine hl_pure (fun K hK => ?_)
          go_simp
          refine hK _ ?_
          clear hK K
          refine hl_pure (fun K hK => ?_)
          go_simp
          refine hK _ ?_
          clear hK K
          refine hl_pure (fun K hK => ?_)
          go_simp
          refine hK _ ?_
          clear hK K
          refine hl_quiet (fun K hK => ?_)
          go_simp
          refine hK _ ?_
          clear hK K
          refine hl_quiet (fun K hK => ?_)
          go_simp
          first
            | (refine hK _ ?_; clear hK K)
            | (apply Exists.intro; refine ⟨fun x => ?_, hK _ ?_⟩
               · (exact HCI.out _)
               clear hK K)
          refine hl_pure (fun K hK => ?_)
          go_simp
          refine hK _ ?_
          clear hK K
          refine hl_pure (fun K hK => ?_)
          go_simp
          refine hK _ ?_
          clear hK K
          refine hl_pure (fun K hK => ?_)
          go_simp
          refine hK _ ?_
          clear hK K
          refine hl_make rfl (fun x => by go_simp; exact Later.made x _ _) ?_
          refine hl_nil ?_
          intro uw4 w4 hx4 hu4 K hK
          obtain ⟨g4, rfl, hg4, hA4⟩ := hu4
          have sg4 := hA4.lt
          have c_hA4_0 := hA4.cell 0
          have f_hA4_0 := hA4.frozen 0
          simp only [List.getElem?_toArray, List.getElem?_cons_zero, List.getElem?_cons_succ] at c_hA4_0
          have c_hA4_1 := hA4.cell 1
          have f_hA4_1 := hA4.frozen 1
          simp only [List.getElem?_toArray, List.getElem?_cons_zero, List.getElem?_cons_succ] at c_hA4_1
          have c_hA4_2 := hA4.cell 2
          have f_hA4_2 := hA4.frozen 2
          simp only [List.getElem?_toArray, List.getElem?_cons_zero, List.getElem?_cons_succ] at c_hA4_2
          have c_hA4_3 := hA4.cell 3
          have f_hA4_3 := hA4.frozen 3
          simp only [List.getElem?_toArray, List.getElem?_cons_zero, List.getElem?_cons_succ] at c_hA4_3
          have s_hA4 := hA4.lt
          go_wp2_with fail
          refine gen_world (fun W => Ext w3 W ∧ At W g4 33 #[.bool true, .bool u1, .int .i64 (T + G + x.h1), .bool false]) ⟨(((hx4.setCell hg4 _).setCell hg4 _).setCell hg4 _).setCell hg4 _, (((hA4.set 0 _).set 1 _).set 2 _).set 3 _⟩ (fun w5 hF5 => ?_)
          obtain ⟨x5, P5⟩ := hF5
          clear hA4 hx4 c_hA4_0 c_hA4_1 c_hA4_2 c_hA4_3 f_hA4_0 f_hA4_1 f_hA4_2 f_hA4_3 s_hA4 sg4
          have X5 := X4.ext x5
          have A5 := A4.ext x5
          have B5 := B4.ext x5
          have e5 := cellsAt_at X5
          have s5 := X5.lt
          have c_A5_0 := A5.cell 0
          have f_A5_0 := A5.frozen 0
          simp only [List.getElem?_toArray, List.getElem?_cons_zero, List.getElem?_cons_succ] at c_A5_0
          have c_A5_1 := A5.cell 1
          have f_A5_1 := A5.frozen 1
          simp only [List.getElem?_toArray, List.getElem?_cons_zero, List.getElem?_cons_succ] at c_A5_1
          have c_A5_2 := A5.cell 2
          have f_A5_2 := A5.frozen 2
          simp only [List.getElem?_toArray, List.getElem?_cons_zero, List.getElem?_cons_succ] at c_A5_2
          have c_A5_3 := A5.cell 3
          have f_A5_3 := A5.frozen 3
          simp only [List.getElem?_toArray, List.getElem?_cons_zero, List.getElem?_cons_succ] at c_A5_3
          have s_A5 := A5.lt
          have c_B5_0 := B5.cell 0
          have f_B5_0 := B5.frozen 0
          simp only [List.getElem?_toArray, List.getElem?_cons_zero, List.getElem?_cons_succ] at c_B5_0
          have c_B5_1 := B5.cell 1
          have f_B5_1 := B5.frozen 1
          simp only [List.getElem?_toArray, List.getElem?_cons_zero, List.getElem?_cons_succ] at c_B5_1
          have c_B5_2 := B5.cell 2
          have f_B5_2 := B5.frozen 2
          simp only [List.getElem?_toArray, List.getElem?_cons_zero, List.getElem?_cons_succ] at c_B5_2
          have c_B5_3 := B5.cell 3
          have f_B5_3 := B5.frozen 3
          simp only [List.getElem?_toArray, List.getElem?_cons_zero, List.getElem?_cons_succ] at c_B5_3
          have s_B5 := B5.lt
          have c_P5_0 := P5.cell 0
          have f_P5_0 := P5.frozen 0
          simp only [List.getElem?_toArray, List.getElem?_cons_zero, List.getElem?_cons_succ] at c_P5_0
          have c_P5_1 := P5.cell 1
          have f_P5_1 := P5.frozen 1
          simp only [List.getElem?_toArray, List.getElem?_cons_zero, List.getElem?_cons_succ] at c_P5_1
          have c_P5_2 := P5.cell 2
          have f_P5_2 := P5.frozen 2
          simp only [List.getElem?_toArray, List.getElem?_cons_zero, List.getElem?_cons_succ] at c_P5_2
          have c_P5_3 := P5.cell 3
          have f_P5_3 := P5.frozen 3
          simp only [List.getElem?_toArray, List.getElem?_cons_zero, List.getElem?_cons_succ] at c_P5_3
          have s_P5 := P5.lt
          refine wp_region_x 65 [0, 0, 0, 0, 0, 0, 0, 0, 0, 0, 0, 0, 1, 0, 0, 1, 0, 0, 0, 0, 0, 0, 0, 0, 0, 0, 0, 0, 0, 0, 1, 1, 0, 0, 0, 0, 0, 0, 0, 0, 0, 0, 0, 0, 1, 0, 1, 0, 1, 0, 0, 0, 0, 0, 0, 0, 0, 1, 0, 0, 1, 0, 0, 0, 0] (by kernel_rfl) (by kernel_rfl) (by kernel_rfl) ?_
          simp only [List.take_succ_cons, List.take_zero, List.drop_succ_cons, List.drop_zero]
          refine hl_pure (fun K hK => ?_)
          go_simp
          refine hK _ ?_
          clear hK K
          refine hl_pure (fun K hK => ?_)
          go_simp
          refine hK _ ?_
          clear hK K
          refine hl_pure (fun K hK => ?_)
          go_simp
          refine hK _ ?_
          clear hK K
          refine hl_pure (fun K hK => ?_)
          go_simp
          refine hK _ ?_
          clear hK K
          refine hl_pure (fun K hK => ?_)
          go_simp
          refine hK _ ?_
          clear hK K
          refine hl_pure (fun K hK => ?_)
          go_simp
          refine hK _ ?_
          clear hK K
          refine hl_pure (fun K hK => ?_)
          go_simp
          refine hK _ ?_
          clear hK K
          refine hl_pure (fun K hK => ?_)
          go_simp
          refine hK _ ?_
          clear hK K
          refine hl_pure (fun K hK => ?_)
          go_simp
          refine hK _ ?_
          clear hK K
          refine hl_pure (fun K hK => ?_)
          go_simp
          refine hK _ ?_
          clear hK K
          refine hl_pure (fun K hK => ?_)
          go_simp
          refine hK _ ?_
          clear hK K
          refine hl_pure (fun K hK => ?_)
          go_simp
          refine hK _ ?_
          clear hK K
          refine hl_quiet (fun K hK => ?_)
          go_simp
          refine hK _ ?_
          clear hK K
          refine hl_pure (fun K hK => ?_)
          go_simp
          refine hK _ ?_
          clear hK K
          refine hl_pure (fun K hK => ?_)
          go_simp
          refine hK _ ?_
          clear hK K
          refine hl_quiet (fun K hK => ?_)
          go_simp
          refine hK _ ?_
          clear hK K
          refine hl_pure (fun K hK => ?_)
          go_simp
          refine hK _ ?_
          clear hK K
          refine hl_pure (fun K hK => ?_)
          go_simp
          refine hK _ ?_
          clear hK K
          refine hl_pure (fun K hK => ?_)
          go_simp
          refine hK _ ?_
          clear hK K
          refine hl_pure (fun K hK => ?_)
          go_simp
          refine hK _ ?_
          clear hK K
          refine hl_pure (fun K hK => ?_)
          go_simp
          refine hK _ ?_
          clear hK K
          refine hl_pure (fun K hK => ?_)
          go_simp
          refine hK _ ?_
          clear hK K
          refine hl_pure (fun K hK => ?_)
          go_simp
          refine hK _ ?_
          clear hK K
          refine hl_pure (fun K hK => ?_)
          go_simp
          refine hK _ ?_
          clear hK K
          refine hl_pure (fun K hK => ?_)
          go_simp
          refine hK _ ?_
          clear hK K
          refine hl_pure (fun K hK => ?_)
          go_simp
          refine hK _ ?_
          clear hK K
          refine hl_pure (fun K hK => ?_)
          go_simp
          refine hK _ ?_
          clear hK K
          refine hl_pure (fun K hK => ?_)
          go_simp
          refine hK _ ?_
          clear hK K
          refine hl_pure (fun K hK => ?_)
          go_simp
          refine hK _ ?_
          clear hK K
          refine hl_pure (fun K hK => ?_)
          go_simp
          refine hK _ ?_
          clear hK K
          refine hl_quiet (fun K hK => ?_)
          go_simp
          refine hK _ ?_
          clear hK K
          refine hl_quiet (fun K hK => ?_)
          go_simp
          refine hK _ ?_
          clear hK K
          refine hl_pure (fun K hK => ?_)
          go_simp
          refine hK _ ?_
          clear hK K
          refine hl_pure (fun K hK => ?_)
          go_simp
          refine hK _ ?_
          clear hK K
          refine hl_pure (fun K hK => ?_)
          go_simp
          refine hK _ ?_
          clear hK K
          refine hl_pure (fun K hK => ?_)
          go_simp
          refine hK _ ?_
          clear hK K
          refine hl_pure (fun K hK => ?_)
          go_simp
          refine hK _ ?_
          clear hK K
          refine hl_pure (fun K hK => ?_)
          go_simp
          refine hK _ ?_
          clear hK K
          refine hl_pure (fun K hK => ?_)
          go_simp
          refine hK _ ?_
          clear hK K
          refine hl_pure (fun K hK => ?_)
          go_simp
          refine hK _ ?_
          clear hK K
          refine hl_pure (fun K hK => ?_)
          go_simp
          refine hK _ ?_
          clear hK K
          refine hl_pure (fun K hK => ?_)
          go_simp
          refine hK _ ?_
          clear hK K
          refine hl_pure (fun K hK => ?_)
          go_simp
          refine hK _ ?_
          clear hK K
          refine hl_pure (fun K hK => ?_)
          go_simp
          refine hK _ ?_
          clear hK K
          refine hl_quiet (fun K hK => ?_)
          go_simp
          refine hK _ ?_
          clear hK K
          refine hl_pure (fun K hK => ?_)
          go_simp
          refine hK _ ?_
          clear hK K
          refine hl_quiet (fun K hK => ?_)
          go_simp
          refine hK _ ?_
          clear hK K
          refine hl_pure (fun K hK => ?_)
          go_simp
          refine hK _ ?_
          clear hK K
          refine hl_quiet (fun K hK => ?_)
          go_simp
          first
            | (refine hK _ ?_; clear hK K)
            | (apply Exists.intro; refine ⟨fun x => ?_, hK _ ?_⟩
               · (exact CS2 _)
               clear hK K)
          refine hl_pure (fun K hK => ?_)
          go_simp
          refine hK _ ?_
          clear hK K
          refine hl_pure (fun K hK => ?_)
          go_simp
          refine hK _ ?_
          clear hK K
          refine hl_pure (fun K hK => ?_)
          go_simp
          refine hK _ ?_
          clear hK K
          refine hl_pure (fun K hK => ?_)
          go_simp
          refine hK _ ?_
          clear hK K
          refine hl_pure (fun K hK => ?_)
          go_simp
          refine hK _ ?_
          clear hK K
          refine hl_pure (fun K hK => ?_)
          go_simp
          refine hK _ ?_
          clear hK K
          refine hl_pure (fun K hK => ?_)
          go_simp
          refine hK _ ?_
          clear hK K
          refine hl_pure (fun K hK => ?_)
          go_simp
          refine hK _ ?_
          clear hK K
          refine hl_quiet (fun K hK => ?_)
          go_simp
          refine hK _ ?_
          clear hK K
          refine hl_pure (fun K hK => ?_)
          go_simp
          refine hK _ ?_
          clear hK K
          refine hl_pure (fun K hK => ?_)
          go_simp
          refine hK _ ?_
          clear hK K
          refine hl_quiet (fun K hK => ?_)
          go_simp
          refine hK _ ?_
          clear hK K
          refine hl_pure (fun K hK => ?_)
          go_simp
          refine hK _ ?_
          clear hK K
          refine hl_pure (fun K hK => ?_)
          go_simp
          refine hK _ ?_
          clear hK K
          refine hl_pure (fun K hK => ?_)
          go_simp
          refine hK _ ?_
          clear hK K
          refine hl_pure (fun K hK => ?_)
          go_simp
          refine hK _ ?_
          clear hK K
          refine hl_nil ?_
          intro w6 x6 K6 hK6
          have y6 := x5.trans x6
          have X6 := X4.ext y6
          have A6 := A4.ext y6
          have B6 := B4.ext y6
          have P6 := P5.ext x6
          have z6 := hx.trans (hx3.trans y6)
          have q1 : w.heap.size ≤ g1 := by omega
          have q2 : w.heap.size ≤ g1 + 1 := by omega
          have r1 : w.heap.size ≠ g1 := by omega
          have r2 : w.heap.size ≠ g1 + 1 := by omega
          have r3 : g1 ≠ g1 + 1 := by omega
          have r4 : g1 + 1 ≠ g1 := by omega
          have n48 : g4 ≠ g1 := by have := hx3.size; omega
          have n49 : g4 ≠ g1 + 1 := by have := hx3.size; omega
          have c_A6_0 := A6.cell 0
          have f_A6_0 := A6.frozen 0
          simp only [List.getElem?_toArray, List.getElem?_cons_zero, List.getElem?_cons_succ] at c_A6_0
          have c_A6_1 := A6.cell 1
          have f_A6_1 := A6.frozen 1
          simp only [List.getElem?_toArray, List.getElem?_cons_zero, List.getElem?_cons_succ] at c_A6_1
          have c_A6_2 := A6.cell 2
          have f_A6_2 := A6.frozen 2
          simp only [List.getElem?_toArray, List.getElem?_cons_zero, List.getElem?_cons_succ] at c_A6_2
          have c_A6_3 := A6.cell 3
          have f_A6_3 := A6.frozen 3
          simp only [List.getElem?_toArray, List.getElem?_cons_zero, List.getElem?_cons_succ] at c_A6_3
          have s_A6 := A6.lt
          have c_B6_0 := B6.cell 0
          have f_B6_0 := B6.frozen 0
          simp only [List.getElem?_toArray, List.getElem?_cons_zero, List.getElem?_cons_succ] at c_B6_0
          have c_B6_1 := B6.cell 1
          have f_B6_1 := B6.frozen 1
          simp only [List.getElem?_toArray, List.getElem?_cons_zero, List.getElem?_cons_succ] at c_B6_1
          have c_B6_2 := B6.cell 2
          have f_B6_2 := B6.frozen 2
          simp only [List.getElem?_toArray, List.getElem?_cons_zero, List.getElem?_cons_succ] at c_B6_2
          have c_B6_3 := B6.cell 3
          have f_B6_3 := B6.frozen 3
          simp only [List.getElem?_toArray, List.getElem?_cons_zero, List.getElem?_cons_succ] at c_B6_3
          have s_B6 := B6.lt
          have c_P6_0 := P6.cell 0
          have f_P6_0 := P6.frozen 0
          simp only [List.getElem?_toArray, List.getElem?_cons_zero, List.getElem?_cons_succ] at c_P6_0
          have c_P6_1 := P6.cell 1
          have f_P6_1 := P6.frozen 1
          simp only [List.getElem?_toArray, List.getElem?_cons_zero, List.getElem?_cons_succ] at c_P6_1
          have c_P6_2 := P6.cell 2
          have f_P6_2 := P6.frozen 2
          simp only [List.getElem?_toArray, List.getElem?_cons_zero, List.getElem?_cons_succ] at c_P6_2
          have c_P6_3 := P6.cell 3
          have f_P6_3 := P6.frozen 3
          simp only [List.getElem?_toArray, List.getElem?_cons_zero, List.getElem?_cons_succ] at c_P6_3
          have s_P6 := P6.lt
          refine wpList_nil (hK6 _ _ ?_)
          go_wp2_with fail
          go_roundw
          case rel => exact ⟨k + 1, T + G, ⟨true, u1, T + G + x.h1, false⟩, true, e2, false, by go_num, rfl, by omega, by omega, by omega, (((((z6.setCell q2 _).setCell q1 _).setCell q1 _).setCell q1 _).setCell q1 _), (((((X6.far r2 _).far r1 _).far r1 _).far r1 _).far r1 _), (((((A6.far r3 _).set 0 _).set 1 _).set 2 _).set 3 _), (((((B6.set 1 _).far r4 _).far r4 _).far r4 _).far r4 _), fun _ => rfl, i2, fun h => (by cases h)⟩
          case measure => simp [intOf]; omega
      · by_cases hk1 : k < gs.xs.length
        · have hk2 : ¬ k < is.xs.length := fun h => hlt ⟨hk1, h⟩
          clear hlt
          go_wp2_with fail
          refine (alive_c23 _).mono ?_
          rintro e w4 ⟨rfl, hx4⟩
          go_wp2_with fail
          first | refine fin_ret rfl (fun K hK => ?_) | refine fin_norm rfl (fun K hK => ?_)
          simp [results, Try.results4, go_sem, rsat]
          try go_simp
          refine hK _ ?_
          clear hK K
          exact ⟨rfl, hx.trans hx4⟩
        · clear hlt
          go_wp2_with fail
          refine (alive_c23 _).mono ?_
          rintro e w4 ⟨rfl, hx4⟩
          go_wp2_with fail
          first | refine fin_ret rfl (fun K hK => ?_) | refine fin_norm rfl (fun K hK => ?_)
          simp [results, Try.results4, go_sem, rsat]
          try go_simp
          refine hK _ ?_
          clear hK K
          exact ⟨rfl, hx.trans hx4⟩
end Go.Proofs.Ytdefimhdjllfaaa
