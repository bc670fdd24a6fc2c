/- The walks of law22's light and alive. No condition. -/
import Derived.Test.YtmgcnjcdbidcfaaP2
namespace Go.Proofs.Ytmgcnjcdbidcfaa
open Go.RowKit
attribute [local go_sem] Later.cell QUpon_value QUpon_enter MUpon_value
attribute [local go_sem ↓ high] loadSym_is storeSym_is loadCfg22_is storeCfg22_is
attribute [local go_sem] run_loadSym run_loadSym_at run_storeSym run_loadCfg22 run_loadCfg22_at run_storeCfg22 one_int one_bool one_slice one_ptr one_str setRow_new setRow_past cell_ca frozen_ca cellsAt_alloc_at cellsAt_alloc_past cellsAt_drew cellsAt_later cellsAt_setCell cellsAt_set_same cellsAt_setRow_same cellsAt_setRow_far subAt_alloc subAt_drew subAt_later subAt_setCell subAt_setRow ltn_2 ltn_3 ltn_4 ltn_5
attribute [local go_sem] cfg_field0

def tickB (t : Int) : Bool := decide (0 ≤ t) && decide (t ≤ 1152921504606846976)
def lightB (s : Sym) (ro un : Int) : Bool := (symI s == 0) && decide (0 ≤ ro) && decide (ro ≤ 10) && decide (0 ≤ un) && decide (un ≤ 1152921504606846976)
structure Lig (s : Sym) (ro un : Int) : Prop where
  ok : s.Ok
  r1 : 0 ≤ ro
  r2 : ro ≤ 10
  u1 : 0 ≤ un
  u2 : un ≤ 1152921504606846976
theorem lig_of {s : Sym} {ro un : Int} (h : lightB s ro un = true) : Lig s ro un := by
  unfold lightB at h
  simp only [Bool.and_eq_true, decide_eq_true_eq, beq_iff_eq] at h
  exact ⟨sym_ok h.1.1.1.1, h.1.1.1.2, h.1.1.2, h.1.2, h.2⟩
set_option maxRecDepth 100000 in
set_option maxHeartbeats 1600000 in
theorem light_c (s : Sym) (hs : s.I) (ph ro un : Int) (xs : List Int) (A : Option Addr) (c : Nat) (hl : xs.length ≤ 1000) (w : World) (hA : xs = [] ∨ ∃ g, A = some ⟨g, 0, none⟩ ∧ At w g 2 (nums xs)) :
    Calls Try.prog 6 #[symV s, .agg #[.int .i64 ph, .int .i64 ro, .int .i64 un], .slice A xs.length c] w fun e w' => e = .returned (.bool (xs.all tickB && lightB s ro un)) ∧ Ext w w' := by
  have C := symbol_c s hs
  unfold symV symC at C ⊢
  obtain ⟨n, hn⟩ : ∃ n, n = symI s := ⟨_, rfl⟩
  unfold lightB
  rw [← hn] at C ⊢
  have HC := Lib.hid C
  have HA := Lib.hid hA
  clear C hn hA
  go_enter Try.func6, Try.ntmps6
  go_wp2_with fail
  go_loopw [7] (fun i wr => ∃ k : Nat, i = .int .i64 k ∧ k ≤ xs.length ∧ Ext w wr ∧ At wr w.heap.size 23 #[.int .i64 s.grid, .int .i64 s.ref, .int .i64 s.stat, .int .i64 s.dyn, .int .i64 s.win, .int .i64 s.move, .int .i64 s.lim, .int .i64 s.pause, .int .i64 s.ext, .int .i64 s.mx, .int .i64 s.coll, .int .i64 s.wid, .int .i64 s.self, .int .i64 s.slots, .int .i64 s.lev, .int .i64 s.short] ∧ At wr (w.heap.size + 1) 25 #[.int .i64 ph, .int .i64 ro, .int .i64 un] ∧ Hid ((xs.take k).all tickB = true)) (fun i _ => xs.length - (intOf i).toNat)
  case atStart => exact ⟨0, rfl, by omega, (by repeat (first | (with_reducible exact Ext.refl _) | (with_reducible assumption) | (with_reducible refine Ext.alloc ?_ _) | (with_reducible refine Ext.drew ?_) | (with_reducible refine Ext.drewN ?_ _) | (with_reducible refine Ext.setCell ?_ (by simp; try omega) _) | (with_reducible refine Ext.setRow ?_ (by simp; try omega) _))), (by repeat (first | (with_reducible exact At.new _ _ _) | ((with_reducible refine At.new' _ _ _ _ ?_); simp; done) | (with_reducible assumption) | (with_reducible refine At.drew ?_) | (with_reducible refine At.alloc ?_ _) | (with_reducible apply At.upd) | (with_reducible apply At.setRow) | (with_reducible refine At.rowFar ?_ (by first | (simp; done) | (simp; omega) | omega) _) | ((with_reducible refine At.far ?_ (by first | (simp; done) | (simp; omega) | omega) _)) | (with_reducible rfl) | (simp; done))), (by repeat (first | (with_reducible exact At.new _ _ _) | ((with_reducible refine At.new' _ _ _ _ ?_); simp; done) | (with_reducible assumption) | (with_reducible refine At.drew ?_) | (with_reducible refine At.alloc ?_ _) | (with_reducible apply At.upd) | (with_reducible apply At.setRow) | (with_reducible refine At.rowFar ?_ (by first | (simp; done) | (simp; omega) | omega) _) | ((with_reducible refine At.far ?_ (by first | (simp; done) | (simp; omega) | omega) _)) | (with_reducible rfl) | (simp; done))), Lib.hid (by simp)⟩
  case round =>
    obtain ⟨k, rfl, hk, hx, hS, hT, hb⟩ := hrel
    by_cases hlt : k < xs.length
    · obtain ⟨g, rfl, hg⟩ : ∃ g, A = some ⟨g, 0, none⟩ ∧ At w g 2 (nums xs) := by
        rcases HA.out with h | h
        · rw [h] at hlt; simp at hlt
        · exact h
      have hg1 := hg.ext hx
      have hc := (hg1.cell k).trans (nums_get xs k hlt)
      obtain ⟨x, hxn⟩ : ∃ x, x = xs[k]?.getD 0 := ⟨_, rfl⟩
      rw [← hxn] at hc
      have hnx : xs.take (k + 1) = xs.take k ++ [x] := by
        rw [List.take_succ_eq_append_getElem hlt, hxn]
        simp [hlt]
      have hmem : x ∈ xs := by rw [hxn]; simp [hlt]
      have HN := Lib.hid hnx
      clear hnx hxn
      by_cases h1 : x < 0
      · have hf : xs.all tickB = false := by
          rw [List.all_eq_false]
          refine ⟨x, hmem, ?_⟩
          unfold tickB
          rw [decide_eq_false (by omega)]
          simp
        have HF := Lib.hid hf
        clear hf
        go_wp2_with fail
        first | refine fin_ret rfl (fun K hK => ?_) | refine fin_norm rfl (fun K hK => ?_)
        simp [results, Try.results6, go_sem, rsat]
        try go_simp
        refine hK _ ?_
        clear hK K
        rw [HF.out]
        exact ⟨rfl, (by repeat (first | (with_reducible exact Ext.refl _) | (with_reducible assumption) | (with_reducible refine Ext.alloc ?_ _) | (with_reducible refine Ext.drew ?_) | (with_reducible refine Ext.drewN ?_ _) | (with_reducible refine Ext.setCell ?_ (by simp; try omega) _) | (with_reducible refine Ext.setRow ?_ (by simp; try omega) _)))⟩
      · by_cases h2 : 1152921504606846976 < x
        · have hf : xs.all tickB = false := by
            rw [List.all_eq_false]
            refine ⟨x, hmem, ?_⟩
            unfold tickB
            rw [decide_eq_false (p := x ≤ 1152921504606846976) (by omega)]
            simp
          have HF := Lib.hid hf
          clear hf
          go_wp2_with fail
          first | refine fin_ret rfl (fun K hK => ?_) | refine fin_norm rfl (fun K hK => ?_)
          simp [results, Try.results6, go_sem, rsat]
          try go_simp
          refine hK _ ?_
          clear hK K
          rw [HF.out]
          exact ⟨rfl, (by repeat (first | (with_reducible exact Ext.refl _) | (with_reducible assumption) | (with_reducible refine Ext.alloc ?_ _) | (with_reducible refine Ext.drew ?_) | (with_reducible refine Ext.drewN ?_ _) | (with_reducible refine Ext.setCell ?_ (by simp; try omega) _) | (with_reducible refine Ext.setRow ?_ (by simp; try omega) _)))⟩
        · have ht : tickB x = true := by
            unfold tickB
            rw [decide_eq_true (by omega), decide_eq_true (by omega)]
            rfl
          have HT := Lib.hid ht
          clear ht
          go_wp2_with fail
          go_roundw
          case rel => exact ⟨k + 1, by go_num, by omega, (by repeat (first | (with_reducible exact Ext.refl _) | (with_reducible assumption) | (with_reducible refine Ext.alloc ?_ _) | (with_reducible refine Ext.drew ?_) | (with_reducible refine Ext.drewN ?_ _) | (with_reducible refine Ext.setCell ?_ (by simp; try omega) _) | (with_reducible refine Ext.setRow ?_ (by simp; try omega) _))), hS, hT, Lib.hid (by rw [HN.out, List.all_append, hb.out]; simp [HT.out])⟩
          case measure => simp [intOf]; omega
    · obtain rfl : k = xs.length := by omega
      have hall := hb.out
      rw [List.take_length] at hall
      have HALL := Lib.hid hall
      clear hall hb
      have eS := cellsAt_at hS
      have sS := hS.lt
      have c_hT_0 := hT.cell 0
      have f_hT_0 := hT.frozen 0
      simp only [List.getElem?_toArray, List.getElem?_cons_zero, List.getElem?_cons_succ] at c_hT_0
      have c_hT_1 := hT.cell 1
      have f_hT_1 := hT.frozen 1
      simp only [List.getElem?_toArray, List.getElem?_cons_zero, List.getElem?_cons_succ] at c_hT_1
      have c_hT_2 := hT.cell 2
      have f_hT_2 := hT.frozen 2
      simp only [List.getElem?_toArray, List.getElem?_cons_zero, List.getElem?_cons_succ] at c_hT_2
      have s_hT := hT.lt
      go_wp2_with fail
      refine (HC.out _).mono ?_
      rintro e w1 ⟨rfl, hx1⟩
      have hT1 := hT.ext hx1
      clear c_hT_0 c_hT_1 c_hT_2 f_hT_0 f_hT_1 f_hT_2 s_hT eS sS
      have c_hT1_0 := hT1.cell 0
      have f_hT1_0 := hT1.frozen 0
      simp only [List.getElem?_toArray, List.getElem?_cons_zero, List.getElem?_cons_succ] at c_hT1_0
      have c_hT1_1 := hT1.cell 1
      have f_hT1_1 := hT1.frozen 1
      simp only [List.getElem?_toArray, List.getElem?_cons_zero, List.getElem?_cons_succ] at c_hT1_1
      have c_hT1_2 := hT1.cell 2
      have f_hT1_2 := hT1.frozen 2
      simp only [List.getElem?_toArray, List.getElem?_cons_zero, List.getElem?_cons_succ] at c_hT1_2
      have s_hT1 := hT1.lt
      by_cases h0 : n = 0
      · subst h0
        by_cases h1 : 0 ≤ ro
        · by_cases h2 : ro ≤ 10
          · by_cases h3 : 0 ≤ un
            ·
              go_wp2_with fail
              first | refine fin_ret rfl (fun K hK => ?_) | refine fin_norm rfl (fun K hK => ?_)
              simp [results, Try.results6, go_sem, rsat]
              try go_simp
              refine hK _ ?_
              clear hK K
              refine ⟨bool_eq ?_, hx.trans hx1⟩
              rw [HALL.out]
              simp
              try omega
            ·
              go_wp2_with fail
              first | refine fin_ret rfl (fun K hK => ?_) | refine fin_norm rfl (fun K hK => ?_)
              simp [results, Try.results6, go_sem, rsat]
              try go_simp
              refine hK _ ?_
              clear hK K
              refine ⟨bool_eq ?_, hx.trans hx1⟩
              rw [HALL.out]
              simp
              try omega
          ·
            go_wp2_with fail
            first | refine fin_ret rfl (fun K hK => ?_) | refine fin_norm rfl (fun K hK => ?_)
            simp [results, Try.results6, go_sem, rsat]
            try go_simp
            refine hK _ ?_
            clear hK K
            refine ⟨bool_eq ?_, hx.trans hx1⟩
            rw [HALL.out]
            simp
            try omega
        ·
          go_wp2_with fail
          first | refine fin_ret rfl (fun K hK => ?_) | refine fin_norm rfl (fun K hK => ?_)
          simp [results, Try.results6, go_sem, rsat]
          try go_simp
          refine hK _ ?_
          clear hK K
          refine ⟨bool_eq ?_, hx.trans hx1⟩
          rw [HALL.out]
          simp
          try omega
      · obtain ⟨e1, e2⟩ := beqs7 h0
        clear h0
        go_wp2_with fail
        first | refine fin_ret rfl (fun K hK => ?_) | refine fin_norm rfl (fun K hK => ?_)
        simp [results, Try.results6, go_sem, rsat]
        try go_simp
        refine hK _ ?_
        clear hK K
        rw [HALL.out, e1]
        exact ⟨by simp, hx.trans hx1⟩
theorem plainS_I : plainS.I := ⟨⟨by decide, by decide⟩, ⟨by decide, by decide⟩, ⟨by decide, by decide⟩, ⟨by decide, by decide⟩, ⟨by decide, by decide⟩, ⟨by decide, by decide⟩, ⟨by decide, by decide⟩, ⟨by decide, by decide⟩, ⟨by decide, by decide⟩, ⟨by decide, by decide⟩, ⟨by decide, by decide⟩, ⟨by decide, by decide⟩, ⟨by decide, by decide⟩, ⟨by decide, by decide⟩, ⟨by decide, by decide⟩, ⟨by decide, by decide⟩⟩
theorem plain_lat : latI plainS 100 = 125 := by kernel_rfl
set_option maxRecDepth 100000 in
set_option maxHeartbeats 800000 in
theorem alive_c (w : World) : Calls Try.prog 7 #[] w fun e w' => e = .returned (.bool true) ∧ Ext w w' := by
  have C1 := begin_c plainS 100
  have e1 : beginT plainS 100 = .agg #[.int .i64 3, .int .i64 0, .int .i64 110] := by kernel_rfl
  rw [e1] at C1
  have C2 := latest_c plainS plainS_I 100
  rw [plain_lat] at C2
  have C3 := extend_c plainS 3 0 110
  have e3 : extT plainS 0 110 = .agg #[.int .i64 4, .int .i64 1, .int .i64 115] := by kernel_rfl
  rw [e3] at C3
  have HC1 := Lib.hid C1
  have HC2 := Lib.hid C2
  have HC3 := Lib.hid C3
  clear C1 C2 C3 e1 e3
  have C4 := due_c 3 0 110
  have e4 : dueT 3 110 = .tuple #[.int .i64 110, .bool true] := by rfl
  rw [e4] at C4
  have HC4 := Lib.hid C4
  clear C4 e4
  go_enter Try.func7, Try.ntmps7
  go_wp2_with fail
  refine (plain1_c _).mono ?_
  rintro e w1 ⟨g, c, h, rfl, hs, ⟨hg1, hg2, hc1, hc2⟩, _, hx1⟩
  unfold maxLen at hc2
  go_wp2_with fail
  refine (HC1.out _).mono ?_
  rintro e w2 ⟨rfl, hx2⟩
  have hS2 := At.ext (g := w1.heap.size) (t := 23) (cs := #[.int .i64 5, .int .i64 1000, .int .i64 2000, .int .i64 500, .int .i64 20, .int .i64 100, .int .i64 3, .int .i64 10, .int .i64 5, .int .i64 2, .int .i64 500, .int .i64 500, .int .i64 1, .int .i64 40, .int .i64 12, .int .i64 1000]) (by repeat (first | (with_reducible exact At.new _ _ _) | ((with_reducible refine At.new' _ _ _ _ ?_); simp; done) | (with_reducible assumption) | (with_reducible refine At.drew ?_) | (with_reducible refine At.alloc ?_ _) | (with_reducible apply At.upd) | (with_reducible apply At.setRow) | (with_reducible refine At.rowFar ?_ (by first | (simp; done) | (simp; omega) | omega) _) | ((with_reducible refine At.far ?_ (by first | (simp; done) | (simp; omega) | omega) _)) | (with_reducible rfl) | (simp; done))) hx2
  have x2 : Ext w w2 := Ext.trans (by repeat (first | (with_reducible exact Ext.refl _) | (with_reducible assumption) | (with_reducible refine Ext.alloc ?_ _) | (with_reducible refine Ext.drew ?_) | (with_reducible refine Ext.drewN ?_ _) | (with_reducible refine Ext.setCell ?_ (by simp; try omega) _) | (with_reducible refine Ext.setRow ?_ (by simp; try omega) _))) hx2
  clear hs hg1 hg2 hc1 hc2 hx1 hx2
  have eS2 := cellsAt_at hS2
  have sS2 := hS2.lt
  go_wp2_with fail
  refine (HC4.out _).mono ?_
  rintro e w3 ⟨rfl, hxw3⟩
  have xw3 : Ext w w3 := Ext.trans (by repeat (first | (with_reducible exact Ext.refl _) | (with_reducible assumption) | (with_reducible refine Ext.alloc ?_ _) | (with_reducible refine Ext.drew ?_) | (with_reducible refine Ext.drewN ?_ _) | (with_reducible refine Ext.setCell ?_ (by simp; try omega) _) | (with_reducible refine Ext.setRow ?_ (by simp; try omega) _))) hxw3
  have lw3 := xw3.size
  have S_w3 := At.ext (g := w1.heap.size) (t := 23) (cs := #[.int .i64 5, .int .i64 1000, .int .i64 2000, .int .i64 500, .int .i64 20, .int .i64 100, .int .i64 3, .int .i64 10, .int .i64 5, .int .i64 2, .int .i64 500, .int .i64 500, .int .i64 1, .int .i64 40, .int .i64 12, .int .i64 1000]) (by repeat (first | (with_reducible exact At.new _ _ _) | ((with_reducible refine At.new' _ _ _ _ ?_); simp; done) | (with_reducible assumption) | (with_reducible refine At.drew ?_) | (with_reducible refine At.alloc ?_ _) | (with_reducible apply At.upd) | (with_reducible apply At.setRow) | (with_reducible refine At.rowFar ?_ (by first | (simp; done) | (simp; omega) | omega) _) | ((with_reducible refine At.far ?_ (by first | (simp; done) | (simp; omega) | omega) _)) | (with_reducible rfl) | (simp; done))) hxw3
  have T_w3 := At.ext (g := w2.heap.size) (t := 30) (cs := #[.int .i64 3, .int .i64 0, .int .i64 110]) (by repeat (first | (with_reducible exact At.new _ _ _) | ((with_reducible refine At.new' _ _ _ _ ?_); simp; done) | (with_reducible assumption) | (with_reducible refine At.drew ?_) | (with_reducible refine At.alloc ?_ _) | (with_reducible apply At.upd) | (with_reducible apply At.setRow) | (with_reducible refine At.rowFar ?_ (by first | (simp; done) | (simp; omega) | omega) _) | ((with_reducible refine At.far ?_ (by first | (simp; done) | (simp; omega) | omega) _)) | (with_reducible rfl) | (simp; done))) hxw3
  clear hxw3
  have s_S_w3 := S_w3.lt
  have e_S_w3 := cellsAt_at S_w3
  have s_T_w3 := T_w3.lt
  have c_T_w3_0 := T_w3.cell 0
  have f_T_w3_0 := T_w3.frozen 0
  have c_T_w3_1 := T_w3.cell 1
  have f_T_w3_1 := T_w3.frozen 1
  have c_T_w3_2 := T_w3.cell 2
  have f_T_w3_2 := T_w3.frozen 2
  simp only [List.getElem?_toArray, List.getElem?_cons_zero, List.getElem?_cons_succ] at c_T_w3_0 c_T_w3_1 c_T_w3_2
  clear eS2 sS2 hS2
  go_wp2_with fail
  refine (HC2.out _).mono ?_
  rintro e w4 ⟨rfl, hxw4⟩
  have xw4 : Ext w w4 := Ext.trans (by repeat (first | (with_reducible exact Ext.refl _) | (with_reducible assumption) | (with_reducible refine Ext.alloc ?_ _) | (with_reducible refine Ext.drew ?_) | (with_reducible refine Ext.drewN ?_ _) | (with_reducible refine Ext.setCell ?_ (by simp; try omega) _) | (with_reducible refine Ext.setRow ?_ (by simp; try omega) _))) hxw4
  have lw4 := xw4.size
  have S_w4 := At.ext (g := w1.heap.size) (t := 23) (cs := #[.int .i64 5, .int .i64 1000, .int .i64 2000, .int .i64 500, .int .i64 20, .int .i64 100, .int .i64 3, .int .i64 10, .int .i64 5, .int .i64 2, .int .i64 500, .int .i64 500, .int .i64 1, .int .i64 40, .int .i64 12, .int .i64 1000]) (by repeat (first | (with_reducible exact At.new _ _ _) | ((with_reducible refine At.new' _ _ _ _ ?_); simp; done) | (with_reducible assumption) | (with_reducible refine At.drew ?_) | (with_reducible refine At.alloc ?_ _) | (with_reducible apply At.upd) | (with_reducible apply At.setRow) | (with_reducible refine At.rowFar ?_ (by first | (simp; done) | (simp; omega) | omega) _) | ((with_reducible refine At.far ?_ (by first | (simp; done) | (simp; omega) | omega) _)) | (with_reducible rfl) | (simp; done))) hxw4
  have T_w4 := At.ext (g := w2.heap.size) (t := 30) (cs := #[.int .i64 3, .int .i64 0, .int .i64 110]) (by repeat (first | (with_reducible exact At.new _ _ _) | ((with_reducible refine At.new' _ _ _ _ ?_); simp; done) | (with_reducible assumption) | (with_reducible refine At.drew ?_) | (with_reducible refine At.alloc ?_ _) | (with_reducible apply At.upd) | (with_reducible apply At.setRow) | (with_reducible refine At.rowFar ?_ (by first | (simp; done) | (simp; omega) | omega) _) | ((with_reducible refine At.far ?_ (by first | (simp; done) | (simp; omega) | omega) _)) | (with_reducible rfl) | (simp; done))) hxw4
  clear S_w3 s_S_w3 e_S_w3 T_w3 s_T_w3 c_T_w3_0 f_T_w3_0 c_T_w3_1 f_T_w3_1 c_T_w3_2 f_T_w3_2 hxw4 xw3
  have s_S_w4 := S_w4.lt
  have e_S_w4 := cellsAt_at S_w4
  have s_T_w4 := T_w4.lt
  have c_T_w4_0 := T_w4.cell 0
  have f_T_w4_0 := T_w4.frozen 0
  have c_T_w4_1 := T_w4.cell 1
  have f_T_w4_1 := T_w4.frozen 1
  have c_T_w4_2 := T_w4.cell 2
  have f_T_w4_2 := T_w4.frozen 2
  simp only [List.getElem?_toArray, List.getElem?_cons_zero, List.getElem?_cons_succ] at c_T_w4_0 c_T_w4_1 c_T_w4_2
  go_wp2_with fail
  refine (HC3.out _).mono ?_
  rintro e w5 ⟨rfl, hxw5⟩
  have xw5 : Ext w w5 := Ext.trans (by repeat (first | (with_reducible exact Ext.refl _) | (with_reducible assumption) | (with_reducible refine Ext.alloc ?_ _) | (with_reducible refine Ext.drew ?_) | (with_reducible refine Ext.drewN ?_ _) | (with_reducible refine Ext.setCell ?_ (by simp; try omega) _) | (with_reducible refine Ext.setRow ?_ (by simp; try omega) _))) hxw5
  have lw5 := xw5.size
  go_wp2_with fail
  first | refine fin_ret rfl (fun K hK => ?_) | refine fin_norm rfl (fun K hK => ?_)
  simp [results, Try.results7, go_sem, rsat]
  try go_simp
  refine hK _ ?_
  clear hK K
  exact ⟨rfl, (by repeat (first | (with_reducible exact Ext.refl _) | (with_reducible assumption) | (with_reducible refine Ext.alloc ?_ _) | (with_reducible refine Ext.drew ?_) | (with_reducible refine Ext.drewN ?_ _) | (with_reducible refine Ext.setCell ?_ (by simp; try omega) _) | (with_reducible refine Ext.setRow ?_ (by simp; try omega) _)))⟩
end Go.Proofs.Ytmgcnjcdbidcfaa
