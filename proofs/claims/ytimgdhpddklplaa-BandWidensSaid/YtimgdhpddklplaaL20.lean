/- The walks of the laws of layer 20. No condition. -/
import Derived.Test.YtimgdhpddklplaaG4
import Derived.Test.YtimgdhpddklplaaG5
import Derived.Test.YtimgdhpddklplaaG8
import Derived.Test.YtimgdhpddklplaaG10
namespace Go.Proofs.Ytimgdhpddklplaa
open Go.RowKit
attribute [local go_sem] Later.cell QUpon_value QUpon_enter MUpon_value
attribute [local go_sem ↓ high] loadSym_is storeSym_is loadCfg_is storeCfg_is
attribute [local go_sem] run_loadSym run_loadSym_at run_storeSym run_loadCfg run_loadCfg_at run_storeCfg one_int one_bool one_slice one_ptr one_str setRow_new setRow_past cell_ca frozen_ca cellsAt_alloc_at cellsAt_alloc_past cellsAt_drew cellsAt_later cellsAt_setCell cellsAt_set_same cellsAt_setRow_same cellsAt_setRow_far subAt_alloc subAt_drew subAt_later subAt_setCell subAt_setRow ltn_2 ltn_3 ltn_4 ltn_5
attribute [local go_sem] cfg_field0

theorem plainS_I : plainS.I := ⟨⟨by decide, by decide⟩, ⟨by decide, by decide⟩, ⟨by decide, by decide⟩, ⟨by decide, by decide⟩, ⟨by decide, by decide⟩, ⟨by decide, by decide⟩, ⟨by decide, by decide⟩, ⟨by decide, by decide⟩, ⟨by decide, by decide⟩, ⟨by decide, by decide⟩, ⟨by decide, by decide⟩, ⟨by decide, by decide⟩, ⟨by decide, by decide⟩, ⟨by decide, by decide⟩, ⟨by decide, by decide⟩, ⟨by decide, by decide⟩⟩
theorem alive_with : withT 1000 1000 2000 500 5 = .tuple #[.agg #[.int .i64 950, .int .i64 1050], .bool true] := by rfl
set_option maxRecDepth 100000 in
set_option maxHeartbeats 800000 in
theorem alive_c (w : World) : Calls Try.prog 8 #[] w fun e w' => e = .returned (.bool true) ∧ Ext w w' := by
  have C := of20_c plainS plainS_I 1000 1000 ⟨by decide, by decide⟩ ⟨by decide, by decide⟩
  have e0 : withT 1000 1000 plainS.stat plainS.dyn plainS.grid = .tuple #[.agg #[.int .i64 950, .int .i64 1050], .bool true] := alive_with
  rw [e0] at C
  have HC := Lib.hid C
  clear C e0
  go_enter Try.func8, Try.ntmps8
  go_wp2_with fail
  refine (plain1_c _).mono ?_
  rintro e w1 ⟨g, c, h, rfl, hs, ⟨hg1, hg2, hc1, hc2⟩, _, hx1⟩
  unfold maxLen at hc2
  go_wp2_with fail
  refine (HC.out _).mono ?_
  rintro e w2 ⟨rfl, hx2⟩
  have x2 := hx1.trans hx2
  clear hs hg1 hg2 hc1 hc2 hx1 hx2
  go_wp2_with fail
  refine (in_c 950 1050 950 _).mono ?_
  rintro e w3 ⟨rfl, hxw3⟩
  have xw3 : Ext w w3 := Ext.trans (by repeat (first | exact Ext.refl _ | assumption | refine Ext.alloc ?_ _ | refine Ext.drew ?_ | refine Ext.drewN ?_ _ | refine Ext.setCell ?_ (by simp; try omega) _ | refine Ext.setRow ?_ (by simp; try omega) _)) hxw3
  have lw3 := xw3.size
  have B_w3 := At.ext (g := w2.heap.size) (t := 27) (cs := #[.int .i64 950, .int .i64 1050]) (by repeat (first | (with_reducible exact At.new _ _ _) | ((with_reducible refine At.new' _ _ _ _ ?_); simp; done) | (with_reducible assumption) | (with_reducible refine At.drew ?_) | (with_reducible refine At.alloc ?_ _) | (with_reducible apply At.upd) | (with_reducible apply At.setRow) | (with_reducible refine At.rowFar ?_ (by first | (simp; done) | (simp; omega) | omega) _) | ((with_reducible refine At.far ?_ (by first | (simp; done) | (simp; omega) | omega) _)) | (with_reducible rfl) | (simp; done))) hxw3
  clear hxw3
  have s_B_w3 := B_w3.lt
  have c_B_w3_0 := B_w3.cell 0
  have f_B_w3_0 := B_w3.frozen 0
  have c_B_w3_1 := B_w3.cell 1
  have f_B_w3_1 := B_w3.frozen 1
  simp only [List.getElem?_toArray, List.getElem?_cons_zero, List.getElem?_cons_succ] at c_B_w3_0 c_B_w3_1
  have e3 : inB 950 1050 950 = true := rfl
  rw [e3]
  clear e3
  go_wp2_with fail
  refine (in_c 950 1050 949 _).mono ?_
  rintro e w4 ⟨rfl, hxw4⟩
  have xw4 : Ext w w4 := Ext.trans (by repeat (first | exact Ext.refl _ | assumption | refine Ext.alloc ?_ _ | refine Ext.drew ?_ | refine Ext.drewN ?_ _ | refine Ext.setCell ?_ (by simp; try omega) _ | refine Ext.setRow ?_ (by simp; try omega) _)) hxw4
  have lw4 := xw4.size
  have e4 : inB 950 1050 949 = false := rfl
  rw [e4]
  clear e4
  go_wp2_with fail
  refine fin_ret rfl (fun K hK => ?_)
  simp [results, Try.results8, go_sem, rsat]
  try go_simp
  refine hK _ ?_
  clear hK K
  exact ⟨rfl, (by repeat (first | exact Ext.refl _ | assumption | refine Ext.alloc ?_ _ | refine Ext.drew ?_ | refine Ext.drewN ?_ _ | refine Ext.setCell ?_ (by simp; try omega) _ | refine Ext.setRow ?_ (by simp; try omega) _))⟩
def calmB (s : Sym) : Bool := decide (-1073741824 ≤ s.coll) && decide (s.coll ≤ 1073741824) && decide (-1073741824 ≤ s.wid) && decide (s.wid ≤ 1073741824)
theorem calm_is {s : Sym} (h : calmB s = true) : s.Calm := by
  unfold calmB at h
  simp only [Bool.and_eq_true, decide_eq_true_eq] at h
  exact ⟨h.1.1.1, h.1.1.2, h.1.2, h.2⟩
set_option maxRecDepth 100000 in
theorem calm_c (s : Sym) (w : World) : Calls Try.prog 7 #[symV s] w fun e w' => e = .returned (.bool (calmB s)) ∧ Ext w w' := by
  unfold symV symC calmB
  by_cases h1 : -1073741824 ≤ s.coll
  · by_cases h2 : s.coll ≤ 1073741824
    · by_cases h3 : -1073741824 ≤ s.wid
      · rw [decide_eq_true h1, decide_eq_true h2, decide_eq_true h3]
        go_enter Try.func7, Try.ntmps7
        go_wp2_with fail
        refine fin_ret rfl (fun K hK => ?_)
        simp [results, Try.results7, go_sem, rsat]
        try go_simp
        refine hK _ ?_
        clear hK K
        exact ⟨rfl, (by repeat (first | exact Ext.refl _ | assumption | refine Ext.alloc ?_ _ | refine Ext.drew ?_ | refine Ext.drewN ?_ _ | refine Ext.setCell ?_ (by simp; try omega) _ | refine Ext.setRow ?_ (by simp; try omega) _))⟩
      · rw [decide_eq_true h1, decide_eq_true h2, decide_eq_false h3]
        go_enter Try.func7, Try.ntmps7
        go_wp2_with fail
        refine fin_ret rfl (fun K hK => ?_)
        simp [results, Try.results7, go_sem, rsat]
        try go_simp
        refine hK _ ?_
        clear hK K
        exact ⟨rfl, (by repeat (first | exact Ext.refl _ | assumption | refine Ext.alloc ?_ _ | refine Ext.drew ?_ | refine Ext.drewN ?_ _ | refine Ext.setCell ?_ (by simp; try omega) _ | refine Ext.setRow ?_ (by simp; try omega) _))⟩
    · rw [decide_eq_true h1, decide_eq_false h2]
      go_enter Try.func7, Try.ntmps7
      go_wp2_with fail
      refine fin_ret rfl (fun K hK => ?_)
      simp [results, Try.results7, go_sem, rsat]
      try go_simp
      refine hK _ ?_
      clear hK K
      exact ⟨rfl, (by repeat (first | exact Ext.refl _ | assumption | refine Ext.alloc ?_ _ | refine Ext.drew ?_ | refine Ext.drewN ?_ _ | refine Ext.setCell ?_ (by simp; try omega) _ | refine Ext.setRow ?_ (by simp; try omega) _))⟩
  · rw [decide_eq_false h1]
    go_enter Try.func7, Try.ntmps7
    go_wp2_with fail
    refine fin_ret rfl (fun K hK => ?_)
    simp [results, Try.results7, go_sem, rsat]
    try go_simp
    refine hK _ ?_
    clear hK K
    exact ⟨rfl, (by repeat (first | exact Ext.refl _ | assumption | refine Ext.alloc ?_ _ | refine Ext.drew ?_ | refine Ext.drewN ?_ _ | refine Ext.setCell ?_ (by simp; try omega) _ | refine Ext.setRow ?_ (by simp; try omega) _))⟩
set_option maxRecDepth 100000 in
set_option maxHeartbeats 1600000 in
theorem bandofs_c (s : Sym) (hs : s.I) (f r n : Int) (hf : I64 f) (hr : I64 r) (hn : I64 n) (w : World) : Calls Try.prog 3 #[symV s, .int .i64 f, .int .i64 r, .int .i64 n] w fun e w' => e = .returned (.bool true) ∧ Ext w w' := by
  have C0 := calm_c s
  cases hB : calmB s
  · rw [hB] at C0
    unfold symV symC at C0 ⊢
    have HC0 := Lib.hid C0
    clear C0 hB
    go_enter Try.func3, Try.ntmps3
    go_wp2_with fail
    refine (HC0.out _).mono ?_
    rintro e w1 ⟨rfl, hxw1⟩
    have xw1 : Ext w w1 := Ext.trans (by repeat (first | exact Ext.refl _ | assumption | refine Ext.alloc ?_ _ | refine Ext.drew ?_ | refine Ext.drewN ?_ _ | refine Ext.setCell ?_ (by simp; try omega) _ | refine Ext.setRow ?_ (by simp; try omega) _)) hxw1
    have lw1 := xw1.size
    go_wp2_with fail
    refine (alive_c _).mono ?_
    rintro e w2 ⟨rfl, hxw2⟩
    have xw2 : Ext w w2 := Ext.trans (by repeat (first | exact Ext.refl _ | assumption | refine Ext.alloc ?_ _ | refine Ext.drew ?_ | refine Ext.drewN ?_ _ | refine Ext.setCell ?_ (by simp; try omega) _ | refine Ext.setRow ?_ (by simp; try omega) _)) hxw2
    have lw2 := xw2.size
    go_wp2_with fail
    refine fin_ret rfl (fun K hK => ?_)
    simp [results, Try.results3, go_sem, rsat]
    try go_simp
    refine hK _ ?_
    clear hK K
    exact ⟨rfl, (by repeat (first | exact Ext.refl _ | assumption | refine Ext.alloc ?_ _ | refine Ext.drew ?_ | refine Ext.drewN ?_ _ | refine Ext.setCell ?_ (by simp; try omega) _ | refine Ext.setRow ?_ (by simp; try omega) _))⟩
  · have hc := calm_is hB
    rw [hB] at C0
    have C1 := static_c s hs f hf
    have C2 := rstatic_c s hs f hf
    have C3 := dynamic_c s hs r hr
    have C4 := rdynamic_c s hs r hr
    have C5 := of20_c s hs f r hf hr
    have C6 := rof20_c s hs f r hf hr
    have C7 := collar_c s hs hc f r n hf hr
    have C8 := rcollar_c s hs hc f r n hf hr hn
    obtain ⟨x1, y1, c1, h1⟩ := bandT_open f s.stat s.grid
    obtain ⟨x2, y2, c2, h2⟩ := bandT_open r s.dyn s.grid
    obtain ⟨x3, y3, c3, h3⟩ := withT_open f r s.stat s.dyn s.grid
    obtain ⟨x4, y4, c4, h4⟩ := collT_open s f r n
    rw [h1] at C1 C2
    rw [h2] at C3 C4
    rw [h3] at C5 C6
    rw [h4] at C7 C8
    unfold symV symC at C0 C1 C2 C3 C4 C5 C6 C7 C8 ⊢
    have HC0 := Lib.hid C0
    have HC1 := Lib.hid C1
    have HC2 := Lib.hid C2
    have HC3 := Lib.hid C3
    have HC4 := Lib.hid C4
    have HC5 := Lib.hid C5
    have HC6 := Lib.hid C6
    have HC7 := Lib.hid C7
    have HC8 := Lib.hid C8
    clear C0 C1 C2 C3 C4 C5 C6 C7 C8 h1 h2 h3 h4 hB hs hc hf hr hn
    go_enter Try.func3, Try.ntmps3
    go_wp2_with fail
    refine (HC0.out _).mono ?_
    rintro e w1 ⟨rfl, hxw1⟩
    have xw1 : Ext w w1 := Ext.trans (by repeat (first | exact Ext.refl _ | assumption | refine Ext.alloc ?_ _ | refine Ext.drew ?_ | refine Ext.drewN ?_ _ | refine Ext.setCell ?_ (by simp; try omega) _ | refine Ext.setRow ?_ (by simp; try omega) _)) hxw1
    have lw1 := xw1.size
    have S_w1 := At.ext (g := w.heap.size) (t := 23) (cs := #[.int .i64 s.grid, .int .i64 s.ref, .int .i64 s.stat, .int .i64 s.dyn, .int .i64 s.win, .int .i64 s.move, .int .i64 s.lim, .int .i64 s.pause, .int .i64 s.ext, .int .i64 s.mx, .int .i64 s.coll, .int .i64 s.wid, .int .i64 s.self, .int .i64 s.slots, .int .i64 s.lev, .int .i64 s.short]) (by repeat (first | (with_reducible exact At.new _ _ _) | ((with_reducible refine At.new' _ _ _ _ ?_); simp; done) | (with_reducible assumption) | (with_reducible refine At.drew ?_) | (with_reducible refine At.alloc ?_ _) | (with_reducible apply At.upd) | (with_reducible apply At.setRow) | (with_reducible refine At.rowFar ?_ (by first | (simp; done) | (simp; omega) | omega) _) | ((with_reducible refine At.far ?_ (by first | (simp; done) | (simp; omega) | omega) _)) | (with_reducible rfl) | (simp; done))) hxw1
    clear hxw1
    have s_S_w1 := S_w1.lt
    have e_S_w1 := cellsAt_at S_w1
    go_wp2_with fail
    refine (HC1.out _).mono ?_
    rintro e w2 ⟨rfl, hxw2⟩
    have xw2 : Ext w w2 := Ext.trans (by repeat (first | exact Ext.refl _ | assumption | refine Ext.alloc ?_ _ | refine Ext.drew ?_ | refine Ext.drewN ?_ _ | refine Ext.setCell ?_ (by simp; try omega) _ | refine Ext.setRow ?_ (by simp; try omega) _)) hxw2
    have lw2 := xw2.size
    have S_w2 := At.ext (g := w.heap.size) (t := 23) (cs := #[.int .i64 s.grid, .int .i64 s.ref, .int .i64 s.stat, .int .i64 s.dyn, .int .i64 s.win, .int .i64 s.move, .int .i64 s.lim, .int .i64 s.pause, .int .i64 s.ext, .int .i64 s.mx, .int .i64 s.coll, .int .i64 s.wid, .int .i64 s.self, .int .i64 s.slots, .int .i64 s.lev, .int .i64 s.short]) (by repeat (first | (with_reducible exact At.new _ _ _) | ((with_reducible refine At.new' _ _ _ _ ?_); simp; done) | (with_reducible assumption) | (with_reducible refine At.drew ?_) | (with_reducible refine At.alloc ?_ _) | (with_reducible apply At.upd) | (with_reducible apply At.setRow) | (with_reducible refine At.rowFar ?_ (by first | (simp; done) | (simp; omega) | omega) _) | ((with_reducible refine At.far ?_ (by first | (simp; done) | (simp; omega) | omega) _)) | (with_reducible rfl) | (simp; done))) hxw2
    clear S_w1 s_S_w1 e_S_w1 hxw2 xw1
    have s_S_w2 := S_w2.lt
    have e_S_w2 := cellsAt_at S_w2
    go_wp2_with fail
    refine (HC2.out _).mono ?_
    rintro e w3 ⟨rfl, hxw3⟩
    have xw3 : Ext w w3 := Ext.trans (by repeat (first | exact Ext.refl _ | assumption | refine Ext.alloc ?_ _ | refine Ext.drew ?_ | refine Ext.drewN ?_ _ | refine Ext.setCell ?_ (by simp; try omega) _ | refine Ext.setRow ?_ (by simp; try omega) _)) hxw3
    have lw3 := xw3.size
    have m_A_S : w2.heap.size ≠ w.heap.size := by omega
    have n_A_S : w.heap.size ≠ w2.heap.size := by omega
    have S_w3 := At.ext (g := w.heap.size) (t := 23) (cs := #[.int .i64 s.grid, .int .i64 s.ref, .int .i64 s.stat, .int .i64 s.dyn, .int .i64 s.win, .int .i64 s.move, .int .i64 s.lim, .int .i64 s.pause, .int .i64 s.ext, .int .i64 s.mx, .int .i64 s.coll, .int .i64 s.wid, .int .i64 s.self, .int .i64 s.slots, .int .i64 s.lev, .int .i64 s.short]) (by repeat (first | (with_reducible exact At.new _ _ _) | ((with_reducible refine At.new' _ _ _ _ ?_); simp; done) | (with_reducible assumption) | (with_reducible refine At.drew ?_) | (with_reducible refine At.alloc ?_ _) | (with_reducible apply At.upd) | (with_reducible apply At.setRow) | (with_reducible refine At.rowFar ?_ (by first | (simp; done) | (simp; omega) | omega) _) | ((with_reducible refine At.far ?_ (by first | (simp; done) | (simp; omega) | omega) _)) | (with_reducible rfl) | (simp; done))) hxw3
    have A_w3 := At.ext (g := w2.heap.size) (t := 27) (cs := #[.int .i64 x1, .int .i64 y1]) (by repeat (first | (with_reducible exact At.new _ _ _) | ((with_reducible refine At.new' _ _ _ _ ?_); simp; done) | (with_reducible assumption) | (with_reducible refine At.drew ?_) | (with_reducible refine At.alloc ?_ _) | (with_reducible apply At.upd) | (with_reducible apply At.setRow) | (with_reducible refine At.rowFar ?_ (by first | (simp; done) | (simp; omega) | omega) _) | ((with_reducible refine At.far ?_ (by first | (simp; done) | (simp; omega) | omega) _)) | (with_reducible rfl) | (simp; done))) hxw3
    clear S_w2 s_S_w2 e_S_w2 hxw3 xw2
    have s_S_w3 := S_w3.lt
    have e_S_w3 := cellsAt_at S_w3
    have s_A_w3 := A_w3.lt
    have c_A_w3_0 := A_w3.cell 0
    have f_A_w3_0 := A_w3.frozen 0
    have c_A_w3_1 := A_w3.cell 1
    have f_A_w3_1 := A_w3.frozen 1
    simp only [List.getElem?_toArray, List.getElem?_cons_zero, List.getElem?_cons_succ] at c_A_w3_0 c_A_w3_1
    go_wp2_with fail
    refine (HC3.out _).mono ?_
    rintro e w4 ⟨rfl, hxw4⟩
    have xw4 : Ext w w4 := Ext.trans (by repeat (first | exact Ext.refl _ | assumption | refine Ext.alloc ?_ _ | refine Ext.drew ?_ | refine Ext.drewN ?_ _ | refine Ext.setCell ?_ (by simp; try omega) _ | refine Ext.setRow ?_ (by simp; try omega) _)) hxw4
    have lw4 := xw4.size
    have m_B_A : w3.heap.size ≠ w2.heap.size := by omega
    have n_B_A : w2.heap.size ≠ w3.heap.size := by omega
    have m_B_S : w3.heap.size ≠ w.heap.size := by omega
    have n_B_S : w.heap.size ≠ w3.heap.size := by omega
    have S_w4 := At.ext (g := w.heap.size) (t := 23) (cs := #[.int .i64 s.grid, .int .i64 s.ref, .int .i64 s.stat, .int .i64 s.dyn, .int .i64 s.win, .int .i64 s.move, .int .i64 s.lim, .int .i64 s.pause, .int .i64 s.ext, .int .i64 s.mx, .int .i64 s.coll, .int .i64 s.wid, .int .i64 s.self, .int .i64 s.slots, .int .i64 s.lev, .int .i64 s.short]) (by repeat (first | (with_reducible exact At.new _ _ _) | ((with_reducible refine At.new' _ _ _ _ ?_); simp; done) | (with_reducible assumption) | (with_reducible refine At.drew ?_) | (with_reducible refine At.alloc ?_ _) | (with_reducible apply At.upd) | (with_reducible apply At.setRow) | (with_reducible refine At.rowFar ?_ (by first | (simp; done) | (simp; omega) | omega) _) | ((with_reducible refine At.far ?_ (by first | (simp; done) | (simp; omega) | omega) _)) | (with_reducible rfl) | (simp; done))) hxw4
    have A_w4 := At.ext (g := w2.heap.size) (t := 27) (cs := #[.int .i64 x1, .int .i64 y1]) (by repeat (first | (with_reducible exact At.new _ _ _) | ((with_reducible refine At.new' _ _ _ _ ?_); simp; done) | (with_reducible assumption) | (with_reducible refine At.drew ?_) | (with_reducible refine At.alloc ?_ _) | (with_reducible apply At.upd) | (with_reducible apply At.setRow) | (with_reducible refine At.rowFar ?_ (by first | (simp; done) | (simp; omega) | omega) _) | ((with_reducible refine At.far ?_ (by first | (simp; done) | (simp; omega) | omega) _)) | (with_reducible rfl) | (simp; done))) hxw4
    have B_w4 := At.ext (g := w3.heap.size) (t := 27) (cs := #[.int .i64 x1, .int .i64 y1]) (by repeat (first | (with_reducible exact At.new _ _ _) | ((with_reducible refine At.new' _ _ _ _ ?_); simp; done) | (with_reducible assumption) | (with_reducible refine At.drew ?_) | (with_reducible refine At.alloc ?_ _) | (with_reducible apply At.upd) | (with_reducible apply At.setRow) | (with_reducible refine At.rowFar ?_ (by first | (simp; done) | (simp; omega) | omega) _) | ((with_reducible refine At.far ?_ (by first | (simp; done) | (simp; omega) | omega) _)) | (with_reducible rfl) | (simp; done))) hxw4
    clear S_w3 s_S_w3 e_S_w3 A_w3 s_A_w3 c_A_w3_0 f_A_w3_0 c_A_w3_1 f_A_w3_1 hxw4 xw3
    have s_S_w4 := S_w4.lt
    have e_S_w4 := cellsAt_at S_w4
    have s_A_w4 := A_w4.lt
    have c_A_w4_0 := A_w4.cell 0
    have f_A_w4_0 := A_w4.frozen 0
    have c_A_w4_1 := A_w4.cell 1
    have f_A_w4_1 := A_w4.frozen 1
    simp only [List.getElem?_toArray, List.getElem?_cons_zero, List.getElem?_cons_succ] at c_A_w4_0 c_A_w4_1
    have s_B_w4 := B_w4.lt
    have c_B_w4_0 := B_w4.cell 0
    have f_B_w4_0 := B_w4.frozen 0
    have c_B_w4_1 := B_w4.cell 1
    have f_B_w4_1 := B_w4.frozen 1
    simp only [List.getElem?_toArray, List.getElem?_cons_zero, List.getElem?_cons_succ] at c_B_w4_0 c_B_w4_1
    go_wp2_with fail
    refine (HC4.out _).mono ?_
    rintro e w5 ⟨rfl, hxw5⟩
    have xw5 : Ext w w5 := Ext.trans (by repeat (first | exact Ext.refl _ | assumption | refine Ext.alloc ?_ _ | refine Ext.drew ?_ | refine Ext.drewN ?_ _ | refine Ext.setCell ?_ (by simp; try omega) _ | refine Ext.setRow ?_ (by simp; try omega) _)) hxw5
    have lw5 := xw5.size
    have m_C_B : w4.heap.size ≠ w3.heap.size := by omega
    have n_C_B : w3.heap.size ≠ w4.heap.size := by omega
    have m_C_A : w4.heap.size ≠ w2.heap.size := by omega
    have n_C_A : w2.heap.size ≠ w4.heap.size := by omega
    have m_C_S : w4.heap.size ≠ w.heap.size := by omega
    have n_C_S : w.heap.size ≠ w4.heap.size := by omega
    have S_w5 := At.ext (g := w.heap.size) (t := 23) (cs := #[.int .i64 s.grid, .int .i64 s.ref, .int .i64 s.stat, .int .i64 s.dyn, .int .i64 s.win, .int .i64 s.move, .int .i64 s.lim, .int .i64 s.pause, .int .i64 s.ext, .int .i64 s.mx, .int .i64 s.coll, .int .i64 s.wid, .int .i64 s.self, .int .i64 s.slots, .int .i64 s.lev, .int .i64 s.short]) (by repeat (first | (with_reducible exact At.new _ _ _) | ((with_reducible refine At.new' _ _ _ _ ?_); simp; done) | (with_reducible assumption) | (with_reducible refine At.drew ?_) | (with_reducible refine At.alloc ?_ _) | (with_reducible apply At.upd) | (with_reducible apply At.setRow) | (with_reducible refine At.rowFar ?_ (by first | (simp; done) | (simp; omega) | omega) _) | ((with_reducible refine At.far ?_ (by first | (simp; done) | (simp; omega) | omega) _)) | (with_reducible rfl) | (simp; done))) hxw5
    have A_w5 := At.ext (g := w2.heap.size) (t := 27) (cs := #[.int .i64 x1, .int .i64 y1]) (by repeat (first | (with_reducible exact At.new _ _ _) | ((with_reducible refine At.new' _ _ _ _ ?_); simp; done) | (with_reducible assumption) | (with_reducible refine At.drew ?_) | (with_reducible refine At.alloc ?_ _) | (with_reducible apply At.upd) | (with_reducible apply At.setRow) | (with_reducible refine At.rowFar ?_ (by first | (simp; done) | (simp; omega) | omega) _) | ((with_reducible refine At.far ?_ (by first | (simp; done) | (simp; omega) | omega) _)) | (with_reducible rfl) | (simp; done))) hxw5
    have B_w5 := At.ext (g := w3.heap.size) (t := 27) (cs := #[.int .i64 x1, .int .i64 y1]) (by repeat (first | (with_reducible exact At.new _ _ _) | ((with_reducible refine At.new' _ _ _ _ ?_); simp; done) | (with_reducible assumption) | (with_reducible refine At.drew ?_) | (with_reducible refine At.alloc ?_ _) | (with_reducible apply At.upd) | (with_reducible apply At.setRow) | (with_reducible refine At.rowFar ?_ (by first | (simp; done) | (simp; omega) | omega) _) | ((with_reducible refine At.far ?_ (by first | (simp; done) | (simp; omega) | omega) _)) | (with_reducible rfl) | (simp; done))) hxw5
    have C_w5 := At.ext (g := w4.heap.size) (t := 27) (cs := #[.int .i64 x2, .int .i64 y2]) (by repeat (first | (with_reducible exact At.new _ _ _) | ((with_reducible refine At.new' _ _ _ _ ?_); simp; done) | (with_reducible assumption) | (with_reducible refine At.drew ?_) | (with_reducible refine At.alloc ?_ _) | (with_reducible apply At.upd) | (with_reducible apply At.setRow) | (with_reducible refine At.rowFar ?_ (by first | (simp; done) | (simp; omega) | omega) _) | ((with_reducible refine At.far ?_ (by first | (simp; done) | (simp; omega) | omega) _)) | (with_reducible rfl) | (simp; done))) hxw5
    clear S_w4 s_S_w4 e_S_w4 A_w4 s_A_w4 c_A_w4_0 f_A_w4_0 c_A_w4_1 f_A_w4_1 B_w4 s_B_w4 c_B_w4_0 f_B_w4_0 c_B_w4_1 f_B_w4_1 hxw5 xw4
    have s_S_w5 := S_w5.lt
    have e_S_w5 := cellsAt_at S_w5
    have s_A_w5 := A_w5.lt
    have c_A_w5_0 := A_w5.cell 0
    have f_A_w5_0 := A_w5.frozen 0
    have c_A_w5_1 := A_w5.cell 1
    have f_A_w5_1 := A_w5.frozen 1
    simp only [List.getElem?_toArray, List.getElem?_cons_zero, List.getElem?_cons_succ] at c_A_w5_0 c_A_w5_1
    have s_B_w5 := B_w5.lt
    have c_B_w5_0 := B_w5.cell 0
    have f_B_w5_0 := B_w5.frozen 0
    have c_B_w5_1 := B_w5.cell 1
    have f_B_w5_1 := B_w5.frozen 1
    simp only [List.getElem?_toArray, List.getElem?_cons_zero, List.getElem?_cons_succ] at c_B_w5_0 c_B_w5_1
    have s_C_w5 := C_w5.lt
    have c_C_w5_0 := C_w5.cell 0
    have f_C_w5_0 := C_w5.frozen 0
    have c_C_w5_1 := C_w5.cell 1
    have f_C_w5_1 := C_w5.frozen 1
    simp only [List.getElem?_toArray, List.getElem?_cons_zero, List.getElem?_cons_succ] at c_C_w5_0 c_C_w5_1
    go_wp2_with fail
    refine (HC5.out _).mono ?_
    rintro e w6 ⟨rfl, hxw6⟩
    have xw6 : Ext w w6 := Ext.trans (by repeat (first | exact Ext.refl _ | assumption | refine Ext.alloc ?_ _ | refine Ext.drew ?_ | refine Ext.drewN ?_ _ | refine Ext.setCell ?_ (by simp; try omega) _ | refine Ext.setRow ?_ (by simp; try omega) _)) hxw6
    have lw6 := xw6.size
    have m_D_C : w5.heap.size ≠ w4.heap.size := by omega
    have n_D_C : w4.heap.size ≠ w5.heap.size := by omega
    have m_D_B : w5.heap.size ≠ w3.heap.size := by omega
    have n_D_B : w3.heap.size ≠ w5.heap.size := by omega
    have m_D_A : w5.heap.size ≠ w2.heap.size := by omega
    have n_D_A : w2.heap.size ≠ w5.heap.size := by omega
    have m_D_S : w5.heap.size ≠ w.heap.size := by omega
    have n_D_S : w.heap.size ≠ w5.heap.size := by omega
    have S_w6 := At.ext (g := w.heap.size) (t := 23) (cs := #[.int .i64 s.grid, .int .i64 s.ref, .int .i64 s.stat, .int .i64 s.dyn, .int .i64 s.win, .int .i64 s.move, .int .i64 s.lim, .int .i64 s.pause, .int .i64 s.ext, .int .i64 s.mx, .int .i64 s.coll, .int .i64 s.wid, .int .i64 s.self, .int .i64 s.slots, .int .i64 s.lev, .int .i64 s.short]) (by repeat (first | (with_reducible exact At.new _ _ _) | ((with_reducible refine At.new' _ _ _ _ ?_); simp; done) | (with_reducible assumption) | (with_reducible refine At.drew ?_) | (with_reducible refine At.alloc ?_ _) | (with_reducible apply At.upd) | (with_reducible apply At.setRow) | (with_reducible refine At.rowFar ?_ (by first | (simp; done) | (simp; omega) | omega) _) | ((with_reducible refine At.far ?_ (by first | (simp; done) | (simp; omega) | omega) _)) | (with_reducible rfl) | (simp; done))) hxw6
    have A_w6 := At.ext (g := w2.heap.size) (t := 27) (cs := #[.int .i64 x1, .int .i64 y1]) (by repeat (first | (with_reducible exact At.new _ _ _) | ((with_reducible refine At.new' _ _ _ _ ?_); simp; done) | (with_reducible assumption) | (with_reducible refine At.drew ?_) | (with_reducible refine At.alloc ?_ _) | (with_reducible apply At.upd) | (with_reducible apply At.setRow) | (with_reducible refine At.rowFar ?_ (by first | (simp; done) | (simp; omega) | omega) _) | ((with_reducible refine At.far ?_ (by first | (simp; done) | (simp; omega) | omega) _)) | (with_reducible rfl) | (simp; done))) hxw6
    have B_w6 := At.ext (g := w3.heap.size) (t := 27) (cs := #[.int .i64 x1, .int .i64 y1]) (by repeat (first | (with_reducible exact At.new _ _ _) | ((with_reducible refine At.new' _ _ _ _ ?_); simp; done) | (with_reducible assumption) | (with_reducible refine At.drew ?_) | (with_reducible refine At.alloc ?_ _) | (with_reducible apply At.upd) | (with_reducible apply At.setRow) | (with_reducible refine At.rowFar ?_ (by first | (simp; done) | (simp; omega) | omega) _) | ((with_reducible refine At.far ?_ (by first | (simp; done) | (simp; omega) | omega) _)) | (with_reducible rfl) | (simp; done))) hxw6
    have C_w6 := At.ext (g := w4.heap.size) (t := 27) (cs := #[.int .i64 x2, .int .i64 y2]) (by repeat (first | (with_reducible exact At.new _ _ _) | ((with_reducible refine At.new' _ _ _ _ ?_); simp; done) | (with_reducible assumption) | (with_reducible refine At.drew ?_) | (with_reducible refine At.alloc ?_ _) | (with_reducible apply At.upd) | (with_reducible apply At.setRow) | (with_reducible refine At.rowFar ?_ (by first | (simp; done) | (simp; omega) | omega) _) | ((with_reducible refine At.far ?_ (by first | (simp; done) | (simp; omega) | omega) _)) | (with_reducible rfl) | (simp; done))) hxw6
    have D_w6 := At.ext (g := w5.heap.size) (t := 27) (cs := #[.int .i64 x2, .int .i64 y2]) (by repeat (first | (with_reducible exact At.new _ _ _) | ((with_reducible refine At.new' _ _ _ _ ?_); simp; done) | (with_reducible assumption) | (with_reducible refine At.drew ?_) | (with_reducible refine At.alloc ?_ _) | (with_reducible apply At.upd) | (with_reducible apply At.setRow) | (with_reducible refine At.rowFar ?_ (by first | (simp; done) | (simp; omega) | omega) _) | ((with_reducible refine At.far ?_ (by first | (simp; done) | (simp; omega) | omega) _)) | (with_reducible rfl) | (simp; done))) hxw6
    clear S_w5 s_S_w5 e_S_w5 A_w5 s_A_w5 c_A_w5_0 f_A_w5_0 c_A_w5_1 f_A_w5_1 B_w5 s_B_w5 c_B_w5_0 f_B_w5_0 c_B_w5_1 f_B_w5_1 C_w5 s_C_w5 c_C_w5_0 f_C_w5_0 c_C_w5_1 f_C_w5_1 hxw6 xw5
    have s_S_w6 := S_w6.lt
    have e_S_w6 := cellsAt_at S_w6
    have s_A_w6 := A_w6.lt
    have c_A_w6_0 := A_w6.cell 0
    have f_A_w6_0 := A_w6.frozen 0
    have c_A_w6_1 := A_w6.cell 1
    have f_A_w6_1 := A_w6.frozen 1
    simp only [List.getElem?_toArray, List.getElem?_cons_zero, List.getElem?_cons_succ] at c_A_w6_0 c_A_w6_1
    have s_B_w6 := B_w6.lt
    have c_B_w6_0 := B_w6.cell 0
    have f_B_w6_0 := B_w6.frozen 0
    have c_B_w6_1 := B_w6.cell 1
    have f_B_w6_1 := B_w6.frozen 1
    simp only [List.getElem?_toArray, List.getElem?_cons_zero, List.getElem?_cons_succ] at c_B_w6_0 c_B_w6_1
    have s_C_w6 := C_w6.lt
    have c_C_w6_0 := C_w6.cell 0
    have f_C_w6_0 := C_w6.frozen 0
    have c_C_w6_1 := C_w6.cell 1
    have f_C_w6_1 := C_w6.frozen 1
    simp only [List.getElem?_toArray, List.getElem?_cons_zero, List.getElem?_cons_succ] at c_C_w6_0 c_C_w6_1
    have s_D_w6 := D_w6.lt
    have c_D_w6_0 := D_w6.cell 0
    have f_D_w6_0 := D_w6.frozen 0
    have c_D_w6_1 := D_w6.cell 1
    have f_D_w6_1 := D_w6.frozen 1
    simp only [List.getElem?_toArray, List.getElem?_cons_zero, List.getElem?_cons_succ] at c_D_w6_0 c_D_w6_1
    go_wp2_with fail
    refine (HC6.out _).mono ?_
    rintro e w7 ⟨rfl, hxw7⟩
    have xw7 : Ext w w7 := Ext.trans (by repeat (first | exact Ext.refl _ | assumption | refine Ext.alloc ?_ _ | refine Ext.drew ?_ | refine Ext.drewN ?_ _ | refine Ext.setCell ?_ (by simp; try omega) _ | refine Ext.setRow ?_ (by simp; try omega) _)) hxw7
    have lw7 := xw7.size
    have S_w7 := At.ext (g := w.heap.size) (t := 23) (cs := #[.int .i64 s.grid, .int .i64 s.ref, .int .i64 s.stat, .int .i64 s.dyn, .int .i64 s.win, .int .i64 s.move, .int .i64 s.lim, .int .i64 s.pause, .int .i64 s.ext, .int .i64 s.mx, .int .i64 s.coll, .int .i64 s.wid, .int .i64 s.self, .int .i64 s.slots, .int .i64 s.lev, .int .i64 s.short]) (by repeat (first | (with_reducible exact At.new _ _ _) | ((with_reducible refine At.new' _ _ _ _ ?_); simp; done) | (with_reducible assumption) | (with_reducible refine At.drew ?_) | (with_reducible refine At.alloc ?_ _) | (with_reducible apply At.upd) | (with_reducible apply At.setRow) | (with_reducible refine At.rowFar ?_ (by first | (simp; done) | (simp; omega) | omega) _) | ((with_reducible refine At.far ?_ (by first | (simp; done) | (simp; omega) | omega) _)) | (with_reducible rfl) | (simp; done))) hxw7
    have B_w7 := At.ext (g := w3.heap.size) (t := 27) (cs := #[.int .i64 x1, .int .i64 y1]) (by repeat (first | (with_reducible exact At.new _ _ _) | ((with_reducible refine At.new' _ _ _ _ ?_); simp; done) | (with_reducible assumption) | (with_reducible refine At.drew ?_) | (with_reducible refine At.alloc ?_ _) | (with_reducible apply At.upd) | (with_reducible apply At.setRow) | (with_reducible refine At.rowFar ?_ (by first | (simp; done) | (simp; omega) | omega) _) | ((with_reducible refine At.far ?_ (by first | (simp; done) | (simp; omega) | omega) _)) | (with_reducible rfl) | (simp; done))) hxw7
    have C_w7 := At.ext (g := w4.heap.size) (t := 27) (cs := #[.int .i64 x2, .int .i64 y2]) (by repeat (first | (with_reducible exact At.new _ _ _) | ((with_reducible refine At.new' _ _ _ _ ?_); simp; done) | (with_reducible assumption) | (with_reducible refine At.drew ?_) | (with_reducible refine At.alloc ?_ _) | (with_reducible apply At.upd) | (with_reducible apply At.setRow) | (with_reducible refine At.rowFar ?_ (by first | (simp; done) | (simp; omega) | omega) _) | ((with_reducible refine At.far ?_ (by first | (simp; done) | (simp; omega) | omega) _)) | (with_reducible rfl) | (simp; done))) hxw7
    have D_w7 := At.ext (g := w5.heap.size) (t := 27) (cs := #[.int .i64 x2, .int .i64 y2]) (by repeat (first | (with_reducible exact At.new _ _ _) | ((with_reducible refine At.new' _ _ _ _ ?_); simp; done) | (with_reducible assumption) | (with_reducible refine At.drew ?_) | (with_reducible refine At.alloc ?_ _) | (with_reducible apply At.upd) | (with_reducible apply At.setRow) | (with_reducible refine At.rowFar ?_ (by first | (simp; done) | (simp; omega) | omega) _) | ((with_reducible refine At.far ?_ (by first | (simp; done) | (simp; omega) | omega) _)) | (with_reducible rfl) | (simp; done))) hxw7
    have A2_w7 := At.ext (g := w2.heap.size) (t := 27) (cs := #[.int .i64 x3, .int .i64 y3]) (by repeat (first | (with_reducible exact At.new _ _ _) | ((with_reducible refine At.new' _ _ _ _ ?_); simp; done) | (with_reducible assumption) | (with_reducible refine At.drew ?_) | (with_reducible refine At.alloc ?_ _) | (with_reducible apply At.upd) | (with_reducible apply At.setRow) | (with_reducible refine At.rowFar ?_ (by first | (simp; done) | (simp; omega) | omega) _) | ((with_reducible refine At.far ?_ (by first | (simp; done) | (simp; omega) | omega) _)) | (with_reducible rfl) | (simp; done))) hxw7
    clear S_w6 s_S_w6 e_S_w6 B_w6 s_B_w6 c_B_w6_0 f_B_w6_0 c_B_w6_1 f_B_w6_1 C_w6 s_C_w6 c_C_w6_0 f_C_w6_0 c_C_w6_1 f_C_w6_1 D_w6 s_D_w6 c_D_w6_0 f_D_w6_0 c_D_w6_1 f_D_w6_1 A_w6 s_A_w6 c_A_w6_0 f_A_w6_0 c_A_w6_1 f_A_w6_1 hxw7 xw6
    have s_S_w7 := S_w7.lt
    have e_S_w7 := cellsAt_at S_w7
    have s_B_w7 := B_w7.lt
    have c_B_w7_0 := B_w7.cell 0
    have f_B_w7_0 := B_w7.frozen 0
    have c_B_w7_1 := B_w7.cell 1
    have f_B_w7_1 := B_w7.frozen 1
    simp only [List.getElem?_toArray, List.getElem?_cons_zero, List.getElem?_cons_succ] at c_B_w7_0 c_B_w7_1
    have s_C_w7 := C_w7.lt
    have c_C_w7_0 := C_w7.cell 0
    have f_C_w7_0 := C_w7.frozen 0
    have c_C_w7_1 := C_w7.cell 1
    have f_C_w7_1 := C_w7.frozen 1
    simp only [List.getElem?_toArray, List.getElem?_cons_zero, List.getElem?_cons_succ] at c_C_w7_0 c_C_w7_1
    have s_D_w7 := D_w7.lt
    have c_D_w7_0 := D_w7.cell 0
    have f_D_w7_0 := D_w7.frozen 0
    have c_D_w7_1 := D_w7.cell 1
    have f_D_w7_1 := D_w7.frozen 1
    simp only [List.getElem?_toArray, List.getElem?_cons_zero, List.getElem?_cons_succ] at c_D_w7_0 c_D_w7_1
    have s_A2_w7 := A2_w7.lt
    have c_A2_w7_0 := A2_w7.cell 0
    have f_A2_w7_0 := A2_w7.frozen 0
    have c_A2_w7_1 := A2_w7.cell 1
    have f_A2_w7_1 := A2_w7.frozen 1
    simp only [List.getElem?_toArray, List.getElem?_cons_zero, List.getElem?_cons_succ] at c_A2_w7_0 c_A2_w7_1
    go_wp2_with fail
    refine (HC7.out _).mono ?_
    rintro e w8 ⟨rfl, hxw8⟩
    have xw8 : Ext w w8 := Ext.trans (by repeat (first | exact Ext.refl _ | assumption | refine Ext.alloc ?_ _ | refine Ext.drew ?_ | refine Ext.drewN ?_ _ | refine Ext.setCell ?_ (by simp; try omega) _ | refine Ext.setRow ?_ (by simp; try omega) _)) hxw8
    have lw8 := xw8.size
    have S_w8 := At.ext (g := w.heap.size) (t := 23) (cs := #[.int .i64 s.grid, .int .i64 s.ref, .int .i64 s.stat, .int .i64 s.dyn, .int .i64 s.win, .int .i64 s.move, .int .i64 s.lim, .int .i64 s.pause, .int .i64 s.ext, .int .i64 s.mx, .int .i64 s.coll, .int .i64 s.wid, .int .i64 s.self, .int .i64 s.slots, .int .i64 s.lev, .int .i64 s.short]) (by repeat (first | (with_reducible exact At.new _ _ _) | ((with_reducible refine At.new' _ _ _ _ ?_); simp; done) | (with_reducible assumption) | (with_reducible refine At.drew ?_) | (with_reducible refine At.alloc ?_ _) | (with_reducible apply At.upd) | (with_reducible apply At.setRow) | (with_reducible refine At.rowFar ?_ (by first | (simp; done) | (simp; omega) | omega) _) | ((with_reducible refine At.far ?_ (by first | (simp; done) | (simp; omega) | omega) _)) | (with_reducible rfl) | (simp; done))) hxw8
    have C_w8 := At.ext (g := w4.heap.size) (t := 27) (cs := #[.int .i64 x2, .int .i64 y2]) (by repeat (first | (with_reducible exact At.new _ _ _) | ((with_reducible refine At.new' _ _ _ _ ?_); simp; done) | (with_reducible assumption) | (with_reducible refine At.drew ?_) | (with_reducible refine At.alloc ?_ _) | (with_reducible apply At.upd) | (with_reducible apply At.setRow) | (with_reducible refine At.rowFar ?_ (by first | (simp; done) | (simp; omega) | omega) _) | ((with_reducible refine At.far ?_ (by first | (simp; done) | (simp; omega) | omega) _)) | (with_reducible rfl) | (simp; done))) hxw8
    have D_w8 := At.ext (g := w5.heap.size) (t := 27) (cs := #[.int .i64 x2, .int .i64 y2]) (by repeat (first | (with_reducible exact At.new _ _ _) | ((with_reducible refine At.new' _ _ _ _ ?_); simp; done) | (with_reducible assumption) | (with_reducible refine At.drew ?_) | (with_reducible refine At.alloc ?_ _) | (with_reducible apply At.upd) | (with_reducible apply At.setRow) | (with_reducible refine At.rowFar ?_ (by first | (simp; done) | (simp; omega) | omega) _) | ((with_reducible refine At.far ?_ (by first | (simp; done) | (simp; omega) | omega) _)) | (with_reducible rfl) | (simp; done))) hxw8
    have A2_w8 := At.ext (g := w2.heap.size) (t := 27) (cs := #[.int .i64 x3, .int .i64 y3]) (by repeat (first | (with_reducible exact At.new _ _ _) | ((with_reducible refine At.new' _ _ _ _ ?_); simp; done) | (with_reducible assumption) | (with_reducible refine At.drew ?_) | (with_reducible refine At.alloc ?_ _) | (with_reducible apply At.upd) | (with_reducible apply At.setRow) | (with_reducible refine At.rowFar ?_ (by first | (simp; done) | (simp; omega) | omega) _) | ((with_reducible refine At.far ?_ (by first | (simp; done) | (simp; omega) | omega) _)) | (with_reducible rfl) | (simp; done))) hxw8
    have B2_w8 := At.ext (g := w3.heap.size) (t := 27) (cs := #[.int .i64 x3, .int .i64 y3]) (by repeat (first | (with_reducible exact At.new _ _ _) | ((with_reducible refine At.new' _ _ _ _ ?_); simp; done) | (with_reducible assumption) | (with_reducible refine At.drew ?_) | (with_reducible refine At.alloc ?_ _) | (with_reducible apply At.upd) | (with_reducible apply At.setRow) | (with_reducible refine At.rowFar ?_ (by first | (simp; done) | (simp; omega) | omega) _) | ((with_reducible refine At.far ?_ (by first | (simp; done) | (simp; omega) | omega) _)) | (with_reducible rfl) | (simp; done))) hxw8
    clear S_w7 s_S_w7 e_S_w7 C_w7 s_C_w7 c_C_w7_0 f_C_w7_0 c_C_w7_1 f_C_w7_1 D_w7 s_D_w7 c_D_w7_0 f_D_w7_0 c_D_w7_1 f_D_w7_1 A2_w7 s_A2_w7 c_A2_w7_0 f_A2_w7_0 c_A2_w7_1 f_A2_w7_1 B_w7 s_B_w7 c_B_w7_0 f_B_w7_0 c_B_w7_1 f_B_w7_1 hxw8 xw7
    have s_S_w8 := S_w8.lt
    have e_S_w8 := cellsAt_at S_w8
    have s_C_w8 := C_w8.lt
    have c_C_w8_0 := C_w8.cell 0
    have f_C_w8_0 := C_w8.frozen 0
    have c_C_w8_1 := C_w8.cell 1
    have f_C_w8_1 := C_w8.frozen 1
    simp only [List.getElem?_toArray, List.getElem?_cons_zero, List.getElem?_cons_succ] at c_C_w8_0 c_C_w8_1
    have s_D_w8 := D_w8.lt
    have c_D_w8_0 := D_w8.cell 0
    have f_D_w8_0 := D_w8.frozen 0
    have c_D_w8_1 := D_w8.cell 1
    have f_D_w8_1 := D_w8.frozen 1
    simp only [List.getElem?_toArray, List.getElem?_cons_zero, List.getElem?_cons_succ] at c_D_w8_0 c_D_w8_1
    have s_A2_w8 := A2_w8.lt
    have c_A2_w8_0 := A2_w8.cell 0
    have f_A2_w8_0 := A2_w8.frozen 0
    have c_A2_w8_1 := A2_w8.cell 1
    have f_A2_w8_1 := A2_w8.frozen 1
    simp only [List.getElem?_toArray, List.getElem?_cons_zero, List.getElem?_cons_succ] at c_A2_w8_0 c_A2_w8_1
    have s_B2_w8 := B2_w8.lt
    have c_B2_w8_0 := B2_w8.cell 0
    have f_B2_w8_0 := B2_w8.frozen 0
    have c_B2_w8_1 := B2_w8.cell 1
    have f_B2_w8_1 := B2_w8.frozen 1
    simp only [List.getElem?_toArray, List.getElem?_cons_zero, List.getElem?_cons_succ] at c_B2_w8_0 c_B2_w8_1
    go_wp2_with fail
    refine (HC8.out _).mono ?_
    rintro e w9 ⟨rfl, hxw9⟩
    have xw9 : Ext w w9 := Ext.trans (by repeat (first | exact Ext.refl _ | assumption | refine Ext.alloc ?_ _ | refine Ext.drew ?_ | refine Ext.drewN ?_ _ | refine Ext.setCell ?_ (by simp; try omega) _ | refine Ext.setRow ?_ (by simp; try omega) _)) hxw9
    have lw9 := xw9.size
    have S_w9 := At.ext (g := w.heap.size) (t := 23) (cs := #[.int .i64 s.grid, .int .i64 s.ref, .int .i64 s.stat, .int .i64 s.dyn, .int .i64 s.win, .int .i64 s.move, .int .i64 s.lim, .int .i64 s.pause, .int .i64 s.ext, .int .i64 s.mx, .int .i64 s.coll, .int .i64 s.wid, .int .i64 s.self, .int .i64 s.slots, .int .i64 s.lev, .int .i64 s.short]) (by repeat (first | (with_reducible exact At.new _ _ _) | ((with_reducible refine At.new' _ _ _ _ ?_); simp; done) | (with_reducible assumption) | (with_reducible refine At.drew ?_) | (with_reducible refine At.alloc ?_ _) | (with_reducible apply At.upd) | (with_reducible apply At.setRow) | (with_reducible refine At.rowFar ?_ (by first | (simp; done) | (simp; omega) | omega) _) | ((with_reducible refine At.far ?_ (by first | (simp; done) | (simp; omega) | omega) _)) | (with_reducible rfl) | (simp; done))) hxw9
    have D_w9 := At.ext (g := w5.heap.size) (t := 27) (cs := #[.int .i64 x2, .int .i64 y2]) (by repeat (first | (with_reducible exact At.new _ _ _) | ((with_reducible refine At.new' _ _ _ _ ?_); simp; done) | (with_reducible assumption) | (with_reducible refine At.drew ?_) | (with_reducible refine At.alloc ?_ _) | (with_reducible apply At.upd) | (with_reducible apply At.setRow) | (with_reducible refine At.rowFar ?_ (by first | (simp; done) | (simp; omega) | omega) _) | ((with_reducible refine At.far ?_ (by first | (simp; done) | (simp; omega) | omega) _)) | (with_reducible rfl) | (simp; done))) hxw9
    have A2_w9 := At.ext (g := w2.heap.size) (t := 27) (cs := #[.int .i64 x3, .int .i64 y3]) (by repeat (first | (with_reducible exact At.new _ _ _) | ((with_reducible refine At.new' _ _ _ _ ?_); simp; done) | (with_reducible assumption) | (with_reducible refine At.drew ?_) | (with_reducible refine At.alloc ?_ _) | (with_reducible apply At.upd) | (with_reducible apply At.setRow) | (with_reducible refine At.rowFar ?_ (by first | (simp; done) | (simp; omega) | omega) _) | ((with_reducible refine At.far ?_ (by first | (simp; done) | (simp; omega) | omega) _)) | (with_reducible rfl) | (simp; done))) hxw9
    have B2_w9 := At.ext (g := w3.heap.size) (t := 27) (cs := #[.int .i64 x3, .int .i64 y3]) (by repeat (first | (with_reducible exact At.new _ _ _) | ((with_reducible refine At.new' _ _ _ _ ?_); simp; done) | (with_reducible assumption) | (with_reducible refine At.drew ?_) | (with_reducible refine At.alloc ?_ _) | (with_reducible apply At.upd) | (with_reducible apply At.setRow) | (with_reducible refine At.rowFar ?_ (by first | (simp; done) | (simp; omega) | omega) _) | ((with_reducible refine At.far ?_ (by first | (simp; done) | (simp; omega) | omega) _)) | (with_reducible rfl) | (simp; done))) hxw9
    have C2_w9 := At.ext (g := w4.heap.size) (t := 27) (cs := #[.int .i64 x4, .int .i64 y4]) (by repeat (first | (with_reducible exact At.new _ _ _) | ((with_reducible refine At.new' _ _ _ _ ?_); simp; done) | (with_reducible assumption) | (with_reducible refine At.drew ?_) | (with_reducible refine At.alloc ?_ _) | (with_reducible apply At.upd) | (with_reducible apply At.setRow) | (with_reducible refine At.rowFar ?_ (by first | (simp; done) | (simp; omega) | omega) _) | ((with_reducible refine At.far ?_ (by first | (simp; done) | (simp; omega) | omega) _)) | (with_reducible rfl) | (simp; done))) hxw9
    clear S_w8 s_S_w8 e_S_w8 D_w8 s_D_w8 c_D_w8_0 f_D_w8_0 c_D_w8_1 f_D_w8_1 A2_w8 s_A2_w8 c_A2_w8_0 f_A2_w8_0 c_A2_w8_1 f_A2_w8_1 B2_w8 s_B2_w8 c_B2_w8_0 f_B2_w8_0 c_B2_w8_1 f_B2_w8_1 C_w8 s_C_w8 c_C_w8_0 f_C_w8_0 c_C_w8_1 f_C_w8_1 hxw9 xw8
    have s_S_w9 := S_w9.lt
    have e_S_w9 := cellsAt_at S_w9
    have s_D_w9 := D_w9.lt
    have c_D_w9_0 := D_w9.cell 0
    have f_D_w9_0 := D_w9.frozen 0
    have c_D_w9_1 := D_w9.cell 1
    have f_D_w9_1 := D_w9.frozen 1
    simp only [List.getElem?_toArray, List.getElem?_cons_zero, List.getElem?_cons_succ] at c_D_w9_0 c_D_w9_1
    have s_A2_w9 := A2_w9.lt
    have c_A2_w9_0 := A2_w9.cell 0
    have f_A2_w9_0 := A2_w9.frozen 0
    have c_A2_w9_1 := A2_w9.cell 1
    have f_A2_w9_1 := A2_w9.frozen 1
    simp only [List.getElem?_toArray, List.getElem?_cons_zero, List.getElem?_cons_succ] at c_A2_w9_0 c_A2_w9_1
    have s_B2_w9 := B2_w9.lt
    have c_B2_w9_0 := B2_w9.cell 0
    have f_B2_w9_0 := B2_w9.frozen 0
    have c_B2_w9_1 := B2_w9.cell 1
    have f_B2_w9_1 := B2_w9.frozen 1
    simp only [List.getElem?_toArray, List.getElem?_cons_zero, List.getElem?_cons_succ] at c_B2_w9_0 c_B2_w9_1
    have s_C2_w9 := C2_w9.lt
    have c_C2_w9_0 := C2_w9.cell 0
    have f_C2_w9_0 := C2_w9.frozen 0
    have c_C2_w9_1 := C2_w9.cell 1
    have f_C2_w9_1 := C2_w9.frozen 1
    simp only [List.getElem?_toArray, List.getElem?_cons_zero, List.getElem?_cons_succ] at c_C2_w9_0 c_C2_w9_1
    go_wp2_with fail
    refine (alive_c _).mono ?_
    rintro e w10 ⟨rfl, hxw10⟩
    have xw10 : Ext w w10 := Ext.trans (by repeat (first | exact Ext.refl _ | assumption | refine Ext.alloc ?_ _ | refine Ext.drew ?_ | refine Ext.drewN ?_ _ | refine Ext.setCell ?_ (by simp; try omega) _ | refine Ext.setRow ?_ (by simp; try omega) _)) hxw10
    have lw10 := xw10.size
    go_wp2_with fail
    refine fin_ret rfl (fun K hK => ?_)
    simp [results, Try.results3, go_sem, rsat]
    try go_simp
    refine hK _ ?_
    clear hK K
    exact ⟨rfl, (by repeat (first | exact Ext.refl _ | assumption | refine Ext.alloc ?_ _ | refine Ext.drew ?_ | refine Ext.drewN ?_ _ | refine Ext.setCell ?_ (by simp; try omega) _ | refine Ext.setRow ?_ (by simp; try omega) _))⟩
theorem clipT_open (lo hi p : Int) : ∃ x c, clipT lo hi p = .tuple #[.int .i64 x, .bool c] := by unfold clipT; split <;> exact ⟨_, _, rfl⟩
set_option maxRecDepth 100000 in
set_option maxHeartbeats 1600000 in
theorem bandlooks_c (a b c d p bid ask : Int) (w : World) : Calls Try.prog 4 #[.agg #[.int .i64 a, .int .i64 b], .agg #[.int .i64 c, .int .i64 d], .int .i64 p, .int .i64 bid, .int .i64 ask] w fun e w' => e = .returned (.bool true) ∧ Ext w w' := by
  have C1 := clip_c a b p
  have C2 := rclip_c a b p
  obtain ⟨x, k, h⟩ := clipT_open a b p
  rw [h] at C1 C2
  obtain ⟨m, hm⟩ : ∃ m, m = max a c := ⟨_, rfl⟩
  obtain ⟨n, hn⟩ : ∃ n, n = min b d := ⟨_, rfl⟩
  have C3 := both_c a b c d
  have C4 := rboth_c a b c d
  rw [← hm, ← hn] at C3 C4
  have HC1 := Lib.hid C1
  have HC2 := Lib.hid C2
  have HC3 := Lib.hid C3
  have HC4 := Lib.hid C4
  clear C1 C2 C3 C4 h hm hn
  go_enter Try.func4, Try.ntmps4
  go_wp2_with fail
  refine (HC1.out _).mono ?_
  rintro e w1 ⟨rfl, hxw1⟩
  have xw1 : Ext w w1 := Ext.trans (by repeat (first | exact Ext.refl _ | assumption | refine Ext.alloc ?_ _ | refine Ext.drew ?_ | refine Ext.drewN ?_ _ | refine Ext.setCell ?_ (by simp; try omega) _ | refine Ext.setRow ?_ (by simp; try omega) _)) hxw1
  have lw1 := xw1.size
  have A_w1 := At.ext (g := w.heap.size) (t := 27) (cs := #[.int .i64 a, .int .i64 b]) (by repeat (first | (with_reducible exact At.new _ _ _) | ((with_reducible refine At.new' _ _ _ _ ?_); simp; done) | (with_reducible assumption) | (with_reducible refine At.drew ?_) | (with_reducible refine At.alloc ?_ _) | (with_reducible apply At.upd) | (with_reducible apply At.setRow) | (with_reducible refine At.rowFar ?_ (by first | (simp; done) | (simp; omega) | omega) _) | ((with_reducible refine At.far ?_ (by first | (simp; done) | (simp; omega) | omega) _)) | (with_reducible rfl) | (simp; done))) hxw1
  have B_w1 := At.ext (g := w.heap.size + 1) (t := 27) (cs := #[.int .i64 c, .int .i64 d]) (by repeat (first | (with_reducible exact At.new _ _ _) | ((with_reducible refine At.new' _ _ _ _ ?_); simp; done) | (with_reducible assumption) | (with_reducible refine At.drew ?_) | (with_reducible refine At.alloc ?_ _) | (with_reducible apply At.upd) | (with_reducible apply At.setRow) | (with_reducible refine At.rowFar ?_ (by first | (simp; done) | (simp; omega) | omega) _) | ((with_reducible refine At.far ?_ (by first | (simp; done) | (simp; omega) | omega) _)) | (with_reducible rfl) | (simp; done))) hxw1
  clear hxw1
  have s_A_w1 := A_w1.lt
  have c_A_w1_0 := A_w1.cell 0
  have f_A_w1_0 := A_w1.frozen 0
  have c_A_w1_1 := A_w1.cell 1
  have f_A_w1_1 := A_w1.frozen 1
  simp only [List.getElem?_toArray, List.getElem?_cons_zero, List.getElem?_cons_succ] at c_A_w1_0 c_A_w1_1
  have s_B_w1 := B_w1.lt
  have c_B_w1_0 := B_w1.cell 0
  have f_B_w1_0 := B_w1.frozen 0
  have c_B_w1_1 := B_w1.cell 1
  have f_B_w1_1 := B_w1.frozen 1
  simp only [List.getElem?_toArray, List.getElem?_cons_zero, List.getElem?_cons_succ] at c_B_w1_0 c_B_w1_1
  go_wp2_with fail
  refine (HC2.out _).mono ?_
  rintro e w2 ⟨rfl, hxw2⟩
  have xw2 : Ext w w2 := Ext.trans (by repeat (first | exact Ext.refl _ | assumption | refine Ext.alloc ?_ _ | refine Ext.drew ?_ | refine Ext.drewN ?_ _ | refine Ext.setCell ?_ (by simp; try omega) _ | refine Ext.setRow ?_ (by simp; try omega) _)) hxw2
  have lw2 := xw2.size
  have A_w2 := At.ext (g := w.heap.size) (t := 27) (cs := #[.int .i64 a, .int .i64 b]) (by repeat (first | (with_reducible exact At.new _ _ _) | ((with_reducible refine At.new' _ _ _ _ ?_); simp; done) | (with_reducible assumption) | (with_reducible refine At.drew ?_) | (with_reducible refine At.alloc ?_ _) | (with_reducible apply At.upd) | (with_reducible apply At.setRow) | (with_reducible refine At.rowFar ?_ (by first | (simp; done) | (simp; omega) | omega) _) | ((with_reducible refine At.far ?_ (by first | (simp; done) | (simp; omega) | omega) _)) | (with_reducible rfl) | (simp; done))) hxw2
  have B_w2 := At.ext (g := w.heap.size + 1) (t := 27) (cs := #[.int .i64 c, .int .i64 d]) (by repeat (first | (with_reducible exact At.new _ _ _) | ((with_reducible refine At.new' _ _ _ _ ?_); simp; done) | (with_reducible assumption) | (with_reducible refine At.drew ?_) | (with_reducible refine At.alloc ?_ _) | (with_reducible apply At.upd) | (with_reducible apply At.setRow) | (with_reducible refine At.rowFar ?_ (by first | (simp; done) | (simp; omega) | omega) _) | ((with_reducible refine At.far ?_ (by first | (simp; done) | (simp; omega) | omega) _)) | (with_reducible rfl) | (simp; done))) hxw2
  clear A_w1 s_A_w1 c_A_w1_0 f_A_w1_0 c_A_w1_1 f_A_w1_1 B_w1 s_B_w1 c_B_w1_0 f_B_w1_0 c_B_w1_1 f_B_w1_1 hxw2 xw1
  have s_A_w2 := A_w2.lt
  have c_A_w2_0 := A_w2.cell 0
  have f_A_w2_0 := A_w2.frozen 0
  have c_A_w2_1 := A_w2.cell 1
  have f_A_w2_1 := A_w2.frozen 1
  simp only [List.getElem?_toArray, List.getElem?_cons_zero, List.getElem?_cons_succ] at c_A_w2_0 c_A_w2_1
  have s_B_w2 := B_w2.lt
  have c_B_w2_0 := B_w2.cell 0
  have f_B_w2_0 := B_w2.frozen 0
  have c_B_w2_1 := B_w2.cell 1
  have f_B_w2_1 := B_w2.frozen 1
  simp only [List.getElem?_toArray, List.getElem?_cons_zero, List.getElem?_cons_succ] at c_B_w2_0 c_B_w2_1
  go_wp2_with fail
  refine wp_region_x 41 [1, 0, 1, 1, 0, 1, 0, 0, 0, 0, 0, 0, 0, 0, 0, 0, 0, 0, 1, 1, 1, 1, 1, 1, 0, 0, 0, 1, 0, 0, 1, 1, 0, 0, 1, 0, 0, 0, 1, 0, 0] (by kernel_rfl) (by kernel_rfl) (by kernel_rfl) ?_
  simp only [List.take_succ_cons, List.take_zero, List.drop_succ_cons, List.drop_zero]
  refine hl_quiet (fun K hK => ?_)
  go_simp
  refine hK _ ?_
  clear hK K
  refine hl_pure (fun K hK => ?_)
  go_simp
  refine hK _ ?_
  clear hK K
  refine hl_quiet (fun K hK => ?_)
  go_simp
  first
    | (refine hK _ ?_; clear hK K)
    | (apply Exists.intro; refine ⟨fun x => ?_, hK _ ?_⟩
       · (exact in_c a b p _)
       clear hK K)
  refine hl_quiet (fun K hK => ?_)
  go_simp
  refine hK _ ?_
  clear hK K
  refine hl_pure (fun K hK => ?_)
  go_simp
  refine hK _ ?_
  clear hK K
  refine hl_quiet (fun K hK => ?_)
  go_simp
  first
    | (refine hK _ ?_; clear hK K)
    | (apply Exists.intro; refine ⟨fun x => ?_, hK _ ?_⟩
       · (exact rin_c a b p _)
       clear hK K)
  refine hl_pure (fun K hK => ?_)
  go_simp
  refine hK _ ?_
  clear hK K
  refine hl_pure (fun K hK => ?_)
  go_simp
  refine hK _ ?_
  clear hK K
  refine hl_pure (fun K hK => ?_)
  go_simp
  refine hK _ ?_
  clear hK K
  refine hl_pure (fun K hK => ?_)
  go_simp
  refine hK _ ?_
  clear hK K
  refine hl_pure (fun K hK => ?_)
  go_simp
  refine hK _ ?_
  clear hK K
  refine hl_pure (fun K hK => ?_)
  go_simp
  refine hK _ ?_
  clear hK K
  refine hl_pure (fun K hK => ?_)
  go_simp
  refine hK _ ?_
  clear hK K
  refine hl_pure (fun K hK => ?_)
  go_simp
  refine hK _ ?_
  clear hK K
  refine hl_pure (fun K hK => ?_)
  go_simp
  refine hK _ ?_
  clear hK K
  refine hl_pure (fun K hK => ?_)
  go_simp
  refine hK _ ?_
  clear hK K
  refine hl_pure (fun K hK => ?_)
  go_simp
  refine hK _ ?_
  clear hK K
  refine hl_pure (fun K hK => ?_)
  go_simp
  refine hK _ ?_
  clear hK K
  refine hl_quiet (fun K hK => ?_)
  go_simp
  refine hK _ ?_
  clear hK K
  refine hl_quiet (fun K hK => ?_)
  go_simp
  refine hK _ ?_
  clear hK K
  refine hl_quiet (fun K hK => ?_)
  go_simp
  first
    | (refine hK _ ?_; clear hK K)
    | (apply Exists.intro; refine ⟨fun x => ?_, hK _ ?_⟩
       · (exact HC3.out _)
       clear hK K)
  refine hl_quiet (fun K hK => ?_)
  go_simp
  refine hK _ ?_
  clear hK K
  refine hl_quiet (fun K hK => ?_)
  go_simp
  refine hK _ ?_
  clear hK K
  refine hl_quiet (fun K hK => ?_)
  go_simp
  first
    | (refine hK _ ?_; clear hK K)
    | (apply Exists.intro; refine ⟨fun x => ?_, hK _ ?_⟩
       · (exact HC4.out _)
       clear hK K)
  refine hl_pure (fun K hK => ?_)
  go_simp
  refine hK _ ?_
  clear hK K
  refine hl_pure (fun K hK => ?_)
  go_simp
  refine hK _ ?_
  clear hK K
  refine hl_pure (fun K hK => ?_)
  go_simp
  refine hK _ ?_
  clear hK K
  refine hl_quiet (fun K hK => ?_)
  go_simp
  refine hK _ ?_
  clear hK K
  refine hl_pure (fun K hK => ?_)
  go_simp
  refine hK _ ?_
  clear hK K
  refine hl_pure (fun K hK => ?_)
  go_simp
  refine hK _ ?_
  clear hK K
  refine hl_quiet (fun K hK => ?_)
  go_simp
  first
    | (refine hK _ ?_; clear hK K)
    | (apply Exists.intro; refine ⟨fun x => ?_, hK _ ?_⟩
       · (exact touches_c a b bid ask _)
       clear hK K)
  refine hl_quiet (fun K hK => ?_)
  go_simp
  refine hK _ ?_
  clear hK K
  refine hl_pure (fun K hK => ?_)
  go_simp
  refine hK _ ?_
  clear hK K
  refine hl_pure (fun K hK => ?_)
  go_simp
  refine hK _ ?_
  clear hK K
  refine hl_quiet (fun K hK => ?_)
  go_simp
  first
    | (refine hK _ ?_; clear hK K)
    | (apply Exists.intro; refine ⟨fun x => ?_, hK _ ?_⟩
       · (exact rtouches_c a b bid ask _)
       clear hK K)
  refine hl_pure (fun K hK => ?_)
  go_simp
  refine hK _ ?_
  clear hK K
  refine hl_pure (fun K hK => ?_)
  go_simp
  refine hK _ ?_
  clear hK K
  refine hl_pure (fun K hK => ?_)
  go_simp
  refine hK _ ?_
  clear hK K
  refine hl_quiet (fun K hK => ?_)
  go_simp
  first
    | (refine hK _ ?_; clear hK K)
    | (apply Exists.intro; refine ⟨fun x => ?_, hK _ ?_⟩
       · (exact alive_c _)
       clear hK K)
  refine hl_pure (fun K hK => ?_)
  go_simp
  refine hK _ ?_
  clear hK K
  refine hl_pure (fun K hK => ?_)
  go_simp
  refine hK _ ?_
  clear hK K
  refine hl_nil ?_
  intro w3 hxw3 K hK
  have xw3 : Ext w w3 := Ext.trans (by repeat (first | exact Ext.refl _ | assumption | refine Ext.alloc ?_ _ | refine Ext.drew ?_ | refine Ext.drewN ?_ _ | refine Ext.setCell ?_ (by simp; try omega) _ | refine Ext.setRow ?_ (by simp; try omega) _)) hxw3
  obtain ⟨hcw3, hfw3⟩ := hxw3.facts
  have hsw3 := hxw3.size
  try simp only [World.size_drew, World.size_alloc, World.size_setCell] at hsw3 hcw3 hfw3
  go_wp2_with fail
  refine fin_ret rfl (fun K hK => ?_)
  simp [results, Try.results4, go_sem, rsat]
  try go_simp
  refine hK _ ?_
  clear hK K
  exact ⟨rfl, (by repeat (first | exact Ext.refl _ | assumption | refine Ext.alloc ?_ _ | refine Ext.drew ?_ | refine Ext.drewN ?_ _ | refine Ext.setCell ?_ (by simp; try omega) _ | refine Ext.setRow ?_ (by simp; try omega) _))⟩
end Go.Proofs.Ytimgdhpddklplaa
