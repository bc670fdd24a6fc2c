/- The walk of law BandHolds. No condition. -/
import Derived.Test.YtimgdhpddklplaaL20
import Derived.Test.YtimgdhpddklplaaSymP
import Derived.Test.YtimgdhpddklplaaGp
namespace Go.Proofs.Ytimgdhpddklplaa
open Go.RowKit
attribute [local go_sem] Later.cell QUpon_value QUpon_enter MUpon_value
attribute [local go_sem ↓ high] loadSym_is storeSym_is loadCfg_is storeCfg_is
attribute [local go_sem] run_loadSym run_loadSym_at run_storeSym run_loadCfg run_loadCfg_at run_storeCfg one_int one_bool one_slice one_ptr one_str setRow_new setRow_past cell_ca frozen_ca cellsAt_alloc_at cellsAt_alloc_past cellsAt_drew cellsAt_later cellsAt_setCell cellsAt_set_same cellsAt_setRow_same cellsAt_setRow_far subAt_alloc subAt_drew subAt_later subAt_setCell subAt_setRow ltn_2 ltn_3 ltn_4 ltn_5
attribute [local go_sem] cfg_field0

theorem holds_facts (s : Sym) (ho : s.Ok) (f r : Int) (hf1 : 1 ≤ f) (hf2 : f ≤ 1099511627776) (hf3 : f % s.grid = 0) (hr1 : 1 ≤ r) (hr2 : r ≤ 1099511627776) (hr3 : r % s.grid = 0) :
    ∃ x1 y1 x3 y3 : Int, bandT f s.stat s.grid = .tuple #[.agg #[.int .i64 x1, .int .i64 y1], .bool true] ∧ inB x1 y1 f = true ∧ bandT r s.dyn s.grid = .tuple #[.agg #[.int .i64 x3, .int .i64 y3], .bool true] ∧
      (inB x1 y1 r = true → ∃ x2 y2, withT f r s.stat s.dyn s.grid = .tuple #[.agg #[.int .i64 x2, .int .i64 y2], .bool true] ∧ inB x2 y2 r = true ∧ inB x1 y1 x2 = true ∧ inB x1 y1 y2 = true ∧ inB x3 y3 x2 = true ∧ inB x3 y3 y2 = true ∧
        x2 % s.grid = 0 ∧ y2 % s.grid = 0 ∧ 0 < x2) := by
  obtain ⟨g1, g2⟩ := ho.g
  have o1 : arOk f s.stat s.grid := ⟨⟨hf1, hf2⟩, ho.st, ho.g⟩
  have o2 : arOk r s.dyn s.grid := ⟨⟨hr1, hr2⟩, ho.dy, ho.g⟩
  have ef : f / s.grid * s.grid = f := by have := Int.mul_ediv_add_emod f s.grid; rw [Int.mul_comm] at this; omega
  have er : r / s.grid * s.grid = r := by have := Int.mul_ediv_add_emod r s.grid; rw [Int.mul_comm] at this; omega
  obtain ⟨l1, l2⟩ := loI_bd o1
  obtain ⟨l3, l4⟩ := loI_bd o2
  obtain ⟨u1, u2⟩ := hiI_bd o1
  obtain ⟨u3, u4⟩ := hiI_bd o2
  have a1 := upN_le (p := loI f s.stat) (n := f / s.grid) (by omega) g1 (by omega)
  have a2 := upN_le (p := loI r s.dyn) (n := r / s.grid) (by omega) g1 (by omega)
  have a3 := down_ge (p := hiI f s.stat) (n := f / s.grid) (by omega) g1 (by omega)
  have a4 := down_ge (p := hiI r s.dyn) (n := r / s.grid) (by omega) g1 (by omega)
  have b1 := upN_bd (p := loI f s.stat) (g := s.grid) (by omega) g1
  have b2 := upN_bd (p := loI r s.dyn) (g := s.grid) (by omega) g1
  obtain ⟨k1, hk1⟩ := upN_mul (p := loI f s.stat) (by omega) g1
  obtain ⟨k2, hk2⟩ := upN_mul (p := loI r s.dyn) (by omega) g1
  have m1 : upN (loI f s.stat) s.grid % s.grid = 0 := by rw [hk1]; exact Int.mul_emod_left _ _
  have m2 : upN (loI r s.dyn) s.grid % s.grid = 0 := by rw [hk2]; exact Int.mul_emod_left _ _
  have m3 : hiI f s.stat / s.grid * s.grid % s.grid = 0 := Int.mul_emod_left _ _
  have m4 : hiI r s.dyn / s.grid * s.grid % s.grid = 0 := Int.mul_emod_left _ _
  rw [ef] at a1 a3
  rw [er] at a2 a4
  clear hk1 hk2
  refine ⟨_, _, _, _, if_pos o1, decide_eq_true ⟨a1, a3⟩, if_pos o2, fun hin => ?_⟩
  have hin' := of_decide_eq_true hin
  refine ⟨_, _, if_pos ⟨o1, o2⟩, decide_eq_true ⟨by omega, by omega⟩, decide_eq_true ⟨by omega, by omega⟩, decide_eq_true ⟨by omega, by omega⟩, decide_eq_true ⟨by omega, by omega⟩, decide_eq_true ⟨by omega, by omega⟩, ?_, ?_, by omega⟩
  · rw [Int.max_def]; split <;> assumption
  · rw [Int.min_def]; split <;> assumption
theorem holds_self (s : Sym) (ho : s.Ok) (f : Int) (hf1 : 1 ≤ f) (hf2 : f ≤ 1099511627776) (hf3 : f % s.grid = 0) :
    bandT f s.stat s.grid = .tuple #[.agg #[.int .i64 (upN (loI f s.stat) s.grid), .int .i64 (hiI f s.stat / s.grid * s.grid)], .bool true] ∧ inB (upN (loI f s.stat) s.grid) (hiI f s.stat / s.grid * s.grid) f = true := by
  obtain ⟨g1, g2⟩ := ho.g
  have o1 : arOk f s.stat s.grid := ⟨⟨hf1, hf2⟩, ho.st, ho.g⟩
  have ef : f / s.grid * s.grid = f := by have := Int.mul_ediv_add_emod f s.grid; rw [Int.mul_comm] at this; omega
  obtain ⟨l1, l2⟩ := loI_bd o1
  obtain ⟨u1, u2⟩ := hiI_bd o1
  have a1 := upN_le (p := loI f s.stat) (n := f / s.grid) (by omega) g1 (by omega)
  have a3 := down_ge (p := hiI f s.stat) (n := f / s.grid) (by omega) g1 (by omega)
  rw [ef] at a1 a3
  exact ⟨if_pos o1, decide_eq_true ⟨a1, a3⟩⟩
theorem beqs {x : Int} (h : x ≠ 0) : (x == 0) = false ∧ (x != 0) = true := ⟨beq_eq_false_iff_ne.2 h, bne_iff_ne.2 h⟩
theorem beq0 {x : Int} (h : x = 0) : (x == 0) = true ∧ (x != 0) = false := by subst h; exact ⟨rfl, rfl⟩
set_option maxRecDepth 100000 in
set_option maxHeartbeats 1600000 in
theorem bandholds_in (s : Sym) (hs : s.I) (h0 : symI s = 0) (f r : Int) (hf1 : 1 ≤ f) (hf2 : f ≤ 1099511627776) (hf3 : f % s.grid = 0) (hr1 : 1 ≤ r) (hr3 : r % s.grid = 0) (hr : I64 r) (w : World) :
    Calls Try.prog 5 #[symV s, .int .i64 f, .int .i64 r] w fun e w' => e = .returned (.bool true) ∧ Ext w w' := by
  have ho := sym_ok h0
  obtain ⟨g1, g2⟩ := ho.g
  have C0 := symbol_c s hs
  rw [h0] at C0
  have C1 := static_c s hs f ⟨by omega, by omega⟩
  obtain ⟨e1, e2⟩ := beq0 hf3
  obtain ⟨e3, e4⟩ := beq0 hr3
  by_cases hr2 : r ≤ 1099511627776
  · obtain ⟨x1, y1, x3, y3, h1, i1, h3, hin⟩ := holds_facts s ho f r hf1 hf2 hf3 hr1 hr2 hr3
    have C3 := dynamic_c s hs r hr
    rw [h1] at C1
    rw [h3] at C3
    have D1 := in_c x1 y1 f
    rw [i1] at D1
    have D2 := in_c x1 y1 r
    cases hB : inB x1 y1 r
    · rw [hB] at D2
      unfold symV symC at C0 C1 ⊢
      have HC0 := Lib.hid C0
      have HC1 := Lib.hid C1
      have HD1 := Lib.hid D1
      have HD2 := Lib.hid D2
      clear C0 C1 C3 D1 D2 hB hin i1 h1 h3 hf3 hr3 h0 ho
      go_enter Try.func5, Try.ntmps5
      go_wp2_with fail
      refine (HC0.out _).mono ?_
      rintro e w1 ⟨rfl, hxw1⟩
      have xw1 : Ext w w1 := Ext.trans (by repeat (first | exact Ext.refl _ | assumption | refine Ext.alloc ?_ _ | refine Ext.drew ?_ | refine Ext.drewN ?_ _ | refine Ext.setCell ?_ (by simp; try omega) _ | refine Ext.setRow ?_ (by simp; try omega) _)) hxw1
      have lw1 := xw1.size
      have S_w1 := At.ext (g := w.heap.size) (t := 23) (cs := #[.int .i64 s.grid, .int .i64 s.ref, .int .i64 s.stat, .int .i64 s.dyn, .int .i64 s.win, .int .i64 s.move, .int .i64 s.lim, .int .i64 s.pause, .int .i64 s.ext, .int .i64 s.mx, .int .i64 s.coll, .int .i64 s.wid, .int .i64 s.self, .int .i64 s.slots, .int .i64 s.lev, .int .i64 s.short]) (by repeat (first | (with_reducible exact At.new _ _ _) | ((with_reducible refine At.new' _ _ _ _ ?_); simp; done) | (with_reducible assumption) | (with_reducible refine At.drew ?_) | (with_reducible refine At.alloc ?_ _) | (with_reducible apply At.upd) | (with_reducible apply At.setRow) | (with_reducible refine At.rowFar ?_ (by first | (simp; done) | (simp; omega) | omega) _) | ((with_reducible refine At.far ?_ (by first | (simp; done) | (simp; omega) | omega) _)) | (with_reducible rfl) | (simp; done))) hxw1
      clear hxw1
      have s_S_w1 := S_w1.lt
      have e_S_w1 := cellsAt_at S_w1
      go_wp2_with fail
      refine (HC1.out _).mono ?_
      rintro e w2 ⟨rfl, hxw2⟩
      have xw2 : Ext w w2 := Ext.trans (by repeat (first | exact Ext.refl _ | assumption | refine Ext.alloc ?_ _ | refine Ext.drew ?_ | refine Ext.drewN ?_ _ | refine Ext.setCell ?_ (by simp; try omega) _ | refine Ext.setRow ?_ (by simp; try omega) _)) hxw2
      have lw2 := xw2.size
      have S_w2 := At.ext (g := w.heap.size) (t := 23) (cs := #[.int .i64 s.grid, .int .i64 s.ref, .int .i64 s.stat, .int .i64 s.dyn, .int .i64 s.win, .int .i64 s.move, .int .i64 s.lim, .int .i64 s.pause, .int .i64 s.ext, .int .i64 s.mx, .int .i64 s.coll, .int .i64 s.wid, .int .i64 s.self, .int .i64 s.slots, .int .i64 s.lev, .int .i64 s.short]) (by repeat (first | (with_reducible exact At.new _ _ _) | ((with_reducible refine At.new' _ _ _ _ ?_); simp; done) | (with_reducible assumption) | (with_reducible refine At.drew ?_) | (with_reducible refine At.alloc ?_ _) | (with_reducible apply At.upd) | (with_reducible apply At.setRow) | (with_reducible refine At.rowFar ?_ (by first | (simp; done) | (simp; omega) | omega) _) | ((with_reducible refine At.far ?_ (by first | (simp; done) | (simp; omega) | omega) _)) | (with_reducible rfl) | (simp; done))) hxw2
      clear S_w1 s_S_w1 e_S_w1 hxw2 xw1
      have s_S_w2 := S_w2.lt
      have e_S_w2 := cellsAt_at S_w2
      go_wp2_with fail
      refine (HD1.out _).mono ?_
      rintro e w3 ⟨rfl, hxw3⟩
      have xw3 : Ext w w3 := Ext.trans (by repeat (first | exact Ext.refl _ | assumption | refine Ext.alloc ?_ _ | refine Ext.drew ?_ | refine Ext.drewN ?_ _ | refine Ext.setCell ?_ (by simp; try omega) _ | refine Ext.setRow ?_ (by simp; try omega) _)) hxw3
      have lw3 := xw3.size
      have S_w3 := At.ext (g := w.heap.size) (t := 23) (cs := #[.int .i64 s.grid, .int .i64 s.ref, .int .i64 s.stat, .int .i64 s.dyn, .int .i64 s.win, .int .i64 s.move, .int .i64 s.lim, .int .i64 s.pause, .int .i64 s.ext, .int .i64 s.mx, .int .i64 s.coll, .int .i64 s.wid, .int .i64 s.self, .int .i64 s.slots, .int .i64 s.lev, .int .i64 s.short]) (by repeat (first | (with_reducible exact At.new _ _ _) | ((with_reducible refine At.new' _ _ _ _ ?_); simp; done) | (with_reducible assumption) | (with_reducible refine At.drew ?_) | (with_reducible refine At.alloc ?_ _) | (with_reducible apply At.upd) | (with_reducible apply At.setRow) | (with_reducible refine At.rowFar ?_ (by first | (simp; done) | (simp; omega) | omega) _) | ((with_reducible refine At.far ?_ (by first | (simp; done) | (simp; omega) | omega) _)) | (with_reducible rfl) | (simp; done))) hxw3
      have A_w3 := At.ext (g := w2.heap.size) (t := 27) (cs := #[.int .i64 x1, .int .i64 y1]) (by repeat (first | (with_reducible exact At.new _ _ _) | ((with_reducible refine At.new' _ _ _ _ ?_); simp; done) | (with_reducible assumption) | (with_reducible refine At.drew ?_) | (with_reducible refine At.alloc ?_ _) | (with_reducible apply At.upd) | (with_reducible apply At.setRow) | (with_reducible refine At.rowFar ?_ (by first | (simp; done) | (simp; omega) | omega) _) | ((with_reducible refine At.far ?_ (by first | (simp; done) | (simp; omega) | omega) _)) | (with_reducible rfl) | (simp; done))) hxw3
      clear S_w2 s_S_w2 e_S_w2 hxw3 xw2
      have s_S_w3 := S_w3.lt
      have e_S_w3 := cellsAt_at S_w3
      have s_A_w3 := A_w3.lt
      have c_A_w3_0 := A_w3.cell 0
      have f_A_w3_0 := A_w3.frozen 0
      have c_A_w3_1 := A_w3.cell 1
      have f_A_w3_1 := A_w3.frozen 1
      simp only [List.getElem?_toArray, List.getElem?_cons_zero, List.getElem?_cons_succ] at c_A_w3_0 c_A_w3_1
      go_wp2_with fail
      refine (HD2.out _).mono ?_
      rintro e w4 ⟨rfl, hxw4⟩
      have xw4 : Ext w w4 := Ext.trans (by repeat (first | exact Ext.refl _ | assumption | refine Ext.alloc ?_ _ | refine Ext.drew ?_ | refine Ext.drewN ?_ _ | refine Ext.setCell ?_ (by simp; try omega) _ | refine Ext.setRow ?_ (by simp; try omega) _)) hxw4
      have lw4 := xw4.size
      go_wp2_with fail
      refine (alive_c _).mono ?_
      rintro e w5 ⟨rfl, hxw5⟩
      have xw5 : Ext w w5 := Ext.trans (by repeat (first | exact Ext.refl _ | assumption | refine Ext.alloc ?_ _ | refine Ext.drew ?_ | refine Ext.drewN ?_ _ | refine Ext.setCell ?_ (by simp; try omega) _ | refine Ext.setRow ?_ (by simp; try omega) _)) hxw5
      have lw5 := xw5.size
      go_wp2_with fail
      refine fin_ret rfl (fun K hK => ?_)
      simp [results, Try.results5, go_sem, rsat]
      try go_simp
      refine hK _ ?_
      clear hK K
      exact ⟨rfl, (by repeat (first | exact Ext.refl _ | assumption | refine Ext.alloc ?_ _ | refine Ext.drew ?_ | refine Ext.drewN ?_ _ | refine Ext.setCell ?_ (by simp; try omega) _ | refine Ext.setRow ?_ (by simp; try omega) _))⟩
    · obtain ⟨x2, y2, h2, j1, j2, j3, j4, j5, j6, j7, j8⟩ := hin hB
      rw [hB] at D2
      have C2 := of20_c s hs f r ⟨by omega, by omega⟩ hr
      rw [h2] at C2
      have D3 := in_c x2 y2 r
      have D4 := in_c x1 y1 x2
      have D5 := in_c x1 y1 y2
      have D6 := in_c x3 y3 x2
      have D7 := in_c x3 y3 y2
      rw [j1] at D3
      rw [j2] at D4
      rw [j3] at D5
      rw [j4] at D6
      rw [j5] at D7
      obtain ⟨e5, _⟩ := beq0 j6
      obtain ⟨e6, _⟩ := beq0 j7
      have jy : 0 ≤ y2 := by have := of_decide_eq_true j1; omega
      unfold symV symC at C0 C1 C2 C3 ⊢
      have HC0 := Lib.hid C0
      have HC1 := Lib.hid C1
      have HC2 := Lib.hid C2
      have HC3 := Lib.hid C3
      have HD1 := Lib.hid D1
      have HD2 := Lib.hid D2
      have HD3 := Lib.hid D3
      have HD4 := Lib.hid D4
      have HD5 := Lib.hid D5
      have HD6 := Lib.hid D6
      have HD7 := Lib.hid D7
      clear C0 C1 C2 C3 D1 D2 D3 D4 D5 D6 D7 hB hin i1 h1 h2 h3 hf3 hr3 h0 ho j1 j2 j3 j4 j5 j6 j7
      go_enter Try.func5, Try.ntmps5
      go_wp2_with fail
      refine (HC0.out _).mono ?_
      rintro e w1 ⟨rfl, hxw1⟩
      have xw1 : Ext w w1 := Ext.trans (by repeat (first | exact Ext.refl _ | assumption | refine Ext.alloc ?_ _ | refine Ext.drew ?_ | refine Ext.drewN ?_ _ | refine Ext.setCell ?_ (by simp; try omega) _ | refine Ext.setRow ?_ (by simp; try omega) _)) hxw1
      have lw1 := xw1.size
      have S_w1 := At.ext (g := w.heap.size) (t := 23) (cs := #[.int .i64 s.grid, .int .i64 s.ref, .int .i64 s.stat, .int .i64 s.dyn, .int .i64 s.win, .int .i64 s.move, .int .i64 s.lim, .int .i64 s.pause, .int .i64 s.ext, .int .i64 s.mx, .int .i64 s.coll, .int .i64 s.wid, .int .i64 s.self, .int .i64 s.slots, .int .i64 s.lev, .int .i64 s.short]) (by repeat (first | (with_reducible exact At.new _ _ _) | ((with_reducible refine At.new' _ _ _ _ ?_); simp; done) | (with_reducible assumption) | (with_reducible refine At.drew ?_) | (with_reducible refine At.alloc ?_ _) | (with_reducible apply At.upd) | (with_reducible apply At.setRow) | (with_reducible refine At.rowFar ?_ (by first | (simp; done) | (simp; omega) | omega) _) | ((with_reducible refine At.far ?_ (by first | (simp; done) | (simp; omega) | omega) _)) | (with_reducible rfl) | (simp; done))) hxw1
      clear hxw1
      have s_S_w1 := S_w1.lt
      have e_S_w1 := cellsAt_at S_w1
      go_wp2_with fail
      refine (HC1.out _).mono ?_
      rintro e w2 ⟨rfl, hxw2⟩
      have xw2 : Ext w w2 := Ext.trans (by repeat (first | exact Ext.refl _ | assumption | refine Ext.alloc ?_ _ | refine Ext.drew ?_ | refine Ext.drewN ?_ _ | refine Ext.setCell ?_ (by simp; try omega) _ | refine Ext.setRow ?_ (by simp; try omega) _)) hxw2
      have lw2 := xw2.size
      have S_w2 := At.ext (g := w.heap.size) (t := 23) (cs := #[.int .i64 s.grid, .int .i64 s.ref, .int .i64 s.stat, .int .i64 s.dyn, .int .i64 s.win, .int .i64 s.move, .int .i64 s.lim, .int .i64 s.pause, .int .i64 s.ext, .int .i64 s.mx, .int .i64 s.coll, .int .i64 s.wid, .int .i64 s.self, .int .i64 s.slots, .int .i64 s.lev, .int .i64 s.short]) (by repeat (first | (with_reducible exact At.new _ _ _) | ((with_reducible refine At.new' _ _ _ _ ?_); simp; done) | (with_reducible assumption) | (with_reducible refine At.drew ?_) | (with_reducible refine At.alloc ?_ _) | (with_reducible apply At.upd) | (with_reducible apply At.setRow) | (with_reducible refine At.rowFar ?_ (by first | (simp; done) | (simp; omega) | omega) _) | ((with_reducible refine At.far ?_ (by first | (simp; done) | (simp; omega) | omega) _)) | (with_reducible rfl) | (simp; done))) hxw2
      clear S_w1 s_S_w1 e_S_w1 hxw2 xw1
      have s_S_w2 := S_w2.lt
      have e_S_w2 := cellsAt_at S_w2
      go_wp2_with fail
      refine (HD1.out _).mono ?_
      rintro e w3 ⟨rfl, hxw3⟩
      have xw3 : Ext w w3 := Ext.trans (by repeat (first | exact Ext.refl _ | assumption | refine Ext.alloc ?_ _ | refine Ext.drew ?_ | refine Ext.drewN ?_ _ | refine Ext.setCell ?_ (by simp; try omega) _ | refine Ext.setRow ?_ (by simp; try omega) _)) hxw3
      have lw3 := xw3.size
      have S_w3 := At.ext (g := w.heap.size) (t := 23) (cs := #[.int .i64 s.grid, .int .i64 s.ref, .int .i64 s.stat, .int .i64 s.dyn, .int .i64 s.win, .int .i64 s.move, .int .i64 s.lim, .int .i64 s.pause, .int .i64 s.ext, .int .i64 s.mx, .int .i64 s.coll, .int .i64 s.wid, .int .i64 s.self, .int .i64 s.slots, .int .i64 s.lev, .int .i64 s.short]) (by repeat (first | (with_reducible exact At.new _ _ _) | ((with_reducible refine At.new' _ _ _ _ ?_); simp; done) | (with_reducible assumption) | (with_reducible refine At.drew ?_) | (with_reducible refine At.alloc ?_ _) | (with_reducible apply At.upd) | (with_reducible apply At.setRow) | (with_reducible refine At.rowFar ?_ (by first | (simp; done) | (simp; omega) | omega) _) | ((with_reducible refine At.far ?_ (by first | (simp; done) | (simp; omega) | omega) _)) | (with_reducible rfl) | (simp; done))) hxw3
      have A_w3 := At.ext (g := w2.heap.size) (t := 27) (cs := #[.int .i64 x1, .int .i64 y1]) (by repeat (first | (with_reducible exact At.new _ _ _) | ((with_reducible refine At.new' _ _ _ _ ?_); simp; done) | (with_reducible assumption) | (with_reducible refine At.drew ?_) | (with_reducible refine At.alloc ?_ _) | (with_reducible apply At.upd) | (with_reducible apply At.setRow) | (with_reducible refine At.rowFar ?_ (by first | (simp; done) | (simp; omega) | omega) _) | ((with_reducible refine At.far ?_ (by first | (simp; done) | (simp; omega) | omega) _)) | (with_reducible rfl) | (simp; done))) hxw3
      clear S_w2 s_S_w2 e_S_w2 hxw3 xw2
      have s_S_w3 := S_w3.lt
      have e_S_w3 := cellsAt_at S_w3
      have s_A_w3 := A_w3.lt
      have c_A_w3_0 := A_w3.cell 0
      have f_A_w3_0 := A_w3.frozen 0
      have c_A_w3_1 := A_w3.cell 1
      have f_A_w3_1 := A_w3.frozen 1
      simp only [List.getElem?_toArray, List.getElem?_cons_zero, List.getElem?_cons_succ] at c_A_w3_0 c_A_w3_1
      go_wp2_with fail
      refine (HD2.out _).mono ?_
      rintro e w4 ⟨rfl, hxw4⟩
      have xw4 : Ext w w4 := Ext.trans (by repeat (first | exact Ext.refl _ | assumption | refine Ext.alloc ?_ _ | refine Ext.drew ?_ | refine Ext.drewN ?_ _ | refine Ext.setCell ?_ (by simp; try omega) _ | refine Ext.setRow ?_ (by simp; try omega) _)) hxw4
      have lw4 := xw4.size
      have S_w4 := At.ext (g := w.heap.size) (t := 23) (cs := #[.int .i64 s.grid, .int .i64 s.ref, .int .i64 s.stat, .int .i64 s.dyn, .int .i64 s.win, .int .i64 s.move, .int .i64 s.lim, .int .i64 s.pause, .int .i64 s.ext, .int .i64 s.mx, .int .i64 s.coll, .int .i64 s.wid, .int .i64 s.self, .int .i64 s.slots, .int .i64 s.lev, .int .i64 s.short]) (by repeat (first | (with_reducible exact At.new _ _ _) | ((with_reducible refine At.new' _ _ _ _ ?_); simp; done) | (with_reducible assumption) | (with_reducible refine At.drew ?_) | (with_reducible refine At.alloc ?_ _) | (with_reducible apply At.upd) | (with_reducible apply At.setRow) | (with_reducible refine At.rowFar ?_ (by first | (simp; done) | (simp; omega) | omega) _) | ((with_reducible refine At.far ?_ (by first | (simp; done) | (simp; omega) | omega) _)) | (with_reducible rfl) | (simp; done))) hxw4
      have A_w4 := At.ext (g := w2.heap.size) (t := 27) (cs := #[.int .i64 x1, .int .i64 y1]) (by repeat (first | (with_reducible exact At.new _ _ _) | ((with_reducible refine At.new' _ _ _ _ ?_); simp; done) | (with_reducible assumption) | (with_reducible refine At.drew ?_) | (with_reducible refine At.alloc ?_ _) | (with_reducible apply At.upd) | (with_reducible apply At.setRow) | (with_reducible refine At.rowFar ?_ (by first | (simp; done) | (simp; omega) | omega) _) | ((with_reducible refine At.far ?_ (by first | (simp; done) | (simp; omega) | omega) _)) | (with_reducible rfl) | (simp; done))) hxw4
      clear S_w3 s_S_w3 e_S_w3 A_w3 s_A_w3 c_A_w3_0 f_A_w3_0 c_A_w3_1 f_A_w3_1 hxw4 xw3
      have s_S_w4 := S_w4.lt
      have e_S_w4 := cellsAt_at S_w4
      have s_A_w4 := A_w4.lt
      have c_A_w4_0 := A_w4.cell 0
      have f_A_w4_0 := A_w4.frozen 0
      have c_A_w4_1 := A_w4.cell 1
      have f_A_w4_1 := A_w4.frozen 1
      simp only [List.getElem?_toArray, List.getElem?_cons_zero, List.getElem?_cons_succ] at c_A_w4_0 c_A_w4_1
      go_wp2_with fail
      refine (HC2.out _).mono ?_
      rintro e w5 ⟨rfl, hxw5⟩
      have xw5 : Ext w w5 := Ext.trans (by repeat (first | exact Ext.refl _ | assumption | refine Ext.alloc ?_ _ | refine Ext.drew ?_ | refine Ext.drewN ?_ _ | refine Ext.setCell ?_ (by simp; try omega) _ | refine Ext.setRow ?_ (by simp; try omega) _)) hxw5
      have lw5 := xw5.size
      have S_w5 := At.ext (g := w.heap.size) (t := 23) (cs := #[.int .i64 s.grid, .int .i64 s.ref, .int .i64 s.stat, .int .i64 s.dyn, .int .i64 s.win, .int .i64 s.move, .int .i64 s.lim, .int .i64 s.pause, .int .i64 s.ext, .int .i64 s.mx, .int .i64 s.coll, .int .i64 s.wid, .int .i64 s.self, .int .i64 s.slots, .int .i64 s.lev, .int .i64 s.short]) (by repeat (first | (with_reducible exact At.new _ _ _) | ((with_reducible refine At.new' _ _ _ _ ?_); simp; done) | (with_reducible assumption) | (with_reducible refine At.drew ?_) | (with_reducible refine At.alloc ?_ _) | (with_reducible apply At.upd) | (with_reducible apply At.setRow) | (with_reducible refine At.rowFar ?_ (by first | (simp; done) | (simp; omega) | omega) _) | ((with_reducible refine At.far ?_ (by first | (simp; done) | (simp; omega) | omega) _)) | (with_reducible rfl) | (simp; done))) hxw5
      have A_w5 := At.ext (g := w2.heap.size) (t := 27) (cs := #[.int .i64 x1, .int .i64 y1]) (by repeat (first | (with_reducible exact At.new _ _ _) | ((with_reducible refine At.new' _ _ _ _ ?_); simp; done) | (with_reducible assumption) | (with_reducible refine At.drew ?_) | (with_reducible refine At.alloc ?_ _) | (with_reducible apply At.upd) | (with_reducible apply At.setRow) | (with_reducible refine At.rowFar ?_ (by first | (simp; done) | (simp; omega) | omega) _) | ((with_reducible refine At.far ?_ (by first | (simp; done) | (simp; omega) | omega) _)) | (with_reducible rfl) | (simp; done))) hxw5
      clear S_w4 s_S_w4 e_S_w4 A_w4 s_A_w4 c_A_w4_0 f_A_w4_0 c_A_w4_1 f_A_w4_1 hxw5 xw4
      have s_S_w5 := S_w5.lt
      have e_S_w5 := cellsAt_at S_w5
      have s_A_w5 := A_w5.lt
      have c_A_w5_0 := A_w5.cell 0
      have f_A_w5_0 := A_w5.frozen 0
      have c_A_w5_1 := A_w5.cell 1
      have f_A_w5_1 := A_w5.frozen 1
      simp only [List.getElem?_toArray, List.getElem?_cons_zero, List.getElem?_cons_succ] at c_A_w5_0 c_A_w5_1
      go_wp2_with fail
      refine (HC3.out _).mono ?_
      rintro e w6 ⟨rfl, hxw6⟩
      have xw6 : Ext w w6 := Ext.trans (by repeat (first | exact Ext.refl _ | assumption | refine Ext.alloc ?_ _ | refine Ext.drew ?_ | refine Ext.drewN ?_ _ | refine Ext.setCell ?_ (by simp; try omega) _ | refine Ext.setRow ?_ (by simp; try omega) _)) hxw6
      have lw6 := xw6.size
      have S_w6 := At.ext (g := w.heap.size) (t := 23) (cs := #[.int .i64 s.grid, .int .i64 s.ref, .int .i64 s.stat, .int .i64 s.dyn, .int .i64 s.win, .int .i64 s.move, .int .i64 s.lim, .int .i64 s.pause, .int .i64 s.ext, .int .i64 s.mx, .int .i64 s.coll, .int .i64 s.wid, .int .i64 s.self, .int .i64 s.slots, .int .i64 s.lev, .int .i64 s.short]) (by repeat (first | (with_reducible exact At.new _ _ _) | ((with_reducible refine At.new' _ _ _ _ ?_); simp; done) | (with_reducible assumption) | (with_reducible refine At.drew ?_) | (with_reducible refine At.alloc ?_ _) | (with_reducible apply At.upd) | (with_reducible apply At.setRow) | (with_reducible refine At.rowFar ?_ (by first | (simp; done) | (simp; omega) | omega) _) | ((with_reducible refine At.far ?_ (by first | (simp; done) | (simp; omega) | omega) _)) | (with_reducible rfl) | (simp; done))) hxw6
      have A_w6 := At.ext (g := w2.heap.size) (t := 27) (cs := #[.int .i64 x1, .int .i64 y1]) (by repeat (first | (with_reducible exact At.new _ _ _) | ((with_reducible refine At.new' _ _ _ _ ?_); simp; done) | (with_reducible assumption) | (with_reducible refine At.drew ?_) | (with_reducible refine At.alloc ?_ _) | (with_reducible apply At.upd) | (with_reducible apply At.setRow) | (with_reducible refine At.rowFar ?_ (by first | (simp; done) | (simp; omega) | omega) _) | ((with_reducible refine At.far ?_ (by first | (simp; done) | (simp; omega) | omega) _)) | (with_reducible rfl) | (simp; done))) hxw6
      have B_w6 := At.ext (g := w5.heap.size) (t := 27) (cs := #[.int .i64 x2, .int .i64 y2]) (by repeat (first | (with_reducible exact At.new _ _ _) | ((with_reducible refine At.new' _ _ _ _ ?_); simp; done) | (with_reducible assumption) | (with_reducible refine At.drew ?_) | (with_reducible refine At.alloc ?_ _) | (with_reducible apply At.upd) | (with_reducible apply At.setRow) | (with_reducible refine At.rowFar ?_ (by first | (simp; done) | (simp; omega) | omega) _) | ((with_reducible refine At.far ?_ (by first | (simp; done) | (simp; omega) | omega) _)) | (with_reducible rfl) | (simp; done))) hxw6
      clear S_w5 s_S_w5 e_S_w5 A_w5 s_A_w5 c_A_w5_0 f_A_w5_0 c_A_w5_1 f_A_w5_1 hxw6 xw5
      have s_S_w6 := S_w6.lt
      have e_S_w6 := cellsAt_at S_w6
      have s_A_w6 := A_w6.lt
      have c_A_w6_0 := A_w6.cell 0
      have f_A_w6_0 := A_w6.frozen 0
      have c_A_w6_1 := A_w6.cell 1
      have f_A_w6_1 := A_w6.frozen 1
      simp only [List.getElem?_toArray, List.getElem?_cons_zero, List.getElem?_cons_succ] at c_A_w6_0 c_A_w6_1
      have s_B_w6 := B_w6.lt
      have c_B_w6_0 := B_w6.cell 0
      have f_B_w6_0 := B_w6.frozen 0
      have c_B_w6_1 := B_w6.cell 1
      have f_B_w6_1 := B_w6.frozen 1
      simp only [List.getElem?_toArray, List.getElem?_cons_zero, List.getElem?_cons_succ] at c_B_w6_0 c_B_w6_1
      go_wp2_with fail
      refine (HD3.out _).mono ?_
      rintro e w7 ⟨rfl, hxw7⟩
      have xw7 : Ext w w7 := Ext.trans (by repeat (first | exact Ext.refl _ | assumption | refine Ext.alloc ?_ _ | refine Ext.drew ?_ | refine Ext.drewN ?_ _ | refine Ext.setCell ?_ (by simp; try omega) _ | refine Ext.setRow ?_ (by simp; try omega) _)) hxw7
      have lw7 := xw7.size
      have S_w7 := At.ext (g := w.heap.size) (t := 23) (cs := #[.int .i64 s.grid, .int .i64 s.ref, .int .i64 s.stat, .int .i64 s.dyn, .int .i64 s.win, .int .i64 s.move, .int .i64 s.lim, .int .i64 s.pause, .int .i64 s.ext, .int .i64 s.mx, .int .i64 s.coll, .int .i64 s.wid, .int .i64 s.self, .int .i64 s.slots, .int .i64 s.lev, .int .i64 s.short]) (by repeat (first | (with_reducible exact At.new _ _ _) | ((with_reducible refine At.new' _ _ _ _ ?_); simp; done) | (with_reducible assumption) | (with_reducible refine At.drew ?_) | (with_reducible refine At.alloc ?_ _) | (with_reducible apply At.upd) | (with_reducible apply At.setRow) | (with_reducible refine At.rowFar ?_ (by first | (simp; done) | (simp; omega) | omega) _) | ((with_reducible refine At.far ?_ (by first | (simp; done) | (simp; omega) | omega) _)) | (with_reducible rfl) | (simp; done))) hxw7
      have A_w7 := At.ext (g := w2.heap.size) (t := 27) (cs := #[.int .i64 x1, .int .i64 y1]) (by repeat (first | (with_reducible exact At.new _ _ _) | ((with_reducible refine At.new' _ _ _ _ ?_); simp; done) | (with_reducible assumption) | (with_reducible refine At.drew ?_) | (with_reducible refine At.alloc ?_ _) | (with_reducible apply At.upd) | (with_reducible apply At.setRow) | (with_reducible refine At.rowFar ?_ (by first | (simp; done) | (simp; omega) | omega) _) | ((with_reducible refine At.far ?_ (by first | (simp; done) | (simp; omega) | omega) _)) | (with_reducible rfl) | (simp; done))) hxw7
      have B_w7 := At.ext (g := w5.heap.size) (t := 27) (cs := #[.int .i64 x2, .int .i64 y2]) (by repeat (first | (with_reducible exact At.new _ _ _) | ((with_reducible refine At.new' _ _ _ _ ?_); simp; done) | (with_reducible assumption) | (with_reducible refine At.drew ?_) | (with_reducible refine At.alloc ?_ _) | (with_reducible apply At.upd) | (with_reducible apply At.setRow) | (with_reducible refine At.rowFar ?_ (by first | (simp; done) | (simp; omega) | omega) _) | ((with_reducible refine At.far ?_ (by first | (simp; done) | (simp; omega) | omega) _)) | (with_reducible rfl) | (simp; done))) hxw7
      have C_w7 := At.ext (g := w6.heap.size) (t := 27) (cs := #[.int .i64 x3, .int .i64 y3]) (by repeat (first | (with_reducible exact At.new _ _ _) | ((with_reducible refine At.new' _ _ _ _ ?_); simp; done) | (with_reducible assumption) | (with_reducible refine At.drew ?_) | (with_reducible refine At.alloc ?_ _) | (with_reducible apply At.upd) | (with_reducible apply At.setRow) | (with_reducible refine At.rowFar ?_ (by first | (simp; done) | (simp; omega) | omega) _) | ((with_reducible refine At.far ?_ (by first | (simp; done) | (simp; omega) | omega) _)) | (with_reducible rfl) | (simp; done))) hxw7
      clear S_w6 s_S_w6 e_S_w6 A_w6 s_A_w6 c_A_w6_0 f_A_w6_0 c_A_w6_1 f_A_w6_1 B_w6 s_B_w6 c_B_w6_0 f_B_w6_0 c_B_w6_1 f_B_w6_1 hxw7 xw6
      have s_S_w7 := S_w7.lt
      have e_S_w7 := cellsAt_at S_w7
      have s_A_w7 := A_w7.lt
      have c_A_w7_0 := A_w7.cell 0
      have f_A_w7_0 := A_w7.frozen 0
      have c_A_w7_1 := A_w7.cell 1
      have f_A_w7_1 := A_w7.frozen 1
      simp only [List.getElem?_toArray, List.getElem?_cons_zero, List.getElem?_cons_succ] at c_A_w7_0 c_A_w7_1
      have s_B_w7 := B_w7.lt
      have c_B_w7_0 := B_w7.cell 0
      have f_B_w7_0 := B_w7.frozen 0
      have c_B_w7_1 := B_w7.cell 1
      have f_B_w7_1 := B_w7.frozen 1
      simp only [List.getElem?_toArray, List.getElem?_cons_zero, List.getElem?_cons_succ] at c_B_w7_0 c_B_w7_1
      have s_C_w7 := C_w7.lt
      have c_C_w7_0 := C_w7.cell 0
      have f_C_w7_0 := C_w7.frozen 0
      have c_C_w7_1 := C_w7.cell 1
      have f_C_w7_1 := C_w7.frozen 1
      simp only [List.getElem?_toArray, List.getElem?_cons_zero, List.getElem?_cons_succ] at c_C_w7_0 c_C_w7_1
      go_wp2_with fail
      refine (HD4.out _).mono ?_
      rintro e w8 ⟨rfl, hxw8⟩
      have xw8 : Ext w w8 := Ext.trans (by repeat (first | exact Ext.refl _ | assumption | refine Ext.alloc ?_ _ | refine Ext.drew ?_ | refine Ext.drewN ?_ _ | refine Ext.setCell ?_ (by simp; try omega) _ | refine Ext.setRow ?_ (by simp; try omega) _)) hxw8
      have lw8 := xw8.size
      have S_w8 := At.ext (g := w.heap.size) (t := 23) (cs := #[.int .i64 s.grid, .int .i64 s.ref, .int .i64 s.stat, .int .i64 s.dyn, .int .i64 s.win, .int .i64 s.move, .int .i64 s.lim, .int .i64 s.pause, .int .i64 s.ext, .int .i64 s.mx, .int .i64 s.coll, .int .i64 s.wid, .int .i64 s.self, .int .i64 s.slots, .int .i64 s.lev, .int .i64 s.short]) (by repeat (first | (with_reducible exact At.new _ _ _) | ((with_reducible refine At.new' _ _ _ _ ?_); simp; done) | (with_reducible assumption) | (with_reducible refine At.drew ?_) | (with_reducible refine At.alloc ?_ _) | (with_reducible apply At.upd) | (with_reducible apply At.setRow) | (with_reducible refine At.rowFar ?_ (by first | (simp; done) | (simp; omega) | omega) _) | ((with_reducible refine At.far ?_ (by first | (simp; done) | (simp; omega) | omega) _)) | (with_reducible rfl) | (simp; done))) hxw8
      have A_w8 := At.ext (g := w2.heap.size) (t := 27) (cs := #[.int .i64 x1, .int .i64 y1]) (by repeat (first | (with_reducible exact At.new _ _ _) | ((with_reducible refine At.new' _ _ _ _ ?_); simp; done) | (with_reducible assumption) | (with_reducible refine At.drew ?_) | (with_reducible refine At.alloc ?_ _) | (with_reducible apply At.upd) | (with_reducible apply At.setRow) | (with_reducible refine At.rowFar ?_ (by first | (simp; done) | (simp; omega) | omega) _) | ((with_reducible refine At.far ?_ (by first | (simp; done) | (simp; omega) | omega) _)) | (with_reducible rfl) | (simp; done))) hxw8
      have B_w8 := At.ext (g := w5.heap.size) (t := 27) (cs := #[.int .i64 x2, .int .i64 y2]) (by repeat (first | (with_reducible exact At.new _ _ _) | ((with_reducible refine At.new' _ _ _ _ ?_); simp; done) | (with_reducible assumption) | (with_reducible refine At.drew ?_) | (with_reducible refine At.alloc ?_ _) | (with_reducible apply At.upd) | (with_reducible apply At.setRow) | (with_reducible refine At.rowFar ?_ (by first | (simp; done) | (simp; omega) | omega) _) | ((with_reducible refine At.far ?_ (by first | (simp; done) | (simp; omega) | omega) _)) | (with_reducible rfl) | (simp; done))) hxw8
      have C_w8 := At.ext (g := w6.heap.size) (t := 27) (cs := #[.int .i64 x3, .int .i64 y3]) (by repeat (first | (with_reducible exact At.new _ _ _) | ((with_reducible refine At.new' _ _ _ _ ?_); simp; done) | (with_reducible assumption) | (with_reducible refine At.drew ?_) | (with_reducible refine At.alloc ?_ _) | (with_reducible apply At.upd) | (with_reducible apply At.setRow) | (with_reducible refine At.rowFar ?_ (by first | (simp; done) | (simp; omega) | omega) _) | ((with_reducible refine At.far ?_ (by first | (simp; done) | (simp; omega) | omega) _)) | (with_reducible rfl) | (simp; done))) hxw8
      clear S_w7 s_S_w7 e_S_w7 A_w7 s_A_w7 c_A_w7_0 f_A_w7_0 c_A_w7_1 f_A_w7_1 B_w7 s_B_w7 c_B_w7_0 f_B_w7_0 c_B_w7_1 f_B_w7_1 C_w7 s_C_w7 c_C_w7_0 f_C_w7_0 c_C_w7_1 f_C_w7_1 hxw8 xw7
      have s_S_w8 := S_w8.lt
      have e_S_w8 := cellsAt_at S_w8
      have s_A_w8 := A_w8.lt
      have c_A_w8_0 := A_w8.cell 0
      have f_A_w8_0 := A_w8.frozen 0
      have c_A_w8_1 := A_w8.cell 1
      have f_A_w8_1 := A_w8.frozen 1
      simp only [List.getElem?_toArray, List.getElem?_cons_zero, List.getElem?_cons_succ] at c_A_w8_0 c_A_w8_1
      have s_B_w8 := B_w8.lt
      have c_B_w8_0 := B_w8.cell 0
      have f_B_w8_0 := B_w8.frozen 0
      have c_B_w8_1 := B_w8.cell 1
      have f_B_w8_1 := B_w8.frozen 1
      simp only [List.getElem?_toArray, List.getElem?_cons_zero, List.getElem?_cons_succ] at c_B_w8_0 c_B_w8_1
      have s_C_w8 := C_w8.lt
      have c_C_w8_0 := C_w8.cell 0
      have f_C_w8_0 := C_w8.frozen 0
      have c_C_w8_1 := C_w8.cell 1
      have f_C_w8_1 := C_w8.frozen 1
      simp only [List.getElem?_toArray, List.getElem?_cons_zero, List.getElem?_cons_succ] at c_C_w8_0 c_C_w8_1
      go_wp2_with fail
      refine (HD5.out _).mono ?_
      rintro e w9 ⟨rfl, hxw9⟩
      have xw9 : Ext w w9 := Ext.trans (by repeat (first | exact Ext.refl _ | assumption | refine Ext.alloc ?_ _ | refine Ext.drew ?_ | refine Ext.drewN ?_ _ | refine Ext.setCell ?_ (by simp; try omega) _ | refine Ext.setRow ?_ (by simp; try omega) _)) hxw9
      have lw9 := xw9.size
      have S_w9 := At.ext (g := w.heap.size) (t := 23) (cs := #[.int .i64 s.grid, .int .i64 s.ref, .int .i64 s.stat, .int .i64 s.dyn, .int .i64 s.win, .int .i64 s.move, .int .i64 s.lim, .int .i64 s.pause, .int .i64 s.ext, .int .i64 s.mx, .int .i64 s.coll, .int .i64 s.wid, .int .i64 s.self, .int .i64 s.slots, .int .i64 s.lev, .int .i64 s.short]) (by repeat (first | (with_reducible exact At.new _ _ _) | ((with_reducible refine At.new' _ _ _ _ ?_); simp; done) | (with_reducible assumption) | (with_reducible refine At.drew ?_) | (with_reducible refine At.alloc ?_ _) | (with_reducible apply At.upd) | (with_reducible apply At.setRow) | (with_reducible refine At.rowFar ?_ (by first | (simp; done) | (simp; omega) | omega) _) | ((with_reducible refine At.far ?_ (by first | (simp; done) | (simp; omega) | omega) _)) | (with_reducible rfl) | (simp; done))) hxw9
      have A_w9 := At.ext (g := w2.heap.size) (t := 27) (cs := #[.int .i64 x1, .int .i64 y1]) (by repeat (first | (with_reducible exact At.new _ _ _) | ((with_reducible refine At.new' _ _ _ _ ?_); simp; done) | (with_reducible assumption) | (with_reducible refine At.drew ?_) | (with_reducible refine At.alloc ?_ _) | (with_reducible apply At.upd) | (with_reducible apply At.setRow) | (with_reducible refine At.rowFar ?_ (by first | (simp; done) | (simp; omega) | omega) _) | ((with_reducible refine At.far ?_ (by first | (simp; done) | (simp; omega) | omega) _)) | (with_reducible rfl) | (simp; done))) hxw9
      have B_w9 := At.ext (g := w5.heap.size) (t := 27) (cs := #[.int .i64 x2, .int .i64 y2]) (by repeat (first | (with_reducible exact At.new _ _ _) | ((with_reducible refine At.new' _ _ _ _ ?_); simp; done) | (with_reducible assumption) | (with_reducible refine At.drew ?_) | (with_reducible refine At.alloc ?_ _) | (with_reducible apply At.upd) | (with_reducible apply At.setRow) | (with_reducible refine At.rowFar ?_ (by first | (simp; done) | (simp; omega) | omega) _) | ((with_reducible refine At.far ?_ (by first | (simp; done) | (simp; omega) | omega) _)) | (with_reducible rfl) | (simp; done))) hxw9
      have C_w9 := At.ext (g := w6.heap.size) (t := 27) (cs := #[.int .i64 x3, .int .i64 y3]) (by repeat (first | (with_reducible exact At.new _ _ _) | ((with_reducible refine At.new' _ _ _ _ ?_); simp; done) | (with_reducible assumption) | (with_reducible refine At.drew ?_) | (with_reducible refine At.alloc ?_ _) | (with_reducible apply At.upd) | (with_reducible apply At.setRow) | (with_reducible refine At.rowFar ?_ (by first | (simp; done) | (simp; omega) | omega) _) | ((with_reducible refine At.far ?_ (by first | (simp; done) | (simp; omega) | omega) _)) | (with_reducible rfl) | (simp; done))) hxw9
      clear S_w8 s_S_w8 e_S_w8 A_w8 s_A_w8 c_A_w8_0 f_A_w8_0 c_A_w8_1 f_A_w8_1 B_w8 s_B_w8 c_B_w8_0 f_B_w8_0 c_B_w8_1 f_B_w8_1 C_w8 s_C_w8 c_C_w8_0 f_C_w8_0 c_C_w8_1 f_C_w8_1 hxw9 xw8
      have s_S_w9 := S_w9.lt
      have e_S_w9 := cellsAt_at S_w9
      have s_A_w9 := A_w9.lt
      have c_A_w9_0 := A_w9.cell 0
      have f_A_w9_0 := A_w9.frozen 0
      have c_A_w9_1 := A_w9.cell 1
      have f_A_w9_1 := A_w9.frozen 1
      simp only [List.getElem?_toArray, List.getElem?_cons_zero, List.getElem?_cons_succ] at c_A_w9_0 c_A_w9_1
      have s_B_w9 := B_w9.lt
      have c_B_w9_0 := B_w9.cell 0
      have f_B_w9_0 := B_w9.frozen 0
      have c_B_w9_1 := B_w9.cell 1
      have f_B_w9_1 := B_w9.frozen 1
      simp only [List.getElem?_toArray, List.getElem?_cons_zero, List.getElem?_cons_succ] at c_B_w9_0 c_B_w9_1
      have s_C_w9 := C_w9.lt
      have c_C_w9_0 := C_w9.cell 0
      have f_C_w9_0 := C_w9.frozen 0
      have c_C_w9_1 := C_w9.cell 1
      have f_C_w9_1 := C_w9.frozen 1
      simp only [List.getElem?_toArray, List.getElem?_cons_zero, List.getElem?_cons_succ] at c_C_w9_0 c_C_w9_1
      go_wp2_with fail
      refine (HD6.out _).mono ?_
      rintro e w10 ⟨rfl, hxw10⟩
      have xw10 : Ext w w10 := Ext.trans (by repeat (first | exact Ext.refl _ | assumption | refine Ext.alloc ?_ _ | refine Ext.drew ?_ | refine Ext.drewN ?_ _ | refine Ext.setCell ?_ (by simp; try omega) _ | refine Ext.setRow ?_ (by simp; try omega) _)) hxw10
      have lw10 := xw10.size
      have S_w10 := At.ext (g := w.heap.size) (t := 23) (cs := #[.int .i64 s.grid, .int .i64 s.ref, .int .i64 s.stat, .int .i64 s.dyn, .int .i64 s.win, .int .i64 s.move, .int .i64 s.lim, .int .i64 s.pause, .int .i64 s.ext, .int .i64 s.mx, .int .i64 s.coll, .int .i64 s.wid, .int .i64 s.self, .int .i64 s.slots, .int .i64 s.lev, .int .i64 s.short]) (by repeat (first | (with_reducible exact At.new _ _ _) | ((with_reducible refine At.new' _ _ _ _ ?_); simp; done) | (with_reducible assumption) | (with_reducible refine At.drew ?_) | (with_reducible refine At.alloc ?_ _) | (with_reducible apply At.upd) | (with_reducible apply At.setRow) | (with_reducible refine At.rowFar ?_ (by first | (simp; done) | (simp; omega) | omega) _) | ((with_reducible refine At.far ?_ (by first | (simp; done) | (simp; omega) | omega) _)) | (with_reducible rfl) | (simp; done))) hxw10
      have A_w10 := At.ext (g := w2.heap.size) (t := 27) (cs := #[.int .i64 x1, .int .i64 y1]) (by repeat (first | (with_reducible exact At.new _ _ _) | ((with_reducible refine At.new' _ _ _ _ ?_); simp; done) | (with_reducible assumption) | (with_reducible refine At.drew ?_) | (with_reducible refine At.alloc ?_ _) | (with_reducible apply At.upd) | (with_reducible apply At.setRow) | (with_reducible refine At.rowFar ?_ (by first | (simp; done) | (simp; omega) | omega) _) | ((with_reducible refine At.far ?_ (by first | (simp; done) | (simp; omega) | omega) _)) | (with_reducible rfl) | (simp; done))) hxw10
      have B_w10 := At.ext (g := w5.heap.size) (t := 27) (cs := #[.int .i64 x2, .int .i64 y2]) (by repeat (first | (with_reducible exact At.new _ _ _) | ((with_reducible refine At.new' _ _ _ _ ?_); simp; done) | (with_reducible assumption) | (with_reducible refine At.drew ?_) | (with_reducible refine At.alloc ?_ _) | (with_reducible apply At.upd) | (with_reducible apply At.setRow) | (with_reducible refine At.rowFar ?_ (by first | (simp; done) | (simp; omega) | omega) _) | ((with_reducible refine At.far ?_ (by first | (simp; done) | (simp; omega) | omega) _)) | (with_reducible rfl) | (simp; done))) hxw10
      have C_w10 := At.ext (g := w6.heap.size) (t := 27) (cs := #[.int .i64 x3, .int .i64 y3]) (by repeat (first | (with_reducible exact At.new _ _ _) | ((with_reducible refine At.new' _ _ _ _ ?_); simp; done) | (with_reducible assumption) | (with_reducible refine At.drew ?_) | (with_reducible refine At.alloc ?_ _) | (with_reducible apply At.upd) | (with_reducible apply At.setRow) | (with_reducible refine At.rowFar ?_ (by first | (simp; done) | (simp; omega) | omega) _) | ((with_reducible refine At.far ?_ (by first | (simp; done) | (simp; omega) | omega) _)) | (with_reducible rfl) | (simp; done))) hxw10
      clear S_w9 s_S_w9 e_S_w9 A_w9 s_A_w9 c_A_w9_0 f_A_w9_0 c_A_w9_1 f_A_w9_1 B_w9 s_B_w9 c_B_w9_0 f_B_w9_0 c_B_w9_1 f_B_w9_1 C_w9 s_C_w9 c_C_w9_0 f_C_w9_0 c_C_w9_1 f_C_w9_1 hxw10 xw9
      have s_S_w10 := S_w10.lt
      have e_S_w10 := cellsAt_at S_w10
      have s_A_w10 := A_w10.lt
      have c_A_w10_0 := A_w10.cell 0
      have f_A_w10_0 := A_w10.frozen 0
      have c_A_w10_1 := A_w10.cell 1
      have f_A_w10_1 := A_w10.frozen 1
      simp only [List.getElem?_toArray, List.getElem?_cons_zero, List.getElem?_cons_succ] at c_A_w10_0 c_A_w10_1
      have s_B_w10 := B_w10.lt
      have c_B_w10_0 := B_w10.cell 0
      have f_B_w10_0 := B_w10.frozen 0
      have c_B_w10_1 := B_w10.cell 1
      have f_B_w10_1 := B_w10.frozen 1
      simp only [List.getElem?_toArray, List.getElem?_cons_zero, List.getElem?_cons_succ] at c_B_w10_0 c_B_w10_1
      have s_C_w10 := C_w10.lt
      have c_C_w10_0 := C_w10.cell 0
      have f_C_w10_0 := C_w10.frozen 0
      have c_C_w10_1 := C_w10.cell 1
      have f_C_w10_1 := C_w10.frozen 1
      simp only [List.getElem?_toArray, List.getElem?_cons_zero, List.getElem?_cons_succ] at c_C_w10_0 c_C_w10_1
      go_wp2_with fail
      refine (HD7.out _).mono ?_
      rintro e w11 ⟨rfl, hxw11⟩
      have xw11 : Ext w w11 := Ext.trans (by repeat (first | exact Ext.refl _ | assumption | refine Ext.alloc ?_ _ | refine Ext.drew ?_ | refine Ext.drewN ?_ _ | refine Ext.setCell ?_ (by simp; try omega) _ | refine Ext.setRow ?_ (by simp; try omega) _)) hxw11
      have lw11 := xw11.size
      have S_w11 := At.ext (g := w.heap.size) (t := 23) (cs := #[.int .i64 s.grid, .int .i64 s.ref, .int .i64 s.stat, .int .i64 s.dyn, .int .i64 s.win, .int .i64 s.move, .int .i64 s.lim, .int .i64 s.pause, .int .i64 s.ext, .int .i64 s.mx, .int .i64 s.coll, .int .i64 s.wid, .int .i64 s.self, .int .i64 s.slots, .int .i64 s.lev, .int .i64 s.short]) (by repeat (first | (with_reducible exact At.new _ _ _) | ((with_reducible refine At.new' _ _ _ _ ?_); simp; done) | (with_reducible assumption) | (with_reducible refine At.drew ?_) | (with_reducible refine At.alloc ?_ _) | (with_reducible apply At.upd) | (with_reducible apply At.setRow) | (with_reducible refine At.rowFar ?_ (by first | (simp; done) | (simp; omega) | omega) _) | ((with_reducible refine At.far ?_ (by first | (simp; done) | (simp; omega) | omega) _)) | (with_reducible rfl) | (simp; done))) hxw11
      have A_w11 := At.ext (g := w2.heap.size) (t := 27) (cs := #[.int .i64 x1, .int .i64 y1]) (by repeat (first | (with_reducible exact At.new _ _ _) | ((with_reducible refine At.new' _ _ _ _ ?_); simp; done) | (with_reducible assumption) | (with_reducible refine At.drew ?_) | (with_reducible refine At.alloc ?_ _) | (with_reducible apply At.upd) | (with_reducible apply At.setRow) | (with_reducible refine At.rowFar ?_ (by first | (simp; done) | (simp; omega) | omega) _) | ((with_reducible refine At.far ?_ (by first | (simp; done) | (simp; omega) | omega) _)) | (with_reducible rfl) | (simp; done))) hxw11
      have B_w11 := At.ext (g := w5.heap.size) (t := 27) (cs := #[.int .i64 x2, .int .i64 y2]) (by repeat (first | (with_reducible exact At.new _ _ _) | ((with_reducible refine At.new' _ _ _ _ ?_); simp; done) | (with_reducible assumption) | (with_reducible refine At.drew ?_) | (with_reducible refine At.alloc ?_ _) | (with_reducible apply At.upd) | (with_reducible apply At.setRow) | (with_reducible refine At.rowFar ?_ (by first | (simp; done) | (simp; omega) | omega) _) | ((with_reducible refine At.far ?_ (by first | (simp; done) | (simp; omega) | omega) _)) | (with_reducible rfl) | (simp; done))) hxw11
      have C_w11 := At.ext (g := w6.heap.size) (t := 27) (cs := #[.int .i64 x3, .int .i64 y3]) (by repeat (first | (with_reducible exact At.new _ _ _) | ((with_reducible refine At.new' _ _ _ _ ?_); simp; done) | (with_reducible assumption) | (with_reducible refine At.drew ?_) | (with_reducible refine At.alloc ?_ _) | (with_reducible apply At.upd) | (with_reducible apply At.setRow) | (with_reducible refine At.rowFar ?_ (by first | (simp; done) | (simp; omega) | omega) _) | ((with_reducible refine At.far ?_ (by first | (simp; done) | (simp; omega) | omega) _)) | (with_reducible rfl) | (simp; done))) hxw11
      clear S_w10 s_S_w10 e_S_w10 A_w10 s_A_w10 c_A_w10_0 f_A_w10_0 c_A_w10_1 f_A_w10_1 B_w10 s_B_w10 c_B_w10_0 f_B_w10_0 c_B_w10_1 f_B_w10_1 C_w10 s_C_w10 c_C_w10_0 f_C_w10_0 c_C_w10_1 f_C_w10_1 hxw11 xw10
      have s_S_w11 := S_w11.lt
      have e_S_w11 := cellsAt_at S_w11
      have s_A_w11 := A_w11.lt
      have c_A_w11_0 := A_w11.cell 0
      have f_A_w11_0 := A_w11.frozen 0
      have c_A_w11_1 := A_w11.cell 1
      have f_A_w11_1 := A_w11.frozen 1
      simp only [List.getElem?_toArray, List.getElem?_cons_zero, List.getElem?_cons_succ] at c_A_w11_0 c_A_w11_1
      have s_B_w11 := B_w11.lt
      have c_B_w11_0 := B_w11.cell 0
      have f_B_w11_0 := B_w11.frozen 0
      have c_B_w11_1 := B_w11.cell 1
      have f_B_w11_1 := B_w11.frozen 1
      simp only [List.getElem?_toArray, List.getElem?_cons_zero, List.getElem?_cons_succ] at c_B_w11_0 c_B_w11_1
      have s_C_w11 := C_w11.lt
      have c_C_w11_0 := C_w11.cell 0
      have f_C_w11_0 := C_w11.frozen 0
      have c_C_w11_1 := C_w11.cell 1
      have f_C_w11_1 := C_w11.frozen 1
      simp only [List.getElem?_toArray, List.getElem?_cons_zero, List.getElem?_cons_succ] at c_C_w11_0 c_C_w11_1
      go_wp2_with fail
      refine (alive_c _).mono ?_
      rintro e w12 ⟨rfl, hxw12⟩
      have xw12 : Ext w w12 := Ext.trans (by repeat (first | exact Ext.refl _ | assumption | refine Ext.alloc ?_ _ | refine Ext.drew ?_ | refine Ext.drewN ?_ _ | refine Ext.setCell ?_ (by simp; try omega) _ | refine Ext.setRow ?_ (by simp; try omega) _)) hxw12
      have lw12 := xw12.size
      go_wp2_with fail
      refine fin_ret rfl (fun K hK => ?_)
      simp [results, Try.results5, go_sem, rsat]
      try go_simp
      refine hK _ ?_
      clear hK K
      exact ⟨rfl, (by repeat (first | exact Ext.refl _ | assumption | refine Ext.alloc ?_ _ | refine Ext.drew ?_ | refine Ext.drewN ?_ _ | refine Ext.setCell ?_ (by simp; try omega) _ | refine Ext.setRow ?_ (by simp; try omega) _))⟩
  · obtain ⟨i1, hi⟩ := holds_self s ho f hf1 hf2 hf3
    obtain ⟨x1, y1, h1, i1⟩ : ∃ x1 y1, bandT f s.stat s.grid = .tuple #[.agg #[.int .i64 x1, .int .i64 y1], .bool true] ∧ inB x1 y1 f = true := ⟨_, _, i1, hi⟩
    rw [h1] at C1
    have D1 := in_c x1 y1 f
    rw [i1] at D1
    have D2 := in_c x1 y1 r
    cases hB : inB x1 y1 r
    all_goals
      rw [hB] at D2
      unfold symV symC at C0 C1 ⊢
      have HC0 := Lib.hid C0
      have HC1 := Lib.hid C1
      have HD1 := Lib.hid D1
      have HD2 := Lib.hid D2
      clear C0 C1 D1 D2 hB i1 h1 hf3 hr3 h0 ho hi
      go_enter Try.func5, Try.ntmps5
      go_wp2_with fail
      refine (HC0.out _).mono ?_
      rintro e w1 ⟨rfl, hxw1⟩
      have xw1 : Ext w w1 := Ext.trans (by repeat (first | exact Ext.refl _ | assumption | refine Ext.alloc ?_ _ | refine Ext.drew ?_ | refine Ext.drewN ?_ _ | refine Ext.setCell ?_ (by simp; try omega) _ | refine Ext.setRow ?_ (by simp; try omega) _)) hxw1
      have lw1 := xw1.size
      have S_w1 := At.ext (g := w.heap.size) (t := 23) (cs := #[.int .i64 s.grid, .int .i64 s.ref, .int .i64 s.stat, .int .i64 s.dyn, .int .i64 s.win, .int .i64 s.move, .int .i64 s.lim, .int .i64 s.pause, .int .i64 s.ext, .int .i64 s.mx, .int .i64 s.coll, .int .i64 s.wid, .int .i64 s.self, .int .i64 s.slots, .int .i64 s.lev, .int .i64 s.short]) (by repeat (first | (with_reducible exact At.new _ _ _) | ((with_reducible refine At.new' _ _ _ _ ?_); simp; done) | (with_reducible assumption) | (with_reducible refine At.drew ?_) | (with_reducible refine At.alloc ?_ _) | (with_reducible apply At.upd) | (with_reducible apply At.setRow) | (with_reducible refine At.rowFar ?_ (by first | (simp; done) | (simp; omega) | omega) _) | ((with_reducible refine At.far ?_ (by first | (simp; done) | (simp; omega) | omega) _)) | (with_reducible rfl) | (simp; done))) hxw1
      clear hxw1
      have s_S_w1 := S_w1.lt
      have e_S_w1 := cellsAt_at S_w1
      go_wp2_with fail
      refine (HC1.out _).mono ?_
      rintro e w2 ⟨rfl, hxw2⟩
      have xw2 : Ext w w2 := Ext.trans (by repeat (first | exact Ext.refl _ | assumption | refine Ext.alloc ?_ _ | refine Ext.drew ?_ | refine Ext.drewN ?_ _ | refine Ext.setCell ?_ (by simp; try omega) _ | refine Ext.setRow ?_ (by simp; try omega) _)) hxw2
      have lw2 := xw2.size
      have S_w2 := At.ext (g := w.heap.size) (t := 23) (cs := #[.int .i64 s.grid, .int .i64 s.ref, .int .i64 s.stat, .int .i64 s.dyn, .int .i64 s.win, .int .i64 s.move, .int .i64 s.lim, .int .i64 s.pause, .int .i64 s.ext, .int .i64 s.mx, .int .i64 s.coll, .int .i64 s.wid, .int .i64 s.self, .int .i64 s.slots, .int .i64 s.lev, .int .i64 s.short]) (by repeat (first | (with_reducible exact At.new _ _ _) | ((with_reducible refine At.new' _ _ _ _ ?_); simp; done) | (with_reducible assumption) | (with_reducible refine At.drew ?_) | (with_reducible refine At.alloc ?_ _) | (with_reducible apply At.upd) | (with_reducible apply At.setRow) | (with_reducible refine At.rowFar ?_ (by first | (simp; done) | (simp; omega) | omega) _) | ((with_reducible refine At.far ?_ (by first | (simp; done) | (simp; omega) | omega) _)) | (with_reducible rfl) | (simp; done))) hxw2
      clear S_w1 s_S_w1 e_S_w1 hxw2 xw1
      have s_S_w2 := S_w2.lt
      have e_S_w2 := cellsAt_at S_w2
      go_wp2_with fail
      refine (HD1.out _).mono ?_
      rintro e w3 ⟨rfl, hxw3⟩
      have xw3 : Ext w w3 := Ext.trans (by repeat (first | exact Ext.refl _ | assumption | refine Ext.alloc ?_ _ | refine Ext.drew ?_ | refine Ext.drewN ?_ _ | refine Ext.setCell ?_ (by simp; try omega) _ | refine Ext.setRow ?_ (by simp; try omega) _)) hxw3
      have lw3 := xw3.size
      have S_w3 := At.ext (g := w.heap.size) (t := 23) (cs := #[.int .i64 s.grid, .int .i64 s.ref, .int .i64 s.stat, .int .i64 s.dyn, .int .i64 s.win, .int .i64 s.move, .int .i64 s.lim, .int .i64 s.pause, .int .i64 s.ext, .int .i64 s.mx, .int .i64 s.coll, .int .i64 s.wid, .int .i64 s.self, .int .i64 s.slots, .int .i64 s.lev, .int .i64 s.short]) (by repeat (first | (with_reducible exact At.new _ _ _) | ((with_reducible refine At.new' _ _ _ _ ?_); simp; done) | (with_reducible assumption) | (with_reducible refine At.drew ?_) | (with_reducible refine At.alloc ?_ _) | (with_reducible apply At.upd) | (with_reducible apply At.setRow) | (with_reducible refine At.rowFar ?_ (by first | (simp; done) | (simp; omega) | omega) _) | ((with_reducible refine At.far ?_ (by first | (simp; done) | (simp; omega) | omega) _)) | (with_reducible rfl) | (simp; done))) hxw3
      have A_w3 := At.ext (g := w2.heap.size) (t := 27) (cs := #[.int .i64 x1, .int .i64 y1]) (by repeat (first | (with_reducible exact At.new _ _ _) | ((with_reducible refine At.new' _ _ _ _ ?_); simp; done) | (with_reducible assumption) | (with_reducible refine At.drew ?_) | (with_reducible refine At.alloc ?_ _) | (with_reducible apply At.upd) | (with_reducible apply At.setRow) | (with_reducible refine At.rowFar ?_ (by first | (simp; done) | (simp; omega) | omega) _) | ((with_reducible refine At.far ?_ (by first | (simp; done) | (simp; omega) | omega) _)) | (with_reducible rfl) | (simp; done))) hxw3
      clear S_w2 s_S_w2 e_S_w2 hxw3 xw2
      have s_S_w3 := S_w3.lt
      have e_S_w3 := cellsAt_at S_w3
      have s_A_w3 := A_w3.lt
      have c_A_w3_0 := A_w3.cell 0
      have f_A_w3_0 := A_w3.frozen 0
      have c_A_w3_1 := A_w3.cell 1
      have f_A_w3_1 := A_w3.frozen 1
      simp only [List.getElem?_toArray, List.getElem?_cons_zero, List.getElem?_cons_succ] at c_A_w3_0 c_A_w3_1
      go_wp2_with fail
      refine (HD2.out _).mono ?_
      rintro e w4 ⟨rfl, hxw4⟩
      have xw4 : Ext w w4 := Ext.trans (by repeat (first | exact Ext.refl _ | assumption | refine Ext.alloc ?_ _ | refine Ext.drew ?_ | refine Ext.drewN ?_ _ | refine Ext.setCell ?_ (by simp; try omega) _ | refine Ext.setRow ?_ (by simp; try omega) _)) hxw4
      have lw4 := xw4.size
      go_wp2_with fail
      refine (alive_c _).mono ?_
      rintro e w5 ⟨rfl, hxw5⟩
      have xw5 : Ext w w5 := Ext.trans (by repeat (first | exact Ext.refl _ | assumption | refine Ext.alloc ?_ _ | refine Ext.drew ?_ | refine Ext.drewN ?_ _ | refine Ext.setCell ?_ (by simp; try omega) _ | refine Ext.setRow ?_ (by simp; try omega) _)) hxw5
      have lw5 := xw5.size
      go_wp2_with fail
      refine fin_ret rfl (fun K hK => ?_)
      simp [results, Try.results5, go_sem, rsat]
      try go_simp
      refine hK _ ?_
      clear hK K
      exact ⟨rfl, (by repeat (first | exact Ext.refl _ | assumption | refine Ext.alloc ?_ _ | refine Ext.drew ?_ | refine Ext.drewN ?_ _ | refine Ext.setCell ?_ (by simp; try omega) _ | refine Ext.setRow ?_ (by simp; try omega) _))⟩
set_option maxRecDepth 100000 in
set_option maxHeartbeats 1600000 in
theorem bandholds_c (s : Sym) (hs : s.I) (f r : Int) (hf : I64 f) (hr : I64 r) (w : World) :
    Calls Try.prog 5 #[symV s, .int .i64 f, .int .i64 r] w fun e w' => e = .returned (.bool true) ∧ Ext w w' := by
  have C0 := symbol_c s hs
  by_cases h0 : symI s = 0
  · have ho := sym_ok h0
    obtain ⟨g1, g2⟩ := ho.g
    by_cases h1 : f < 1
    ·
      rw [h0] at C0
      unfold symV symC at C0 ⊢
      have HC0 := Lib.hid C0
      clear C0 h0 ho
      go_enter Try.func5, Try.ntmps5
      go_wp2_with fail
      refine (HC0.out _).mono ?_
      rintro e w1 ⟨rfl, hxw1⟩
      have xw1 : Ext w w1 := Ext.trans (by repeat (first | exact Ext.refl _ | assumption | refine Ext.alloc ?_ _ | refine Ext.drew ?_ | refine Ext.drewN ?_ _ | refine Ext.setCell ?_ (by simp; try omega) _ | refine Ext.setRow ?_ (by simp; try omega) _)) hxw1
      have lw1 := xw1.size
      have S_w1 := At.ext (g := w.heap.size) (t := 23) (cs := #[.int .i64 s.grid, .int .i64 s.ref, .int .i64 s.stat, .int .i64 s.dyn, .int .i64 s.win, .int .i64 s.move, .int .i64 s.lim, .int .i64 s.pause, .int .i64 s.ext, .int .i64 s.mx, .int .i64 s.coll, .int .i64 s.wid, .int .i64 s.self, .int .i64 s.slots, .int .i64 s.lev, .int .i64 s.short]) (by repeat (first | (with_reducible exact At.new _ _ _) | ((with_reducible refine At.new' _ _ _ _ ?_); simp; done) | (with_reducible assumption) | (with_reducible refine At.drew ?_) | (with_reducible refine At.alloc ?_ _) | (with_reducible apply At.upd) | (with_reducible apply At.setRow) | (with_reducible refine At.rowFar ?_ (by first | (simp; done) | (simp; omega) | omega) _) | ((with_reducible refine At.far ?_ (by first | (simp; done) | (simp; omega) | omega) _)) | (with_reducible rfl) | (simp; done))) hxw1
      clear hxw1
      have s_S_w1 := S_w1.lt
      have e_S_w1 := cellsAt_at S_w1
      go_wp2_with fail
      refine (alive_c _).mono ?_
      rintro e w2 ⟨rfl, hxw2⟩
      have xw2 : Ext w w2 := Ext.trans (by repeat (first | exact Ext.refl _ | assumption | refine Ext.alloc ?_ _ | refine Ext.drew ?_ | refine Ext.drewN ?_ _ | refine Ext.setCell ?_ (by simp; try omega) _ | refine Ext.setRow ?_ (by simp; try omega) _)) hxw2
      have lw2 := xw2.size
      go_wp2_with fail
      refine fin_ret rfl (fun K hK => ?_)
      simp [results, Try.results5, go_sem, rsat]
      try go_simp
      refine hK _ ?_
      clear hK K
      exact ⟨rfl, (by repeat (first | exact Ext.refl _ | assumption | refine Ext.alloc ?_ _ | refine Ext.drew ?_ | refine Ext.drewN ?_ _ | refine Ext.setCell ?_ (by simp; try omega) _ | refine Ext.setRow ?_ (by simp; try omega) _))⟩
    by_cases h2 : 1099511627776 < f
    ·
      rw [h0] at C0
      unfold symV symC at C0 ⊢
      have HC0 := Lib.hid C0
      clear C0 h0 ho
      go_enter Try.func5, Try.ntmps5
      go_wp2_with fail
      refine (HC0.out _).mono ?_
      rintro e w1 ⟨rfl, hxw1⟩
      have xw1 : Ext w w1 := Ext.trans (by repeat (first | exact Ext.refl _ | assumption | refine Ext.alloc ?_ _ | refine Ext.drew ?_ | refine Ext.drewN ?_ _ | refine Ext.setCell ?_ (by simp; try omega) _ | refine Ext.setRow ?_ (by simp; try omega) _)) hxw1
      have lw1 := xw1.size
      have S_w1 := At.ext (g := w.heap.size) (t := 23) (cs := #[.int .i64 s.grid, .int .i64 s.ref, .int .i64 s.stat, .int .i64 s.dyn, .int .i64 s.win, .int .i64 s.move, .int .i64 s.lim, .int .i64 s.pause, .int .i64 s.ext, .int .i64 s.mx, .int .i64 s.coll, .int .i64 s.wid, .int .i64 s.self, .int .i64 s.slots, .int .i64 s.lev, .int .i64 s.short]) (by repeat (first | (with_reducible exact At.new _ _ _) | ((with_reducible refine At.new' _ _ _ _ ?_); simp; done) | (with_reducible assumption) | (with_reducible refine At.drew ?_) | (with_reducible refine At.alloc ?_ _) | (with_reducible apply At.upd) | (with_reducible apply At.setRow) | (with_reducible refine At.rowFar ?_ (by first | (simp; done) | (simp; omega) | omega) _) | ((with_reducible refine At.far ?_ (by first | (simp; done) | (simp; omega) | omega) _)) | (with_reducible rfl) | (simp; done))) hxw1
      clear hxw1
      have s_S_w1 := S_w1.lt
      have e_S_w1 := cellsAt_at S_w1
      go_wp2_with fail
      refine (alive_c _).mono ?_
      rintro e w2 ⟨rfl, hxw2⟩
      have xw2 : Ext w w2 := Ext.trans (by repeat (first | exact Ext.refl _ | assumption | refine Ext.alloc ?_ _ | refine Ext.drew ?_ | refine Ext.drewN ?_ _ | refine Ext.setCell ?_ (by simp; try omega) _ | refine Ext.setRow ?_ (by simp; try omega) _)) hxw2
      have lw2 := xw2.size
      go_wp2_with fail
      refine fin_ret rfl (fun K hK => ?_)
      simp [results, Try.results5, go_sem, rsat]
      try go_simp
      refine hK _ ?_
      clear hK K
      exact ⟨rfl, (by repeat (first | exact Ext.refl _ | assumption | refine Ext.alloc ?_ _ | refine Ext.drew ?_ | refine Ext.drewN ?_ _ | refine Ext.setCell ?_ (by simp; try omega) _ | refine Ext.setRow ?_ (by simp; try omega) _))⟩
    by_cases h3 : f % s.grid = 0
    · obtain ⟨e1, e2⟩ := beq0 h3
      by_cases h4 : r < 1
      · clear h3
        rw [h0] at C0
        unfold symV symC at C0 ⊢
        have HC0 := Lib.hid C0
        clear C0 h0 ho
        go_enter Try.func5, Try.ntmps5
        go_wp2_with fail
        refine (HC0.out _).mono ?_
        rintro e w1 ⟨rfl, hxw1⟩
        have xw1 : Ext w w1 := Ext.trans (by repeat (first | exact Ext.refl _ | assumption | refine Ext.alloc ?_ _ | refine Ext.drew ?_ | refine Ext.drewN ?_ _ | refine Ext.setCell ?_ (by simp; try omega) _ | refine Ext.setRow ?_ (by simp; try omega) _)) hxw1
        have lw1 := xw1.size
        have S_w1 := At.ext (g := w.heap.size) (t := 23) (cs := #[.int .i64 s.grid, .int .i64 s.ref, .int .i64 s.stat, .int .i64 s.dyn, .int .i64 s.win, .int .i64 s.move, .int .i64 s.lim, .int .i64 s.pause, .int .i64 s.ext, .int .i64 s.mx, .int .i64 s.coll, .int .i64 s.wid, .int .i64 s.self, .int .i64 s.slots, .int .i64 s.lev, .int .i64 s.short]) (by repeat (first | (with_reducible exact At.new _ _ _) | ((with_reducible refine At.new' _ _ _ _ ?_); simp; done) | (with_reducible assumption) | (with_reducible refine At.drew ?_) | (with_reducible refine At.alloc ?_ _) | (with_reducible apply At.upd) | (with_reducible apply At.setRow) | (with_reducible refine At.rowFar ?_ (by first | (simp; done) | (simp; omega) | omega) _) | ((with_reducible refine At.far ?_ (by first | (simp; done) | (simp; omega) | omega) _)) | (with_reducible rfl) | (simp; done))) hxw1
        clear hxw1
        have s_S_w1 := S_w1.lt
        have e_S_w1 := cellsAt_at S_w1
        go_wp2_with fail
        refine (alive_c _).mono ?_
        rintro e w2 ⟨rfl, hxw2⟩
        have xw2 : Ext w w2 := Ext.trans (by repeat (first | exact Ext.refl _ | assumption | refine Ext.alloc ?_ _ | refine Ext.drew ?_ | refine Ext.drewN ?_ _ | refine Ext.setCell ?_ (by simp; try omega) _ | refine Ext.setRow ?_ (by simp; try omega) _)) hxw2
        have lw2 := xw2.size
        go_wp2_with fail
        refine fin_ret rfl (fun K hK => ?_)
        simp [results, Try.results5, go_sem, rsat]
        try go_simp
        refine hK _ ?_
        clear hK K
        exact ⟨rfl, (by repeat (first | exact Ext.refl _ | assumption | refine Ext.alloc ?_ _ | refine Ext.drew ?_ | refine Ext.drewN ?_ _ | refine Ext.setCell ?_ (by simp; try omega) _ | refine Ext.setRow ?_ (by simp; try omega) _))⟩
      by_cases h5 : r % s.grid = 0
      · exact bandholds_in s hs h0 f r (by omega) (by omega) h3 (by omega) h5 hr w
      · obtain ⟨e3, e4⟩ := beqs h5
        clear h3 h5
        rw [h0] at C0
        unfold symV symC at C0 ⊢
        have HC0 := Lib.hid C0
        clear C0 h0 ho
        go_enter Try.func5, Try.ntmps5
        go_wp2_with fail
        refine (HC0.out _).mono ?_
        rintro e w1 ⟨rfl, hxw1⟩
        have xw1 : Ext w w1 := Ext.trans (by repeat (first | exact Ext.refl _ | assumption | refine Ext.alloc ?_ _ | refine Ext.drew ?_ | refine Ext.drewN ?_ _ | refine Ext.setCell ?_ (by simp; try omega) _ | refine Ext.setRow ?_ (by simp; try omega) _)) hxw1
        have lw1 := xw1.size
        have S_w1 := At.ext (g := w.heap.size) (t := 23) (cs := #[.int .i64 s.grid, .int .i64 s.ref, .int .i64 s.stat, .int .i64 s.dyn, .int .i64 s.win, .int .i64 s.move, .int .i64 s.lim, .int .i64 s.pause, .int .i64 s.ext, .int .i64 s.mx, .int .i64 s.coll, .int .i64 s.wid, .int .i64 s.self, .int .i64 s.slots, .int .i64 s.lev, .int .i64 s.short]) (by repeat (first | (with_reducible exact At.new _ _ _) | ((with_reducible refine At.new' _ _ _ _ ?_); simp; done) | (with_reducible assumption) | (with_reducible refine At.drew ?_) | (with_reducible refine At.alloc ?_ _) | (with_reducible apply At.upd) | (with_reducible apply At.setRow) | (with_reducible refine At.rowFar ?_ (by first | (simp; done) | (simp; omega) | omega) _) | ((with_reducible refine At.far ?_ (by first | (simp; done) | (simp; omega) | omega) _)) | (with_reducible rfl) | (simp; done))) hxw1
        clear hxw1
        have s_S_w1 := S_w1.lt
        have e_S_w1 := cellsAt_at S_w1
        go_wp2_with fail
        refine (alive_c _).mono ?_
        rintro e w2 ⟨rfl, hxw2⟩
        have xw2 : Ext w w2 := Ext.trans (by repeat (first | exact Ext.refl _ | assumption | refine Ext.alloc ?_ _ | refine Ext.drew ?_ | refine Ext.drewN ?_ _ | refine Ext.setCell ?_ (by simp; try omega) _ | refine Ext.setRow ?_ (by simp; try omega) _)) hxw2
        have lw2 := xw2.size
        go_wp2_with fail
        refine fin_ret rfl (fun K hK => ?_)
        simp [results, Try.results5, go_sem, rsat]
        try go_simp
        refine hK _ ?_
        clear hK K
        exact ⟨rfl, (by repeat (first | exact Ext.refl _ | assumption | refine Ext.alloc ?_ _ | refine Ext.drew ?_ | refine Ext.drewN ?_ _ | refine Ext.setCell ?_ (by simp; try omega) _ | refine Ext.setRow ?_ (by simp; try omega) _))⟩
    · obtain ⟨e1, e2⟩ := beqs h3
      clear h3
      rw [h0] at C0
      unfold symV symC at C0 ⊢
      have HC0 := Lib.hid C0
      clear C0 h0 ho
      go_enter Try.func5, Try.ntmps5
      go_wp2_with fail
      refine (HC0.out _).mono ?_
      rintro e w1 ⟨rfl, hxw1⟩
      have xw1 : Ext w w1 := Ext.trans (by repeat (first | exact Ext.refl _ | assumption | refine Ext.alloc ?_ _ | refine Ext.drew ?_ | refine Ext.drewN ?_ _ | refine Ext.setCell ?_ (by simp; try omega) _ | refine Ext.setRow ?_ (by simp; try omega) _)) hxw1
      have lw1 := xw1.size
      have S_w1 := At.ext (g := w.heap.size) (t := 23) (cs := #[.int .i64 s.grid, .int .i64 s.ref, .int .i64 s.stat, .int .i64 s.dyn, .int .i64 s.win, .int .i64 s.move, .int .i64 s.lim, .int .i64 s.pause, .int .i64 s.ext, .int .i64 s.mx, .int .i64 s.coll, .int .i64 s.wid, .int .i64 s.self, .int .i64 s.slots, .int .i64 s.lev, .int .i64 s.short]) (by repeat (first | (with_reducible exact At.new _ _ _) | ((with_reducible refine At.new' _ _ _ _ ?_); simp; done) | (with_reducible assumption) | (with_reducible refine At.drew ?_) | (with_reducible refine At.alloc ?_ _) | (with_reducible apply At.upd) | (with_reducible apply At.setRow) | (with_reducible refine At.rowFar ?_ (by first | (simp; done) | (simp; omega) | omega) _) | ((with_reducible refine At.far ?_ (by first | (simp; done) | (simp; omega) | omega) _)) | (with_reducible rfl) | (simp; done))) hxw1
      clear hxw1
      have s_S_w1 := S_w1.lt
      have e_S_w1 := cellsAt_at S_w1
      go_wp2_with fail
      refine (alive_c _).mono ?_
      rintro e w2 ⟨rfl, hxw2⟩
      have xw2 : Ext w w2 := Ext.trans (by repeat (first | exact Ext.refl _ | assumption | refine Ext.alloc ?_ _ | refine Ext.drew ?_ | refine Ext.drewN ?_ _ | refine Ext.setCell ?_ (by simp; try omega) _ | refine Ext.setRow ?_ (by simp; try omega) _)) hxw2
      have lw2 := xw2.size
      go_wp2_with fail
      refine fin_ret rfl (fun K hK => ?_)
      simp [results, Try.results5, go_sem, rsat]
      try go_simp
      refine hK _ ?_
      clear hK K
      exact ⟨rfl, (by repeat (first | exact Ext.refl _ | assumption | refine Ext.alloc ?_ _ | refine Ext.drew ?_ | refine Ext.drewN ?_ _ | refine Ext.setCell ?_ (by simp; try omega) _ | refine Ext.setRow ?_ (by simp; try omega) _))⟩
  · obtain ⟨e1, e2⟩ := beqs h0
    generalize symI s = n at C0 e1 e2
    clear h0
    unfold symV symC at C0 ⊢
    have HC0 := Lib.hid C0
    clear C0
    go_enter Try.func5, Try.ntmps5
    go_wp2_with fail
    refine (HC0.out _).mono ?_
    rintro e w1 ⟨rfl, hxw1⟩
    have xw1 : Ext w w1 := Ext.trans (by repeat (first | exact Ext.refl _ | assumption | refine Ext.alloc ?_ _ | refine Ext.drew ?_ | refine Ext.drewN ?_ _ | refine Ext.setCell ?_ (by simp; try omega) _ | refine Ext.setRow ?_ (by simp; try omega) _)) hxw1
    have lw1 := xw1.size
    go_wp2_with fail
    refine (alive_c _).mono ?_
    rintro e w2 ⟨rfl, hxw2⟩
    have xw2 : Ext w w2 := Ext.trans (by repeat (first | exact Ext.refl _ | assumption | refine Ext.alloc ?_ _ | refine Ext.drew ?_ | refine Ext.drewN ?_ _ | refine Ext.setCell ?_ (by simp; try omega) _ | refine Ext.setRow ?_ (by simp; try omega) _)) hxw2
    have lw2 := xw2.size
    go_wp2_with fail
    refine fin_ret rfl (fun K hK => ?_)
    simp [results, Try.results5, go_sem, rsat]
    try go_simp
    refine hK _ ?_
    clear hK K
    exact ⟨rfl, (by repeat (first | exact Ext.refl _ | assumption | refine Ext.alloc ?_ _ | refine Ext.drew ?_ | refine Ext.drewN ?_ _ | refine Ext.setCell ?_ (by simp; try omega) _ | refine Ext.setRow ?_ (by simp; try omega) _))⟩
end Go.Proofs.Ytimgdhpddklplaa
