/- The walk of law PauseEnds. No condition. -/
import Derived.Test.YtmgcnjcdbidcfaaP3
import Derived.Test.YtmgcnjcdbidcfaaFq
namespace Go.Proofs.Ytmgcnjcdbidcfaa
open Go.RowKit
attribute [local go_sem] Later.cell QUpon_value QUpon_enter MUpon_value
attribute [local go_sem ↓ high] loadSym_is storeSym_is loadCfg22_is storeCfg22_is
attribute [local go_sem] run_loadSym run_loadSym_at run_storeSym run_loadCfg22 run_loadCfg22_at run_storeCfg22 one_int one_bool one_slice one_ptr one_str setRow_new setRow_past cell_ca frozen_ca cellsAt_alloc_at cellsAt_alloc_past cellsAt_drew cellsAt_later cellsAt_setCell cellsAt_set_same cellsAt_setRow_same cellsAt_setRow_far subAt_alloc subAt_drew subAt_later subAt_setCell subAt_setRow ltn_2 ltn_3 ltn_4 ltn_5

theorem decI_three {mx ro lo hi p : Int} {b : Bool} (h : decI mx ro lo hi p b = 3) : ro < mx := by
  unfold decI at h
  split at h
  · split at h
    · cases h
    · split at h
      · cases h
      · omega
  · cases h
theorem ext_step (s : Sym) (k : Int) : s.ext * (k + 1) = s.ext * k + s.ext := by rw [Int.mul_add]; omega
theorem ext_le {s : Sym} (ho : s.Ok) {k : Int} (h0 : 0 ≤ k) (h : k ≤ s.mx) : 0 ≤ s.ext * k ∧ s.ext * k ≤ s.ext * (s.mx + 1) := by
  obtain ⟨a1, a2⟩ := ho.ex
  exact ⟨Int.mul_nonneg (by omega) h0, Int.mul_le_mul_of_nonneg_left (by omega) (by omega)⟩
def EndAt (s : Sym) (t lo hi : Int) (g : Nat) (w : World) (i : Value) (wr : World) : Prop :=
  ∃ (k : Nat) (ph un : Int), i = .int .i64 k ∧ (k : Int) ≤ s.mx ∧ Ext w wr ∧ At wr w.heap.size 23 #[.int .i64 s.grid, .int .i64 s.ref, .int .i64 s.stat, .int .i64 s.dyn, .int .i64 s.win, .int .i64 s.move, .int .i64 s.lim, .int .i64 s.pause, .int .i64 s.ext, .int .i64 s.mx, .int .i64 s.coll, .int .i64 s.wid, .int .i64 s.self, .int .i64 s.slots, .int .i64 s.lev, .int .i64 s.short] ∧ At wr (w.heap.size + 1) 42 #[.int .i64 lo, .int .i64 hi] ∧ At wr g 30 #[.int .i64 ph, .int .i64 k, .int .i64 un] ∧
    Hid (goesB ph = true) ∧ Hid (un = t + s.pause + s.ext * k)
set_option maxRecDepth 100000 in
set_option maxHeartbeats 12800000 in
theorem pauseends_in (s : Sym) (hs : s.I) (h0 : symI s = 0) (t : Int) (ht1 : 0 ≤ t) (ht2 : t ≤ 576460752303423488) (x : Sl) (lo hi : Int) (w : World) (hx : x.At .i64 w) (hl : x.xs.length ≤ 40) :
    Calls Try.prog 5 #[symV s, .int .i64 t, x.v, .agg #[.int .i64 lo, .int .i64 hi]] w fun e w' => e = .returned (.bool true) ∧ Ext w w' := by
  have ho := sym_ok h0
  obtain ⟨mx1, mx2⟩ := ho.mx
  obtain ⟨p1, p2⟩ := ho.pa
  obtain ⟨ex1, ex2⟩ := ho.ex
  have hbd := bound_bd ho
  have C0 := symbol_c s hs
  rw [h0] at C0
  have C1 := begin_c s t
  have e1 : beginT s t = .agg #[.int .i64 3, .int .i64 0, .int .i64 (t + s.pause)] := by unfold beginT; rw [wrap64_in ⟨by omega, by omega⟩]
  rw [e1] at C1
  have C2 := latest_c s hs t
  have eL : latI s t = t + (s.pause + s.ext * (s.mx + 1)) := by unfold latI boundI; rw [if_pos h0, wrap64_in ⟨by omega, by omega⟩]
  obtain ⟨L, hL⟩ : ∃ L, L = latI s t := ⟨_, rfl⟩
  rw [← hL] at C2 eL
  have HX := Lib.hid hx
  have HL := Lib.hid eL
  have HO := Lib.hid ho
  obtain ⟨A, c, xs⟩ := x
  unfold Sl.v
  simp only at hl ⊢
  unfold symV symC at C0 C1 C2 ⊢
  have HC0 := Lib.hid C0
  have HC1 := Lib.hid C1
  have HC2 := Lib.hid C2
  clear C0 C1 C2 e1 eL hL h0 ho hx
  go_enter Try.func5, Try.ntmps5
  go_wp2_with fail
  refine (HC0.out _).mono ?_
  rintro e w1 ⟨rfl, hxw1⟩
  have xw1 : Ext w w1 := Ext.trans (by repeat (first | (with_reducible exact Ext.refl _) | (with_reducible assumption) | (with_reducible refine Ext.alloc ?_ _) | (with_reducible refine Ext.drew ?_) | (with_reducible refine Ext.drewN ?_ _) | (with_reducible refine Ext.setCell ?_ (by simp; try omega) _) | (with_reducible refine Ext.setRow ?_ (by simp; try omega) _))) hxw1
  have lw1 := xw1.size
  have S_w1 := At.ext (g := w.heap.size) (t := 23) (cs := #[.int .i64 s.grid, .int .i64 s.ref, .int .i64 s.stat, .int .i64 s.dyn, .int .i64 s.win, .int .i64 s.move, .int .i64 s.lim, .int .i64 s.pause, .int .i64 s.ext, .int .i64 s.mx, .int .i64 s.coll, .int .i64 s.wid, .int .i64 s.self, .int .i64 s.slots, .int .i64 s.lev, .int .i64 s.short]) (by repeat (first | (with_reducible exact At.new _ _ _) | ((with_reducible refine At.new' _ _ _ _ ?_); simp; done) | (with_reducible assumption) | (with_reducible refine At.drew ?_) | (with_reducible refine At.alloc ?_ _) | (with_reducible apply At.upd) | (with_reducible apply At.setRow) | (with_reducible refine At.rowFar ?_ (by first | (simp; done) | (simp; omega) | omega) _) | ((with_reducible refine At.far ?_ (by first | (simp; done) | (simp; omega) | omega) _)) | (with_reducible rfl) | (simp; done))) hxw1
  have B_w1 := At.ext (g := w.heap.size + 1) (t := 42) (cs := #[.int .i64 lo, .int .i64 hi]) (by repeat (first | (with_reducible exact At.new _ _ _) | ((with_reducible refine At.new' _ _ _ _ ?_); simp; done) | (with_reducible assumption) | (with_reducible refine At.drew ?_) | (with_reducible refine At.alloc ?_ _) | (with_reducible apply At.upd) | (with_reducible apply At.setRow) | (with_reducible refine At.rowFar ?_ (by first | (simp; done) | (simp; omega) | omega) _) | ((with_reducible refine At.far ?_ (by first | (simp; done) | (simp; omega) | omega) _)) | (with_reducible rfl) | (simp; done))) hxw1
  clear hxw1
  have s_S_w1 := S_w1.lt
  have e_S_w1 := cellsAt_at S_w1
  have s_B_w1 := B_w1.lt
  have c_B_w1_0 := B_w1.cell 0
  have f_B_w1_0 := B_w1.frozen 0
  have c_B_w1_1 := B_w1.cell 1
  have f_B_w1_1 := B_w1.frozen 1
  simp only [List.getElem?_toArray, List.getElem?_cons_zero, List.getElem?_cons_succ] at c_B_w1_0 c_B_w1_1
  go_wp2_with fail
  refine (HC1.out _).mono ?_
  rintro e w2 ⟨rfl, hxw2⟩
  have xw2 : Ext w w2 := Ext.trans (by repeat (first | (with_reducible exact Ext.refl _) | (with_reducible assumption) | (with_reducible refine Ext.alloc ?_ _) | (with_reducible refine Ext.drew ?_) | (with_reducible refine Ext.drewN ?_ _) | (with_reducible refine Ext.setCell ?_ (by simp; try omega) _) | (with_reducible refine Ext.setRow ?_ (by simp; try omega) _))) hxw2
  have lw2 := xw2.size
  have S_w2 := At.ext (g := w.heap.size) (t := 23) (cs := #[.int .i64 s.grid, .int .i64 s.ref, .int .i64 s.stat, .int .i64 s.dyn, .int .i64 s.win, .int .i64 s.move, .int .i64 s.lim, .int .i64 s.pause, .int .i64 s.ext, .int .i64 s.mx, .int .i64 s.coll, .int .i64 s.wid, .int .i64 s.self, .int .i64 s.slots, .int .i64 s.lev, .int .i64 s.short]) (by repeat (first | (with_reducible exact At.new _ _ _) | ((with_reducible refine At.new' _ _ _ _ ?_); simp; done) | (with_reducible assumption) | (with_reducible refine At.drew ?_) | (with_reducible refine At.alloc ?_ _) | (with_reducible apply At.upd) | (with_reducible apply At.setRow) | (with_reducible refine At.rowFar ?_ (by first | (simp; done) | (simp; omega) | omega) _) | ((with_reducible refine At.far ?_ (by first | (simp; done) | (simp; omega) | omega) _)) | (with_reducible rfl) | (simp; done))) hxw2
  have B_w2 := At.ext (g := w.heap.size + 1) (t := 42) (cs := #[.int .i64 lo, .int .i64 hi]) (by repeat (first | (with_reducible exact At.new _ _ _) | ((with_reducible refine At.new' _ _ _ _ ?_); simp; done) | (with_reducible assumption) | (with_reducible refine At.drew ?_) | (with_reducible refine At.alloc ?_ _) | (with_reducible apply At.upd) | (with_reducible apply At.setRow) | (with_reducible refine At.rowFar ?_ (by first | (simp; done) | (simp; omega) | omega) _) | ((with_reducible refine At.far ?_ (by first | (simp; done) | (simp; omega) | omega) _)) | (with_reducible rfl) | (simp; done))) hxw2
  clear S_w1 s_S_w1 e_S_w1 B_w1 s_B_w1 c_B_w1_0 f_B_w1_0 c_B_w1_1 f_B_w1_1 hxw2 xw1
  have s_S_w2 := S_w2.lt
  have e_S_w2 := cellsAt_at S_w2
  have s_B_w2 := B_w2.lt
  have c_B_w2_0 := B_w2.cell 0
  have f_B_w2_0 := B_w2.frozen 0
  have c_B_w2_1 := B_w2.cell 1
  have f_B_w2_1 := B_w2.frozen 1
  simp only [List.getElem?_toArray, List.getElem?_cons_zero, List.getElem?_cons_succ] at c_B_w2_0 c_B_w2_1
  have nSB : w.heap.size + 1 < w2.heap.size := s_B_w2
  clear hbd
  go_wp2_with fail
  go_loopw [10] (fun i wr => EndAt s t lo hi w2.heap.size w i wr) (fun i _ => 40 - (intOf i).toNat)
  case atStart => exact ⟨0, 3, t + s.pause, rfl, by omega, (by repeat (first | (with_reducible exact Ext.refl _) | (with_reducible assumption) | (with_reducible refine Ext.alloc ?_ _) | (with_reducible refine Ext.drew ?_) | (with_reducible refine Ext.drewN ?_ _) | (with_reducible refine Ext.setCell ?_ (by simp; try omega) _) | (with_reducible refine Ext.setRow ?_ (by simp; try omega) _))), (by repeat (first | (with_reducible exact At.new _ _ _) | ((with_reducible refine At.new' _ _ _ _ ?_); simp; done) | (with_reducible assumption) | (with_reducible refine At.drew ?_) | (with_reducible refine At.alloc ?_ _) | (with_reducible apply At.upd) | (with_reducible apply At.setRow) | (with_reducible refine At.rowFar ?_ (by first | (simp; done) | (simp; omega) | omega) _) | ((with_reducible refine At.far ?_ (by first | (simp; done) | (simp; omega) | omega) _)) | (with_reducible rfl) | (simp; done))), (by repeat (first | (with_reducible exact At.new _ _ _) | ((with_reducible refine At.new' _ _ _ _ ?_); simp; done) | (with_reducible assumption) | (with_reducible refine At.drew ?_) | (with_reducible refine At.alloc ?_ _) | (with_reducible apply At.upd) | (with_reducible apply At.setRow) | (with_reducible refine At.rowFar ?_ (by first | (simp; done) | (simp; omega) | omega) _) | ((with_reducible refine At.far ?_ (by first | (simp; done) | (simp; omega) | omega) _)) | (with_reducible rfl) | (simp; done))), show At _ _ _ #[.int .i64 3, .int .i64 0, .int .i64 (t + s.pause)] from (by repeat (first | (with_reducible exact At.new _ _ _) | ((with_reducible refine At.new' _ _ _ _ ?_); simp; done) | (with_reducible assumption) | (with_reducible refine At.drew ?_) | (with_reducible refine At.alloc ?_ _) | (with_reducible apply At.upd) | (with_reducible apply At.setRow) | (with_reducible refine At.rowFar ?_ (by first | (simp; done) | (simp; omega) | omega) _) | ((with_reducible refine At.far ?_ (by first | (simp; done) | (simp; omega) | omega) _)) | (with_reducible rfl) | (simp; done))), Lib.hid rfl, Lib.hid (by simp)⟩
  case round =>
    obtain ⟨k, ph, un, rfl, hk, hxr, hS, hB, hT, hg, hu⟩ := hrel
    have eS := cellsAt_at hS
    have sS := hS.lt
    have c_hB_0 := hB.cell 0
    have f_hB_0 := hB.frozen 0
    simp only [List.getElem?_toArray, List.getElem?_cons_zero, List.getElem?_cons_succ] at c_hB_0
    have c_hB_1 := hB.cell 1
    have f_hB_1 := hB.frozen 1
    simp only [List.getElem?_toArray, List.getElem?_cons_zero, List.getElem?_cons_succ] at c_hB_1
    have s_hB := hB.lt
    have c_hT_0 := hT.cell 0
    have f_hT_0 := hT.frozen 0
    simp only [List.getElem?_toArray, List.getElem?_cons_zero, List.getElem?_cons_succ] at c_hT_0
    have c_hT_1 := hT.cell 1
    have f_hT_1 := hT.frozen 1
    simp only [List.getElem?_toArray, List.getElem?_cons_zero, List.getElem?_cons_succ] at c_hT_1
    have c_hT_2 := hT.cell 2
    have f_hT_2 := hT.frozen 2
    simp only [List.getElem?_toArray, List.getElem?_cons_zero, List.getElem?_cons_succ] at c_hT_2
    have s_hT := hT.lt
    have b1 := ext_le HO.out (k := k) (by omega) hk
    have b2 := bound_bd HO.out
    have hu1 : t < un := by rw [hu.out]; omega
    have hu2 : un ≤ L := by rw [hu.out, HL.out]; omega
    have hu3 : un ≤ 600000000000000000 := by rw [hu.out]; omega
    clear b1 b2
    have C3 := due_c ph k un
    have e3 : dueT ph un = .tuple #[.int .i64 un, .bool true] := by unfold dueT; rw [if_pos hg.out]
    rw [e3] at C3
    have HC3 := Lib.hid C3
    clear C3 e3
    have hk40 : (k : Int) < 40 := by omega
    go_wp2_with fail
    refine (HC3.out _).mono ?_
    rintro e w3 ⟨rfl, hxw3⟩
    have xw3 : Ext w w3 := Ext.trans (by repeat (first | (with_reducible exact Ext.refl _) | (with_reducible assumption) | (with_reducible refine Ext.alloc ?_ _) | (with_reducible refine Ext.drew ?_) | (with_reducible refine Ext.drewN ?_ _) | (with_reducible refine Ext.setCell ?_ (by simp; try omega) _) | (with_reducible refine Ext.setRow ?_ (by simp; try omega) _))) hxw3
    have lw3 := xw3.size
    have S3_w3 := At.ext (g := w.heap.size) (t := 23) (cs := #[.int .i64 s.grid, .int .i64 s.ref, .int .i64 s.stat, .int .i64 s.dyn, .int .i64 s.win, .int .i64 s.move, .int .i64 s.lim, .int .i64 s.pause, .int .i64 s.ext, .int .i64 s.mx, .int .i64 s.coll, .int .i64 s.wid, .int .i64 s.self, .int .i64 s.slots, .int .i64 s.lev, .int .i64 s.short]) (by repeat (first | (with_reducible exact At.new _ _ _) | ((with_reducible refine At.new' _ _ _ _ ?_); simp; done) | (with_reducible assumption) | (with_reducible refine At.drew ?_) | (with_reducible refine At.alloc ?_ _) | (with_reducible apply At.upd) | (with_reducible apply At.setRow) | (with_reducible refine At.rowFar ?_ (by first | (simp; done) | (simp; omega) | omega) _) | ((with_reducible refine At.far ?_ (by first | (simp; done) | (simp; omega) | omega) _)) | (with_reducible rfl) | (simp; done))) hxw3
    have B3_w3 := At.ext (g := w.heap.size + 1) (t := 42) (cs := #[.int .i64 lo, .int .i64 hi]) (by repeat (first | (with_reducible exact At.new _ _ _) | ((with_reducible refine At.new' _ _ _ _ ?_); simp; done) | (with_reducible assumption) | (with_reducible refine At.drew ?_) | (with_reducible refine At.alloc ?_ _) | (with_reducible apply At.upd) | (with_reducible apply At.setRow) | (with_reducible refine At.rowFar ?_ (by first | (simp; done) | (simp; omega) | omega) _) | ((with_reducible refine At.far ?_ (by first | (simp; done) | (simp; omega) | omega) _)) | (with_reducible rfl) | (simp; done))) hxw3
    have T3_w3 := At.ext (g := w2.heap.size) (t := 30) (cs := #[.int .i64 ph, .int .i64 k, .int .i64 un]) (by repeat (first | (with_reducible exact At.new _ _ _) | ((with_reducible refine At.new' _ _ _ _ ?_); simp; done) | (with_reducible assumption) | (with_reducible refine At.drew ?_) | (with_reducible refine At.alloc ?_ _) | (with_reducible apply At.upd) | (with_reducible apply At.setRow) | (with_reducible refine At.rowFar ?_ (by first | (simp; done) | (simp; omega) | omega) _) | ((with_reducible refine At.far ?_ (by first | (simp; done) | (simp; omega) | omega) _)) | (with_reducible rfl) | (simp; done))) hxw3
    clear S_w2 s_S_w2 e_S_w2 B_w2 s_B_w2 c_B_w2_0 f_B_w2_0 c_B_w2_1 f_B_w2_1 hxw3 xw2
    have s_S3_w3 := S3_w3.lt
    have e_S3_w3 := cellsAt_at S3_w3
    have s_B3_w3 := B3_w3.lt
    have c_B3_w3_0 := B3_w3.cell 0
    have f_B3_w3_0 := B3_w3.frozen 0
    have c_B3_w3_1 := B3_w3.cell 1
    have f_B3_w3_1 := B3_w3.frozen 1
    simp only [List.getElem?_toArray, List.getElem?_cons_zero, List.getElem?_cons_succ] at c_B3_w3_0 c_B3_w3_1
    have s_T3_w3 := T3_w3.lt
    have c_T3_w3_0 := T3_w3.cell 0
    have f_T3_w3_0 := T3_w3.frozen 0
    have c_T3_w3_1 := T3_w3.cell 1
    have f_T3_w3_1 := T3_w3.frozen 1
    have c_T3_w3_2 := T3_w3.cell 2
    have f_T3_w3_2 := T3_w3.frozen 2
    simp only [List.getElem?_toArray, List.getElem?_cons_zero, List.getElem?_cons_succ] at c_T3_w3_0 c_T3_w3_1 c_T3_w3_2
    go_wp2_with fail
    refine (HC2.out _).mono ?_
    rintro e w4 ⟨rfl, hxw4⟩
    have xw4 : Ext w w4 := Ext.trans (by repeat (first | (with_reducible exact Ext.refl _) | (with_reducible assumption) | (with_reducible refine Ext.alloc ?_ _) | (with_reducible refine Ext.drew ?_) | (with_reducible refine Ext.drewN ?_ _) | (with_reducible refine Ext.setCell ?_ (by simp; try omega) _) | (with_reducible refine Ext.setRow ?_ (by simp; try omega) _))) hxw4
    have lw4 := xw4.size
    have S3_w4 := At.ext (g := w.heap.size) (t := 23) (cs := #[.int .i64 s.grid, .int .i64 s.ref, .int .i64 s.stat, .int .i64 s.dyn, .int .i64 s.win, .int .i64 s.move, .int .i64 s.lim, .int .i64 s.pause, .int .i64 s.ext, .int .i64 s.mx, .int .i64 s.coll, .int .i64 s.wid, .int .i64 s.self, .int .i64 s.slots, .int .i64 s.lev, .int .i64 s.short]) (by repeat (first | (with_reducible exact At.new _ _ _) | ((with_reducible refine At.new' _ _ _ _ ?_); simp; done) | (with_reducible assumption) | (with_reducible refine At.drew ?_) | (with_reducible refine At.alloc ?_ _) | (with_reducible apply At.upd) | (with_reducible apply At.setRow) | (with_reducible refine At.rowFar ?_ (by first | (simp; done) | (simp; omega) | omega) _) | ((with_reducible refine At.far ?_ (by first | (simp; done) | (simp; omega) | omega) _)) | (with_reducible rfl) | (simp; done))) hxw4
    have B3_w4 := At.ext (g := w.heap.size + 1) (t := 42) (cs := #[.int .i64 lo, .int .i64 hi]) (by repeat (first | (with_reducible exact At.new _ _ _) | ((with_reducible refine At.new' _ _ _ _ ?_); simp; done) | (with_reducible assumption) | (with_reducible refine At.drew ?_) | (with_reducible refine At.alloc ?_ _) | (with_reducible apply At.upd) | (with_reducible apply At.setRow) | (with_reducible refine At.rowFar ?_ (by first | (simp; done) | (simp; omega) | omega) _) | ((with_reducible refine At.far ?_ (by first | (simp; done) | (simp; omega) | omega) _)) | (with_reducible rfl) | (simp; done))) hxw4
    have T3_w4 := At.ext (g := w2.heap.size) (t := 30) (cs := #[.int .i64 ph, .int .i64 k, .int .i64 un]) (by repeat (first | (with_reducible exact At.new _ _ _) | ((with_reducible refine At.new' _ _ _ _ ?_); simp; done) | (with_reducible assumption) | (with_reducible refine At.drew ?_) | (with_reducible refine At.alloc ?_ _) | (with_reducible apply At.upd) | (with_reducible apply At.setRow) | (with_reducible refine At.rowFar ?_ (by first | (simp; done) | (simp; omega) | omega) _) | ((with_reducible refine At.far ?_ (by first | (simp; done) | (simp; omega) | omega) _)) | (with_reducible rfl) | (simp; done))) hxw4
    clear S3_w3 s_S3_w3 e_S3_w3 B3_w3 s_B3_w3 c_B3_w3_0 f_B3_w3_0 c_B3_w3_1 f_B3_w3_1 T3_w3 s_T3_w3 c_T3_w3_0 f_T3_w3_0 c_T3_w3_1 f_T3_w3_1 c_T3_w3_2 f_T3_w3_2 hxw4 xw3
    have s_S3_w4 := S3_w4.lt
    have e_S3_w4 := cellsAt_at S3_w4
    have s_B3_w4 := B3_w4.lt
    have c_B3_w4_0 := B3_w4.cell 0
    have f_B3_w4_0 := B3_w4.frozen 0
    have c_B3_w4_1 := B3_w4.cell 1
    have f_B3_w4_1 := B3_w4.frozen 1
    simp only [List.getElem?_toArray, List.getElem?_cons_zero, List.getElem?_cons_succ] at c_B3_w4_0 c_B3_w4_1
    have s_T3_w4 := T3_w4.lt
    have c_T3_w4_0 := T3_w4.cell 0
    have f_T3_w4_0 := T3_w4.frozen 0
    have c_T3_w4_1 := T3_w4.cell 1
    have f_T3_w4_1 := T3_w4.frozen 1
    have c_T3_w4_2 := T3_w4.cell 2
    have f_T3_w4_2 := T3_w4.frozen 2
    simp only [List.getElem?_toArray, List.getElem?_cons_zero, List.getElem?_cons_succ] at c_T3_w4_0 c_T3_w4_1 c_T3_w4_2
    clear hS hB hT eS sS c_hB_0 c_hB_1 f_hB_0 f_hB_1 s_hB c_hT_0 c_hT_1 c_hT_2 f_hT_0 f_hT_1 f_hT_2 s_hT
    have EE : extT s k un = .agg #[.int .i64 4, .int .i64 ((k : Int) + 1), .int .i64 (un + s.ext)] := by
      unfold extT
      rw [wrap64_in ⟨by omega, by omega⟩, wrap64_in ⟨by omega, by omega⟩]
    have C5 := extend_c s ph k un
    rw [EE] at C5
    unfold symV symC at C5
    have HC5 := Lib.hid C5
    clear C5 EE
    by_cases hlt : k < xs.length
    · obtain ⟨b, off, hA, hb, hc⟩ := HX.out.cells (by simp only; omega)
      simp only at hA hc
      subst hA
      have hxa : Ext w w4 := xw4
      have c1 := (hxa.facts.1 b (off + k) hb).trans (hc k hlt)
      obtain ⟨p, hp⟩ : ∃ p, p = xs[k]?.getD 0 := ⟨_, rfl⟩
      rw [← hp] at c1
      clear hc hp hxa
      have hge : decide ((xs.length : Int) ≤ (k : Int)) = false := by simp; omega
      have hgeN : decide (xs.length ≤ k) = false := by simp; omega
      have hltN : decide (k < xs.length) = true := by simp; omega
      have hltb : decide ((k : Int) < (xs.length : Int)) = true := by simp; omega
      by_cases h7 : p = 7
      · subst h7
        obtain ⟨d1, d2⟩ := decI_bd s.mx k lo hi 7 false
        have d3 := decI_three (mx := s.mx) (ro := k) (lo := lo) (hi := hi) (p := 7) (b := false)
        have C4 := decide_c s ph k un 7 0 0 lo hi false
        generalize decI s.mx k lo hi 7 false = d at C4 d1 d2 d3
        unfold symV symC at C4
        have HC4 := Lib.hid C4
        clear C4
        by_cases hd : d = 3
        · have hkm := d3 hd
          subst hd
          clear d3 d1 d2
          go_wp2_with fail
          refine (HC4.out _).mono ?_
          rintro e w5 ⟨rfl, hxw5⟩
          have xw5 : Ext w w5 := Ext.trans (by repeat (first | (with_reducible exact Ext.refl _) | (with_reducible assumption) | (with_reducible refine Ext.alloc ?_ _) | (with_reducible refine Ext.drew ?_) | (with_reducible refine Ext.drewN ?_ _) | (with_reducible refine Ext.setCell ?_ (by simp; try omega) _) | (with_reducible refine Ext.setRow ?_ (by simp; try omega) _))) hxw5
          have lw5 := xw5.size
          have S3_w5 := At.ext (g := w.heap.size) (t := 23) (cs := #[.int .i64 s.grid, .int .i64 s.ref, .int .i64 s.stat, .int .i64 s.dyn, .int .i64 s.win, .int .i64 s.move, .int .i64 s.lim, .int .i64 s.pause, .int .i64 s.ext, .int .i64 s.mx, .int .i64 s.coll, .int .i64 s.wid, .int .i64 s.self, .int .i64 s.slots, .int .i64 s.lev, .int .i64 s.short]) (by repeat (first | (with_reducible exact At.new _ _ _) | ((with_reducible refine At.new' _ _ _ _ ?_); simp; done) | (with_reducible assumption) | (with_reducible refine At.drew ?_) | (with_reducible refine At.alloc ?_ _) | (with_reducible apply At.upd) | (with_reducible apply At.setRow) | (with_reducible refine At.rowFar ?_ (by first | (simp; done) | (simp; omega) | omega) _) | ((with_reducible refine At.far ?_ (by first | (simp; done) | (simp; omega) | omega) _)) | (with_reducible rfl) | (simp; done))) hxw5
          have B3_w5 := At.ext (g := w.heap.size + 1) (t := 42) (cs := #[.int .i64 lo, .int .i64 hi]) (by repeat (first | (with_reducible exact At.new _ _ _) | ((with_reducible refine At.new' _ _ _ _ ?_); simp; done) | (with_reducible assumption) | (with_reducible refine At.drew ?_) | (with_reducible refine At.alloc ?_ _) | (with_reducible apply At.upd) | (with_reducible apply At.setRow) | (with_reducible refine At.rowFar ?_ (by first | (simp; done) | (simp; omega) | omega) _) | ((with_reducible refine At.far ?_ (by first | (simp; done) | (simp; omega) | omega) _)) | (with_reducible rfl) | (simp; done))) hxw5
          have T3_w5 := At.ext (g := w2.heap.size) (t := 30) (cs := #[.int .i64 ph, .int .i64 k, .int .i64 un]) (by repeat (first | (with_reducible exact At.new _ _ _) | ((with_reducible refine At.new' _ _ _ _ ?_); simp; done) | (with_reducible assumption) | (with_reducible refine At.drew ?_) | (with_reducible refine At.alloc ?_ _) | (with_reducible apply At.upd) | (with_reducible apply At.setRow) | (with_reducible refine At.rowFar ?_ (by first | (simp; done) | (simp; omega) | omega) _) | ((with_reducible refine At.far ?_ (by first | (simp; done) | (simp; omega) | omega) _)) | (with_reducible rfl) | (simp; done))) hxw5
          clear S3_w4 s_S3_w4 e_S3_w4 B3_w4 s_B3_w4 c_B3_w4_0 f_B3_w4_0 c_B3_w4_1 f_B3_w4_1 T3_w4 s_T3_w4 c_T3_w4_0 f_T3_w4_0 c_T3_w4_1 f_T3_w4_1 c_T3_w4_2 f_T3_w4_2 hxw5 xw4
          have s_S3_w5 := S3_w5.lt
          have e_S3_w5 := cellsAt_at S3_w5
          have s_B3_w5 := B3_w5.lt
          have c_B3_w5_0 := B3_w5.cell 0
          have f_B3_w5_0 := B3_w5.frozen 0
          have c_B3_w5_1 := B3_w5.cell 1
          have f_B3_w5_1 := B3_w5.frozen 1
          simp only [List.getElem?_toArray, List.getElem?_cons_zero, List.getElem?_cons_succ] at c_B3_w5_0 c_B3_w5_1
          have s_T3_w5 := T3_w5.lt
          have c_T3_w5_0 := T3_w5.cell 0
          have f_T3_w5_0 := T3_w5.frozen 0
          have c_T3_w5_1 := T3_w5.cell 1
          have f_T3_w5_1 := T3_w5.frozen 1
          have c_T3_w5_2 := T3_w5.cell 2
          have f_T3_w5_2 := T3_w5.frozen 2
          simp only [List.getElem?_toArray, List.getElem?_cons_zero, List.getElem?_cons_succ] at c_T3_w5_0 c_T3_w5_1 c_T3_w5_2
          go_wp2_with fail
          refine (HC5.out _).mono ?_
          rintro e w6 ⟨rfl, hxw6⟩
          have xw6 : Ext w w6 := Ext.trans (by repeat (first | (with_reducible exact Ext.refl _) | (with_reducible assumption) | (with_reducible refine Ext.alloc ?_ _) | (with_reducible refine Ext.drew ?_) | (with_reducible refine Ext.drewN ?_ _) | (with_reducible refine Ext.setCell ?_ (by simp; try omega) _) | (with_reducible refine Ext.setRow ?_ (by simp; try omega) _))) hxw6
          have lw6 := xw6.size
          have S3_w6 := At.ext (g := w.heap.size) (t := 23) (cs := #[.int .i64 s.grid, .int .i64 s.ref, .int .i64 s.stat, .int .i64 s.dyn, .int .i64 s.win, .int .i64 s.move, .int .i64 s.lim, .int .i64 s.pause, .int .i64 s.ext, .int .i64 s.mx, .int .i64 s.coll, .int .i64 s.wid, .int .i64 s.self, .int .i64 s.slots, .int .i64 s.lev, .int .i64 s.short]) (by repeat (first | (with_reducible exact At.new _ _ _) | ((with_reducible refine At.new' _ _ _ _ ?_); simp; done) | (with_reducible assumption) | (with_reducible refine At.drew ?_) | (with_reducible refine At.alloc ?_ _) | (with_reducible apply At.upd) | (with_reducible apply At.setRow) | (with_reducible refine At.rowFar ?_ (by first | (simp; done) | (simp; omega) | omega) _) | ((with_reducible refine At.far ?_ (by first | (simp; done) | (simp; omega) | omega) _)) | (with_reducible rfl) | (simp; done))) hxw6
          have B3_w6 := At.ext (g := w.heap.size + 1) (t := 42) (cs := #[.int .i64 lo, .int .i64 hi]) (by repeat (first | (with_reducible exact At.new _ _ _) | ((with_reducible refine At.new' _ _ _ _ ?_); simp; done) | (with_reducible assumption) | (with_reducible refine At.drew ?_) | (with_reducible refine At.alloc ?_ _) | (with_reducible apply At.upd) | (with_reducible apply At.setRow) | (with_reducible refine At.rowFar ?_ (by first | (simp; done) | (simp; omega) | omega) _) | ((with_reducible refine At.far ?_ (by first | (simp; done) | (simp; omega) | omega) _)) | (with_reducible rfl) | (simp; done))) hxw6
          have T3_w6 := At.ext (g := w2.heap.size) (t := 30) (cs := #[.int .i64 ph, .int .i64 k, .int .i64 un]) (by repeat (first | (with_reducible exact At.new _ _ _) | ((with_reducible refine At.new' _ _ _ _ ?_); simp; done) | (with_reducible assumption) | (with_reducible refine At.drew ?_) | (with_reducible refine At.alloc ?_ _) | (with_reducible apply At.upd) | (with_reducible apply At.setRow) | (with_reducible refine At.rowFar ?_ (by first | (simp; done) | (simp; omega) | omega) _) | ((with_reducible refine At.far ?_ (by first | (simp; done) | (simp; omega) | omega) _)) | (with_reducible rfl) | (simp; done))) hxw6
          clear S3_w5 s_S3_w5 e_S3_w5 B3_w5 s_B3_w5 c_B3_w5_0 f_B3_w5_0 c_B3_w5_1 f_B3_w5_1 T3_w5 s_T3_w5 c_T3_w5_0 f_T3_w5_0 c_T3_w5_1 f_T3_w5_1 c_T3_w5_2 f_T3_w5_2 hxw6 xw5
          have s_S3_w6 := S3_w6.lt
          have e_S3_w6 := cellsAt_at S3_w6
          have s_B3_w6 := B3_w6.lt
          have c_B3_w6_0 := B3_w6.cell 0
          have f_B3_w6_0 := B3_w6.frozen 0
          have c_B3_w6_1 := B3_w6.cell 1
          have f_B3_w6_1 := B3_w6.frozen 1
          simp only [List.getElem?_toArray, List.getElem?_cons_zero, List.getElem?_cons_succ] at c_B3_w6_0 c_B3_w6_1
          have s_T3_w6 := T3_w6.lt
          have c_T3_w6_0 := T3_w6.cell 0
          have f_T3_w6_0 := T3_w6.frozen 0
          have c_T3_w6_1 := T3_w6.cell 1
          have f_T3_w6_1 := T3_w6.frozen 1
          have c_T3_w6_2 := T3_w6.cell 2
          have f_T3_w6_2 := T3_w6.frozen 2
          simp only [List.getElem?_toArray, List.getElem?_cons_zero, List.getElem?_cons_succ] at c_T3_w6_0 c_T3_w6_1 c_T3_w6_2
          go_wp2_with fail
          go_roundw
          case rel => exact ⟨k + 1, 4, un + s.ext, by go_num, by omega, (by repeat (first | (with_reducible exact Ext.refl _) | (with_reducible assumption) | (with_reducible refine Ext.alloc ?_ _) | (with_reducible refine Ext.drew ?_) | (with_reducible refine Ext.drewN ?_ _) | (with_reducible refine Ext.setCell ?_ (by simp; try omega) _) | (with_reducible refine Ext.setRow ?_ (by simp; try omega) _))), (by repeat (first | (with_reducible exact At.new _ _ _) | ((with_reducible refine At.new' _ _ _ _ ?_); simp; done) | (with_reducible assumption) | (with_reducible refine At.drew ?_) | (with_reducible refine At.alloc ?_ _) | (with_reducible apply At.upd) | (with_reducible apply At.setRow) | (with_reducible refine At.rowFar ?_ (by first | (simp; done) | (simp; omega) | omega) _) | ((with_reducible refine At.far ?_ (by first | (simp; done) | (simp; omega) | omega) _)) | (with_reducible rfl) | (simp; done))), (by repeat (first | (with_reducible exact At.new _ _ _) | ((with_reducible refine At.new' _ _ _ _ ?_); simp; done) | (with_reducible assumption) | (with_reducible refine At.drew ?_) | (with_reducible refine At.alloc ?_ _) | (with_reducible apply At.upd) | (with_reducible apply At.setRow) | (with_reducible refine At.rowFar ?_ (by first | (simp; done) | (simp; omega) | omega) _) | ((with_reducible refine At.far ?_ (by first | (simp; done) | (simp; omega) | omega) _)) | (with_reducible rfl) | (simp; done))), show At _ _ _ #[.int .i64 4, .int .i64 ((k : Int) + 1), .int .i64 (un + s.ext)] from (by repeat (first | (with_reducible exact At.new _ _ _) | ((with_reducible refine At.new' _ _ _ _ ?_); simp; done) | (with_reducible assumption) | (with_reducible refine At.drew ?_) | (with_reducible refine At.alloc ?_ _) | (with_reducible apply At.upd) | (with_reducible apply At.setRow) | (with_reducible refine At.rowFar ?_ (by first | (simp; done) | (simp; omega) | omega) _) | ((with_reducible refine At.far ?_ (by first | (simp; done) | (simp; omega) | omega) _)) | (with_reducible rfl) | (simp; done))), Lib.hid rfl, Lib.hid (by have := ext_step s k; have h9 := hu.out; rw [show ((k + 1 : Nat) : Int) = (k : Int) + 1 from by omega]; omega)⟩
          case measure => simp [intOf]; omega
        · have f1 : (d == 3) = false := beq_eq_false_iff_ne.2 hd
          have f2 : (d != 3) = true := bne_iff_ne.2 hd
          clear d3 hd
          go_wp2_with fail
          refine (HC4.out _).mono ?_
          rintro e w5 ⟨rfl, hxw5⟩
          have xw5 : Ext w w5 := Ext.trans (by repeat (first | (with_reducible exact Ext.refl _) | (with_reducible assumption) | (with_reducible refine Ext.alloc ?_ _) | (with_reducible refine Ext.drew ?_) | (with_reducible refine Ext.drewN ?_ _) | (with_reducible refine Ext.setCell ?_ (by simp; try omega) _) | (with_reducible refine Ext.setRow ?_ (by simp; try omega) _))) hxw5
          have lw5 := xw5.size
          have S3_w5 := At.ext (g := w.heap.size) (t := 23) (cs := #[.int .i64 s.grid, .int .i64 s.ref, .int .i64 s.stat, .int .i64 s.dyn, .int .i64 s.win, .int .i64 s.move, .int .i64 s.lim, .int .i64 s.pause, .int .i64 s.ext, .int .i64 s.mx, .int .i64 s.coll, .int .i64 s.wid, .int .i64 s.self, .int .i64 s.slots, .int .i64 s.lev, .int .i64 s.short]) (by repeat (first | (with_reducible exact At.new _ _ _) | ((with_reducible refine At.new' _ _ _ _ ?_); simp; done) | (with_reducible assumption) | (with_reducible refine At.drew ?_) | (with_reducible refine At.alloc ?_ _) | (with_reducible apply At.upd) | (with_reducible apply At.setRow) | (with_reducible refine At.rowFar ?_ (by first | (simp; done) | (simp; omega) | omega) _) | ((with_reducible refine At.far ?_ (by first | (simp; done) | (simp; omega) | omega) _)) | (with_reducible rfl) | (simp; done))) hxw5
          have B3_w5 := At.ext (g := w.heap.size + 1) (t := 42) (cs := #[.int .i64 lo, .int .i64 hi]) (by repeat (first | (with_reducible exact At.new _ _ _) | ((with_reducible refine At.new' _ _ _ _ ?_); simp; done) | (with_reducible assumption) | (with_reducible refine At.drew ?_) | (with_reducible refine At.alloc ?_ _) | (with_reducible apply At.upd) | (with_reducible apply At.setRow) | (with_reducible refine At.rowFar ?_ (by first | (simp; done) | (simp; omega) | omega) _) | ((with_reducible refine At.far ?_ (by first | (simp; done) | (simp; omega) | omega) _)) | (with_reducible rfl) | (simp; done))) hxw5
          have T3_w5 := At.ext (g := w2.heap.size) (t := 30) (cs := #[.int .i64 ph, .int .i64 k, .int .i64 un]) (by repeat (first | (with_reducible exact At.new _ _ _) | ((with_reducible refine At.new' _ _ _ _ ?_); simp; done) | (with_reducible assumption) | (with_reducible refine At.drew ?_) | (with_reducible refine At.alloc ?_ _) | (with_reducible apply At.upd) | (with_reducible apply At.setRow) | (with_reducible refine At.rowFar ?_ (by first | (simp; done) | (simp; omega) | omega) _) | ((with_reducible refine At.far ?_ (by first | (simp; done) | (simp; omega) | omega) _)) | (with_reducible rfl) | (simp; done))) hxw5
          clear S3_w4 s_S3_w4 e_S3_w4 B3_w4 s_B3_w4 c_B3_w4_0 f_B3_w4_0 c_B3_w4_1 f_B3_w4_1 T3_w4 s_T3_w4 c_T3_w4_0 f_T3_w4_0 c_T3_w4_1 f_T3_w4_1 c_T3_w4_2 f_T3_w4_2 hxw5 xw4
          have s_S3_w5 := S3_w5.lt
          have e_S3_w5 := cellsAt_at S3_w5
          have s_B3_w5 := B3_w5.lt
          have c_B3_w5_0 := B3_w5.cell 0
          have f_B3_w5_0 := B3_w5.frozen 0
          have c_B3_w5_1 := B3_w5.cell 1
          have f_B3_w5_1 := B3_w5.frozen 1
          simp only [List.getElem?_toArray, List.getElem?_cons_zero, List.getElem?_cons_succ] at c_B3_w5_0 c_B3_w5_1
          have s_T3_w5 := T3_w5.lt
          have c_T3_w5_0 := T3_w5.cell 0
          have f_T3_w5_0 := T3_w5.frozen 0
          have c_T3_w5_1 := T3_w5.cell 1
          have f_T3_w5_1 := T3_w5.frozen 1
          have c_T3_w5_2 := T3_w5.cell 2
          have f_T3_w5_2 := T3_w5.frozen 2
          simp only [List.getElem?_toArray, List.getElem?_cons_zero, List.getElem?_cons_succ] at c_T3_w5_0 c_T3_w5_1 c_T3_w5_2
          go_wp2_with fail
          refine (alive_c _).mono ?_
          rintro e w6 ⟨rfl, hxw6⟩
          have xw6 : Ext w w6 := Ext.trans (by repeat (first | (with_reducible exact Ext.refl _) | (with_reducible assumption) | (with_reducible refine Ext.alloc ?_ _) | (with_reducible refine Ext.drew ?_) | (with_reducible refine Ext.drewN ?_ _) | (with_reducible refine Ext.setCell ?_ (by simp; try omega) _) | (with_reducible refine Ext.setRow ?_ (by simp; try omega) _))) hxw6
          have lw6 := xw6.size
          go_wp2_with fail
          first | refine fin_ret rfl (fun K hK => ?_) | refine fin_norm rfl (fun K hK => ?_)
          simp [results, Try.results5, go_sem, rsat]
          try go_simp
          refine hK _ ?_
          clear hK K
          exact ⟨rfl, (by repeat (first | (with_reducible exact Ext.refl _) | (with_reducible assumption) | (with_reducible refine Ext.alloc ?_ _) | (with_reducible refine Ext.drew ?_) | (with_reducible refine Ext.drewN ?_ _) | (with_reducible refine Ext.setCell ?_ (by simp; try omega) _) | (with_reducible refine Ext.setRow ?_ (by simp; try omega) _)))⟩
      · have e7 : (p == 7) = false := beq_eq_false_iff_ne.2 h7
        have e8 : (p != 7) = true := bne_iff_ne.2 h7
        clear h7
        obtain ⟨d1, d2⟩ := decI_bd s.mx k lo hi p true
        have d3 := decI_three (mx := s.mx) (ro := k) (lo := lo) (hi := hi) (p := p) (b := true)
        have C4 := decide_c s ph k un p 0 0 lo hi true
        generalize decI s.mx k lo hi p true = d at C4 d1 d2 d3
        unfold symV symC at C4
        have HC4 := Lib.hid C4
        clear C4
        by_cases hd : d = 3
        · have hkm := d3 hd
          subst hd
          clear d3 d1 d2
          go_wp2_with fail
          refine (HC4.out _).mono ?_
          rintro e w5 ⟨rfl, hxw5⟩
          have xw5 : Ext w w5 := Ext.trans (by repeat (first | (with_reducible exact Ext.refl _) | (with_reducible assumption) | (with_reducible refine Ext.alloc ?_ _) | (with_reducible refine Ext.drew ?_) | (with_reducible refine Ext.drewN ?_ _) | (with_reducible refine Ext.setCell ?_ (by simp; try omega) _) | (with_reducible refine Ext.setRow ?_ (by simp; try omega) _))) hxw5
          have lw5 := xw5.size
          have S3_w5 := At.ext (g := w.heap.size) (t := 23) (cs := #[.int .i64 s.grid, .int .i64 s.ref, .int .i64 s.stat, .int .i64 s.dyn, .int .i64 s.win, .int .i64 s.move, .int .i64 s.lim, .int .i64 s.pause, .int .i64 s.ext, .int .i64 s.mx, .int .i64 s.coll, .int .i64 s.wid, .int .i64 s.self, .int .i64 s.slots, .int .i64 s.lev, .int .i64 s.short]) (by repeat (first | (with_reducible exact At.new _ _ _) | ((with_reducible refine At.new' _ _ _ _ ?_); simp; done) | (with_reducible assumption) | (with_reducible refine At.drew ?_) | (with_reducible refine At.alloc ?_ _) | (with_reducible apply At.upd) | (with_reducible apply At.setRow) | (with_reducible refine At.rowFar ?_ (by first | (simp; done) | (simp; omega) | omega) _) | ((with_reducible refine At.far ?_ (by first | (simp; done) | (simp; omega) | omega) _)) | (with_reducible rfl) | (simp; done))) hxw5
          have B3_w5 := At.ext (g := w.heap.size + 1) (t := 42) (cs := #[.int .i64 lo, .int .i64 hi]) (by repeat (first | (with_reducible exact At.new _ _ _) | ((with_reducible refine At.new' _ _ _ _ ?_); simp; done) | (with_reducible assumption) | (with_reducible refine At.drew ?_) | (with_reducible refine At.alloc ?_ _) | (with_reducible apply At.upd) | (with_reducible apply At.setRow) | (with_reducible refine At.rowFar ?_ (by first | (simp; done) | (simp; omega) | omega) _) | ((with_reducible refine At.far ?_ (by first | (simp; done) | (simp; omega) | omega) _)) | (with_reducible rfl) | (simp; done))) hxw5
          have T3_w5 := At.ext (g := w2.heap.size) (t := 30) (cs := #[.int .i64 ph, .int .i64 k, .int .i64 un]) (by repeat (first | (with_reducible exact At.new _ _ _) | ((with_reducible refine At.new' _ _ _ _ ?_); simp; done) | (with_reducible assumption) | (with_reducible refine At.drew ?_) | (with_reducible refine At.alloc ?_ _) | (with_reducible apply At.upd) | (with_reducible apply At.setRow) | (with_reducible refine At.rowFar ?_ (by first | (simp; done) | (simp; omega) | omega) _) | ((with_reducible refine At.far ?_ (by first | (simp; done) | (simp; omega) | omega) _)) | (with_reducible rfl) | (simp; done))) hxw5
          clear S3_w4 s_S3_w4 e_S3_w4 B3_w4 s_B3_w4 c_B3_w4_0 f_B3_w4_0 c_B3_w4_1 f_B3_w4_1 T3_w4 s_T3_w4 c_T3_w4_0 f_T3_w4_0 c_T3_w4_1 f_T3_w4_1 c_T3_w4_2 f_T3_w4_2 hxw5 xw4
          have s_S3_w5 := S3_w5.lt
          have e_S3_w5 := cellsAt_at S3_w5
          have s_B3_w5 := B3_w5.lt
          have c_B3_w5_0 := B3_w5.cell 0
          have f_B3_w5_0 := B3_w5.frozen 0
          have c_B3_w5_1 := B3_w5.cell 1
          have f_B3_w5_1 := B3_w5.frozen 1
          simp only [List.getElem?_toArray, List.getElem?_cons_zero, List.getElem?_cons_succ] at c_B3_w5_0 c_B3_w5_1
          have s_T3_w5 := T3_w5.lt
          have c_T3_w5_0 := T3_w5.cell 0
          have f_T3_w5_0 := T3_w5.frozen 0
          have c_T3_w5_1 := T3_w5.cell 1
          have f_T3_w5_1 := T3_w5.frozen 1
          have c_T3_w5_2 := T3_w5.cell 2
          have f_T3_w5_2 := T3_w5.frozen 2
          simp only [List.getElem?_toArray, List.getElem?_cons_zero, List.getElem?_cons_succ] at c_T3_w5_0 c_T3_w5_1 c_T3_w5_2
          go_wp2_with fail
          refine (HC5.out _).mono ?_
          rintro e w6 ⟨rfl, hxw6⟩
          have xw6 : Ext w w6 := Ext.trans (by repeat (first | (with_reducible exact Ext.refl _) | (with_reducible assumption) | (with_reducible refine Ext.alloc ?_ _) | (with_reducible refine Ext.drew ?_) | (with_reducible refine Ext.drewN ?_ _) | (with_reducible refine Ext.setCell ?_ (by simp; try omega) _) | (with_reducible refine Ext.setRow ?_ (by simp; try omega) _))) hxw6
          have lw6 := xw6.size
          have S3_w6 := At.ext (g := w.heap.size) (t := 23) (cs := #[.int .i64 s.grid, .int .i64 s.ref, .int .i64 s.stat, .int .i64 s.dyn, .int .i64 s.win, .int .i64 s.move, .int .i64 s.lim, .int .i64 s.pause, .int .i64 s.ext, .int .i64 s.mx, .int .i64 s.coll, .int .i64 s.wid, .int .i64 s.self, .int .i64 s.slots, .int .i64 s.lev, .int .i64 s.short]) (by repeat (first | (with_reducible exact At.new _ _ _) | ((with_reducible refine At.new' _ _ _ _ ?_); simp; done) | (with_reducible assumption) | (with_reducible refine At.drew ?_) | (with_reducible refine At.alloc ?_ _) | (with_reducible apply At.upd) | (with_reducible apply At.setRow) | (with_reducible refine At.rowFar ?_ (by first | (simp; done) | (simp; omega) | omega) _) | ((with_reducible refine At.far ?_ (by first | (simp; done) | (simp; omega) | omega) _)) | (with_reducible rfl) | (simp; done))) hxw6
          have B3_w6 := At.ext (g := w.heap.size + 1) (t := 42) (cs := #[.int .i64 lo, .int .i64 hi]) (by repeat (first | (with_reducible exact At.new _ _ _) | ((with_reducible refine At.new' _ _ _ _ ?_); simp; done) | (with_reducible assumption) | (with_reducible refine At.drew ?_) | (with_reducible refine At.alloc ?_ _) | (with_reducible apply At.upd) | (with_reducible apply At.setRow) | (with_reducible refine At.rowFar ?_ (by first | (simp; done) | (simp; omega) | omega) _) | ((with_reducible refine At.far ?_ (by first | (simp; done) | (simp; omega) | omega) _)) | (with_reducible rfl) | (simp; done))) hxw6
          have T3_w6 := At.ext (g := w2.heap.size) (t := 30) (cs := #[.int .i64 ph, .int .i64 k, .int .i64 un]) (by repeat (first | (with_reducible exact At.new _ _ _) | ((with_reducible refine At.new' _ _ _ _ ?_); simp; done) | (with_reducible assumption) | (with_reducible refine At.drew ?_) | (with_reducible refine At.alloc ?_ _) | (with_reducible apply At.upd) | (with_reducible apply At.setRow) | (with_reducible refine At.rowFar ?_ (by first | (simp; done) | (simp; omega) | omega) _) | ((with_reducible refine At.far ?_ (by first | (simp; done) | (simp; omega) | omega) _)) | (with_reducible rfl) | (simp; done))) hxw6
          clear S3_w5 s_S3_w5 e_S3_w5 B3_w5 s_B3_w5 c_B3_w5_0 f_B3_w5_0 c_B3_w5_1 f_B3_w5_1 T3_w5 s_T3_w5 c_T3_w5_0 f_T3_w5_0 c_T3_w5_1 f_T3_w5_1 c_T3_w5_2 f_T3_w5_2 hxw6 xw5
          have s_S3_w6 := S3_w6.lt
          have e_S3_w6 := cellsAt_at S3_w6
          have s_B3_w6 := B3_w6.lt
          have c_B3_w6_0 := B3_w6.cell 0
          have f_B3_w6_0 := B3_w6.frozen 0
          have c_B3_w6_1 := B3_w6.cell 1
          have f_B3_w6_1 := B3_w6.frozen 1
          simp only [List.getElem?_toArray, List.getElem?_cons_zero, List.getElem?_cons_succ] at c_B3_w6_0 c_B3_w6_1
          have s_T3_w6 := T3_w6.lt
          have c_T3_w6_0 := T3_w6.cell 0
          have f_T3_w6_0 := T3_w6.frozen 0
          have c_T3_w6_1 := T3_w6.cell 1
          have f_T3_w6_1 := T3_w6.frozen 1
          have c_T3_w6_2 := T3_w6.cell 2
          have f_T3_w6_2 := T3_w6.frozen 2
          simp only [List.getElem?_toArray, List.getElem?_cons_zero, List.getElem?_cons_succ] at c_T3_w6_0 c_T3_w6_1 c_T3_w6_2
          go_wp2_with fail
          go_roundw
          case rel => exact ⟨k + 1, 4, un + s.ext, by go_num, by omega, (by repeat (first | (with_reducible exact Ext.refl _) | (with_reducible assumption) | (with_reducible refine Ext.alloc ?_ _) | (with_reducible refine Ext.drew ?_) | (with_reducible refine Ext.drewN ?_ _) | (with_reducible refine Ext.setCell ?_ (by simp; try omega) _) | (with_reducible refine Ext.setRow ?_ (by simp; try omega) _))), (by repeat (first | (with_reducible exact At.new _ _ _) | ((with_reducible refine At.new' _ _ _ _ ?_); simp; done) | (with_reducible assumption) | (with_reducible refine At.drew ?_) | (with_reducible refine At.alloc ?_ _) | (with_reducible apply At.upd) | (with_reducible apply At.setRow) | (with_reducible refine At.rowFar ?_ (by first | (simp; done) | (simp; omega) | omega) _) | ((with_reducible refine At.far ?_ (by first | (simp; done) | (simp; omega) | omega) _)) | (with_reducible rfl) | (simp; done))), (by repeat (first | (with_reducible exact At.new _ _ _) | ((with_reducible refine At.new' _ _ _ _ ?_); simp; done) | (with_reducible assumption) | (with_reducible refine At.drew ?_) | (with_reducible refine At.alloc ?_ _) | (with_reducible apply At.upd) | (with_reducible apply At.setRow) | (with_reducible refine At.rowFar ?_ (by first | (simp; done) | (simp; omega) | omega) _) | ((with_reducible refine At.far ?_ (by first | (simp; done) | (simp; omega) | omega) _)) | (with_reducible rfl) | (simp; done))), show At _ _ _ #[.int .i64 4, .int .i64 ((k : Int) + 1), .int .i64 (un + s.ext)] from (by repeat (first | (with_reducible exact At.new _ _ _) | ((with_reducible refine At.new' _ _ _ _ ?_); simp; done) | (with_reducible assumption) | (with_reducible refine At.drew ?_) | (with_reducible refine At.alloc ?_ _) | (with_reducible apply At.upd) | (with_reducible apply At.setRow) | (with_reducible refine At.rowFar ?_ (by first | (simp; done) | (simp; omega) | omega) _) | ((with_reducible refine At.far ?_ (by first | (simp; done) | (simp; omega) | omega) _)) | (with_reducible rfl) | (simp; done))), Lib.hid rfl, Lib.hid (by have := ext_step s k; have h9 := hu.out; rw [show ((k + 1 : Nat) : Int) = (k : Int) + 1 from by omega]; omega)⟩
          case measure => simp [intOf]; omega
        · have f1 : (d == 3) = false := beq_eq_false_iff_ne.2 hd
          have f2 : (d != 3) = true := bne_iff_ne.2 hd
          clear d3 hd
          go_wp2_with fail
          refine (HC4.out _).mono ?_
          rintro e w5 ⟨rfl, hxw5⟩
          have xw5 : Ext w w5 := Ext.trans (by repeat (first | (with_reducible exact Ext.refl _) | (with_reducible assumption) | (with_reducible refine Ext.alloc ?_ _) | (with_reducible refine Ext.drew ?_) | (with_reducible refine Ext.drewN ?_ _) | (with_reducible refine Ext.setCell ?_ (by simp; try omega) _) | (with_reducible refine Ext.setRow ?_ (by simp; try omega) _))) hxw5
          have lw5 := xw5.size
          have S3_w5 := At.ext (g := w.heap.size) (t := 23) (cs := #[.int .i64 s.grid, .int .i64 s.ref, .int .i64 s.stat, .int .i64 s.dyn, .int .i64 s.win, .int .i64 s.move, .int .i64 s.lim, .int .i64 s.pause, .int .i64 s.ext, .int .i64 s.mx, .int .i64 s.coll, .int .i64 s.wid, .int .i64 s.self, .int .i64 s.slots, .int .i64 s.lev, .int .i64 s.short]) (by repeat (first | (with_reducible exact At.new _ _ _) | ((with_reducible refine At.new' _ _ _ _ ?_); simp; done) | (with_reducible assumption) | (with_reducible refine At.drew ?_) | (with_reducible refine At.alloc ?_ _) | (with_reducible apply At.upd) | (with_reducible apply At.setRow) | (with_reducible refine At.rowFar ?_ (by first | (simp; done) | (simp; omega) | omega) _) | ((with_reducible refine At.far ?_ (by first | (simp; done) | (simp; omega) | omega) _)) | (with_reducible rfl) | (simp; done))) hxw5
          have B3_w5 := At.ext (g := w.heap.size + 1) (t := 42) (cs := #[.int .i64 lo, .int .i64 hi]) (by repeat (first | (with_reducible exact At.new _ _ _) | ((with_reducible refine At.new' _ _ _ _ ?_); simp; done) | (with_reducible assumption) | (with_reducible refine At.drew ?_) | (with_reducible refine At.alloc ?_ _) | (with_reducible apply At.upd) | (with_reducible apply At.setRow) | (with_reducible refine At.rowFar ?_ (by first | (simp; done) | (simp; omega) | omega) _) | ((with_reducible refine At.far ?_ (by first | (simp; done) | (simp; omega) | omega) _)) | (with_reducible rfl) | (simp; done))) hxw5
          have T3_w5 := At.ext (g := w2.heap.size) (t := 30) (cs := #[.int .i64 ph, .int .i64 k, .int .i64 un]) (by repeat (first | (with_reducible exact At.new _ _ _) | ((with_reducible refine At.new' _ _ _ _ ?_); simp; done) | (with_reducible assumption) | (with_reducible refine At.drew ?_) | (with_reducible refine At.alloc ?_ _) | (with_reducible apply At.upd) | (with_reducible apply At.setRow) | (with_reducible refine At.rowFar ?_ (by first | (simp; done) | (simp; omega) | omega) _) | ((with_reducible refine At.far ?_ (by first | (simp; done) | (simp; omega) | omega) _)) | (with_reducible rfl) | (simp; done))) hxw5
          clear S3_w4 s_S3_w4 e_S3_w4 B3_w4 s_B3_w4 c_B3_w4_0 f_B3_w4_0 c_B3_w4_1 f_B3_w4_1 T3_w4 s_T3_w4 c_T3_w4_0 f_T3_w4_0 c_T3_w4_1 f_T3_w4_1 c_T3_w4_2 f_T3_w4_2 hxw5 xw4
          have s_S3_w5 := S3_w5.lt
          have e_S3_w5 := cellsAt_at S3_w5
          have s_B3_w5 := B3_w5.lt
          have c_B3_w5_0 := B3_w5.cell 0
          have f_B3_w5_0 := B3_w5.frozen 0
          have c_B3_w5_1 := B3_w5.cell 1
          have f_B3_w5_1 := B3_w5.frozen 1
          simp only [List.getElem?_toArray, List.getElem?_cons_zero, List.getElem?_cons_succ] at c_B3_w5_0 c_B3_w5_1
          have s_T3_w5 := T3_w5.lt
          have c_T3_w5_0 := T3_w5.cell 0
          have f_T3_w5_0 := T3_w5.frozen 0
          have c_T3_w5_1 := T3_w5.cell 1
          have f_T3_w5_1 := T3_w5.frozen 1
          have c_T3_w5_2 := T3_w5.cell 2
          have f_T3_w5_2 := T3_w5.frozen 2
          simp only [List.getElem?_toArray, List.getElem?_cons_zero, List.getElem?_cons_succ] at c_T3_w5_0 c_T3_w5_1 c_T3_w5_2
          go_wp2_with fail
          refine (alive_c _).mono ?_
          rintro e w6 ⟨rfl, hxw6⟩
          have xw6 : Ext w w6 := Ext.trans (by repeat (first | (with_reducible exact Ext.refl _) | (with_reducible assumption) | (with_reducible refine Ext.alloc ?_ _) | (with_reducible refine Ext.drew ?_) | (with_reducible refine Ext.drewN ?_ _) | (with_reducible refine Ext.setCell ?_ (by simp; try omega) _) | (with_reducible refine Ext.setRow ?_ (by simp; try omega) _))) hxw6
          have lw6 := xw6.size
          go_wp2_with fail
          first | refine fin_ret rfl (fun K hK => ?_) | refine fin_norm rfl (fun K hK => ?_)
          simp [results, Try.results5, go_sem, rsat]
          try go_simp
          refine hK _ ?_
          clear hK K
          exact ⟨rfl, (by repeat (first | (with_reducible exact Ext.refl _) | (with_reducible assumption) | (with_reducible refine Ext.alloc ?_ _) | (with_reducible refine Ext.drew ?_) | (with_reducible refine Ext.drewN ?_ _) | (with_reducible refine Ext.setCell ?_ (by simp; try omega) _) | (with_reducible refine Ext.setRow ?_ (by simp; try omega) _)))⟩
    · have hge : decide ((xs.length : Int) ≤ (k : Int)) = true := by simp; omega
      have hltb : decide ((k : Int) < (xs.length : Int)) = false := by simp; omega
      obtain ⟨d1, d2⟩ := decI_bd s.mx k lo hi 0 true
      have d3 := decI_three (mx := s.mx) (ro := k) (lo := lo) (hi := hi) (p := 0) (b := true)
      have C4 := decide_c s ph k un 0 0 0 lo hi true
      generalize decI s.mx k lo hi 0 true = d at C4 d1 d2 d3
      unfold symV symC at C4
      have HC4 := Lib.hid C4
      clear C4
      by_cases hd : d = 3
      · have hkm := d3 hd
        subst hd
        clear d3 d1 d2
        go_wp2_with fail
        refine (HC4.out _).mono ?_
        rintro e w5 ⟨rfl, hxw5⟩
        have xw5 : Ext w w5 := Ext.trans (by repeat (first | (with_reducible exact Ext.refl _) | (with_reducible assumption) | (with_reducible refine Ext.alloc ?_ _) | (with_reducible refine Ext.drew ?_) | (with_reducible refine Ext.drewN ?_ _) | (with_reducible refine Ext.setCell ?_ (by simp; try omega) _) | (with_reducible refine Ext.setRow ?_ (by simp; try omega) _))) hxw5
        have lw5 := xw5.size
        have S3_w5 := At.ext (g := w.heap.size) (t := 23) (cs := #[.int .i64 s.grid, .int .i64 s.ref, .int .i64 s.stat, .int .i64 s.dyn, .int .i64 s.win, .int .i64 s.move, .int .i64 s.lim, .int .i64 s.pause, .int .i64 s.ext, .int .i64 s.mx, .int .i64 s.coll, .int .i64 s.wid, .int .i64 s.self, .int .i64 s.slots, .int .i64 s.lev, .int .i64 s.short]) (by repeat (first | (with_reducible exact At.new _ _ _) | ((with_reducible refine At.new' _ _ _ _ ?_); simp; done) | (with_reducible assumption) | (with_reducible refine At.drew ?_) | (with_reducible refine At.alloc ?_ _) | (with_reducible apply At.upd) | (with_reducible apply At.setRow) | (with_reducible refine At.rowFar ?_ (by first | (simp; done) | (simp; omega) | omega) _) | ((with_reducible refine At.far ?_ (by first | (simp; done) | (simp; omega) | omega) _)) | (with_reducible rfl) | (simp; done))) hxw5
        have B3_w5 := At.ext (g := w.heap.size + 1) (t := 42) (cs := #[.int .i64 lo, .int .i64 hi]) (by repeat (first | (with_reducible exact At.new _ _ _) | ((with_reducible refine At.new' _ _ _ _ ?_); simp; done) | (with_reducible assumption) | (with_reducible refine At.drew ?_) | (with_reducible refine At.alloc ?_ _) | (with_reducible apply At.upd) | (with_reducible apply At.setRow) | (with_reducible refine At.rowFar ?_ (by first | (simp; done) | (simp; omega) | omega) _) | ((with_reducible refine At.far ?_ (by first | (simp; done) | (simp; omega) | omega) _)) | (with_reducible rfl) | (simp; done))) hxw5
        have T3_w5 := At.ext (g := w2.heap.size) (t := 30) (cs := #[.int .i64 ph, .int .i64 k, .int .i64 un]) (by repeat (first | (with_reducible exact At.new _ _ _) | ((with_reducible refine At.new' _ _ _ _ ?_); simp; done) | (with_reducible assumption) | (with_reducible refine At.drew ?_) | (with_reducible refine At.alloc ?_ _) | (with_reducible apply At.upd) | (with_reducible apply At.setRow) | (with_reducible refine At.rowFar ?_ (by first | (simp; done) | (simp; omega) | omega) _) | ((with_reducible refine At.far ?_ (by first | (simp; done) | (simp; omega) | omega) _)) | (with_reducible rfl) | (simp; done))) hxw5
        clear S3_w4 s_S3_w4 e_S3_w4 B3_w4 s_B3_w4 c_B3_w4_0 f_B3_w4_0 c_B3_w4_1 f_B3_w4_1 T3_w4 s_T3_w4 c_T3_w4_0 f_T3_w4_0 c_T3_w4_1 f_T3_w4_1 c_T3_w4_2 f_T3_w4_2 hxw5 xw4
        have s_S3_w5 := S3_w5.lt
        have e_S3_w5 := cellsAt_at S3_w5
        have s_B3_w5 := B3_w5.lt
        have c_B3_w5_0 := B3_w5.cell 0
        have f_B3_w5_0 := B3_w5.frozen 0
        have c_B3_w5_1 := B3_w5.cell 1
        have f_B3_w5_1 := B3_w5.frozen 1
        simp only [List.getElem?_toArray, List.getElem?_cons_zero, List.getElem?_cons_succ] at c_B3_w5_0 c_B3_w5_1
        have s_T3_w5 := T3_w5.lt
        have c_T3_w5_0 := T3_w5.cell 0
        have f_T3_w5_0 := T3_w5.frozen 0
        have c_T3_w5_1 := T3_w5.cell 1
        have f_T3_w5_1 := T3_w5.frozen 1
        have c_T3_w5_2 := T3_w5.cell 2
        have f_T3_w5_2 := T3_w5.frozen 2
        simp only [List.getElem?_toArray, List.getElem?_cons_zero, List.getElem?_cons_succ] at c_T3_w5_0 c_T3_w5_1 c_T3_w5_2
        go_wp2_with fail
        refine (HC5.out _).mono ?_
        rintro e w6 ⟨rfl, hxw6⟩
        have xw6 : Ext w w6 := Ext.trans (by repeat (first | (with_reducible exact Ext.refl _) | (with_reducible assumption) | (with_reducible refine Ext.alloc ?_ _) | (with_reducible refine Ext.drew ?_) | (with_reducible refine Ext.drewN ?_ _) | (with_reducible refine Ext.setCell ?_ (by simp; try omega) _) | (with_reducible refine Ext.setRow ?_ (by simp; try omega) _))) hxw6
        have lw6 := xw6.size
        have S3_w6 := At.ext (g := w.heap.size) (t := 23) (cs := #[.int .i64 s.grid, .int .i64 s.ref, .int .i64 s.stat, .int .i64 s.dyn, .int .i64 s.win, .int .i64 s.move, .int .i64 s.lim, .int .i64 s.pause, .int .i64 s.ext, .int .i64 s.mx, .int .i64 s.coll, .int .i64 s.wid, .int .i64 s.self, .int .i64 s.slots, .int .i64 s.lev, .int .i64 s.short]) (by repeat (first | (with_reducible exact At.new _ _ _) | ((with_reducible refine At.new' _ _ _ _ ?_); simp; done) | (with_reducible assumption) | (with_reducible refine At.drew ?_) | (with_reducible refine At.alloc ?_ _) | (with_reducible apply At.upd) | (with_reducible apply At.setRow) | (with_reducible refine At.rowFar ?_ (by first | (simp; done) | (simp; omega) | omega) _) | ((with_reducible refine At.far ?_ (by first | (simp; done) | (simp; omega) | omega) _)) | (with_reducible rfl) | (simp; done))) hxw6
        have B3_w6 := At.ext (g := w.heap.size + 1) (t := 42) (cs := #[.int .i64 lo, .int .i64 hi]) (by repeat (first | (with_reducible exact At.new _ _ _) | ((with_reducible refine At.new' _ _ _ _ ?_); simp; done) | (with_reducible assumption) | (with_reducible refine At.drew ?_) | (with_reducible refine At.alloc ?_ _) | (with_reducible apply At.upd) | (with_reducible apply At.setRow) | (with_reducible refine At.rowFar ?_ (by first | (simp; done) | (simp; omega) | omega) _) | ((with_reducible refine At.far ?_ (by first | (simp; done) | (simp; omega) | omega) _)) | (with_reducible rfl) | (simp; done))) hxw6
        have T3_w6 := At.ext (g := w2.heap.size) (t := 30) (cs := #[.int .i64 ph, .int .i64 k, .int .i64 un]) (by repeat (first | (with_reducible exact At.new _ _ _) | ((with_reducible refine At.new' _ _ _ _ ?_); simp; done) | (with_reducible assumption) | (with_reducible refine At.drew ?_) | (with_reducible refine At.alloc ?_ _) | (with_reducible apply At.upd) | (with_reducible apply At.setRow) | (with_reducible refine At.rowFar ?_ (by first | (simp; done) | (simp; omega) | omega) _) | ((with_reducible refine At.far ?_ (by first | (simp; done) | (simp; omega) | omega) _)) | (with_reducible rfl) | (simp; done))) hxw6
        clear S3_w5 s_S3_w5 e_S3_w5 B3_w5 s_B3_w5 c_B3_w5_0 f_B3_w5_0 c_B3_w5_1 f_B3_w5_1 T3_w5 s_T3_w5 c_T3_w5_0 f_T3_w5_0 c_T3_w5_1 f_T3_w5_1 c_T3_w5_2 f_T3_w5_2 hxw6 xw5
        have s_S3_w6 := S3_w6.lt
        have e_S3_w6 := cellsAt_at S3_w6
        have s_B3_w6 := B3_w6.lt
        have c_B3_w6_0 := B3_w6.cell 0
        have f_B3_w6_0 := B3_w6.frozen 0
        have c_B3_w6_1 := B3_w6.cell 1
        have f_B3_w6_1 := B3_w6.frozen 1
        simp only [List.getElem?_toArray, List.getElem?_cons_zero, List.getElem?_cons_succ] at c_B3_w6_0 c_B3_w6_1
        have s_T3_w6 := T3_w6.lt
        have c_T3_w6_0 := T3_w6.cell 0
        have f_T3_w6_0 := T3_w6.frozen 0
        have c_T3_w6_1 := T3_w6.cell 1
        have f_T3_w6_1 := T3_w6.frozen 1
        have c_T3_w6_2 := T3_w6.cell 2
        have f_T3_w6_2 := T3_w6.frozen 2
        simp only [List.getElem?_toArray, List.getElem?_cons_zero, List.getElem?_cons_succ] at c_T3_w6_0 c_T3_w6_1 c_T3_w6_2
        go_wp2_with fail
        go_roundw
        case rel => exact ⟨k + 1, 4, un + s.ext, by go_num, by omega, (by repeat (first | (with_reducible exact Ext.refl _) | (with_reducible assumption) | (with_reducible refine Ext.alloc ?_ _) | (with_reducible refine Ext.drew ?_) | (with_reducible refine Ext.drewN ?_ _) | (with_reducible refine Ext.setCell ?_ (by simp; try omega) _) | (with_reducible refine Ext.setRow ?_ (by simp; try omega) _))), (by repeat (first | (with_reducible exact At.new _ _ _) | ((with_reducible refine At.new' _ _ _ _ ?_); simp; done) | (with_reducible assumption) | (with_reducible refine At.drew ?_) | (with_reducible refine At.alloc ?_ _) | (with_reducible apply At.upd) | (with_reducible apply At.setRow) | (with_reducible refine At.rowFar ?_ (by first | (simp; done) | (simp; omega) | omega) _) | ((with_reducible refine At.far ?_ (by first | (simp; done) | (simp; omega) | omega) _)) | (with_reducible rfl) | (simp; done))), (by repeat (first | (with_reducible exact At.new _ _ _) | ((with_reducible refine At.new' _ _ _ _ ?_); simp; done) | (with_reducible assumption) | (with_reducible refine At.drew ?_) | (with_reducible refine At.alloc ?_ _) | (with_reducible apply At.upd) | (with_reducible apply At.setRow) | (with_reducible refine At.rowFar ?_ (by first | (simp; done) | (simp; omega) | omega) _) | ((with_reducible refine At.far ?_ (by first | (simp; done) | (simp; omega) | omega) _)) | (with_reducible rfl) | (simp; done))), show At _ _ _ #[.int .i64 4, .int .i64 ((k : Int) + 1), .int .i64 (un + s.ext)] from (by repeat (first | (with_reducible exact At.new _ _ _) | ((with_reducible refine At.new' _ _ _ _ ?_); simp; done) | (with_reducible assumption) | (with_reducible refine At.drew ?_) | (with_reducible refine At.alloc ?_ _) | (with_reducible apply At.upd) | (with_reducible apply At.setRow) | (with_reducible refine At.rowFar ?_ (by first | (simp; done) | (simp; omega) | omega) _) | ((with_reducible refine At.far ?_ (by first | (simp; done) | (simp; omega) | omega) _)) | (with_reducible rfl) | (simp; done))), Lib.hid rfl, Lib.hid (by have := ext_step s k; have h9 := hu.out; rw [show ((k + 1 : Nat) : Int) = (k : Int) + 1 from by omega]; omega)⟩
        case measure => simp [intOf]; omega
      · have f1 : (d == 3) = false := beq_eq_false_iff_ne.2 hd
        have f2 : (d != 3) = true := bne_iff_ne.2 hd
        clear d3 hd
        go_wp2_with fail
        refine (HC4.out _).mono ?_
        rintro e w5 ⟨rfl, hxw5⟩
        have xw5 : Ext w w5 := Ext.trans (by repeat (first | (with_reducible exact Ext.refl _) | (with_reducible assumption) | (with_reducible refine Ext.alloc ?_ _) | (with_reducible refine Ext.drew ?_) | (with_reducible refine Ext.drewN ?_ _) | (with_reducible refine Ext.setCell ?_ (by simp; try omega) _) | (with_reducible refine Ext.setRow ?_ (by simp; try omega) _))) hxw5
        have lw5 := xw5.size
        have S3_w5 := At.ext (g := w.heap.size) (t := 23) (cs := #[.int .i64 s.grid, .int .i64 s.ref, .int .i64 s.stat, .int .i64 s.dyn, .int .i64 s.win, .int .i64 s.move, .int .i64 s.lim, .int .i64 s.pause, .int .i64 s.ext, .int .i64 s.mx, .int .i64 s.coll, .int .i64 s.wid, .int .i64 s.self, .int .i64 s.slots, .int .i64 s.lev, .int .i64 s.short]) (by repeat (first | (with_reducible exact At.new _ _ _) | ((with_reducible refine At.new' _ _ _ _ ?_); simp; done) | (with_reducible assumption) | (with_reducible refine At.drew ?_) | (with_reducible refine At.alloc ?_ _) | (with_reducible apply At.upd) | (with_reducible apply At.setRow) | (with_reducible refine At.rowFar ?_ (by first | (simp; done) | (simp; omega) | omega) _) | ((with_reducible refine At.far ?_ (by first | (simp; done) | (simp; omega) | omega) _)) | (with_reducible rfl) | (simp; done))) hxw5
        have B3_w5 := At.ext (g := w.heap.size + 1) (t := 42) (cs := #[.int .i64 lo, .int .i64 hi]) (by repeat (first | (with_reducible exact At.new _ _ _) | ((with_reducible refine At.new' _ _ _ _ ?_); simp; done) | (with_reducible assumption) | (with_reducible refine At.drew ?_) | (with_reducible refine At.alloc ?_ _) | (with_reducible apply At.upd) | (with_reducible apply At.setRow) | (with_reducible refine At.rowFar ?_ (by first | (simp; done) | (simp; omega) | omega) _) | ((with_reducible refine At.far ?_ (by first | (simp; done) | (simp; omega) | omega) _)) | (with_reducible rfl) | (simp; done))) hxw5
        have T3_w5 := At.ext (g := w2.heap.size) (t := 30) (cs := #[.int .i64 ph, .int .i64 k, .int .i64 un]) (by repeat (first | (with_reducible exact At.new _ _ _) | ((with_reducible refine At.new' _ _ _ _ ?_); simp; done) | (with_reducible assumption) | (with_reducible refine At.drew ?_) | (with_reducible refine At.alloc ?_ _) | (with_reducible apply At.upd) | (with_reducible apply At.setRow) | (with_reducible refine At.rowFar ?_ (by first | (simp; done) | (simp; omega) | omega) _) | ((with_reducible refine At.far ?_ (by first | (simp; done) | (simp; omega) | omega) _)) | (with_reducible rfl) | (simp; done))) hxw5
        clear S3_w4 s_S3_w4 e_S3_w4 B3_w4 s_B3_w4 c_B3_w4_0 f_B3_w4_0 c_B3_w4_1 f_B3_w4_1 T3_w4 s_T3_w4 c_T3_w4_0 f_T3_w4_0 c_T3_w4_1 f_T3_w4_1 c_T3_w4_2 f_T3_w4_2 hxw5 xw4
        have s_S3_w5 := S3_w5.lt
        have e_S3_w5 := cellsAt_at S3_w5
        have s_B3_w5 := B3_w5.lt
        have c_B3_w5_0 := B3_w5.cell 0
        have f_B3_w5_0 := B3_w5.frozen 0
        have c_B3_w5_1 := B3_w5.cell 1
        have f_B3_w5_1 := B3_w5.frozen 1
        simp only [List.getElem?_toArray, List.getElem?_cons_zero, List.getElem?_cons_succ] at c_B3_w5_0 c_B3_w5_1
        have s_T3_w5 := T3_w5.lt
        have c_T3_w5_0 := T3_w5.cell 0
        have f_T3_w5_0 := T3_w5.frozen 0
        have c_T3_w5_1 := T3_w5.cell 1
        have f_T3_w5_1 := T3_w5.frozen 1
        have c_T3_w5_2 := T3_w5.cell 2
        have f_T3_w5_2 := T3_w5.frozen 2
        simp only [List.getElem?_toArray, List.getElem?_cons_zero, List.getElem?_cons_succ] at c_T3_w5_0 c_T3_w5_1 c_T3_w5_2
        go_wp2_with fail
        refine (alive_c _).mono ?_
        rintro e w6 ⟨rfl, hxw6⟩
        have xw6 : Ext w w6 := Ext.trans (by repeat (first | (with_reducible exact Ext.refl _) | (with_reducible assumption) | (with_reducible refine Ext.alloc ?_ _) | (with_reducible refine Ext.drew ?_) | (with_reducible refine Ext.drewN ?_ _) | (with_reducible refine Ext.setCell ?_ (by simp; try omega) _) | (with_reducible refine Ext.setRow ?_ (by simp; try omega) _))) hxw6
        have lw6 := xw6.size
        go_wp2_with fail
        first | refine fin_ret rfl (fun K hK => ?_) | refine fin_norm rfl (fun K hK => ?_)
        simp [results, Try.results5, go_sem, rsat]
        try go_simp
        refine hK _ ?_
        clear hK K
        exact ⟨rfl, (by repeat (first | (with_reducible exact Ext.refl _) | (with_reducible assumption) | (with_reducible refine Ext.alloc ?_ _) | (with_reducible refine Ext.drew ?_) | (with_reducible refine Ext.drewN ?_ _) | (with_reducible refine Ext.setCell ?_ (by simp; try omega) _) | (with_reducible refine Ext.setRow ?_ (by simp; try omega) _)))⟩
set_option maxRecDepth 100000 in
set_option maxHeartbeats 1600000 in
theorem pauseends_c (s : Sym) (hs : s.I) (t : Int) (x : Sl) (lo hi : Int) (w : World) (hx : x.At .i64 w) :
    Calls Try.prog 5 #[symV s, .int .i64 t, x.v, .agg #[.int .i64 lo, .int .i64 hi]] w fun e w' => e = .returned (.bool true) ∧ Ext w w' := by
  have C0 := symbol_c s hs
  have hmax := hx.le
  have hmax2 := hx.max
  unfold maxLen at hmax2
  by_cases h0 : symI s = 0
  · by_cases h1 : t < 0
    ·
      rw [h0] at C0
      unfold symV symC Sl.v at *
      have HC0 := Lib.hid C0
      clear C0 h0
      go_enter Try.func5, Try.ntmps5
      go_wp2_with fail
      refine (HC0.out _).mono ?_
      rintro e w1 ⟨rfl, hxw1⟩
      have xw1 : Ext w w1 := Ext.trans (by repeat (first | (with_reducible exact Ext.refl _) | (with_reducible assumption) | (with_reducible refine Ext.alloc ?_ _) | (with_reducible refine Ext.drew ?_) | (with_reducible refine Ext.drewN ?_ _) | (with_reducible refine Ext.setCell ?_ (by simp; try omega) _) | (with_reducible refine Ext.setRow ?_ (by simp; try omega) _))) hxw1
      have lw1 := xw1.size
      go_wp2_with fail
      refine (alive_c _).mono ?_
      rintro e w2 ⟨rfl, hxw2⟩
      have xw2 : Ext w w2 := Ext.trans (by repeat (first | (with_reducible exact Ext.refl _) | (with_reducible assumption) | (with_reducible refine Ext.alloc ?_ _) | (with_reducible refine Ext.drew ?_) | (with_reducible refine Ext.drewN ?_ _) | (with_reducible refine Ext.setCell ?_ (by simp; try omega) _) | (with_reducible refine Ext.setRow ?_ (by simp; try omega) _))) hxw2
      have lw2 := xw2.size
      go_wp2_with fail
      first | refine fin_ret rfl (fun K hK => ?_) | refine fin_norm rfl (fun K hK => ?_)
      simp [results, Try.results5, go_sem, rsat]
      try go_simp
      refine hK _ ?_
      clear hK K
      exact ⟨rfl, (by repeat (first | (with_reducible exact Ext.refl _) | (with_reducible assumption) | (with_reducible refine Ext.alloc ?_ _) | (with_reducible refine Ext.drew ?_) | (with_reducible refine Ext.drewN ?_ _) | (with_reducible refine Ext.setCell ?_ (by simp; try omega) _) | (with_reducible refine Ext.setRow ?_ (by simp; try omega) _)))⟩
    by_cases h2 : 576460752303423488 < t
    ·
      rw [h0] at C0
      unfold symV symC Sl.v at *
      have HC0 := Lib.hid C0
      clear C0 h0
      go_enter Try.func5, Try.ntmps5
      go_wp2_with fail
      refine (HC0.out _).mono ?_
      rintro e w1 ⟨rfl, hxw1⟩
      have xw1 : Ext w w1 := Ext.trans (by repeat (first | (with_reducible exact Ext.refl _) | (with_reducible assumption) | (with_reducible refine Ext.alloc ?_ _) | (with_reducible refine Ext.drew ?_) | (with_reducible refine Ext.drewN ?_ _) | (with_reducible refine Ext.setCell ?_ (by simp; try omega) _) | (with_reducible refine Ext.setRow ?_ (by simp; try omega) _))) hxw1
      have lw1 := xw1.size
      go_wp2_with fail
      refine (alive_c _).mono ?_
      rintro e w2 ⟨rfl, hxw2⟩
      have xw2 : Ext w w2 := Ext.trans (by repeat (first | (with_reducible exact Ext.refl _) | (with_reducible assumption) | (with_reducible refine Ext.alloc ?_ _) | (with_reducible refine Ext.drew ?_) | (with_reducible refine Ext.drewN ?_ _) | (with_reducible refine Ext.setCell ?_ (by simp; try omega) _) | (with_reducible refine Ext.setRow ?_ (by simp; try omega) _))) hxw2
      have lw2 := xw2.size
      go_wp2_with fail
      first | refine fin_ret rfl (fun K hK => ?_) | refine fin_norm rfl (fun K hK => ?_)
      simp [results, Try.results5, go_sem, rsat]
      try go_simp
      refine hK _ ?_
      clear hK K
      exact ⟨rfl, (by repeat (first | (with_reducible exact Ext.refl _) | (with_reducible assumption) | (with_reducible refine Ext.alloc ?_ _) | (with_reducible refine Ext.drew ?_) | (with_reducible refine Ext.drewN ?_ _) | (with_reducible refine Ext.setCell ?_ (by simp; try omega) _) | (with_reducible refine Ext.setRow ?_ (by simp; try omega) _)))⟩
    by_cases h3 : 40 < x.xs.length
    ·
      rw [h0] at C0
      unfold symV symC Sl.v at *
      have HC0 := Lib.hid C0
      clear C0 h0
      go_enter Try.func5, Try.ntmps5
      go_wp2_with fail
      refine (HC0.out _).mono ?_
      rintro e w1 ⟨rfl, hxw1⟩
      have xw1 : Ext w w1 := Ext.trans (by repeat (first | (with_reducible exact Ext.refl _) | (with_reducible assumption) | (with_reducible refine Ext.alloc ?_ _) | (with_reducible refine Ext.drew ?_) | (with_reducible refine Ext.drewN ?_ _) | (with_reducible refine Ext.setCell ?_ (by simp; try omega) _) | (with_reducible refine Ext.setRow ?_ (by simp; try omega) _))) hxw1
      have lw1 := xw1.size
      go_wp2_with fail
      refine (alive_c _).mono ?_
      rintro e w2 ⟨rfl, hxw2⟩
      have xw2 : Ext w w2 := Ext.trans (by repeat (first | (with_reducible exact Ext.refl _) | (with_reducible assumption) | (with_reducible refine Ext.alloc ?_ _) | (with_reducible refine Ext.drew ?_) | (with_reducible refine Ext.drewN ?_ _) | (with_reducible refine Ext.setCell ?_ (by simp; try omega) _) | (with_reducible refine Ext.setRow ?_ (by simp; try omega) _))) hxw2
      have lw2 := xw2.size
      go_wp2_with fail
      first | refine fin_ret rfl (fun K hK => ?_) | refine fin_norm rfl (fun K hK => ?_)
      simp [results, Try.results5, go_sem, rsat]
      try go_simp
      refine hK _ ?_
      clear hK K
      exact ⟨rfl, (by repeat (first | (with_reducible exact Ext.refl _) | (with_reducible assumption) | (with_reducible refine Ext.alloc ?_ _) | (with_reducible refine Ext.drew ?_) | (with_reducible refine Ext.drewN ?_ _) | (with_reducible refine Ext.setCell ?_ (by simp; try omega) _) | (with_reducible refine Ext.setRow ?_ (by simp; try omega) _)))⟩
    exact pauseends_in s hs h0 t (by omega) (by omega) x lo hi w hx (by omega)
  · obtain ⟨e1, e2⟩ := beqs7 h0
    generalize symI s = n at C0 e1 e2
    unfold symV symC Sl.v at *
    have HC0 := Lib.hid C0
    clear C0 h0
    go_enter Try.func5, Try.ntmps5
    go_wp2_with fail
    refine (HC0.out _).mono ?_
    rintro e w1 ⟨rfl, hxw1⟩
    have xw1 : Ext w w1 := Ext.trans (by repeat (first | (with_reducible exact Ext.refl _) | (with_reducible assumption) | (with_reducible refine Ext.alloc ?_ _) | (with_reducible refine Ext.drew ?_) | (with_reducible refine Ext.drewN ?_ _) | (with_reducible refine Ext.setCell ?_ (by simp; try omega) _) | (with_reducible refine Ext.setRow ?_ (by simp; try omega) _))) hxw1
    have lw1 := xw1.size
    go_wp2_with fail
    refine (alive_c _).mono ?_
    rintro e w2 ⟨rfl, hxw2⟩
    have xw2 : Ext w w2 := Ext.trans (by repeat (first | (with_reducible exact Ext.refl _) | (with_reducible assumption) | (with_reducible refine Ext.alloc ?_ _) | (with_reducible refine Ext.drew ?_) | (with_reducible refine Ext.drewN ?_ _) | (with_reducible refine Ext.setCell ?_ (by simp; try omega) _) | (with_reducible refine Ext.setRow ?_ (by simp; try omega) _))) hxw2
    have lw2 := xw2.size
    go_wp2_with fail
    first | refine fin_ret rfl (fun K hK => ?_) | refine fin_norm rfl (fun K hK => ?_)
    simp [results, Try.results5, go_sem, rsat]
    try go_simp
    refine hK _ ?_
    clear hK K
    exact ⟨rfl, (by repeat (first | (with_reducible exact Ext.refl _) | (with_reducible assumption) | (with_reducible refine Ext.alloc ?_ _) | (with_reducible refine Ext.drew ?_) | (with_reducible refine Ext.drewN ?_ _) | (with_reducible refine Ext.setCell ?_ (by simp; try omega) _) | (with_reducible refine Ext.setRow ?_ (by simp; try omega) _)))⟩
end Go.Proofs.Ytmgcnjcdbidcfaa
