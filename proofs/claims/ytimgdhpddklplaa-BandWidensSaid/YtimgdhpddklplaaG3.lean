/- The walks of package band and of the reference of layer 20: Of, Collar; Clip, In, Touches. No condition. -/
import Derived.Test.YtimgdhpddklplaaG2
namespace Go.Proofs.Ytimgdhpddklplaa
open Go.RowKit
attribute [local go_sem] Later.cell QUpon_value QUpon_enter MUpon_value
attribute [local go_sem ↓ high] loadSym_is storeSym_is
attribute [local go_sem] run_loadSym run_loadSym_at run_storeSym one_int one_bool one_slice one_ptr one_str setRow_new setRow_past cell_ca frozen_ca cellsAt_alloc_at cellsAt_alloc_past cellsAt_drew cellsAt_later cellsAt_setCell cellsAt_set_same cellsAt_setRow_same cellsAt_setRow_far subAt_alloc subAt_drew subAt_later subAt_setCell subAt_setRow ltn_2 ltn_3 ltn_4 ltn_5

def noBand : Value := .tuple #[.agg #[.int .i64 0, .int .i64 0], .bool false]
/-- What two bands, if both are, have in common. -/
def withT (f r p q g : Int) : Value := if arOk f p g ∧ arOk r q g then .tuple #[.agg #[.int .i64 (max (upN (loI f p) g) (upN (loI r q) g)), .int .i64 (min (hiI f p / g * g) (hiI r q / g * g))], .bool true] else noBand
theorem withT_open (f r p q g : Int) : ∃ x y c, withT f r p q g = .tuple #[.agg #[.int .i64 x, .int .i64 y], .bool c] := by unfold withT noBand; split <;> exact ⟨_, _, _, rfl⟩
/-- The two, and what they come to. -/
theorem with_two (f r p q g : Int) : ∃ x y c u v d, bandT f p g = .tuple #[.agg #[.int .i64 x, .int .i64 y], .bool c] ∧ bandT r q g = .tuple #[.agg #[.int .i64 u, .int .i64 v], .bool d] ∧
    ((c = true ∧ d = true ∧ withT f r p q g = .tuple #[.agg #[.int .i64 (max x u), .int .i64 (min y v)], .bool true]) ∨ (c = false ∧ withT f r p q g = noBand) ∨ (c = true ∧ d = false ∧ withT f r p q g = noBand)) := by
  unfold bandT withT
  by_cases h1 : arOk f p g <;> by_cases h2 : arOk r q g
  · exact ⟨_, _, _, _, _, _, if_pos h1, if_pos h2, .inl ⟨rfl, rfl, if_pos ⟨h1, h2⟩⟩⟩
  · exact ⟨_, _, _, _, _, _, if_pos h1, if_neg h2, .inr (.inr ⟨rfl, rfl, if_neg (fun h => h2 h.2)⟩)⟩
  · exact ⟨_, _, _, _, _, _, if_neg h1, if_pos h2, .inr (.inl ⟨rfl, if_neg (fun h => h1 h.1)⟩)⟩
  · exact ⟨_, _, _, _, _, _, if_neg h1, if_neg h2, .inr (.inl ⟨rfl, if_neg (fun h => h1 h.1)⟩)⟩

set_option maxRecDepth 100000 in
set_option maxHeartbeats 800000 in
theorem within_c (s : Sym) (hs : s.I) (f r q : Int) (hf : I64 f) (hr : I64 r) (hq : I64 q) (w : World) : Calls Try.prog 29 #[symV s, .int .i64 f, .int .i64 r, .int .i64 q] w fun e w' => e = .returned (withT f r s.stat q s.grid) ∧ Ext w w' := by
  have C1 := static_c s hs f hf
  have C2 := baround_c r q s.grid hr hq hs.grid
  obtain ⟨x, y, c, u, v, d, h1, h2, h3⟩ := with_two f r s.stat q s.grid
  rw [h1] at C1
  rw [h2] at C2
  have HC1 := Lib.hid C1
  have HC2 := Lib.hid C2
  clear C1 C2 h1 h2
  unfold noBand at h3
  unfold symV symC at HC1 ⊢
  rcases h3 with ⟨rfl, rfl, h3⟩ | ⟨rfl, h3⟩ | ⟨rfl, rfl, h3⟩
  · rw [h3]
    clear h3
    go_enter Try.func29, Try.ntmps29
    go_wp2_with fail
    refine (HC1.out _).mono ?_
    rintro e w1 ⟨rfl, hxw1⟩
    have xw1 : Ext w w1 := Ext.trans (by repeat (first | exact Ext.refl _ | assumption | refine Ext.alloc ?_ _ | refine Ext.drew ?_ | refine Ext.drewN ?_ _ | refine Ext.setCell ?_ (by simp; try omega) _ | refine Ext.setRow ?_ (by simp; try omega) _)) hxw1
    have lw1 := xw1.size
    have S_w1 := At.ext (g := w.heap.size) (t := 23) (cs := #[.int .i64 s.grid, .int .i64 s.ref, .int .i64 s.stat, .int .i64 s.dyn, .int .i64 s.win, .int .i64 s.move, .int .i64 s.lim, .int .i64 s.pause, .int .i64 s.ext, .int .i64 s.mx, .int .i64 s.coll, .int .i64 s.wid, .int .i64 s.self, .int .i64 s.slots, .int .i64 s.lev, .int .i64 s.short]) (by repeat (first | (with_reducible exact At.new _ _ _) | ((with_reducible refine At.new' _ _ _ _ ?_); simp; done) | (with_reducible assumption) | (with_reducible refine At.drew ?_) | (with_reducible refine At.alloc ?_ _) | (with_reducible apply At.upd) | (with_reducible apply At.setRow) | (with_reducible refine At.rowFar ?_ (by first | (simp; done) | (simp; omega) | omega) _) | ((with_reducible refine At.far ?_ (by first | (simp; done) | (simp; omega) | omega) _)) | (with_reducible rfl) | (simp; done))) hxw1
    have R_w1 := At.ext (g := w.heap.size + 1) (t := 27) (cs := #[.int .i64 0, .int .i64 0]) (by repeat (first | (with_reducible exact At.new _ _ _) | ((with_reducible refine At.new' _ _ _ _ ?_); simp; done) | (with_reducible assumption) | (with_reducible refine At.drew ?_) | (with_reducible refine At.alloc ?_ _) | (with_reducible apply At.upd) | (with_reducible apply At.setRow) | (with_reducible refine At.rowFar ?_ (by first | (simp; done) | (simp; omega) | omega) _) | ((with_reducible refine At.far ?_ (by first | (simp; done) | (simp; omega) | omega) _)) | (with_reducible rfl) | (simp; done))) hxw1
    clear hxw1
    have s_S_w1 := S_w1.lt
    have e_S_w1 := cellsAt_at S_w1
    have s_R_w1 := R_w1.lt
    have c_R_w1_0 := R_w1.cell 0
    have f_R_w1_0 := R_w1.frozen 0
    have c_R_w1_1 := R_w1.cell 1
    have f_R_w1_1 := R_w1.frozen 1
    simp only [List.getElem?_toArray, List.getElem?_cons_zero, List.getElem?_cons_succ] at c_R_w1_0 c_R_w1_1
    go_wp2_with fail
    refine (HC2.out _).mono ?_
    rintro e w2 ⟨rfl, hxw2⟩
    have xw2 : Ext w w2 := Ext.trans (by repeat (first | exact Ext.refl _ | assumption | refine Ext.alloc ?_ _ | refine Ext.drew ?_ | refine Ext.drewN ?_ _ | refine Ext.setCell ?_ (by simp; try omega) _ | refine Ext.setRow ?_ (by simp; try omega) _)) hxw2
    have lw2 := xw2.size
    have A_w2 := At.ext (g := w1.heap.size) (t := 27) (cs := #[.int .i64 x, .int .i64 y]) (by repeat (first | (with_reducible exact At.new _ _ _) | ((with_reducible refine At.new' _ _ _ _ ?_); simp; done) | (with_reducible assumption) | (with_reducible refine At.drew ?_) | (with_reducible refine At.alloc ?_ _) | (with_reducible apply At.upd) | (with_reducible apply At.setRow) | (with_reducible refine At.rowFar ?_ (by first | (simp; done) | (simp; omega) | omega) _) | ((with_reducible refine At.far ?_ (by first | (simp; done) | (simp; omega) | omega) _)) | (with_reducible rfl) | (simp; done))) hxw2
    have R_w2 := At.ext (g := w.heap.size + 1) (t := 27) (cs := #[.int .i64 0, .int .i64 0]) (by repeat (first | (with_reducible exact At.new _ _ _) | ((with_reducible refine At.new' _ _ _ _ ?_); simp; done) | (with_reducible assumption) | (with_reducible refine At.drew ?_) | (with_reducible refine At.alloc ?_ _) | (with_reducible apply At.upd) | (with_reducible apply At.setRow) | (with_reducible refine At.rowFar ?_ (by first | (simp; done) | (simp; omega) | omega) _) | ((with_reducible refine At.far ?_ (by first | (simp; done) | (simp; omega) | omega) _)) | (with_reducible rfl) | (simp; done))) hxw2
    clear R_w1 s_R_w1 c_R_w1_0 f_R_w1_0 c_R_w1_1 f_R_w1_1 S_w1 s_S_w1 e_S_w1 hxw2 xw1
    have s_A_w2 := A_w2.lt
    have c_A_w2_0 := A_w2.cell 0
    have f_A_w2_0 := A_w2.frozen 0
    have c_A_w2_1 := A_w2.cell 1
    have f_A_w2_1 := A_w2.frozen 1
    simp only [List.getElem?_toArray, List.getElem?_cons_zero, List.getElem?_cons_succ] at c_A_w2_0 c_A_w2_1
    have s_R_w2 := R_w2.lt
    have c_R_w2_0 := R_w2.cell 0
    have f_R_w2_0 := R_w2.frozen 0
    have c_R_w2_1 := R_w2.cell 1
    have f_R_w2_1 := R_w2.frozen 1
    simp only [List.getElem?_toArray, List.getElem?_cons_zero, List.getElem?_cons_succ] at c_R_w2_0 c_R_w2_1
    have lw := xw2.size
    go_wp2_with fail
    refine (common_c x y u v (w2.heap.size + 1) _ (by repeat (first | (with_reducible exact At.new _ _ _) | ((with_reducible refine At.new' _ _ _ _ ?_); simp; done) | (with_reducible assumption) | (with_reducible refine At.drew ?_) | (with_reducible refine At.alloc ?_ _) | (with_reducible apply At.upd) | (with_reducible apply At.setRow) | (with_reducible refine At.rowFar ?_ (by first | (simp; done) | (simp; omega) | omega) _) | ((with_reducible refine At.far ?_ (by first | (simp; done) | (simp; omega) | omega) _)) | (with_reducible rfl) | (simp; done)))).mono ?_
    rintro e w3 ⟨rfl, hxw3⟩
    have R_w3 := At.ext (g := w.heap.size + 1) (t := 27) (cs := #[.int .i64 0, .int .i64 0]) (by repeat (first | (with_reducible exact At.new _ _ _) | ((with_reducible refine At.new' _ _ _ _ ?_); simp; done) | (with_reducible assumption) | (with_reducible refine At.drew ?_) | (with_reducible refine At.alloc ?_ _) | (with_reducible apply At.upd) | (with_reducible apply At.setRow) | (with_reducible refine At.rowFar ?_ (by first | (simp; done) | (simp; omega) | omega) _) | ((with_reducible refine At.far ?_ (by first | (simp; done) | (simp; omega) | omega) _)) | (with_reducible rfl) | (simp; done))) hxw3
    have xw3 : Ext w w3 := Ext.trans (by repeat (first | exact Ext.refl _ | assumption | refine Ext.alloc ?_ _ | refine Ext.drew ?_ | refine Ext.drewN ?_ _ | refine Ext.setCell ?_ (by simp; try omega) _ | refine Ext.setRow ?_ (by simp; try omega) _)) hxw3
    clear R_w2 s_R_w2 c_R_w2_0 f_R_w2_0 c_R_w2_1 f_R_w2_1 A_w2 s_A_w2 c_A_w2_0 f_A_w2_0 c_A_w2_1 f_A_w2_1 hxw3 xw2
    have s_R_w3 := R_w3.lt
    have c_R_w3_0 := R_w3.cell 0
    have f_R_w3_0 := R_w3.frozen 0
    have c_R_w3_1 := R_w3.cell 1
    have f_R_w3_1 := R_w3.frozen 1
    simp only [List.getElem?_toArray, List.getElem?_cons_zero, List.getElem?_cons_succ] at c_R_w3_0 c_R_w3_1
    go_wp2_with fail
    refine fin_ret rfl (fun K hK => ?_)
    simp [results, Try.results29, go_sem, rsat]
    try go_simp
    refine hK _ ?_
    clear hK K
    exact ⟨rfl, (by repeat (first | exact Ext.refl _ | assumption | refine Ext.alloc ?_ _ | refine Ext.drew ?_ | refine Ext.drewN ?_ _ | refine Ext.setCell ?_ (by simp; try omega) _ | refine Ext.setRow ?_ (by simp; try omega) _))⟩
  · rw [h3]
    clear h3
    go_enter Try.func29, Try.ntmps29
    go_wp2_with fail
    refine (HC1.out _).mono ?_
    rintro e w1 ⟨rfl, hxw1⟩
    have xw1 : Ext w w1 := Ext.trans (by repeat (first | exact Ext.refl _ | assumption | refine Ext.alloc ?_ _ | refine Ext.drew ?_ | refine Ext.drewN ?_ _ | refine Ext.setCell ?_ (by simp; try omega) _ | refine Ext.setRow ?_ (by simp; try omega) _)) hxw1
    have lw1 := xw1.size
    have S_w1 := At.ext (g := w.heap.size) (t := 23) (cs := #[.int .i64 s.grid, .int .i64 s.ref, .int .i64 s.stat, .int .i64 s.dyn, .int .i64 s.win, .int .i64 s.move, .int .i64 s.lim, .int .i64 s.pause, .int .i64 s.ext, .int .i64 s.mx, .int .i64 s.coll, .int .i64 s.wid, .int .i64 s.self, .int .i64 s.slots, .int .i64 s.lev, .int .i64 s.short]) (by repeat (first | (with_reducible exact At.new _ _ _) | ((with_reducible refine At.new' _ _ _ _ ?_); simp; done) | (with_reducible assumption) | (with_reducible refine At.drew ?_) | (with_reducible refine At.alloc ?_ _) | (with_reducible apply At.upd) | (with_reducible apply At.setRow) | (with_reducible refine At.rowFar ?_ (by first | (simp; done) | (simp; omega) | omega) _) | ((with_reducible refine At.far ?_ (by first | (simp; done) | (simp; omega) | omega) _)) | (with_reducible rfl) | (simp; done))) hxw1
    have R_w1 := At.ext (g := w.heap.size + 1) (t := 27) (cs := #[.int .i64 0, .int .i64 0]) (by repeat (first | (with_reducible exact At.new _ _ _) | ((with_reducible refine At.new' _ _ _ _ ?_); simp; done) | (with_reducible assumption) | (with_reducible refine At.drew ?_) | (with_reducible refine At.alloc ?_ _) | (with_reducible apply At.upd) | (with_reducible apply At.setRow) | (with_reducible refine At.rowFar ?_ (by first | (simp; done) | (simp; omega) | omega) _) | ((with_reducible refine At.far ?_ (by first | (simp; done) | (simp; omega) | omega) _)) | (with_reducible rfl) | (simp; done))) hxw1
    clear hxw1
    have s_S_w1 := S_w1.lt
    have e_S_w1 := cellsAt_at S_w1
    have s_R_w1 := R_w1.lt
    have c_R_w1_0 := R_w1.cell 0
    have f_R_w1_0 := R_w1.frozen 0
    have c_R_w1_1 := R_w1.cell 1
    have f_R_w1_1 := R_w1.frozen 1
    simp only [List.getElem?_toArray, List.getElem?_cons_zero, List.getElem?_cons_succ] at c_R_w1_0 c_R_w1_1
    go_wp2_with fail
    refine (HC2.out _).mono ?_
    rintro e w2 ⟨rfl, hxw2⟩
    have xw2 : Ext w w2 := Ext.trans (by repeat (first | exact Ext.refl _ | assumption | refine Ext.alloc ?_ _ | refine Ext.drew ?_ | refine Ext.drewN ?_ _ | refine Ext.setCell ?_ (by simp; try omega) _ | refine Ext.setRow ?_ (by simp; try omega) _)) hxw2
    have lw2 := xw2.size
    have R_w2 := At.ext (g := w.heap.size + 1) (t := 27) (cs := #[.int .i64 0, .int .i64 0]) (by repeat (first | (with_reducible exact At.new _ _ _) | ((with_reducible refine At.new' _ _ _ _ ?_); simp; done) | (with_reducible assumption) | (with_reducible refine At.drew ?_) | (with_reducible refine At.alloc ?_ _) | (with_reducible apply At.upd) | (with_reducible apply At.setRow) | (with_reducible refine At.rowFar ?_ (by first | (simp; done) | (simp; omega) | omega) _) | ((with_reducible refine At.far ?_ (by first | (simp; done) | (simp; omega) | omega) _)) | (with_reducible rfl) | (simp; done))) hxw2
    clear R_w1 s_R_w1 c_R_w1_0 f_R_w1_0 c_R_w1_1 f_R_w1_1 S_w1 s_S_w1 e_S_w1 hxw2 xw1
    have s_R_w2 := R_w2.lt
    have c_R_w2_0 := R_w2.cell 0
    have f_R_w2_0 := R_w2.frozen 0
    have c_R_w2_1 := R_w2.cell 1
    have f_R_w2_1 := R_w2.frozen 1
    simp only [List.getElem?_toArray, List.getElem?_cons_zero, List.getElem?_cons_succ] at c_R_w2_0 c_R_w2_1
    go_wp2_with fail
    refine fin_ret rfl (fun K hK => ?_)
    simp [results, Try.results29, go_sem, rsat]
    try go_simp
    refine hK _ ?_
    clear hK K
    exact ⟨rfl, (by repeat (first | exact Ext.refl _ | assumption | refine Ext.alloc ?_ _ | refine Ext.drew ?_ | refine Ext.drewN ?_ _ | refine Ext.setCell ?_ (by simp; try omega) _ | refine Ext.setRow ?_ (by simp; try omega) _))⟩
  · rw [h3]
    clear h3
    go_enter Try.func29, Try.ntmps29
    go_wp2_with fail
    refine (HC1.out _).mono ?_
    rintro e w1 ⟨rfl, hxw1⟩
    have xw1 : Ext w w1 := Ext.trans (by repeat (first | exact Ext.refl _ | assumption | refine Ext.alloc ?_ _ | refine Ext.drew ?_ | refine Ext.drewN ?_ _ | refine Ext.setCell ?_ (by simp; try omega) _ | refine Ext.setRow ?_ (by simp; try omega) _)) hxw1
    have lw1 := xw1.size
    have S_w1 := At.ext (g := w.heap.size) (t := 23) (cs := #[.int .i64 s.grid, .int .i64 s.ref, .int .i64 s.stat, .int .i64 s.dyn, .int .i64 s.win, .int .i64 s.move, .int .i64 s.lim, .int .i64 s.pause, .int .i64 s.ext, .int .i64 s.mx, .int .i64 s.coll, .int .i64 s.wid, .int .i64 s.self, .int .i64 s.slots, .int .i64 s.lev, .int .i64 s.short]) (by repeat (first | (with_reducible exact At.new _ _ _) | ((with_reducible refine At.new' _ _ _ _ ?_); simp; done) | (with_reducible assumption) | (with_reducible refine At.drew ?_) | (with_reducible refine At.alloc ?_ _) | (with_reducible apply At.upd) | (with_reducible apply At.setRow) | (with_reducible refine At.rowFar ?_ (by first | (simp; done) | (simp; omega) | omega) _) | ((with_reducible refine At.far ?_ (by first | (simp; done) | (simp; omega) | omega) _)) | (with_reducible rfl) | (simp; done))) hxw1
    have R_w1 := At.ext (g := w.heap.size + 1) (t := 27) (cs := #[.int .i64 0, .int .i64 0]) (by repeat (first | (with_reducible exact At.new _ _ _) | ((with_reducible refine At.new' _ _ _ _ ?_); simp; done) | (with_reducible assumption) | (with_reducible refine At.drew ?_) | (with_reducible refine At.alloc ?_ _) | (with_reducible apply At.upd) | (with_reducible apply At.setRow) | (with_reducible refine At.rowFar ?_ (by first | (simp; done) | (simp; omega) | omega) _) | ((with_reducible refine At.far ?_ (by first | (simp; done) | (simp; omega) | omega) _)) | (with_reducible rfl) | (simp; done))) hxw1
    clear hxw1
    have s_S_w1 := S_w1.lt
    have e_S_w1 := cellsAt_at S_w1
    have s_R_w1 := R_w1.lt
    have c_R_w1_0 := R_w1.cell 0
    have f_R_w1_0 := R_w1.frozen 0
    have c_R_w1_1 := R_w1.cell 1
    have f_R_w1_1 := R_w1.frozen 1
    simp only [List.getElem?_toArray, List.getElem?_cons_zero, List.getElem?_cons_succ] at c_R_w1_0 c_R_w1_1
    go_wp2_with fail
    refine (HC2.out _).mono ?_
    rintro e w2 ⟨rfl, hxw2⟩
    have xw2 : Ext w w2 := Ext.trans (by repeat (first | exact Ext.refl _ | assumption | refine Ext.alloc ?_ _ | refine Ext.drew ?_ | refine Ext.drewN ?_ _ | refine Ext.setCell ?_ (by simp; try omega) _ | refine Ext.setRow ?_ (by simp; try omega) _)) hxw2
    have lw2 := xw2.size
    have R_w2 := At.ext (g := w.heap.size + 1) (t := 27) (cs := #[.int .i64 0, .int .i64 0]) (by repeat (first | (with_reducible exact At.new _ _ _) | ((with_reducible refine At.new' _ _ _ _ ?_); simp; done) | (with_reducible assumption) | (with_reducible refine At.drew ?_) | (with_reducible refine At.alloc ?_ _) | (with_reducible apply At.upd) | (with_reducible apply At.setRow) | (with_reducible refine At.rowFar ?_ (by first | (simp; done) | (simp; omega) | omega) _) | ((with_reducible refine At.far ?_ (by first | (simp; done) | (simp; omega) | omega) _)) | (with_reducible rfl) | (simp; done))) hxw2
    clear R_w1 s_R_w1 c_R_w1_0 f_R_w1_0 c_R_w1_1 f_R_w1_1 S_w1 s_S_w1 e_S_w1 hxw2 xw1
    have s_R_w2 := R_w2.lt
    have c_R_w2_0 := R_w2.cell 0
    have f_R_w2_0 := R_w2.frozen 0
    have c_R_w2_1 := R_w2.cell 1
    have f_R_w2_1 := R_w2.frozen 1
    simp only [List.getElem?_toArray, List.getElem?_cons_zero, List.getElem?_cons_succ] at c_R_w2_0 c_R_w2_1
    go_wp2_with fail
    refine fin_ret rfl (fun K hK => ?_)
    simp [results, Try.results29, go_sem, rsat]
    try go_simp
    refine hK _ ?_
    clear hK K
    exact ⟨rfl, (by repeat (first | exact Ext.refl _ | assumption | refine Ext.alloc ?_ _ | refine Ext.drew ?_ | refine Ext.drewN ?_ _ | refine Ext.setCell ?_ (by simp; try omega) _ | refine Ext.setRow ?_ (by simp; try omega) _))⟩
set_option maxRecDepth 100000 in
set_option maxHeartbeats 800000 in
theorem of20_c (s : Sym) (hs : s.I) (f r : Int) (hf : I64 f) (hr : I64 r) (w : World) : Calls Try.prog 13 #[symV s, .int .i64 f, .int .i64 r] w fun e w' => e = .returned (withT f r s.stat s.dyn s.grid) ∧ Ext w w' := by
  have C := within_c s hs f r s.dyn hf hr hs.dyn
  obtain ⟨x, y, c, hx⟩ := withT_open f r s.stat s.dyn s.grid
  rw [hx] at C ⊢
  unfold symV symC at C ⊢
  have HC := Lib.hid C
  clear C hx
  go_enter Try.func13, Try.ntmps13
  go_wp2_with fail
  refine (HC.out _).mono ?_
  rintro e w1 ⟨rfl, hxw1⟩
  have xw1 : Ext w w1 := Ext.trans (by repeat (first | exact Ext.refl _ | assumption | refine Ext.alloc ?_ _ | refine Ext.drew ?_ | refine Ext.drewN ?_ _ | refine Ext.setCell ?_ (by simp; try omega) _ | refine Ext.setRow ?_ (by simp; try omega) _)) hxw1
  have lw1 := xw1.size
  have B_w1 := At.ext (g := w.heap.size + 1) (t := 27) (cs := #[.int .i64 0, .int .i64 0]) (by repeat (first | (with_reducible exact At.new _ _ _) | ((with_reducible refine At.new' _ _ _ _ ?_); simp; done) | (with_reducible assumption) | (with_reducible refine At.drew ?_) | (with_reducible refine At.alloc ?_ _) | (with_reducible apply At.upd) | (with_reducible apply At.setRow) | (with_reducible refine At.rowFar ?_ (by first | (simp; done) | (simp; omega) | omega) _) | ((with_reducible refine At.far ?_ (by first | (simp; done) | (simp; omega) | omega) _)) | (with_reducible rfl) | (simp; done))) hxw1
  clear hxw1
  have s_B_w1 := B_w1.lt
  have c_B_w1_0 := B_w1.cell 0
  have f_B_w1_0 := B_w1.frozen 0
  have c_B_w1_1 := B_w1.cell 1
  have f_B_w1_1 := B_w1.frozen 1
  simp only [List.getElem?_toArray, List.getElem?_cons_zero, List.getElem?_cons_succ] at c_B_w1_0 c_B_w1_1
  go_wp2_with fail
  refine fin_ret rfl (fun K hK => ?_)
  simp [results, Try.results13, go_sem, rsat]
  try go_simp
  refine hK _ ?_
  clear hK K
  exact ⟨rfl, (by repeat (first | exact Ext.refl _ | assumption | refine Ext.alloc ?_ _ | refine Ext.drew ?_ | refine Ext.drewN ?_ _ | refine Ext.setCell ?_ (by simp; try omega) _ | refine Ext.setRow ?_ (by simp; try omega) _))⟩
set_option maxRecDepth 100000 in
set_option maxHeartbeats 800000 in
theorem rof20_c (s : Sym) (hs : s.I) (f r : Int) (hf : I64 f) (hr : I64 r) (w : World) : Calls Try.prog 14 #[symV s, .int .i64 f, .int .i64 r] w fun e w' => e = .returned (withT f r s.stat s.dyn s.grid) ∧ Ext w w' := by
  have C1 := rstatic_c s hs f hf
  have C2 := rdynamic_c s hs r hr
  obtain ⟨x, y, c, u, v, d, h1, h2, h3⟩ := with_two f r s.stat s.dyn s.grid
  rw [h1] at C1
  rw [h2] at C2
  have HC1 := Lib.hid C1
  have HC2 := Lib.hid C2
  clear C1 C2 h1 h2
  unfold noBand at h3
  unfold symV symC at HC1 HC2 ⊢
  rcases h3 with ⟨rfl, rfl, h3⟩ | ⟨rfl, h3⟩ | ⟨rfl, rfl, h3⟩
  · rw [h3]
    clear h3
    go_enter Try.func14, Try.ntmps14
    go_wp2_with fail
    refine (HC1.out _).mono ?_
    rintro e w1 ⟨rfl, hxw1⟩
    have xw1 : Ext w w1 := Ext.trans (by repeat (first | exact Ext.refl _ | assumption | refine Ext.alloc ?_ _ | refine Ext.drew ?_ | refine Ext.drewN ?_ _ | refine Ext.setCell ?_ (by simp; try omega) _ | refine Ext.setRow ?_ (by simp; try omega) _)) hxw1
    have lw1 := xw1.size
    have S_w1 := At.ext (g := w.heap.size) (t := 23) (cs := #[.int .i64 s.grid, .int .i64 s.ref, .int .i64 s.stat, .int .i64 s.dyn, .int .i64 s.win, .int .i64 s.move, .int .i64 s.lim, .int .i64 s.pause, .int .i64 s.ext, .int .i64 s.mx, .int .i64 s.coll, .int .i64 s.wid, .int .i64 s.self, .int .i64 s.slots, .int .i64 s.lev, .int .i64 s.short]) (by repeat (first | (with_reducible exact At.new _ _ _) | ((with_reducible refine At.new' _ _ _ _ ?_); simp; done) | (with_reducible assumption) | (with_reducible refine At.drew ?_) | (with_reducible refine At.alloc ?_ _) | (with_reducible apply At.upd) | (with_reducible apply At.setRow) | (with_reducible refine At.rowFar ?_ (by first | (simp; done) | (simp; omega) | omega) _) | ((with_reducible refine At.far ?_ (by first | (simp; done) | (simp; omega) | omega) _)) | (with_reducible rfl) | (simp; done))) hxw1
    have R_w1 := At.ext (g := w.heap.size + 1) (t := 27) (cs := #[.int .i64 0, .int .i64 0]) (by repeat (first | (with_reducible exact At.new _ _ _) | ((with_reducible refine At.new' _ _ _ _ ?_); simp; done) | (with_reducible assumption) | (with_reducible refine At.drew ?_) | (with_reducible refine At.alloc ?_ _) | (with_reducible apply At.upd) | (with_reducible apply At.setRow) | (with_reducible refine At.rowFar ?_ (by first | (simp; done) | (simp; omega) | omega) _) | ((with_reducible refine At.far ?_ (by first | (simp; done) | (simp; omega) | omega) _)) | (with_reducible rfl) | (simp; done))) hxw1
    clear hxw1
    have s_S_w1 := S_w1.lt
    have e_S_w1 := cellsAt_at S_w1
    have s_R_w1 := R_w1.lt
    have c_R_w1_0 := R_w1.cell 0
    have f_R_w1_0 := R_w1.frozen 0
    have c_R_w1_1 := R_w1.cell 1
    have f_R_w1_1 := R_w1.frozen 1
    simp only [List.getElem?_toArray, List.getElem?_cons_zero, List.getElem?_cons_succ] at c_R_w1_0 c_R_w1_1
    go_wp2_with fail
    refine (HC2.out _).mono ?_
    rintro e w2 ⟨rfl, hxw2⟩
    have xw2 : Ext w w2 := Ext.trans (by repeat (first | exact Ext.refl _ | assumption | refine Ext.alloc ?_ _ | refine Ext.drew ?_ | refine Ext.drewN ?_ _ | refine Ext.setCell ?_ (by simp; try omega) _ | refine Ext.setRow ?_ (by simp; try omega) _)) hxw2
    have lw2 := xw2.size
    have A_w2 := At.ext (g := w1.heap.size) (t := 27) (cs := #[.int .i64 x, .int .i64 y]) (by repeat (first | (with_reducible exact At.new _ _ _) | ((with_reducible refine At.new' _ _ _ _ ?_); simp; done) | (with_reducible assumption) | (with_reducible refine At.drew ?_) | (with_reducible refine At.alloc ?_ _) | (with_reducible apply At.upd) | (with_reducible apply At.setRow) | (with_reducible refine At.rowFar ?_ (by first | (simp; done) | (simp; omega) | omega) _) | ((with_reducible refine At.far ?_ (by first | (simp; done) | (simp; omega) | omega) _)) | (with_reducible rfl) | (simp; done))) hxw2
    have R_w2 := At.ext (g := w.heap.size + 1) (t := 27) (cs := #[.int .i64 0, .int .i64 0]) (by repeat (first | (with_reducible exact At.new _ _ _) | ((with_reducible refine At.new' _ _ _ _ ?_); simp; done) | (with_reducible assumption) | (with_reducible refine At.drew ?_) | (with_reducible refine At.alloc ?_ _) | (with_reducible apply At.upd) | (with_reducible apply At.setRow) | (with_reducible refine At.rowFar ?_ (by first | (simp; done) | (simp; omega) | omega) _) | ((with_reducible refine At.far ?_ (by first | (simp; done) | (simp; omega) | omega) _)) | (with_reducible rfl) | (simp; done))) hxw2
    clear R_w1 s_R_w1 c_R_w1_0 f_R_w1_0 c_R_w1_1 f_R_w1_1 S_w1 s_S_w1 e_S_w1 hxw2 xw1
    have s_A_w2 := A_w2.lt
    have c_A_w2_0 := A_w2.cell 0
    have f_A_w2_0 := A_w2.frozen 0
    have c_A_w2_1 := A_w2.cell 1
    have f_A_w2_1 := A_w2.frozen 1
    simp only [List.getElem?_toArray, List.getElem?_cons_zero, List.getElem?_cons_succ] at c_A_w2_0 c_A_w2_1
    have s_R_w2 := R_w2.lt
    have c_R_w2_0 := R_w2.cell 0
    have f_R_w2_0 := R_w2.frozen 0
    have c_R_w2_1 := R_w2.cell 1
    have f_R_w2_1 := R_w2.frozen 1
    simp only [List.getElem?_toArray, List.getElem?_cons_zero, List.getElem?_cons_succ] at c_R_w2_0 c_R_w2_1
    go_wp2_with fail
    refine (rboth_c x y u v _).mono ?_
    rintro e w3 ⟨rfl, hxw3⟩
    have xw3 : Ext w w3 := Ext.trans (by repeat (first | exact Ext.refl _ | assumption | refine Ext.alloc ?_ _ | refine Ext.drew ?_ | refine Ext.drewN ?_ _ | refine Ext.setCell ?_ (by simp; try omega) _ | refine Ext.setRow ?_ (by simp; try omega) _)) hxw3
    have lw3 := xw3.size
    have R_w3 := At.ext (g := w.heap.size + 1) (t := 27) (cs := #[.int .i64 0, .int .i64 0]) (by repeat (first | (with_reducible exact At.new _ _ _) | ((with_reducible refine At.new' _ _ _ _ ?_); simp; done) | (with_reducible assumption) | (with_reducible refine At.drew ?_) | (with_reducible refine At.alloc ?_ _) | (with_reducible apply At.upd) | (with_reducible apply At.setRow) | (with_reducible refine At.rowFar ?_ (by first | (simp; done) | (simp; omega) | omega) _) | ((with_reducible refine At.far ?_ (by first | (simp; done) | (simp; omega) | omega) _)) | (with_reducible rfl) | (simp; done))) hxw3
    clear R_w2 s_R_w2 c_R_w2_0 f_R_w2_0 c_R_w2_1 f_R_w2_1 A_w2 s_A_w2 c_A_w2_0 f_A_w2_0 c_A_w2_1 f_A_w2_1 hxw3 xw2
    have s_R_w3 := R_w3.lt
    have c_R_w3_0 := R_w3.cell 0
    have f_R_w3_0 := R_w3.frozen 0
    have c_R_w3_1 := R_w3.cell 1
    have f_R_w3_1 := R_w3.frozen 1
    simp only [List.getElem?_toArray, List.getElem?_cons_zero, List.getElem?_cons_succ] at c_R_w3_0 c_R_w3_1
    go_wp2_with fail
    refine fin_ret rfl (fun K hK => ?_)
    simp [results, Try.results14, go_sem, rsat]
    try go_simp
    refine hK _ ?_
    clear hK K
    exact ⟨rfl, (by repeat (first | exact Ext.refl _ | assumption | refine Ext.alloc ?_ _ | refine Ext.drew ?_ | refine Ext.drewN ?_ _ | refine Ext.setCell ?_ (by simp; try omega) _ | refine Ext.setRow ?_ (by simp; try omega) _))⟩
  · rw [h3]
    clear h3
    go_enter Try.func14, Try.ntmps14
    go_wp2_with fail
    refine (HC1.out _).mono ?_
    rintro e w1 ⟨rfl, hxw1⟩
    have xw1 : Ext w w1 := Ext.trans (by repeat (first | exact Ext.refl _ | assumption | refine Ext.alloc ?_ _ | refine Ext.drew ?_ | refine Ext.drewN ?_ _ | refine Ext.setCell ?_ (by simp; try omega) _ | refine Ext.setRow ?_ (by simp; try omega) _)) hxw1
    have lw1 := xw1.size
    have S_w1 := At.ext (g := w.heap.size) (t := 23) (cs := #[.int .i64 s.grid, .int .i64 s.ref, .int .i64 s.stat, .int .i64 s.dyn, .int .i64 s.win, .int .i64 s.move, .int .i64 s.lim, .int .i64 s.pause, .int .i64 s.ext, .int .i64 s.mx, .int .i64 s.coll, .int .i64 s.wid, .int .i64 s.self, .int .i64 s.slots, .int .i64 s.lev, .int .i64 s.short]) (by repeat (first | (with_reducible exact At.new _ _ _) | ((with_reducible refine At.new' _ _ _ _ ?_); simp; done) | (with_reducible assumption) | (with_reducible refine At.drew ?_) | (with_reducible refine At.alloc ?_ _) | (with_reducible apply At.upd) | (with_reducible apply At.setRow) | (with_reducible refine At.rowFar ?_ (by first | (simp; done) | (simp; omega) | omega) _) | ((with_reducible refine At.far ?_ (by first | (simp; done) | (simp; omega) | omega) _)) | (with_reducible rfl) | (simp; done))) hxw1
    have R_w1 := At.ext (g := w.heap.size + 1) (t := 27) (cs := #[.int .i64 0, .int .i64 0]) (by repeat (first | (with_reducible exact At.new _ _ _) | ((with_reducible refine At.new' _ _ _ _ ?_); simp; done) | (with_reducible assumption) | (with_reducible refine At.drew ?_) | (with_reducible refine At.alloc ?_ _) | (with_reducible apply At.upd) | (with_reducible apply At.setRow) | (with_reducible refine At.rowFar ?_ (by first | (simp; done) | (simp; omega) | omega) _) | ((with_reducible refine At.far ?_ (by first | (simp; done) | (simp; omega) | omega) _)) | (with_reducible rfl) | (simp; done))) hxw1
    clear hxw1
    have s_S_w1 := S_w1.lt
    have e_S_w1 := cellsAt_at S_w1
    have s_R_w1 := R_w1.lt
    have c_R_w1_0 := R_w1.cell 0
    have f_R_w1_0 := R_w1.frozen 0
    have c_R_w1_1 := R_w1.cell 1
    have f_R_w1_1 := R_w1.frozen 1
    simp only [List.getElem?_toArray, List.getElem?_cons_zero, List.getElem?_cons_succ] at c_R_w1_0 c_R_w1_1
    go_wp2_with fail
    refine (HC2.out _).mono ?_
    rintro e w2 ⟨rfl, hxw2⟩
    have xw2 : Ext w w2 := Ext.trans (by repeat (first | exact Ext.refl _ | assumption | refine Ext.alloc ?_ _ | refine Ext.drew ?_ | refine Ext.drewN ?_ _ | refine Ext.setCell ?_ (by simp; try omega) _ | refine Ext.setRow ?_ (by simp; try omega) _)) hxw2
    have lw2 := xw2.size
    have R_w2 := At.ext (g := w.heap.size + 1) (t := 27) (cs := #[.int .i64 0, .int .i64 0]) (by repeat (first | (with_reducible exact At.new _ _ _) | ((with_reducible refine At.new' _ _ _ _ ?_); simp; done) | (with_reducible assumption) | (with_reducible refine At.drew ?_) | (with_reducible refine At.alloc ?_ _) | (with_reducible apply At.upd) | (with_reducible apply At.setRow) | (with_reducible refine At.rowFar ?_ (by first | (simp; done) | (simp; omega) | omega) _) | ((with_reducible refine At.far ?_ (by first | (simp; done) | (simp; omega) | omega) _)) | (with_reducible rfl) | (simp; done))) hxw2
    clear R_w1 s_R_w1 c_R_w1_0 f_R_w1_0 c_R_w1_1 f_R_w1_1 S_w1 s_S_w1 e_S_w1 hxw2 xw1
    have s_R_w2 := R_w2.lt
    have c_R_w2_0 := R_w2.cell 0
    have f_R_w2_0 := R_w2.frozen 0
    have c_R_w2_1 := R_w2.cell 1
    have f_R_w2_1 := R_w2.frozen 1
    simp only [List.getElem?_toArray, List.getElem?_cons_zero, List.getElem?_cons_succ] at c_R_w2_0 c_R_w2_1
    go_wp2_with fail
    refine fin_ret rfl (fun K hK => ?_)
    simp [results, Try.results14, go_sem, rsat]
    try go_simp
    refine hK _ ?_
    clear hK K
    exact ⟨rfl, (by repeat (first | exact Ext.refl _ | assumption | refine Ext.alloc ?_ _ | refine Ext.drew ?_ | refine Ext.drewN ?_ _ | refine Ext.setCell ?_ (by simp; try omega) _ | refine Ext.setRow ?_ (by simp; try omega) _))⟩
  · rw [h3]
    clear h3
    go_enter Try.func14, Try.ntmps14
    go_wp2_with fail
    refine (HC1.out _).mono ?_
    rintro e w1 ⟨rfl, hxw1⟩
    have xw1 : Ext w w1 := Ext.trans (by repeat (first | exact Ext.refl _ | assumption | refine Ext.alloc ?_ _ | refine Ext.drew ?_ | refine Ext.drewN ?_ _ | refine Ext.setCell ?_ (by simp; try omega) _ | refine Ext.setRow ?_ (by simp; try omega) _)) hxw1
    have lw1 := xw1.size
    have S_w1 := At.ext (g := w.heap.size) (t := 23) (cs := #[.int .i64 s.grid, .int .i64 s.ref, .int .i64 s.stat, .int .i64 s.dyn, .int .i64 s.win, .int .i64 s.move, .int .i64 s.lim, .int .i64 s.pause, .int .i64 s.ext, .int .i64 s.mx, .int .i64 s.coll, .int .i64 s.wid, .int .i64 s.self, .int .i64 s.slots, .int .i64 s.lev, .int .i64 s.short]) (by repeat (first | (with_reducible exact At.new _ _ _) | ((with_reducible refine At.new' _ _ _ _ ?_); simp; done) | (with_reducible assumption) | (with_reducible refine At.drew ?_) | (with_reducible refine At.alloc ?_ _) | (with_reducible apply At.upd) | (with_reducible apply At.setRow) | (with_reducible refine At.rowFar ?_ (by first | (simp; done) | (simp; omega) | omega) _) | ((with_reducible refine At.far ?_ (by first | (simp; done) | (simp; omega) | omega) _)) | (with_reducible rfl) | (simp; done))) hxw1
    have R_w1 := At.ext (g := w.heap.size + 1) (t := 27) (cs := #[.int .i64 0, .int .i64 0]) (by repeat (first | (with_reducible exact At.new _ _ _) | ((with_reducible refine At.new' _ _ _ _ ?_); simp; done) | (with_reducible assumption) | (with_reducible refine At.drew ?_) | (with_reducible refine At.alloc ?_ _) | (with_reducible apply At.upd) | (with_reducible apply At.setRow) | (with_reducible refine At.rowFar ?_ (by first | (simp; done) | (simp; omega) | omega) _) | ((with_reducible refine At.far ?_ (by first | (simp; done) | (simp; omega) | omega) _)) | (with_reducible rfl) | (simp; done))) hxw1
    clear hxw1
    have s_S_w1 := S_w1.lt
    have e_S_w1 := cellsAt_at S_w1
    have s_R_w1 := R_w1.lt
    have c_R_w1_0 := R_w1.cell 0
    have f_R_w1_0 := R_w1.frozen 0
    have c_R_w1_1 := R_w1.cell 1
    have f_R_w1_1 := R_w1.frozen 1
    simp only [List.getElem?_toArray, List.getElem?_cons_zero, List.getElem?_cons_succ] at c_R_w1_0 c_R_w1_1
    go_wp2_with fail
    refine (HC2.out _).mono ?_
    rintro e w2 ⟨rfl, hxw2⟩
    have xw2 : Ext w w2 := Ext.trans (by repeat (first | exact Ext.refl _ | assumption | refine Ext.alloc ?_ _ | refine Ext.drew ?_ | refine Ext.drewN ?_ _ | refine Ext.setCell ?_ (by simp; try omega) _ | refine Ext.setRow ?_ (by simp; try omega) _)) hxw2
    have lw2 := xw2.size
    have R_w2 := At.ext (g := w.heap.size + 1) (t := 27) (cs := #[.int .i64 0, .int .i64 0]) (by repeat (first | (with_reducible exact At.new _ _ _) | ((with_reducible refine At.new' _ _ _ _ ?_); simp; done) | (with_reducible assumption) | (with_reducible refine At.drew ?_) | (with_reducible refine At.alloc ?_ _) | (with_reducible apply At.upd) | (with_reducible apply At.setRow) | (with_reducible refine At.rowFar ?_ (by first | (simp; done) | (simp; omega) | omega) _) | ((with_reducible refine At.far ?_ (by first | (simp; done) | (simp; omega) | omega) _)) | (with_reducible rfl) | (simp; done))) hxw2
    clear R_w1 s_R_w1 c_R_w1_0 f_R_w1_0 c_R_w1_1 f_R_w1_1 S_w1 s_S_w1 e_S_w1 hxw2 xw1
    have s_R_w2 := R_w2.lt
    have c_R_w2_0 := R_w2.cell 0
    have f_R_w2_0 := R_w2.frozen 0
    have c_R_w2_1 := R_w2.cell 1
    have f_R_w2_1 := R_w2.frozen 1
    simp only [List.getElem?_toArray, List.getElem?_cons_zero, List.getElem?_cons_succ] at c_R_w2_0 c_R_w2_1
    go_wp2_with fail
    refine fin_ret rfl (fun K hK => ?_)
    simp [results, Try.results14, go_sem, rsat]
    try go_simp
    refine hK _ ?_
    clear hK K
    exact ⟨rfl, (by repeat (first | exact Ext.refl _ | assumption | refine Ext.alloc ?_ _ | refine Ext.drew ?_ | refine Ext.drewN ?_ _ | refine Ext.setCell ?_ (by simp; try omega) _ | refine Ext.setRow ?_ (by simp; try omega) _))⟩
end Go.Proofs.Ytimgdhpddklplaa
