/- Laws of layer 23: what must come at any rate; BreakerFalls. No condition. -/
import Derived.Test.YtdefimhdjllfaaaBr3
import Derived.Test.YtdefimhdjllfaaaG10
namespace Go.Proofs.Ytdefimhdjllfaaa
open Go.RowKit
attribute [local go_sem] Later.cell QUpon_value QUpon_enter MUpon_value
attribute [local go_sem ↓ high] loadSym_is storeSym_is loadCfg_is storeCfg_is
attribute [local go_sem] run_loadSym run_loadSym_at run_storeSym run_loadCfg run_loadCfg_at run_storeCfg one_int one_bool one_slice one_ptr one_str setRow_new setRow_past cell_ca frozen_ca cellsAt_alloc_at cellsAt_alloc_past cellsAt_drew cellsAt_later cellsAt_setCell cellsAt_set_same cellsAt_setRow_same cellsAt_setRow_far subAt_alloc subAt_drew subAt_later subAt_setCell subAt_setRow ltn_2 ltn_3 ltn_4 ltn_5
theorem arr2_d (a b c d : Bool) (w : World) : (Op.equalIn 9999 31 (.agg #[.bool a, .bool b]) (.agg #[.bool c, .bool d])).run Try.prog w = .ok ((a == c) && (b == d)) w := by
  cases a <;> cases b <;> cases c <;> cases d <;> kernel_rfl
attribute [local go_sem] arr2_d
def lightB (x : Cfg) : Bool := decide (x.l.length ≤ 20) && decide (x.t.length ≤ 40)
def right23 (x : Cfg) : Bool := lightB x && ((checkI x).1 == 0)
theorem light7_c (x : Cfg) (hl : x.l.length ≤ 9223372036854775807) (ht : x.t.length ≤ 9223372036854775807) (w : World) : Calls Try.prog 15 #[.agg #[.slice x.A x.l.length x.c, .slice x.B x.t.length x.d, .int .i64 x.ix, .int .i64 x.f1, .int .i64 x.f2, .int .i64 x.f3, .int .i64 x.h1, .int .i64 x.h2]] w fun e w' => e = .returned (.bool (lightB x)) ∧ Ext w w' := by
  unfold lightB
  by_cases h1 : x.l.length ≤ 20
  · by_cases h2 : x.t.length ≤ 40
    · rw [decide_eq_true h1, decide_eq_true h2]
      go_enter Try.func15, Try.ntmps15
      go_wp2_with fail
      first | refine fin_ret rfl (fun K hK => ?_) | refine fin_norm rfl (fun K hK => ?_)
      simp [results, Try.results15, go_sem, rsat]
      try go_simp
      refine hK _ ?_
      clear hK K
      refine ⟨?_, (by repeat (first | (with_reducible exact Ext.refl _) | (with_reducible assumption) | (with_reducible refine Ext.alloc ?_ _) | (with_reducible refine Ext.drew ?_) | (with_reducible refine Ext.drewN ?_ _) | (with_reducible refine Ext.setCell ?_ (by simp; try omega) _) | (with_reducible refine Ext.setRow ?_ (by simp; try omega) _)))⟩
      first | rfl | (congr 2; simp; omega)
    · rw [decide_eq_true h1, decide_eq_false h2]
      go_enter Try.func15, Try.ntmps15
      go_wp2_with fail
      first | refine fin_ret rfl (fun K hK => ?_) | refine fin_norm rfl (fun K hK => ?_)
      simp [results, Try.results15, go_sem, rsat]
      try go_simp
      refine hK _ ?_
      clear hK K
      refine ⟨?_, (by repeat (first | (with_reducible exact Ext.refl _) | (with_reducible assumption) | (with_reducible refine Ext.alloc ?_ _) | (with_reducible refine Ext.drew ?_) | (with_reducible refine Ext.drewN ?_ _) | (with_reducible refine Ext.setCell ?_ (by simp; try omega) _) | (with_reducible refine Ext.setRow ?_ (by simp; try omega) _)))⟩
      first | rfl | (congr 2; simp; omega)
  · rw [decide_eq_false h1, Bool.false_and]
    go_enter Try.func15, Try.ntmps15
    go_wp2_with fail
    first | refine fin_ret rfl (fun K hK => ?_) | refine fin_norm rfl (fun K hK => ?_)
    simp [results, Try.results15, go_sem, rsat]
    try go_simp
    refine hK _ ?_
    clear hK K
    exact ⟨rfl, (by repeat (first | (with_reducible exact Ext.refl _) | (with_reducible assumption) | (with_reducible refine Ext.alloc ?_ _) | (with_reducible refine Ext.drew ?_) | (with_reducible refine Ext.drewN ?_ _) | (with_reducible refine Ext.setCell ?_ (by simp; try omega) _) | (with_reducible refine Ext.setRow ?_ (by simp; try omega) _)))⟩
set_option maxHeartbeats 1000000 in
set_option maxRecDepth 100000 in
theorem right23_c (x : Cfg) (w : World) (h : x.At w) : Calls Try.prog 6 #[.agg #[.slice x.A x.l.length x.c, .slice x.B x.t.length x.d, .int .i64 x.ix, .int .i64 x.f1, .int .i64 x.f2, .int .i64 x.f3, .int .i64 x.h1, .int .i64 x.h2], .slice none 0 0] w fun e w' => e = .returned (.bool (right23 x)) ∧ Ext w w' := by
  have hlm : x.l.length ≤ 9223372036854775807 := by have := h.syms.le; have := h.syms.max; unfold maxLen at this; omega
  have htm : x.t.length ≤ 9223372036854775807 := by have := h.rows.le; have := h.rows.max; unfold maxLen at this; omega
  have C1 := fun W hx => check_c x W (h.ext hx)
  have C2 := light7_c x hlm htm
  unfold right23
  generalize checkI x = f at C1
  obtain ⟨f1, f2⟩ := f
  simp only at C1 ⊢
  have HC1 := Lib.hid C1
  cases hb : lightB x with
  | false =>
    rw [hb] at C2
    have HC2 := Lib.hid C2
    clear C1 C2 hb
    rw [Bool.false_and]
    go_enter Try.func6, Try.ntmps6
    go_wp2_with fail
    refine wp_loop_rounds 1 ?_
    rw [rounds_succ]
    go_wp2_with fail
    refine (HC1.out _ (by repeat (first | (with_reducible exact Ext.refl _) | (with_reducible assumption) | (with_reducible refine Ext.alloc ?_ _) | (with_reducible refine Ext.drew ?_) | (with_reducible refine Ext.drewN ?_ _) | (with_reducible refine Ext.setCell ?_ (by simp; try omega) _) | (with_reducible refine Ext.setRow ?_ (by simp; try omega) _)))).mono ?_
    rintro e w1 ⟨rfl, hxw1⟩
    have X_w1 := At.ext (g := w.heap.size) (t := 27) (cs := #[.slice x.A x.l.length x.c, .slice x.B x.t.length x.d, .int .i64 x.ix, .int .i64 x.f1, .int .i64 x.f2, .int .i64 x.f3, .int .i64 x.h1, .int .i64 x.h2]) (by repeat (first | (with_reducible exact At.new _ _ _) | ((with_reducible refine At.new' _ _ _ _ ?_); simp; done) | (with_reducible assumption) | (with_reducible refine At.drew ?_) | (with_reducible refine At.alloc ?_ _) | (with_reducible apply At.upd) | (with_reducible apply At.setRow) | (with_reducible refine At.rowFar ?_ (by first | (simp; done) | (simp; omega) | omega) _) | ((with_reducible refine At.far ?_ (by first | (simp; done) | (simp; omega) | omega) _)) | (with_reducible rfl) | (simp; done))) hxw1
    have xw1 : Ext w w1 := Ext.trans (by repeat (first | (with_reducible exact Ext.refl _) | (with_reducible assumption) | (with_reducible refine Ext.alloc ?_ _) | (with_reducible refine Ext.drew ?_) | (with_reducible refine Ext.drewN ?_ _) | (with_reducible refine Ext.setCell ?_ (by simp; try omega) _) | (with_reducible refine Ext.setRow ?_ (by simp; try omega) _))) hxw1
    clear hxw1
    have s_X_w1 := X_w1.lt
    have e_X_w1 := cellsAt_at X_w1
    go_wp2_with fail
    refine (HC2.out _).mono ?_
    rintro e w2 ⟨rfl, hxw2⟩
    have X_w2 := At.ext (g := w.heap.size) (t := 27) (cs := #[.slice x.A x.l.length x.c, .slice x.B x.t.length x.d, .int .i64 x.ix, .int .i64 x.f1, .int .i64 x.f2, .int .i64 x.f3, .int .i64 x.h1, .int .i64 x.h2]) (by repeat (first | (with_reducible exact At.new _ _ _) | ((with_reducible refine At.new' _ _ _ _ ?_); simp; done) | (with_reducible assumption) | (with_reducible refine At.drew ?_) | (with_reducible refine At.alloc ?_ _) | (with_reducible apply At.upd) | (with_reducible apply At.setRow) | (with_reducible refine At.rowFar ?_ (by first | (simp; done) | (simp; omega) | omega) _) | ((with_reducible refine At.far ?_ (by first | (simp; done) | (simp; omega) | omega) _)) | (with_reducible rfl) | (simp; done))) hxw2
    have xw2 : Ext w w2 := Ext.trans (by repeat (first | (with_reducible exact Ext.refl _) | (with_reducible assumption) | (with_reducible refine Ext.alloc ?_ _) | (with_reducible refine Ext.drew ?_) | (with_reducible refine Ext.drewN ?_ _) | (with_reducible refine Ext.setCell ?_ (by simp; try omega) _) | (with_reducible refine Ext.setRow ?_ (by simp; try omega) _))) hxw2
    clear X_w1 s_X_w1 e_X_w1 hxw2 xw1
    have s_X_w2 := X_w2.lt
    have e_X_w2 := cellsAt_at X_w2
    go_wp2_with fail
    first | refine fin_ret rfl (fun K hK => ?_) | refine fin_norm rfl (fun K hK => ?_)
    simp [results, Try.results6, go_sem, rsat]
    try go_simp
    refine hK _ ?_
    clear hK K
    exact ⟨rfl, (by repeat (first | (with_reducible exact Ext.refl _) | (with_reducible assumption) | (with_reducible refine Ext.alloc ?_ _) | (with_reducible refine Ext.drew ?_) | (with_reducible refine Ext.drewN ?_ _) | (with_reducible refine Ext.setCell ?_ (by simp; try omega) _) | (with_reducible refine Ext.setRow ?_ (by simp; try omega) _)))⟩
  | true =>
    rw [hb] at C2
    have HC2 := Lib.hid C2
    clear C1 C2 hb
    rw [Bool.true_and]
    go_enter Try.func6, Try.ntmps6
    go_wp2_with fail
    refine wp_loop_rounds 1 ?_
    rw [rounds_succ]
    go_wp2_with fail
    refine (HC1.out _ (by repeat (first | (with_reducible exact Ext.refl _) | (with_reducible assumption) | (with_reducible refine Ext.alloc ?_ _) | (with_reducible refine Ext.drew ?_) | (with_reducible refine Ext.drewN ?_ _) | (with_reducible refine Ext.setCell ?_ (by simp; try omega) _) | (with_reducible refine Ext.setRow ?_ (by simp; try omega) _)))).mono ?_
    rintro e w1 ⟨rfl, hxw1⟩
    have X_w1 := At.ext (g := w.heap.size) (t := 27) (cs := #[.slice x.A x.l.length x.c, .slice x.B x.t.length x.d, .int .i64 x.ix, .int .i64 x.f1, .int .i64 x.f2, .int .i64 x.f3, .int .i64 x.h1, .int .i64 x.h2]) (by repeat (first | (with_reducible exact At.new _ _ _) | ((with_reducible refine At.new' _ _ _ _ ?_); simp; done) | (with_reducible assumption) | (with_reducible refine At.drew ?_) | (with_reducible refine At.alloc ?_ _) | (with_reducible apply At.upd) | (with_reducible apply At.setRow) | (with_reducible refine At.rowFar ?_ (by first | (simp; done) | (simp; omega) | omega) _) | ((with_reducible refine At.far ?_ (by first | (simp; done) | (simp; omega) | omega) _)) | (with_reducible rfl) | (simp; done))) hxw1
    have xw1 : Ext w w1 := Ext.trans (by repeat (first | (with_reducible exact Ext.refl _) | (with_reducible assumption) | (with_reducible refine Ext.alloc ?_ _) | (with_reducible refine Ext.drew ?_) | (with_reducible refine Ext.drewN ?_ _) | (with_reducible refine Ext.setCell ?_ (by simp; try omega) _) | (with_reducible refine Ext.setRow ?_ (by simp; try omega) _))) hxw1
    clear hxw1
    have s_X_w1 := X_w1.lt
    have e_X_w1 := cellsAt_at X_w1
    go_wp2_with fail
    refine (HC2.out _).mono ?_
    rintro e w2 ⟨rfl, hxw2⟩
    have X_w2 := At.ext (g := w.heap.size) (t := 27) (cs := #[.slice x.A x.l.length x.c, .slice x.B x.t.length x.d, .int .i64 x.ix, .int .i64 x.f1, .int .i64 x.f2, .int .i64 x.f3, .int .i64 x.h1, .int .i64 x.h2]) (by repeat (first | (with_reducible exact At.new _ _ _) | ((with_reducible refine At.new' _ _ _ _ ?_); simp; done) | (with_reducible assumption) | (with_reducible refine At.drew ?_) | (with_reducible refine At.alloc ?_ _) | (with_reducible apply At.upd) | (with_reducible apply At.setRow) | (with_reducible refine At.rowFar ?_ (by first | (simp; done) | (simp; omega) | omega) _) | ((with_reducible refine At.far ?_ (by first | (simp; done) | (simp; omega) | omega) _)) | (with_reducible rfl) | (simp; done))) hxw2
    have xw2 : Ext w w2 := Ext.trans (by repeat (first | (with_reducible exact Ext.refl _) | (with_reducible assumption) | (with_reducible refine Ext.alloc ?_ _) | (with_reducible refine Ext.drew ?_) | (with_reducible refine Ext.drewN ?_ _) | (with_reducible refine Ext.setCell ?_ (by simp; try omega) _) | (with_reducible refine Ext.setRow ?_ (by simp; try omega) _))) hxw2
    clear X_w1 s_X_w1 e_X_w1 hxw2 xw1
    have s_X_w2 := X_w2.lt
    have e_X_w2 := cellsAt_at X_w2
    go_wp2_with fail
    first | refine fin_ret rfl (fun K hK => ?_) | refine fin_norm rfl (fun K hK => ?_)
    simp [results, Try.results6, go_sem, rsat]
    try go_simp
    refine hK _ ?_
    clear hK K
    exact ⟨rfl, (by repeat (first | (with_reducible exact Ext.refl _) | (with_reducible assumption) | (with_reducible refine Ext.alloc ?_ _) | (with_reducible refine Ext.drew ?_) | (with_reducible refine Ext.drewN ?_ _) | (with_reducible refine Ext.setCell ?_ (by simp; try omega) _) | (with_reducible refine Ext.setRow ?_ (by simp; try omega) _)))⟩
theorem right_fine {x : Cfg} (h : right23 x = true) : x.Fine := by
  unfold right23 at h
  simp only [Bool.and_eq_true, beq_iff_eq] at h
  exact fine_of h.2
set_option maxHeartbeats 2000000 in
set_option maxRecDepth 100000 in
theorem alive_c23 (w : World) : Calls Try.prog 7 #[] w fun e w' => e = .returned (.bool true) ∧ Ext w w' := by
  go_enter Try.func7, Try.ntmps7
  go_wp2_with fail
  refine (plain1_c w).mono ?_
  rintro e w1 ⟨g, c, h, rfl, _, _, _, hx1⟩
  obtain ⟨x, hx⟩ : ∃ x : Cfg, x = ⟨some ⟨g, 0, none⟩, c, [plainS], some ⟨h, 0, none⟩, 3, [⟨5, 1⟩, ⟨10, 2⟩, ⟨500, 0⟩], 10000, 700, 1300, 2000, 15, 30⟩ := ⟨_, rfl⟩
  have hv : (#[.slice (some ⟨g, 0, none⟩) 1 c, .slice (some ⟨h, 0, none⟩) 3 3, .int .i64 10000, .int .i64 700, .int .i64 1300, .int .i64 2000, .int .i64 15, .int .i64 30] : Array Value) = #[.slice x.A x.l.length x.c, .slice x.B x.t.length x.d, .int .i64 x.ix, .int .i64 x.f1, .int .i64 x.f2, .int .i64 x.f3, .int .i64 x.h1, .int .i64 x.h2] := by rw [hx]; rfl
  have hF : x.Fine := by rw [hx]; constructor <;> simp
  have l1 : levelI x 9300 = 1 := by rw [hx]; rfl
  have l2 : levelI x 9301 = 0 := by rw [hx]; rfl
  have i1 : idxI x ⟨false, false, 0, false⟩ 5 9300 = (⟨true, false, 20, false⟩, 1) := by rw [hx]; rfl
  have C1 := bindex_c x hF ⟨false, false, 0, false⟩ 5 9300 ⟨by decide, by decide⟩ ⟨by decide, by decide⟩
  rw [i1] at C1
  simp only at C1
  have C2 := level_c x hF 9300 ⟨by decide, by decide⟩
  have C3 := level_c x hF 9301 ⟨by decide, by decide⟩
  rw [l1] at C2
  rw [l2] at C3
  have C4 := halted_c true false false 20 19
  rw [show haltedB false 20 19 = true by decide] at C4
  have HC1 := Lib.hid C1
  have HC2 := Lib.hid C2
  have HC3 := Lib.hid C3
  have HC4 := Lib.hid C4
  clear C1 C2 C3 C4 l1 l2 i1 hF
  rw [hv]
  clear hv hx
  go_wp2_with fail
  refine (HC1.out _).mono ?_
  rintro e w2 ⟨rfl, hxw2⟩
  have xw1 := hx1
  have xw2 : Ext w w2 := Ext.trans (by repeat (first | (with_reducible exact Ext.refl _) | (with_reducible assumption) | (with_reducible refine Ext.alloc ?_ _) | (with_reducible refine Ext.drew ?_) | (with_reducible refine Ext.drewN ?_ _) | (with_reducible refine Ext.setCell ?_ (by simp; try omega) _) | (with_reducible refine Ext.setRow ?_ (by simp; try omega) _))) hxw2
  have X2 : At w2 w1.heap.size 27 #[.slice x.A x.l.length x.c, .slice x.B x.t.length x.d, .int .i64 x.ix, .int .i64 x.f1, .int .i64 x.f2, .int .i64 x.f3, .int .i64 x.h1, .int .i64 x.h2] := At.ext (by repeat (first | (with_reducible exact At.new _ _ _) | ((with_reducible refine At.new' _ _ _ _ ?_); simp; done) | (with_reducible assumption) | (with_reducible refine At.drew ?_) | (with_reducible refine At.alloc ?_ _) | (with_reducible apply At.upd) | (with_reducible apply At.setRow) | (with_reducible refine At.rowFar ?_ (by first | (simp; done) | (simp; omega) | omega) _) | ((with_reducible refine At.far ?_ (by first | (simp; done) | (simp; omega) | omega) _)) | (with_reducible rfl) | (simp; done))) hxw2
  have e2 := cellsAt_at X2
  have s2 := X2.lt
  go_wp2_with fail
  obtain ⟨w3, hw3⟩ : ∃ w3 : World, w3 = w2.alloc (.cells #[.bool true, .bool false, .int .i64 20, .bool false] 33) := ⟨_, rfl⟩
  have xw3 : Ext w w3 := by rw [hw3]; exact xw2.alloc _
  have X3 : At w3 w1.heap.size 27 #[.slice x.A x.l.length x.c, .slice x.B x.t.length x.d, .int .i64 x.ix, .int .i64 x.f1, .int .i64 x.f2, .int .i64 x.f3, .int .i64 x.h1, .int .i64 x.h2] := by rw [hw3]; exact X2.alloc _
  have A3 : At w3 w2.heap.size 33 #[.bool true, .bool false, .int .i64 20, .bool false] := by rw [hw3]; exact At.new _ _ _
  rw [← hw3]
  clear hw3 X2 e2
  generalize w2.heap.size = g2 at *
  refine (HC2.out _).mono ?_
  rintro e w4 ⟨rfl, hx4⟩
  have X4 := X3.ext hx4
  have A4 := A3.ext hx4
  have e4 := cellsAt_at X4
  have s4 := X4.lt
  go_wp2_with fail
  refine (HC3.out _).mono ?_
  rintro e w5 ⟨rfl, hx5⟩
  have A5 := A4.ext hx5
  have c_A5_0 := A5.cell 0
  have f_A5_0 := A5.frozen 0
  simp only [List.getElem?_toArray, List.getElem?_cons_zero, List.getElem?_cons_succ] at c_A5_0
  have c_A5_1 := A5.cell 1
  have f_A5_1 := A5.frozen 1
  simp only [List.getElem?_toArray, List.getElem?_cons_zero, List.getElem?_cons_succ] at c_A5_1
  have c_A5_2 := A5.cell 2
  have f_A5_2 := A5.frozen 2
  simp only [List.getElem?_toArray, List.getElem?_cons_zero, List.getElem?_cons_succ] at c_A5_2
  have c_A5_3 := A5.cell 3
  have f_A5_3 := A5.frozen 3
  simp only [List.getElem?_toArray, List.getElem?_cons_zero, List.getElem?_cons_succ] at c_A5_3
  have s_A5 := A5.lt
  go_wp2_with fail
  refine (HC4.out _).mono ?_
  rintro e w6 ⟨rfl, hx6⟩
  go_wp2_with fail
  first | refine fin_ret rfl (fun K hK => ?_) | refine fin_norm rfl (fun K hK => ?_)
  simp [results, Try.results7, go_sem, rsat]
  try go_simp
  refine hK _ ?_
  clear hK K
  exact ⟨rfl, ((xw3.trans hx4).trans hx5).trans hx6⟩
theorem lev_mono {F G p1 p2 p3 : Int} (h : F ≤ G) (a : p1 < p2) (b : p2 < p3) : levF F p1 p2 p3 ≤ levF G p1 p2 p3 := by
  unfold levF
  repeat' split
  all_goals omega
theorem level_mono {x : Cfg} (hF : x.Fine) {a b : Int} (h1 : 1 ≤ a) (h2 : a ≤ b) (h3 : b ≤ 1099511627776) : levelI x b ≤ levelI x a := by
  unfold levelI
  rw [if_neg (by omega), if_neg (by omega)]
  obtain ⟨l1, l2⟩ := prod_lt hF
  exact lev_mono (by omega) l1 l2
theorem level_ix {x : Cfg} (hF : x.Fine) : levelI x x.ix = 0 := by
  have hix := hF.ix
  unfold levelI levF
  rw [if_neg (by omega), Int.sub_self, Int.zero_mul]
  have b1 := fall_bd hF.ix hF.f1
  have b2 := fall_bd hF.ix hF.f2
  have b3 := fall_bd hF.ix hF.f3
  rw [if_neg (by omega), if_neg (by omega), if_neg (by omega)]
set_option maxHeartbeats 2000000 in
set_option maxRecDepth 100000 in
theorem breakerfalls_c (x : Cfg) (a b : Int) (ha : I64 a) (hb : I64 b) (w : World) (h : x.At w) : Calls Try.prog 5 #[x.v, .int .i64 a, .int .i64 b] w fun e w' => e = .returned (.bool true) ∧ Ext w w' := by
  unfold Cfg.v
  have C1 := fun W hx => right23_c x W (h.ext hx)
  cases hr : right23 x with
  | false =>
    rw [hr] at C1
    have HC1 := Lib.hid C1
    clear C1
    go_enter Try.func5, Try.ntmps5
    go_wp2_with fail
    refine (HC1.out _ (by repeat (first | (with_reducible exact Ext.refl _) | (with_reducible assumption) | (with_reducible refine Ext.alloc ?_ _) | (with_reducible refine Ext.drew ?_) | (with_reducible refine Ext.drewN ?_ _) | (with_reducible refine Ext.setCell ?_ (by simp; try omega) _) | (with_reducible refine Ext.setRow ?_ (by simp; try omega) _)))).mono ?_
    rintro e w1 ⟨rfl, hx1⟩
    go_wp2_with fail
    refine (alive_c23 _).mono ?_
    rintro e w2 ⟨rfl, hx2⟩
    go_wp2_with fail
    first | refine fin_ret rfl (fun K hK => ?_) | refine fin_norm rfl (fun K hK => ?_)
    simp [results, Try.results5, go_sem, rsat]
    try go_simp
    refine hK _ ?_
    clear hK K
    exact ⟨rfl, (Ext.trans (by repeat (first | (with_reducible exact Ext.refl _) | (with_reducible assumption) | (with_reducible refine Ext.alloc ?_ _) | (with_reducible refine Ext.drew ?_) | (with_reducible refine Ext.drewN ?_ _) | (with_reducible refine Ext.setCell ?_ (by simp; try omega) _) | (with_reducible refine Ext.setRow ?_ (by simp; try omega) _))) hx1).trans hx2⟩
  | true =>
    rw [hr] at C1
    have hF := right_fine hr
    have HC1 := Lib.hid C1
    clear C1 hr
    have early : ∀ w2 : World, Ext w w2 → Calls Try.prog 7 #[] w2 fun e w' => e = .returned (.bool true) ∧ Ext w2 w' := fun w2 _ => alive_c23 w2
    by_cases h1 : a < 1
    ·
      go_enter Try.func5, Try.ntmps5
      go_wp2_with fail
      refine (HC1.out _ (by repeat (first | (with_reducible exact Ext.refl _) | (with_reducible assumption) | (with_reducible refine Ext.alloc ?_ _) | (with_reducible refine Ext.drew ?_) | (with_reducible refine Ext.drewN ?_ _) | (with_reducible refine Ext.setCell ?_ (by simp; try omega) _) | (with_reducible refine Ext.setRow ?_ (by simp; try omega) _)))).mono ?_
      rintro e w1 ⟨rfl, hx1⟩
      go_wp2_with fail
      refine (alive_c23 _).mono ?_
      rintro e w2 ⟨rfl, hx2⟩
      go_wp2_with fail
      first | refine fin_ret rfl (fun K hK => ?_) | refine fin_norm rfl (fun K hK => ?_)
      simp [results, Try.results5, go_sem, rsat]
      try go_simp
      refine hK _ ?_
      clear hK K
      exact ⟨rfl, (Ext.trans (by repeat (first | (with_reducible exact Ext.refl _) | (with_reducible assumption) | (with_reducible refine Ext.alloc ?_ _) | (with_reducible refine Ext.drew ?_) | (with_reducible refine Ext.drewN ?_ _) | (with_reducible refine Ext.setCell ?_ (by simp; try omega) _) | (with_reducible refine Ext.setRow ?_ (by simp; try omega) _))) hx1).trans hx2⟩
    by_cases h2 : b < a
    ·
      go_enter Try.func5, Try.ntmps5
      go_wp2_with fail
      refine (HC1.out _ (by repeat (first | (with_reducible exact Ext.refl _) | (with_reducible assumption) | (with_reducible refine Ext.alloc ?_ _) | (with_reducible refine Ext.drew ?_) | (with_reducible refine Ext.drewN ?_ _) | (with_reducible refine Ext.setCell ?_ (by simp; try omega) _) | (with_reducible refine Ext.setRow ?_ (by simp; try omega) _)))).mono ?_
      rintro e w1 ⟨rfl, hx1⟩
      go_wp2_with fail
      refine (alive_c23 _).mono ?_
      rintro e w2 ⟨rfl, hx2⟩
      go_wp2_with fail
      first | refine fin_ret rfl (fun K hK => ?_) | refine fin_norm rfl (fun K hK => ?_)
      simp [results, Try.results5, go_sem, rsat]
      try go_simp
      refine hK _ ?_
      clear hK K
      exact ⟨rfl, (Ext.trans (by repeat (first | (with_reducible exact Ext.refl _) | (with_reducible assumption) | (with_reducible refine Ext.alloc ?_ _) | (with_reducible refine Ext.drew ?_) | (with_reducible refine Ext.drewN ?_ _) | (with_reducible refine Ext.setCell ?_ (by simp; try omega) _) | (with_reducible refine Ext.setRow ?_ (by simp; try omega) _))) hx1).trans hx2⟩
    by_cases h3 : 1099511627776 < b
    ·
      go_enter Try.func5, Try.ntmps5
      go_wp2_with fail
      refine (HC1.out _ (by repeat (first | (with_reducible exact Ext.refl _) | (with_reducible assumption) | (with_reducible refine Ext.alloc ?_ _) | (with_reducible refine Ext.drew ?_) | (with_reducible refine Ext.drewN ?_ _) | (with_reducible refine Ext.setCell ?_ (by simp; try omega) _) | (with_reducible refine Ext.setRow ?_ (by simp; try omega) _)))).mono ?_
      rintro e w1 ⟨rfl, hx1⟩
      go_wp2_with fail
      refine (alive_c23 _).mono ?_
      rintro e w2 ⟨rfl, hx2⟩
      go_wp2_with fail
      first | refine fin_ret rfl (fun K hK => ?_) | refine fin_norm rfl (fun K hK => ?_)
      simp [results, Try.results5, go_sem, rsat]
      try go_simp
      refine hK _ ?_
      clear hK K
      exact ⟨rfl, (Ext.trans (by repeat (first | (with_reducible exact Ext.refl _) | (with_reducible assumption) | (with_reducible refine Ext.alloc ?_ _) | (with_reducible refine Ext.drew ?_) | (with_reducible refine Ext.drewN ?_ _) | (with_reducible refine Ext.setCell ?_ (by simp; try omega) _) | (with_reducible refine Ext.setRow ?_ (by simp; try omega) _))) hx1).trans hx2⟩
    have hix := hF.ix
    have C2 := level_c x hF a ha
    have C3 := level_c x hF b hb
    have C4 := level_c x hF x.ix ⟨by omega, by omega⟩
    rw [level_ix hF] at C4
    have hm := level_mono hF (a := a) (b := b) (by omega) (by omega) (by omega)
    generalize levelI x a = la at C2 hm
    generalize levelI x b = lb at C3 hm
    have HC2 := Lib.hid C2
    have HC3 := Lib.hid C3
    have HC4 := Lib.hid C4
    have hmd : decide (lb ≤ la) = true := decide_eq_true hm
    clear C2 C3 C4 early
    go_enter Try.func5, Try.ntmps5
    go_wp2_with fail
    refine (HC1.out _ (by repeat (first | (with_reducible exact Ext.refl _) | (with_reducible assumption) | (with_reducible refine Ext.alloc ?_ _) | (with_reducible refine Ext.drew ?_) | (with_reducible refine Ext.drewN ?_ _) | (with_reducible refine Ext.setCell ?_ (by simp; try omega) _) | (with_reducible refine Ext.setRow ?_ (by simp; try omega) _)))).mono ?_
    rintro e w1 ⟨rfl, hxw1⟩
    have X_w1 := At.ext (g := w.heap.size) (t := 27) (cs := #[.slice x.A x.l.length x.c, .slice x.B x.t.length x.d, .int .i64 x.ix, .int .i64 x.f1, .int .i64 x.f2, .int .i64 x.f3, .int .i64 x.h1, .int .i64 x.h2]) (by repeat (first | (with_reducible exact At.new _ _ _) | ((with_reducible refine At.new' _ _ _ _ ?_); simp; done) | (with_reducible assumption) | (with_reducible refine At.drew ?_) | (with_reducible refine At.alloc ?_ _) | (with_reducible apply At.upd) | (with_reducible apply At.setRow) | (with_reducible refine At.rowFar ?_ (by first | (simp; done) | (simp; omega) | omega) _) | ((with_reducible refine At.far ?_ (by first | (simp; done) | (simp; omega) | omega) _)) | (with_reducible rfl) | (simp; done))) hxw1
    have xw1 : Ext w w1 := Ext.trans (by repeat (first | (with_reducible exact Ext.refl _) | (with_reducible assumption) | (with_reducible refine Ext.alloc ?_ _) | (with_reducible refine Ext.drew ?_) | (with_reducible refine Ext.drewN ?_ _) | (with_reducible refine Ext.setCell ?_ (by simp; try omega) _) | (with_reducible refine Ext.setRow ?_ (by simp; try omega) _))) hxw1
    clear hxw1
    have s_X_w1 := X_w1.lt
    have e_X_w1 := cellsAt_at X_w1
    go_wp2_with fail
    refine wp_region_x 18 [1, 0, 1, 1, 0, 1, 0, 0, 1, 0, 1, 1, 0, 0, 0, 1, 0, 0] (by kernel_rfl) (by kernel_rfl) (by kernel_rfl) ?_
    simp only [List.take_succ_cons, List.take_zero, List.drop_succ_cons, List.drop_zero]
    refine hl_quiet (fun K hK => ?_)
    go_simp
    refine hK _ ?_
    clear hK K
    refine hl_pure (fun K hK => ?_)
    go_simp
    refine hK _ ?_
    clear hK K
    refine hl_quiet (fun K hK => ?_)
    go_simp
    first
      | (refine hK _ ?_; clear hK K)
      | (apply Exists.intro; refine ⟨fun x => ?_, hK _ ?_⟩
         · (exact HC2.out _)
         clear hK K)
    refine hl_quiet (fun K hK => ?_)
    go_simp
    refine hK _ ?_
    clear hK K
    refine hl_pure (fun K hK => ?_)
    go_simp
    refine hK _ ?_
    clear hK K
    refine hl_quiet (fun K hK => ?_)
    go_simp
    first
      | (refine hK _ ?_; clear hK K)
      | (apply Exists.intro; refine ⟨fun x => ?_, hK _ ?_⟩
         · (exact HC3.out _)
         clear hK K)
    refine hl_pure (fun K hK => ?_)
    go_simp
    refine hK _ ?_
    clear hK K
    refine hl_pure (fun K hK => ?_)
    go_simp
    refine hK _ ?_
    clear hK K
    refine hl_quiet (fun K hK => ?_)
    go_simp
    refine hK _ ?_
    clear hK K
    refine hl_pure (fun K hK => ?_)
    go_simp
    refine hK _ ?_
    clear hK K
    refine hl_quiet (fun K hK => ?_)
    go_simp
    refine hK _ ?_
    clear hK K
    refine hl_quiet (fun K hK => ?_)
    go_simp
    first
      | (refine hK _ ?_; clear hK K)
      | (apply Exists.intro; refine ⟨fun x => ?_, hK _ ?_⟩
         · (exact HC4.out _)
         clear hK K)
    refine hl_pure (fun K hK => ?_)
    go_simp
    refine hK _ ?_
    clear hK K
    refine hl_pure (fun K hK => ?_)
    go_simp
    refine hK _ ?_
    clear hK K
    refine hl_pure (fun K hK => ?_)
    go_simp
    refine hK _ ?_
    clear hK K
    refine hl_quiet (fun K hK => ?_)
    go_simp
    first
      | (refine hK _ ?_; clear hK K)
      | (apply Exists.intro; refine ⟨fun x => ?_, hK _ ?_⟩
         · (exact alive_c23 _)
         clear hK K)
    refine hl_pure (fun K hK => ?_)
    go_simp
    refine hK _ ?_
    clear hK K
    refine hl_pure (fun K hK => ?_)
    go_simp
    refine hK _ ?_
    clear hK K
    refine hl_nil ?_
    intro w3 hxw3 K hK
    have xw3 : Ext w w3 := Ext.trans (by repeat (first | (with_reducible exact Ext.refl _) | (with_reducible assumption) | (with_reducible refine Ext.alloc ?_ _) | (with_reducible refine Ext.drew ?_) | (with_reducible refine Ext.drewN ?_ _) | (with_reducible refine Ext.setCell ?_ (by simp; try omega) _) | (with_reducible refine Ext.setRow ?_ (by simp; try omega) _))) hxw3
    obtain ⟨hcw3, hfw3⟩ := hxw3.facts
    have hsw3 := hxw3.size
    try simp only [World.size_drew, World.size_alloc, World.size_setCell] at hsw3 hcw3 hfw3
    go_wp2_with fail
    first | refine fin_ret rfl (fun K hK => ?_) | refine fin_norm rfl (fun K hK => ?_)
    simp [results, Try.results5, go_sem, rsat]
    try go_simp
    refine hK _ ?_
    clear hK K
    exact ⟨rfl, (by repeat (first | (with_reducible exact Ext.refl _) | (with_reducible assumption) | (with_reducible refine Ext.alloc ?_ _) | (with_reducible refine Ext.drew ?_) | (with_reducible refine Ext.drewN ?_ _) | (with_reducible refine Ext.setCell ?_ (by simp; try omega) _) | (with_reducible refine Ext.setRow ?_ (by simp; try omega) _)))⟩
end Go.Proofs.Ytdefimhdjllfaaa
