/- Halts of the market (layer 23), 3: Index. Condition: a right configuration, ticks up to 2^60. -/
import Derived.Test.YtdefimhdjllfaaaBr2
namespace Go.Proofs.Ytdefimhdjllfaaa
open Go.RowKit
attribute [local go_sem] Later.cell QUpon_value QUpon_enter MUpon_value
attribute [local go_sem ↓ high] loadSym_is storeSym_is loadCfg_is storeCfg_is
attribute [local go_sem] run_loadSym run_loadSym_at run_storeSym run_loadCfg run_loadCfg_at run_storeCfg one_int one_bool one_slice one_ptr one_str setRow_new setRow_past cell_ca frozen_ca cellsAt_alloc_at cellsAt_alloc_past cellsAt_drew cellsAt_later cellsAt_setCell cellsAt_set_same cellsAt_setRow_same cellsAt_setRow_far subAt_alloc subAt_drew subAt_later subAt_setCell subAt_setRow ltn_2 ltn_3 ltn_4 ltn_5
theorem arr2_in (a b : Bool) (w : World) : (Op.equalIn 10000 31 (.agg #[.bool a, .bool b]) (.agg #[.bool true, .bool true])).run Try.prog w = .ok (a && b) w := by
  cases a <;> cases b <;> kernel_rfl
attribute [local go_sem] arr2_in
structure Bst where
  u0 : Bool
  u1 : Bool
  un : Int
  sh : Bool
def idxI (x : Cfg) (s : Bst) (t i : Int) : Bst × Int :=
  if s.sh = true then (s, 0) else if levelI x i = 3 then (⟨s.u0, s.u1, 0, true⟩, 3) else if t < s.un ∨ levelI x i = 0 then (s, 0) else if levelI x i = 2 ∧ s.u1 = false then (⟨true, true, t + x.h2, s.sh⟩, 2) else if s.u0 = false then (⟨true, s.u1, t + x.h1, s.sh⟩, 1) else (s, 0)
set_option maxHeartbeats 4000000 in
set_option maxRecDepth 100000 in
theorem bindex_c (x : Cfg) (hF : x.Fine) (s : Bst) (t i : Int) (ht : 0 ≤ t ∧ t ≤ 1152921504606846976) (hi : I64 i) (w : World) : Calls Try.prog 8 #[.agg #[.slice x.A x.l.length x.c, .slice x.B x.t.length x.d, .int .i64 x.ix, .int .i64 x.f1, .int .i64 x.f2, .int .i64 x.f3, .int .i64 x.h1, .int .i64 x.h2], .agg #[.bool s.u0, .bool s.u1, .int .i64 s.un, .bool s.sh], .int .i64 t, .int .i64 i] w fun e w' => e = .returned (.tuple #[.agg #[.bool (idxI x s t i).1.u0, .bool (idxI x s t i).1.u1, .int .i64 (idxI x s t i).1.un, .bool (idxI x s t i).1.sh], .int .i64 (idxI x s t i).2]) ∧ Ext w w' := by
  obtain ⟨u0, u1, un, sh⟩ := s
  have CL := level_c x hF i hi
  have CH := fun b0 b1 => halted_c b0 b1 sh un t
  have C1 := fun b0 b1 => halt1_c x hF b0 b1 sh un t ht
  have C2 := fun b0 b1 => halt2_c x hF b0 b1 sh un t ht
  have iw0 : IntKind.i64.wrap 0 = 0 := by decide
  have iw1 : IntKind.i64.wrap 1 = 1 := by decide
  have hL := levelI_4 x i
  have hdef : idxI x ⟨u0, u1, un, sh⟩ t i = (if sh = true then (⟨u0, u1, un, sh⟩, 0) else if levelI x i = 3 then (⟨u0, u1, 0, true⟩, 3) else if t < un ∨ levelI x i = 0 then (⟨u0, u1, un, sh⟩, 0) else if levelI x i = 2 ∧ u1 = false then (⟨true, true, t + x.h2, sh⟩, 2) else if u0 = false then (⟨true, u1, t + x.h1, sh⟩, 1) else (⟨u0, u1, un, sh⟩, 0)) := rfl
  rw [hdef]
  clear hdef
  generalize levelI x i = L at CL hL ⊢
  cases sh
  · rcases hL with rfl | rfl | rfl | rfl
    · simp only [Bool.false_eq_true, if_false, if_true, or_true, show ((0 : Int) = 3) = False by simp]
      unfold haltedB at CH
      by_cases hh : t < un
      · simp only [hh, decide_true, Bool.not_false, Bool.true_and] at CH
        have HCL := Lib.hid CL
        have HCH := Lib.hid CH
        have HC1 := Lib.hid C1
        have HC2 := Lib.hid C2
        clear CL CH C1 C2
        go_enter Try.func8, Try.ntmps8
        go_wp2_with fail
        refine (HCL.out _).mono ?_
        rintro e w1 ⟨rfl, hxw1⟩
        have xw1 : Ext w w1 := Ext.trans (by repeat (first | (with_reducible exact Ext.refl _) | (with_reducible assumption) | (with_reducible refine Ext.alloc ?_ _) | (with_reducible refine Ext.drew ?_) | (with_reducible refine Ext.drewN ?_ _) | (with_reducible refine Ext.setCell ?_ (by simp; try omega) _) | (with_reducible refine Ext.setRow ?_ (by simp; try omega) _))) hxw1
        have lw1 := xw1.size
        have X_w1 := At.ext (g := w.heap.size) (t := 27) (cs := #[.slice x.A x.l.length x.c, .slice x.B x.t.length x.d, .int .i64 x.ix, .int .i64 x.f1, .int .i64 x.f2, .int .i64 x.f3, .int .i64 x.h1, .int .i64 x.h2]) (by repeat (first | (with_reducible exact At.new _ _ _) | ((with_reducible refine At.new' _ _ _ _ ?_); simp; done) | (with_reducible assumption) | (with_reducible refine At.drew ?_) | (with_reducible refine At.alloc ?_ _) | (with_reducible apply At.upd) | (with_reducible apply At.setRow) | (with_reducible refine At.rowFar ?_ (by first | (simp; done) | (simp; omega) | omega) _) | ((with_reducible refine At.far ?_ (by first | (simp; done) | (simp; omega) | omega) _)) | (with_reducible rfl) | (simp; done))) hxw1
        have A_w1 := At.ext (g := w.heap.size + 1) (t := 33) (cs := #[.bool u0, .bool u1, .int .i64 un, .bool false]) (by repeat (first | (with_reducible exact At.new _ _ _) | ((with_reducible refine At.new' _ _ _ _ ?_); simp; done) | (with_reducible assumption) | (with_reducible refine At.drew ?_) | (with_reducible refine At.alloc ?_ _) | (with_reducible apply At.upd) | (with_reducible apply At.setRow) | (with_reducible refine At.rowFar ?_ (by first | (simp; done) | (simp; omega) | omega) _) | ((with_reducible refine At.far ?_ (by first | (simp; done) | (simp; omega) | omega) _)) | (with_reducible rfl) | (simp; done))) hxw1
        have B_w1 := At.ext (g := w.heap.size + 1 + 1) (t := 33) (cs := #[.bool false, .bool false, .int .i64 0, .bool false]) (by repeat (first | (with_reducible exact At.new _ _ _) | ((with_reducible refine At.new' _ _ _ _ ?_); simp; done) | (with_reducible assumption) | (with_reducible refine At.drew ?_) | (with_reducible refine At.alloc ?_ _) | (with_reducible apply At.upd) | (with_reducible apply At.setRow) | (with_reducible refine At.rowFar ?_ (by first | (simp; done) | (simp; omega) | omega) _) | ((with_reducible refine At.far ?_ (by first | (simp; done) | (simp; omega) | omega) _)) | (with_reducible rfl) | (simp; done))) hxw1
        clear hxw1
        have s_X_w1 := X_w1.lt
        have e_X_w1 := cellsAt_at X_w1
        have s_A_w1 := A_w1.lt
        have c_A_w1_0 := A_w1.cell 0
        have f_A_w1_0 := A_w1.frozen 0
        have c_A_w1_1 := A_w1.cell 1
        have f_A_w1_1 := A_w1.frozen 1
        have c_A_w1_2 := A_w1.cell 2
        have f_A_w1_2 := A_w1.frozen 2
        have c_A_w1_3 := A_w1.cell 3
        have f_A_w1_3 := A_w1.frozen 3
        simp only [List.getElem?_toArray, List.getElem?_cons_zero, List.getElem?_cons_succ] at c_A_w1_0 c_A_w1_1 c_A_w1_2 c_A_w1_3
        have s_B_w1 := B_w1.lt
        have c_B_w1_0 := B_w1.cell 0
        have f_B_w1_0 := B_w1.frozen 0
        have c_B_w1_1 := B_w1.cell 1
        have f_B_w1_1 := B_w1.frozen 1
        have c_B_w1_2 := B_w1.cell 2
        have f_B_w1_2 := B_w1.frozen 2
        have c_B_w1_3 := B_w1.cell 3
        have f_B_w1_3 := B_w1.frozen 3
        simp only [List.getElem?_toArray, List.getElem?_cons_zero, List.getElem?_cons_succ] at c_B_w1_0 c_B_w1_1 c_B_w1_2 c_B_w1_3
        go_wp2_with fail
        refine (HCH.out _ _ _).mono ?_
        rintro e w2 ⟨rfl, hxw2⟩
        have X_w2 := At.ext (g := w.heap.size) (t := 27) (cs := #[.slice x.A x.l.length x.c, .slice x.B x.t.length x.d, .int .i64 x.ix, .int .i64 x.f1, .int .i64 x.f2, .int .i64 x.f3, .int .i64 x.h1, .int .i64 x.h2]) (by repeat (first | (with_reducible exact At.new _ _ _) | ((with_reducible refine At.new' _ _ _ _ ?_); simp; done) | (with_reducible assumption) | (with_reducible refine At.drew ?_) | (with_reducible refine At.alloc ?_ _) | (with_reducible apply At.upd) | (with_reducible apply At.setRow) | (with_reducible refine At.rowFar ?_ (by first | (simp; done) | (simp; omega) | omega) _) | ((with_reducible refine At.far ?_ (by first | (simp; done) | (simp; omega) | omega) _)) | (with_reducible rfl) | (simp; done))) hxw2
        have A_w2 := At.ext (g := w.heap.size + 1) (t := 33) (cs := #[.bool u0, .bool u1, .int .i64 un, .bool false]) (by repeat (first | (with_reducible exact At.new _ _ _) | ((with_reducible refine At.new' _ _ _ _ ?_); simp; done) | (with_reducible assumption) | (with_reducible refine At.drew ?_) | (with_reducible refine At.alloc ?_ _) | (with_reducible apply At.upd) | (with_reducible apply At.setRow) | (with_reducible refine At.rowFar ?_ (by first | (simp; done) | (simp; omega) | omega) _) | ((with_reducible refine At.far ?_ (by first | (simp; done) | (simp; omega) | omega) _)) | (with_reducible rfl) | (simp; done))) hxw2
        have B_w2 := At.ext (g := w.heap.size + 1 + 1) (t := 33) (cs := #[.bool false, .bool false, .int .i64 0, .bool false]) (by repeat (first | (with_reducible exact At.new _ _ _) | ((with_reducible refine At.new' _ _ _ _ ?_); simp; done) | (with_reducible assumption) | (with_reducible refine At.drew ?_) | (with_reducible refine At.alloc ?_ _) | (with_reducible apply At.upd) | (with_reducible apply At.setRow) | (with_reducible refine At.rowFar ?_ (by first | (simp; done) | (simp; omega) | omega) _) | ((with_reducible refine At.far ?_ (by first | (simp; done) | (simp; omega) | omega) _)) | (with_reducible rfl) | (simp; done))) hxw2
        have xw2 : Ext w w2 := Ext.trans (by repeat (first | (with_reducible exact Ext.refl _) | (with_reducible assumption) | (with_reducible refine Ext.alloc ?_ _) | (with_reducible refine Ext.drew ?_) | (with_reducible refine Ext.drewN ?_ _) | (with_reducible refine Ext.setCell ?_ (by simp; try omega) _) | (with_reducible refine Ext.setRow ?_ (by simp; try omega) _))) hxw2
        clear X_w1 s_X_w1 e_X_w1 A_w1 s_A_w1 c_A_w1_0 f_A_w1_0 c_A_w1_1 f_A_w1_1 c_A_w1_2 f_A_w1_2 c_A_w1_3 f_A_w1_3 B_w1 s_B_w1 c_B_w1_0 f_B_w1_0 c_B_w1_1 f_B_w1_1 c_B_w1_2 f_B_w1_2 c_B_w1_3 f_B_w1_3 hxw2 xw1
        have s_X_w2 := X_w2.lt
        have e_X_w2 := cellsAt_at X_w2
        have s_A_w2 := A_w2.lt
        have c_A_w2_0 := A_w2.cell 0
        have f_A_w2_0 := A_w2.frozen 0
        have c_A_w2_1 := A_w2.cell 1
        have f_A_w2_1 := A_w2.frozen 1
        have c_A_w2_2 := A_w2.cell 2
        have f_A_w2_2 := A_w2.frozen 2
        have c_A_w2_3 := A_w2.cell 3
        have f_A_w2_3 := A_w2.frozen 3
        simp only [List.getElem?_toArray, List.getElem?_cons_zero, List.getElem?_cons_succ] at c_A_w2_0 c_A_w2_1 c_A_w2_2 c_A_w2_3
        have s_B_w2 := B_w2.lt
        have c_B_w2_0 := B_w2.cell 0
        have f_B_w2_0 := B_w2.frozen 0
        have c_B_w2_1 := B_w2.cell 1
        have f_B_w2_1 := B_w2.frozen 1
        have c_B_w2_2 := B_w2.cell 2
        have f_B_w2_2 := B_w2.frozen 2
        have c_B_w2_3 := B_w2.cell 3
        have f_B_w2_3 := B_w2.frozen 3
        simp only [List.getElem?_toArray, List.getElem?_cons_zero, List.getElem?_cons_succ] at c_B_w2_0 c_B_w2_1 c_B_w2_2 c_B_w2_3
        go_wp2_with fail
        all_goals
          first | refine fin_ret rfl (fun K hK => ?_) | refine fin_norm rfl (fun K hK => ?_)
          simp [results, Try.results8, go_sem, rsat]
          try go_simp
          refine hK _ ?_
          clear hK K
          exact ⟨rfl, (by repeat (first | (with_reducible exact Ext.refl _) | (with_reducible assumption) | (with_reducible refine Ext.alloc ?_ _) | (with_reducible refine Ext.drew ?_) | (with_reducible refine Ext.drewN ?_ _) | (with_reducible refine Ext.setCell ?_ (by simp; try omega) _) | (with_reducible refine Ext.setRow ?_ (by simp; try omega) _)))⟩
      · simp only [hh, decide_false, Bool.and_false] at CH
        have HCL := Lib.hid CL
        have HCH := Lib.hid CH
        have HC1 := Lib.hid C1
        have HC2 := Lib.hid C2
        clear CL CH C1 C2
        go_enter Try.func8, Try.ntmps8
        go_wp2_with fail
        refine (HCL.out _).mono ?_
        rintro e w1 ⟨rfl, hxw1⟩
        have xw1 : Ext w w1 := Ext.trans (by repeat (first | (with_reducible exact Ext.refl _) | (with_reducible assumption) | (with_reducible refine Ext.alloc ?_ _) | (with_reducible refine Ext.drew ?_) | (with_reducible refine Ext.drewN ?_ _) | (with_reducible refine Ext.setCell ?_ (by simp; try omega) _) | (with_reducible refine Ext.setRow ?_ (by simp; try omega) _))) hxw1
        have lw1 := xw1.size
        have X_w1 := At.ext (g := w.heap.size) (t := 27) (cs := #[.slice x.A x.l.length x.c, .slice x.B x.t.length x.d, .int .i64 x.ix, .int .i64 x.f1, .int .i64 x.f2, .int .i64 x.f3, .int .i64 x.h1, .int .i64 x.h2]) (by repeat (first | (with_reducible exact At.new _ _ _) | ((with_reducible refine At.new' _ _ _ _ ?_); simp; done) | (with_reducible assumption) | (with_reducible refine At.drew ?_) | (with_reducible refine At.alloc ?_ _) | (with_reducible apply At.upd) | (with_reducible apply At.setRow) | (with_reducible refine At.rowFar ?_ (by first | (simp; done) | (simp; omega) | omega) _) | ((with_reducible refine At.far ?_ (by first | (simp; done) | (simp; omega) | omega) _)) | (with_reducible rfl) | (simp; done))) hxw1
        have A_w1 := At.ext (g := w.heap.size + 1) (t := 33) (cs := #[.bool u0, .bool u1, .int .i64 un, .bool false]) (by repeat (first | (with_reducible exact At.new _ _ _) | ((with_reducible refine At.new' _ _ _ _ ?_); simp; done) | (with_reducible assumption) | (with_reducible refine At.drew ?_) | (with_reducible refine At.alloc ?_ _) | (with_reducible apply At.upd) | (with_reducible apply At.setRow) | (with_reducible refine At.rowFar ?_ (by first | (simp; done) | (simp; omega) | omega) _) | ((with_reducible refine At.far ?_ (by first | (simp; done) | (simp; omega) | omega) _)) | (with_reducible rfl) | (simp; done))) hxw1
        have B_w1 := At.ext (g := w.heap.size + 1 + 1) (t := 33) (cs := #[.bool false, .bool false, .int .i64 0, .bool false]) (by repeat (first | (with_reducible exact At.new _ _ _) | ((with_reducible refine At.new' _ _ _ _ ?_); simp; done) | (with_reducible assumption) | (with_reducible refine At.drew ?_) | (with_reducible refine At.alloc ?_ _) | (with_reducible apply At.upd) | (with_reducible apply At.setRow) | (with_reducible refine At.rowFar ?_ (by first | (simp; done) | (simp; omega) | omega) _) | ((with_reducible refine At.far ?_ (by first | (simp; done) | (simp; omega) | omega) _)) | (with_reducible rfl) | (simp; done))) hxw1
        clear hxw1
        have s_X_w1 := X_w1.lt
        have e_X_w1 := cellsAt_at X_w1
        have s_A_w1 := A_w1.lt
        have c_A_w1_0 := A_w1.cell 0
        have f_A_w1_0 := A_w1.frozen 0
        have c_A_w1_1 := A_w1.cell 1
        have f_A_w1_1 := A_w1.frozen 1
        have c_A_w1_2 := A_w1.cell 2
        have f_A_w1_2 := A_w1.frozen 2
        have c_A_w1_3 := A_w1.cell 3
        have f_A_w1_3 := A_w1.frozen 3
        simp only [List.getElem?_toArray, List.getElem?_cons_zero, List.getElem?_cons_succ] at c_A_w1_0 c_A_w1_1 c_A_w1_2 c_A_w1_3
        have s_B_w1 := B_w1.lt
        have c_B_w1_0 := B_w1.cell 0
        have f_B_w1_0 := B_w1.frozen 0
        have c_B_w1_1 := B_w1.cell 1
        have f_B_w1_1 := B_w1.frozen 1
        have c_B_w1_2 := B_w1.cell 2
        have f_B_w1_2 := B_w1.frozen 2
        have c_B_w1_3 := B_w1.cell 3
        have f_B_w1_3 := B_w1.frozen 3
        simp only [List.getElem?_toArray, List.getElem?_cons_zero, List.getElem?_cons_succ] at c_B_w1_0 c_B_w1_1 c_B_w1_2 c_B_w1_3
        go_wp2_with fail
        refine (HCH.out _ _ _).mono ?_
        rintro e w2 ⟨rfl, hxw2⟩
        have X_w2 := At.ext (g := w.heap.size) (t := 27) (cs := #[.slice x.A x.l.length x.c, .slice x.B x.t.length x.d, .int .i64 x.ix, .int .i64 x.f1, .int .i64 x.f2, .int .i64 x.f3, .int .i64 x.h1, .int .i64 x.h2]) (by repeat (first | (with_reducible exact At.new _ _ _) | ((with_reducible refine At.new' _ _ _ _ ?_); simp; done) | (with_reducible assumption) | (with_reducible refine At.drew ?_) | (with_reducible refine At.alloc ?_ _) | (with_reducible apply At.upd) | (with_reducible apply At.setRow) | (with_reducible refine At.rowFar ?_ (by first | (simp; done) | (simp; omega) | omega) _) | ((with_reducible refine At.far ?_ (by first | (simp; done) | (simp; omega) | omega) _)) | (with_reducible rfl) | (simp; done))) hxw2
        have A_w2 := At.ext (g := w.heap.size + 1) (t := 33) (cs := #[.bool u0, .bool u1, .int .i64 un, .bool false]) (by repeat (first | (with_reducible exact At.new _ _ _) | ((with_reducible refine At.new' _ _ _ _ ?_); simp; done) | (with_reducible assumption) | (with_reducible refine At.drew ?_) | (with_reducible refine At.alloc ?_ _) | (with_reducible apply At.upd) | (with_reducible apply At.setRow) | (with_reducible refine At.rowFar ?_ (by first | (simp; done) | (simp; omega) | omega) _) | ((with_reducible refine At.far ?_ (by first | (simp; done) | (simp; omega) | omega) _)) | (with_reducible rfl) | (simp; done))) hxw2
        have B_w2 := At.ext (g := w.heap.size + 1 + 1) (t := 33) (cs := #[.bool false, .bool false, .int .i64 0, .bool false]) (by repeat (first | (with_reducible exact At.new _ _ _) | ((with_reducible refine At.new' _ _ _ _ ?_); simp; done) | (with_reducible assumption) | (with_reducible refine At.drew ?_) | (with_reducible refine At.alloc ?_ _) | (with_reducible apply At.upd) | (with_reducible apply At.setRow) | (with_reducible refine At.rowFar ?_ (by first | (simp; done) | (simp; omega) | omega) _) | ((with_reducible refine At.far ?_ (by first | (simp; done) | (simp; omega) | omega) _)) | (with_reducible rfl) | (simp; done))) hxw2
        have xw2 : Ext w w2 := Ext.trans (by repeat (first | (with_reducible exact Ext.refl _) | (with_reducible assumption) | (with_reducible refine Ext.alloc ?_ _) | (with_reducible refine Ext.drew ?_) | (with_reducible refine Ext.drewN ?_ _) | (with_reducible refine Ext.setCell ?_ (by simp; try omega) _) | (with_reducible refine Ext.setRow ?_ (by simp; try omega) _))) hxw2
        clear X_w1 s_X_w1 e_X_w1 A_w1 s_A_w1 c_A_w1_0 f_A_w1_0 c_A_w1_1 f_A_w1_1 c_A_w1_2 f_A_w1_2 c_A_w1_3 f_A_w1_3 B_w1 s_B_w1 c_B_w1_0 f_B_w1_0 c_B_w1_1 f_B_w1_1 c_B_w1_2 f_B_w1_2 c_B_w1_3 f_B_w1_3 hxw2 xw1
        have s_X_w2 := X_w2.lt
        have e_X_w2 := cellsAt_at X_w2
        have s_A_w2 := A_w2.lt
        have c_A_w2_0 := A_w2.cell 0
        have f_A_w2_0 := A_w2.frozen 0
        have c_A_w2_1 := A_w2.cell 1
        have f_A_w2_1 := A_w2.frozen 1
        have c_A_w2_2 := A_w2.cell 2
        have f_A_w2_2 := A_w2.frozen 2
        have c_A_w2_3 := A_w2.cell 3
        have f_A_w2_3 := A_w2.frozen 3
        simp only [List.getElem?_toArray, List.getElem?_cons_zero, List.getElem?_cons_succ] at c_A_w2_0 c_A_w2_1 c_A_w2_2 c_A_w2_3
        have s_B_w2 := B_w2.lt
        have c_B_w2_0 := B_w2.cell 0
        have f_B_w2_0 := B_w2.frozen 0
        have c_B_w2_1 := B_w2.cell 1
        have f_B_w2_1 := B_w2.frozen 1
        have c_B_w2_2 := B_w2.cell 2
        have f_B_w2_2 := B_w2.frozen 2
        have c_B_w2_3 := B_w2.cell 3
        have f_B_w2_3 := B_w2.frozen 3
        simp only [List.getElem?_toArray, List.getElem?_cons_zero, List.getElem?_cons_succ] at c_B_w2_0 c_B_w2_1 c_B_w2_2 c_B_w2_3
        go_wp2_with fail
        all_goals
          first | refine fin_ret rfl (fun K hK => ?_) | refine fin_norm rfl (fun K hK => ?_)
          simp [results, Try.results8, go_sem, rsat]
          try go_simp
          refine hK _ ?_
          clear hK K
          exact ⟨rfl, (by repeat (first | (with_reducible exact Ext.refl _) | (with_reducible assumption) | (with_reducible refine Ext.alloc ?_ _) | (with_reducible refine Ext.drew ?_) | (with_reducible refine Ext.drewN ?_ _) | (with_reducible refine Ext.setCell ?_ (by simp; try omega) _) | (with_reducible refine Ext.setRow ?_ (by simp; try omega) _)))⟩
    · simp only [Bool.false_eq_true, if_false, show ((1 : Int) = 3) = False by simp, show ((1 : Int) = 0) = False by simp, or_false, show ((1 : Int) = 2) = False by simp, false_and, if_false]
      unfold haltedB at CH
      by_cases hh : t < un
      · simp only [hh, if_true, decide_true, Bool.not_false, Bool.true_and] at CH ⊢
        have HCL := Lib.hid CL
        have HCH := Lib.hid CH
        have HC1 := Lib.hid C1
        have HC2 := Lib.hid C2
        clear CL CH C1 C2
        go_enter Try.func8, Try.ntmps8
        go_wp2_with fail
        refine (HCL.out _).mono ?_
        rintro e w1 ⟨rfl, hxw1⟩
        have xw1 : Ext w w1 := Ext.trans (by repeat (first | (with_reducible exact Ext.refl _) | (with_reducible assumption) | (with_reducible refine Ext.alloc ?_ _) | (with_reducible refine Ext.drew ?_) | (with_reducible refine Ext.drewN ?_ _) | (with_reducible refine Ext.setCell ?_ (by simp; try omega) _) | (with_reducible refine Ext.setRow ?_ (by simp; try omega) _))) hxw1
        have lw1 := xw1.size
        have X_w1 := At.ext (g := w.heap.size) (t := 27) (cs := #[.slice x.A x.l.length x.c, .slice x.B x.t.length x.d, .int .i64 x.ix, .int .i64 x.f1, .int .i64 x.f2, .int .i64 x.f3, .int .i64 x.h1, .int .i64 x.h2]) (by repeat (first | (with_reducible exact At.new _ _ _) | ((with_reducible refine At.new' _ _ _ _ ?_); simp; done) | (with_reducible assumption) | (with_reducible refine At.drew ?_) | (with_reducible refine At.alloc ?_ _) | (with_reducible apply At.upd) | (with_reducible apply At.setRow) | (with_reducible refine At.rowFar ?_ (by first | (simp; done) | (simp; omega) | omega) _) | ((with_reducible refine At.far ?_ (by first | (simp; done) | (simp; omega) | omega) _)) | (with_reducible rfl) | (simp; done))) hxw1
        have A_w1 := At.ext (g := w.heap.size + 1) (t := 33) (cs := #[.bool u0, .bool u1, .int .i64 un, .bool false]) (by repeat (first | (with_reducible exact At.new _ _ _) | ((with_reducible refine At.new' _ _ _ _ ?_); simp; done) | (with_reducible assumption) | (with_reducible refine At.drew ?_) | (with_reducible refine At.alloc ?_ _) | (with_reducible apply At.upd) | (with_reducible apply At.setRow) | (with_reducible refine At.rowFar ?_ (by first | (simp; done) | (simp; omega) | omega) _) | ((with_reducible refine At.far ?_ (by first | (simp; done) | (simp; omega) | omega) _)) | (with_reducible rfl) | (simp; done))) hxw1
        have B_w1 := At.ext (g := w.heap.size + 1 + 1) (t := 33) (cs := #[.bool false, .bool false, .int .i64 0, .bool false]) (by repeat (first | (with_reducible exact At.new _ _ _) | ((with_reducible refine At.new' _ _ _ _ ?_); simp; done) | (with_reducible assumption) | (with_reducible refine At.drew ?_) | (with_reducible refine At.alloc ?_ _) | (with_reducible apply At.upd) | (with_reducible apply At.setRow) | (with_reducible refine At.rowFar ?_ (by first | (simp; done) | (simp; omega) | omega) _) | ((with_reducible refine At.far ?_ (by first | (simp; done) | (simp; omega) | omega) _)) | (with_reducible rfl) | (simp; done))) hxw1
        clear hxw1
        have s_X_w1 := X_w1.lt
        have e_X_w1 := cellsAt_at X_w1
        have s_A_w1 := A_w1.lt
        have c_A_w1_0 := A_w1.cell 0
        have f_A_w1_0 := A_w1.frozen 0
        have c_A_w1_1 := A_w1.cell 1
        have f_A_w1_1 := A_w1.frozen 1
        have c_A_w1_2 := A_w1.cell 2
        have f_A_w1_2 := A_w1.frozen 2
        have c_A_w1_3 := A_w1.cell 3
        have f_A_w1_3 := A_w1.frozen 3
        simp only [List.getElem?_toArray, List.getElem?_cons_zero, List.getElem?_cons_succ] at c_A_w1_0 c_A_w1_1 c_A_w1_2 c_A_w1_3
        have s_B_w1 := B_w1.lt
        have c_B_w1_0 := B_w1.cell 0
        have f_B_w1_0 := B_w1.frozen 0
        have c_B_w1_1 := B_w1.cell 1
        have f_B_w1_1 := B_w1.frozen 1
        have c_B_w1_2 := B_w1.cell 2
        have f_B_w1_2 := B_w1.frozen 2
        have c_B_w1_3 := B_w1.cell 3
        have f_B_w1_3 := B_w1.frozen 3
        simp only [List.getElem?_toArray, List.getElem?_cons_zero, List.getElem?_cons_succ] at c_B_w1_0 c_B_w1_1 c_B_w1_2 c_B_w1_3
        go_wp2_with fail
        refine (HCH.out _ _ _).mono ?_
        rintro e w2 ⟨rfl, hxw2⟩
        have X_w2 := At.ext (g := w.heap.size) (t := 27) (cs := #[.slice x.A x.l.length x.c, .slice x.B x.t.length x.d, .int .i64 x.ix, .int .i64 x.f1, .int .i64 x.f2, .int .i64 x.f3, .int .i64 x.h1, .int .i64 x.h2]) (by repeat (first | (with_reducible exact At.new _ _ _) | ((with_reducible refine At.new' _ _ _ _ ?_); simp; done) | (with_reducible assumption) | (with_reducible refine At.drew ?_) | (with_reducible refine At.alloc ?_ _) | (with_reducible apply At.upd) | (with_reducible apply At.setRow) | (with_reducible refine At.rowFar ?_ (by first | (simp; done) | (simp; omega) | omega) _) | ((with_reducible refine At.far ?_ (by first | (simp; done) | (simp; omega) | omega) _)) | (with_reducible rfl) | (simp; done))) hxw2
        have A_w2 := At.ext (g := w.heap.size + 1) (t := 33) (cs := #[.bool u0, .bool u1, .int .i64 un, .bool false]) (by repeat (first | (with_reducible exact At.new _ _ _) | ((with_reducible refine At.new' _ _ _ _ ?_); simp; done) | (with_reducible assumption) | (with_reducible refine At.drew ?_) | (with_reducible refine At.alloc ?_ _) | (with_reducible apply At.upd) | (with_reducible apply At.setRow) | (with_reducible refine At.rowFar ?_ (by first | (simp; done) | (simp; omega) | omega) _) | ((with_reducible refine At.far ?_ (by first | (simp; done) | (simp; omega) | omega) _)) | (with_reducible rfl) | (simp; done))) hxw2
        have B_w2 := At.ext (g := w.heap.size + 1 + 1) (t := 33) (cs := #[.bool false, .bool false, .int .i64 0, .bool false]) (by repeat (first | (with_reducible exact At.new _ _ _) | ((with_reducible refine At.new' _ _ _ _ ?_); simp; done) | (with_reducible assumption) | (with_reducible refine At.drew ?_) | (with_reducible refine At.alloc ?_ _) | (with_reducible apply At.upd) | (with_reducible apply At.setRow) | (with_reducible refine At.rowFar ?_ (by first | (simp; done) | (simp; omega) | omega) _) | ((with_reducible refine At.far ?_ (by first | (simp; done) | (simp; omega) | omega) _)) | (with_reducible rfl) | (simp; done))) hxw2
        have xw2 : Ext w w2 := Ext.trans (by repeat (first | (with_reducible exact Ext.refl _) | (with_reducible assumption) | (with_reducible refine Ext.alloc ?_ _) | (with_reducible refine Ext.drew ?_) | (with_reducible refine Ext.drewN ?_ _) | (with_reducible refine Ext.setCell ?_ (by simp; try omega) _) | (with_reducible refine Ext.setRow ?_ (by simp; try omega) _))) hxw2
        clear X_w1 s_X_w1 e_X_w1 A_w1 s_A_w1 c_A_w1_0 f_A_w1_0 c_A_w1_1 f_A_w1_1 c_A_w1_2 f_A_w1_2 c_A_w1_3 f_A_w1_3 B_w1 s_B_w1 c_B_w1_0 f_B_w1_0 c_B_w1_1 f_B_w1_1 c_B_w1_2 f_B_w1_2 c_B_w1_3 f_B_w1_3 hxw2 xw1
        have s_X_w2 := X_w2.lt
        have e_X_w2 := cellsAt_at X_w2
        have s_A_w2 := A_w2.lt
        have c_A_w2_0 := A_w2.cell 0
        have f_A_w2_0 := A_w2.frozen 0
        have c_A_w2_1 := A_w2.cell 1
        have f_A_w2_1 := A_w2.frozen 1
        have c_A_w2_2 := A_w2.cell 2
        have f_A_w2_2 := A_w2.frozen 2
        have c_A_w2_3 := A_w2.cell 3
        have f_A_w2_3 := A_w2.frozen 3
        simp only [List.getElem?_toArray, List.getElem?_cons_zero, List.getElem?_cons_succ] at c_A_w2_0 c_A_w2_1 c_A_w2_2 c_A_w2_3
        have s_B_w2 := B_w2.lt
        have c_B_w2_0 := B_w2.cell 0
        have f_B_w2_0 := B_w2.frozen 0
        have c_B_w2_1 := B_w2.cell 1
        have f_B_w2_1 := B_w2.frozen 1
        have c_B_w2_2 := B_w2.cell 2
        have f_B_w2_2 := B_w2.frozen 2
        have c_B_w2_3 := B_w2.cell 3
        have f_B_w2_3 := B_w2.frozen 3
        simp only [List.getElem?_toArray, List.getElem?_cons_zero, List.getElem?_cons_succ] at c_B_w2_0 c_B_w2_1 c_B_w2_2 c_B_w2_3
        go_wp2_with fail
        all_goals
          first | refine fin_ret rfl (fun K hK => ?_) | refine fin_norm rfl (fun K hK => ?_)
          simp [results, Try.results8, go_sem, rsat]
          try go_simp
          refine hK _ ?_
          clear hK K
          exact ⟨rfl, (by repeat (first | (with_reducible exact Ext.refl _) | (with_reducible assumption) | (with_reducible refine Ext.alloc ?_ _) | (with_reducible refine Ext.drew ?_) | (with_reducible refine Ext.drewN ?_ _) | (with_reducible refine Ext.setCell ?_ (by simp; try omega) _) | (with_reducible refine Ext.setRow ?_ (by simp; try omega) _)))⟩
      · simp only [hh, if_false, decide_false, Bool.and_false] at CH ⊢
        cases u0
        · cases u1
          · simp only [if_true, if_false, Bool.true_eq_false, Bool.false_eq_true]
            have HCL := Lib.hid CL
            have HCH := Lib.hid CH
            have HC1 := Lib.hid C1
            have HC2 := Lib.hid C2
            clear CL CH C1 C2
            go_enter Try.func8, Try.ntmps8
            go_wp2_with fail
            refine (HCL.out _).mono ?_
            rintro e w1 ⟨rfl, hxw1⟩
            have xw1 : Ext w w1 := Ext.trans (by repeat (first | (with_reducible exact Ext.refl _) | (with_reducible assumption) | (with_reducible refine Ext.alloc ?_ _) | (with_reducible refine Ext.drew ?_) | (with_reducible refine Ext.drewN ?_ _) | (with_reducible refine Ext.setCell ?_ (by simp; try omega) _) | (with_reducible refine Ext.setRow ?_ (by simp; try omega) _))) hxw1
            have lw1 := xw1.size
            have X_w1 := At.ext (g := w.heap.size) (t := 27) (cs := #[.slice x.A x.l.length x.c, .slice x.B x.t.length x.d, .int .i64 x.ix, .int .i64 x.f1, .int .i64 x.f2, .int .i64 x.f3, .int .i64 x.h1, .int .i64 x.h2]) (by repeat (first | (with_reducible exact At.new _ _ _) | ((with_reducible refine At.new' _ _ _ _ ?_); simp; done) | (with_reducible assumption) | (with_reducible refine At.drew ?_) | (with_reducible refine At.alloc ?_ _) | (with_reducible apply At.upd) | (with_reducible apply At.setRow) | (with_reducible refine At.rowFar ?_ (by first | (simp; done) | (simp; omega) | omega) _) | ((with_reducible refine At.far ?_ (by first | (simp; done) | (simp; omega) | omega) _)) | (with_reducible rfl) | (simp; done))) hxw1
            have A_w1 := At.ext (g := w.heap.size + 1) (t := 33) (cs := #[.bool false, .bool false, .int .i64 un, .bool false]) (by repeat (first | (with_reducible exact At.new _ _ _) | ((with_reducible refine At.new' _ _ _ _ ?_); simp; done) | (with_reducible assumption) | (with_reducible refine At.drew ?_) | (with_reducible refine At.alloc ?_ _) | (with_reducible apply At.upd) | (with_reducible apply At.setRow) | (with_reducible refine At.rowFar ?_ (by first | (simp; done) | (simp; omega) | omega) _) | ((with_reducible refine At.far ?_ (by first | (simp; done) | (simp; omega) | omega) _)) | (with_reducible rfl) | (simp; done))) hxw1
            have B_w1 := At.ext (g := w.heap.size + 1 + 1) (t := 33) (cs := #[.bool false, .bool false, .int .i64 0, .bool false]) (by repeat (first | (with_reducible exact At.new _ _ _) | ((with_reducible refine At.new' _ _ _ _ ?_); simp; done) | (with_reducible assumption) | (with_reducible refine At.drew ?_) | (with_reducible refine At.alloc ?_ _) | (with_reducible apply At.upd) | (with_reducible apply At.setRow) | (with_reducible refine At.rowFar ?_ (by first | (simp; done) | (simp; omega) | omega) _) | ((with_reducible refine At.far ?_ (by first | (simp; done) | (simp; omega) | omega) _)) | (with_reducible rfl) | (simp; done))) hxw1
            clear hxw1
            have s_X_w1 := X_w1.lt
            have e_X_w1 := cellsAt_at X_w1
            have s_A_w1 := A_w1.lt
            have c_A_w1_0 := A_w1.cell 0
            have f_A_w1_0 := A_w1.frozen 0
            have c_A_w1_1 := A_w1.cell 1
            have f_A_w1_1 := A_w1.frozen 1
            have c_A_w1_2 := A_w1.cell 2
            have f_A_w1_2 := A_w1.frozen 2
            have c_A_w1_3 := A_w1.cell 3
            have f_A_w1_3 := A_w1.frozen 3
            simp only [List.getElem?_toArray, List.getElem?_cons_zero, List.getElem?_cons_succ] at c_A_w1_0 c_A_w1_1 c_A_w1_2 c_A_w1_3
            have s_B_w1 := B_w1.lt
            have c_B_w1_0 := B_w1.cell 0
            have f_B_w1_0 := B_w1.frozen 0
            have c_B_w1_1 := B_w1.cell 1
            have f_B_w1_1 := B_w1.frozen 1
            have c_B_w1_2 := B_w1.cell 2
            have f_B_w1_2 := B_w1.frozen 2
            have c_B_w1_3 := B_w1.cell 3
            have f_B_w1_3 := B_w1.frozen 3
            simp only [List.getElem?_toArray, List.getElem?_cons_zero, List.getElem?_cons_succ] at c_B_w1_0 c_B_w1_1 c_B_w1_2 c_B_w1_3
            go_wp2_with fail
            refine (HCH.out _ _ _).mono ?_
            rintro e w2 ⟨rfl, hxw2⟩
            have X_w2 := At.ext (g := w.heap.size) (t := 27) (cs := #[.slice x.A x.l.length x.c, .slice x.B x.t.length x.d, .int .i64 x.ix, .int .i64 x.f1, .int .i64 x.f2, .int .i64 x.f3, .int .i64 x.h1, .int .i64 x.h2]) (by repeat (first | (with_reducible exact At.new _ _ _) | ((with_reducible refine At.new' _ _ _ _ ?_); simp; done) | (with_reducible assumption) | (with_reducible refine At.drew ?_) | (with_reducible refine At.alloc ?_ _) | (with_reducible apply At.upd) | (with_reducible apply At.setRow) | (with_reducible refine At.rowFar ?_ (by first | (simp; done) | (simp; omega) | omega) _) | ((with_reducible refine At.far ?_ (by first | (simp; done) | (simp; omega) | omega) _)) | (with_reducible rfl) | (simp; done))) hxw2
            have A_w2 := At.ext (g := w.heap.size + 1) (t := 33) (cs := #[.bool false, .bool false, .int .i64 un, .bool false]) (by repeat (first | (with_reducible exact At.new _ _ _) | ((with_reducible refine At.new' _ _ _ _ ?_); simp; done) | (with_reducible assumption) | (with_reducible refine At.drew ?_) | (with_reducible refine At.alloc ?_ _) | (with_reducible apply At.upd) | (with_reducible apply At.setRow) | (with_reducible refine At.rowFar ?_ (by first | (simp; done) | (simp; omega) | omega) _) | ((with_reducible refine At.far ?_ (by first | (simp; done) | (simp; omega) | omega) _)) | (with_reducible rfl) | (simp; done))) hxw2
            have B_w2 := At.ext (g := w.heap.size + 1 + 1) (t := 33) (cs := #[.bool false, .bool false, .int .i64 0, .bool false]) (by repeat (first | (with_reducible exact At.new _ _ _) | ((with_reducible refine At.new' _ _ _ _ ?_); simp; done) | (with_reducible assumption) | (with_reducible refine At.drew ?_) | (with_reducible refine At.alloc ?_ _) | (with_reducible apply At.upd) | (with_reducible apply At.setRow) | (with_reducible refine At.rowFar ?_ (by first | (simp; done) | (simp; omega) | omega) _) | ((with_reducible refine At.far ?_ (by first | (simp; done) | (simp; omega) | omega) _)) | (with_reducible rfl) | (simp; done))) hxw2
            have xw2 : Ext w w2 := Ext.trans (by repeat (first | (with_reducible exact Ext.refl _) | (with_reducible assumption) | (with_reducible refine Ext.alloc ?_ _) | (with_reducible refine Ext.drew ?_) | (with_reducible refine Ext.drewN ?_ _) | (with_reducible refine Ext.setCell ?_ (by simp; try omega) _) | (with_reducible refine Ext.setRow ?_ (by simp; try omega) _))) hxw2
            clear X_w1 s_X_w1 e_X_w1 A_w1 s_A_w1 c_A_w1_0 f_A_w1_0 c_A_w1_1 f_A_w1_1 c_A_w1_2 f_A_w1_2 c_A_w1_3 f_A_w1_3 B_w1 s_B_w1 c_B_w1_0 f_B_w1_0 c_B_w1_1 f_B_w1_1 c_B_w1_2 f_B_w1_2 c_B_w1_3 f_B_w1_3 hxw2 xw1
            have s_X_w2 := X_w2.lt
            have e_X_w2 := cellsAt_at X_w2
            have s_A_w2 := A_w2.lt
            have c_A_w2_0 := A_w2.cell 0
            have f_A_w2_0 := A_w2.frozen 0
            have c_A_w2_1 := A_w2.cell 1
            have f_A_w2_1 := A_w2.frozen 1
            have c_A_w2_2 := A_w2.cell 2
            have f_A_w2_2 := A_w2.frozen 2
            have c_A_w2_3 := A_w2.cell 3
            have f_A_w2_3 := A_w2.frozen 3
            simp only [List.getElem?_toArray, List.getElem?_cons_zero, List.getElem?_cons_succ] at c_A_w2_0 c_A_w2_1 c_A_w2_2 c_A_w2_3
            have s_B_w2 := B_w2.lt
            have c_B_w2_0 := B_w2.cell 0
            have f_B_w2_0 := B_w2.frozen 0
            have c_B_w2_1 := B_w2.cell 1
            have f_B_w2_1 := B_w2.frozen 1
            have c_B_w2_2 := B_w2.cell 2
            have f_B_w2_2 := B_w2.frozen 2
            have c_B_w2_3 := B_w2.cell 3
            have f_B_w2_3 := B_w2.frozen 3
            simp only [List.getElem?_toArray, List.getElem?_cons_zero, List.getElem?_cons_succ] at c_B_w2_0 c_B_w2_1 c_B_w2_2 c_B_w2_3
            go_wp2_with fail
            refine (HC1.out _ _ _).mono ?_
            rintro e w3 ⟨rfl, hxw3⟩
            have B_w3 := At.ext (g := w.heap.size + 1 + 1) (t := 33) (cs := #[.bool false, .bool false, .int .i64 0, .bool false]) (by repeat (first | (with_reducible exact At.new _ _ _) | ((with_reducible refine At.new' _ _ _ _ ?_); simp; done) | (with_reducible assumption) | (with_reducible refine At.drew ?_) | (with_reducible refine At.alloc ?_ _) | (with_reducible apply At.upd) | (with_reducible apply At.setRow) | (with_reducible refine At.rowFar ?_ (by first | (simp; done) | (simp; omega) | omega) _) | ((with_reducible refine At.far ?_ (by first | (simp; done) | (simp; omega) | omega) _)) | (with_reducible rfl) | (simp; done))) hxw3
            have xw3 : Ext w w3 := Ext.trans (by repeat (first | (with_reducible exact Ext.refl _) | (with_reducible assumption) | (with_reducible refine Ext.alloc ?_ _) | (with_reducible refine Ext.drew ?_) | (with_reducible refine Ext.drewN ?_ _) | (with_reducible refine Ext.setCell ?_ (by simp; try omega) _) | (with_reducible refine Ext.setRow ?_ (by simp; try omega) _))) hxw3
            clear B_w2 s_B_w2 c_B_w2_0 f_B_w2_0 c_B_w2_1 f_B_w2_1 c_B_w2_2 f_B_w2_2 c_B_w2_3 f_B_w2_3 X_w2 s_X_w2 e_X_w2 A_w2 s_A_w2 c_A_w2_0 f_A_w2_0 c_A_w2_1 f_A_w2_1 c_A_w2_2 f_A_w2_2 c_A_w2_3 f_A_w2_3 hxw3 xw2
            have s_B_w3 := B_w3.lt
            have c_B_w3_0 := B_w3.cell 0
            have f_B_w3_0 := B_w3.frozen 0
            have c_B_w3_1 := B_w3.cell 1
            have f_B_w3_1 := B_w3.frozen 1
            have c_B_w3_2 := B_w3.cell 2
            have f_B_w3_2 := B_w3.frozen 2
            have c_B_w3_3 := B_w3.cell 3
            have f_B_w3_3 := B_w3.frozen 3
            simp only [List.getElem?_toArray, List.getElem?_cons_zero, List.getElem?_cons_succ] at c_B_w3_0 c_B_w3_1 c_B_w3_2 c_B_w3_3
            go_wp2_with fail
            all_goals
              first | refine fin_ret rfl (fun K hK => ?_) | refine fin_norm rfl (fun K hK => ?_)
              simp [results, Try.results8, go_sem, rsat]
              try go_simp
              refine hK _ ?_
              clear hK K
              exact ⟨rfl, (by repeat (first | (with_reducible exact Ext.refl _) | (with_reducible assumption) | (with_reducible refine Ext.alloc ?_ _) | (with_reducible refine Ext.drew ?_) | (with_reducible refine Ext.drewN ?_ _) | (with_reducible refine Ext.setCell ?_ (by simp; try omega) _) | (with_reducible refine Ext.setRow ?_ (by simp; try omega) _)))⟩
          · simp only [if_true, if_false, Bool.true_eq_false, Bool.false_eq_true]
            have HCL := Lib.hid CL
            have HCH := Lib.hid CH
            have HC1 := Lib.hid C1
            have HC2 := Lib.hid C2
            clear CL CH C1 C2
            go_enter Try.func8, Try.ntmps8
            go_wp2_with fail
            refine (HCL.out _).mono ?_
            rintro e w1 ⟨rfl, hxw1⟩
            have xw1 : Ext w w1 := Ext.trans (by repeat (first | (with_reducible exact Ext.refl _) | (with_reducible assumption) | (with_reducible refine Ext.alloc ?_ _) | (with_reducible refine Ext.drew ?_) | (with_reducible refine Ext.drewN ?_ _) | (with_reducible refine Ext.setCell ?_ (by simp; try omega) _) | (with_reducible refine Ext.setRow ?_ (by simp; try omega) _))) hxw1
            have lw1 := xw1.size
            have X_w1 := At.ext (g := w.heap.size) (t := 27) (cs := #[.slice x.A x.l.length x.c, .slice x.B x.t.length x.d, .int .i64 x.ix, .int .i64 x.f1, .int .i64 x.f2, .int .i64 x.f3, .int .i64 x.h1, .int .i64 x.h2]) (by repeat (first | (with_reducible exact At.new _ _ _) | ((with_reducible refine At.new' _ _ _ _ ?_); simp; done) | (with_reducible assumption) | (with_reducible refine At.drew ?_) | (with_reducible refine At.alloc ?_ _) | (with_reducible apply At.upd) | (with_reducible apply At.setRow) | (with_reducible refine At.rowFar ?_ (by first | (simp; done) | (simp; omega) | omega) _) | ((with_reducible refine At.far ?_ (by first | (simp; done) | (simp; omega) | omega) _)) | (with_reducible rfl) | (simp; done))) hxw1
            have A_w1 := At.ext (g := w.heap.size + 1) (t := 33) (cs := #[.bool false, .bool true, .int .i64 un, .bool false]) (by repeat (first | (with_reducible exact At.new _ _ _) | ((with_reducible refine At.new' _ _ _ _ ?_); simp; done) | (with_reducible assumption) | (with_reducible refine At.drew ?_) | (with_reducible refine At.alloc ?_ _) | (with_reducible apply At.upd) | (with_reducible apply At.setRow) | (with_reducible refine At.rowFar ?_ (by first | (simp; done) | (simp; omega) | omega) _) | ((with_reducible refine At.far ?_ (by first | (simp; done) | (simp; omega) | omega) _)) | (with_reducible rfl) | (simp; done))) hxw1
            have B_w1 := At.ext (g := w.heap.size + 1 + 1) (t := 33) (cs := #[.bool false, .bool false, .int .i64 0, .bool false]) (by repeat (first | (with_reducible exact At.new _ _ _) | ((with_reducible refine At.new' _ _ _ _ ?_); simp; done) | (with_reducible assumption) | (with_reducible refine At.drew ?_) | (with_reducible refine At.alloc ?_ _) | (with_reducible apply At.upd) | (with_reducible apply At.setRow) | (with_reducible refine At.rowFar ?_ (by first | (simp; done) | (simp; omega) | omega) _) | ((with_reducible refine At.far ?_ (by first | (simp; done) | (simp; omega) | omega) _)) | (with_reducible rfl) | (simp; done))) hxw1
            clear hxw1
            have s_X_w1 := X_w1.lt
            have e_X_w1 := cellsAt_at X_w1
            have s_A_w1 := A_w1.lt
            have c_A_w1_0 := A_w1.cell 0
            have f_A_w1_0 := A_w1.frozen 0
            have c_A_w1_1 := A_w1.cell 1
            have f_A_w1_1 := A_w1.frozen 1
            have c_A_w1_2 := A_w1.cell 2
            have f_A_w1_2 := A_w1.frozen 2
            have c_A_w1_3 := A_w1.cell 3
            have f_A_w1_3 := A_w1.frozen 3
            simp only [List.getElem?_toArray, List.getElem?_cons_zero, List.getElem?_cons_succ] at c_A_w1_0 c_A_w1_1 c_A_w1_2 c_A_w1_3
            have s_B_w1 := B_w1.lt
            have c_B_w1_0 := B_w1.cell 0
            have f_B_w1_0 := B_w1.frozen 0
            have c_B_w1_1 := B_w1.cell 1
            have f_B_w1_1 := B_w1.frozen 1
            have c_B_w1_2 := B_w1.cell 2
            have f_B_w1_2 := B_w1.frozen 2
            have c_B_w1_3 := B_w1.cell 3
            have f_B_w1_3 := B_w1.frozen 3
            simp only [List.getElem?_toArray, List.getElem?_cons_zero, List.getElem?_cons_succ] at c_B_w1_0 c_B_w1_1 c_B_w1_2 c_B_w1_3
            go_wp2_with fail
            refine (HCH.out _ _ _).mono ?_
            rintro e w2 ⟨rfl, hxw2⟩
            have X_w2 := At.ext (g := w.heap.size) (t := 27) (cs := #[.slice x.A x.l.length x.c, .slice x.B x.t.length x.d, .int .i64 x.ix, .int .i64 x.f1, .int .i64 x.f2, .int .i64 x.f3, .int .i64 x.h1, .int .i64 x.h2]) (by repeat (first | (with_reducible exact At.new _ _ _) | ((with_reducible refine At.new' _ _ _ _ ?_); simp; done) | (with_reducible assumption) | (with_reducible refine At.drew ?_) | (with_reducible refine At.alloc ?_ _) | (with_reducible apply At.upd) | (with_reducible apply At.setRow) | (with_reducible refine At.rowFar ?_ (by first | (simp; done) | (simp; omega) | omega) _) | ((with_reducible refine At.far ?_ (by first | (simp; done) | (simp; omega) | omega) _)) | (with_reducible rfl) | (simp; done))) hxw2
            have A_w2 := At.ext (g := w.heap.size + 1) (t := 33) (cs := #[.bool false, .bool true, .int .i64 un, .bool false]) (by repeat (first | (with_reducible exact At.new _ _ _) | ((with_reducible refine At.new' _ _ _ _ ?_); simp; done) | (with_reducible assumption) | (with_reducible refine At.drew ?_) | (with_reducible refine At.alloc ?_ _) | (with_reducible apply At.upd) | (with_reducible apply At.setRow) | (with_reducible refine At.rowFar ?_ (by first | (simp; done) | (simp; omega) | omega) _) | ((with_reducible refine At.far ?_ (by first | (simp; done) | (simp; omega) | omega) _)) | (with_reducible rfl) | (simp; done))) hxw2
            have B_w2 := At.ext (g := w.heap.size + 1 + 1) (t := 33) (cs := #[.bool false, .bool false, .int .i64 0, .bool false]) (by repeat (first | (with_reducible exact At.new _ _ _) | ((with_reducible refine At.new' _ _ _ _ ?_); simp; done) | (with_reducible assumption) | (with_reducible refine At.drew ?_) | (with_reducible refine At.alloc ?_ _) | (with_reducible apply At.upd) | (with_reducible apply At.setRow) | (with_reducible refine At.rowFar ?_ (by first | (simp; done) | (simp; omega) | omega) _) | ((with_reducible refine At.far ?_ (by first | (simp; done) | (simp; omega) | omega) _)) | (with_reducible rfl) | (simp; done))) hxw2
            have xw2 : Ext w w2 := Ext.trans (by repeat (first | (with_reducible exact Ext.refl _) | (with_reducible assumption) | (with_reducible refine Ext.alloc ?_ _) | (with_reducible refine Ext.drew ?_) | (with_reducible refine Ext.drewN ?_ _) | (with_reducible refine Ext.setCell ?_ (by simp; try omega) _) | (with_reducible refine Ext.setRow ?_ (by simp; try omega) _))) hxw2
            clear X_w1 s_X_w1 e_X_w1 A_w1 s_A_w1 c_A_w1_0 f_A_w1_0 c_A_w1_1 f_A_w1_1 c_A_w1_2 f_A_w1_2 c_A_w1_3 f_A_w1_3 B_w1 s_B_w1 c_B_w1_0 f_B_w1_0 c_B_w1_1 f_B_w1_1 c_B_w1_2 f_B_w1_2 c_B_w1_3 f_B_w1_3 hxw2 xw1
            have s_X_w2 := X_w2.lt
            have e_X_w2 := cellsAt_at X_w2
            have s_A_w2 := A_w2.lt
            have c_A_w2_0 := A_w2.cell 0
            have f_A_w2_0 := A_w2.frozen 0
            have c_A_w2_1 := A_w2.cell 1
            have f_A_w2_1 := A_w2.frozen 1
            have c_A_w2_2 := A_w2.cell 2
            have f_A_w2_2 := A_w2.frozen 2
            have c_A_w2_3 := A_w2.cell 3
            have f_A_w2_3 := A_w2.frozen 3
            simp only [List.getElem?_toArray, List.getElem?_cons_zero, List.getElem?_cons_succ] at c_A_w2_0 c_A_w2_1 c_A_w2_2 c_A_w2_3
            have s_B_w2 := B_w2.lt
            have c_B_w2_0 := B_w2.cell 0
            have f_B_w2_0 := B_w2.frozen 0
            have c_B_w2_1 := B_w2.cell 1
            have f_B_w2_1 := B_w2.frozen 1
            have c_B_w2_2 := B_w2.cell 2
            have f_B_w2_2 := B_w2.frozen 2
            have c_B_w2_3 := B_w2.cell 3
            have f_B_w2_3 := B_w2.frozen 3
            simp only [List.getElem?_toArray, List.getElem?_cons_zero, List.getElem?_cons_succ] at c_B_w2_0 c_B_w2_1 c_B_w2_2 c_B_w2_3
            go_wp2_with fail
            refine (HC1.out _ _ _).mono ?_
            rintro e w3 ⟨rfl, hxw3⟩
            have B_w3 := At.ext (g := w.heap.size + 1 + 1) (t := 33) (cs := #[.bool false, .bool false, .int .i64 0, .bool false]) (by repeat (first | (with_reducible exact At.new _ _ _) | ((with_reducible refine At.new' _ _ _ _ ?_); simp; done) | (with_reducible assumption) | (with_reducible refine At.drew ?_) | (with_reducible refine At.alloc ?_ _) | (with_reducible apply At.upd) | (with_reducible apply At.setRow) | (with_reducible refine At.rowFar ?_ (by first | (simp; done) | (simp; omega) | omega) _) | ((with_reducible refine At.far ?_ (by first | (simp; done) | (simp; omega) | omega) _)) | (with_reducible rfl) | (simp; done))) hxw3
            have xw3 : Ext w w3 := Ext.trans (by repeat (first | (with_reducible exact Ext.refl _) | (with_reducible assumption) | (with_reducible refine Ext.alloc ?_ _) | (with_reducible refine Ext.drew ?_) | (with_reducible refine Ext.drewN ?_ _) | (with_reducible refine Ext.setCell ?_ (by simp; try omega) _) | (with_reducible refine Ext.setRow ?_ (by simp; try omega) _))) hxw3
            clear B_w2 s_B_w2 c_B_w2_0 f_B_w2_0 c_B_w2_1 f_B_w2_1 c_B_w2_2 f_B_w2_2 c_B_w2_3 f_B_w2_3 X_w2 s_X_w2 e_X_w2 A_w2 s_A_w2 c_A_w2_0 f_A_w2_0 c_A_w2_1 f_A_w2_1 c_A_w2_2 f_A_w2_2 c_A_w2_3 f_A_w2_3 hxw3 xw2
            have s_B_w3 := B_w3.lt
            have c_B_w3_0 := B_w3.cell 0
            have f_B_w3_0 := B_w3.frozen 0
            have c_B_w3_1 := B_w3.cell 1
            have f_B_w3_1 := B_w3.frozen 1
            have c_B_w3_2 := B_w3.cell 2
            have f_B_w3_2 := B_w3.frozen 2
            have c_B_w3_3 := B_w3.cell 3
            have f_B_w3_3 := B_w3.frozen 3
            simp only [List.getElem?_toArray, List.getElem?_cons_zero, List.getElem?_cons_succ] at c_B_w3_0 c_B_w3_1 c_B_w3_2 c_B_w3_3
            go_wp2_with fail
            all_goals
              first | refine fin_ret rfl (fun K hK => ?_) | refine fin_norm rfl (fun K hK => ?_)
              simp [results, Try.results8, go_sem, rsat]
              try go_simp
              refine hK _ ?_
              clear hK K
              exact ⟨rfl, (by repeat (first | (with_reducible exact Ext.refl _) | (with_reducible assumption) | (with_reducible refine Ext.alloc ?_ _) | (with_reducible refine Ext.drew ?_) | (with_reducible refine Ext.drewN ?_ _) | (with_reducible refine Ext.setCell ?_ (by simp; try omega) _) | (with_reducible refine Ext.setRow ?_ (by simp; try omega) _)))⟩
        · cases u1
          · simp only [if_true, if_false, Bool.true_eq_false, Bool.false_eq_true]
            have HCL := Lib.hid CL
            have HCH := Lib.hid CH
            have HC1 := Lib.hid C1
            have HC2 := Lib.hid C2
            clear CL CH C1 C2
            go_enter Try.func8, Try.ntmps8
            go_wp2_with fail
            refine (HCL.out _).mono ?_
            rintro e w1 ⟨rfl, hxw1⟩
            have xw1 : Ext w w1 := Ext.trans (by repeat (first | (with_reducible exact Ext.refl _) | (with_reducible assumption) | (with_reducible refine Ext.alloc ?_ _) | (with_reducible refine Ext.drew ?_) | (with_reducible refine Ext.drewN ?_ _) | (with_reducible refine Ext.setCell ?_ (by simp; try omega) _) | (with_reducible refine Ext.setRow ?_ (by simp; try omega) _))) hxw1
            have lw1 := xw1.size
            have X_w1 := At.ext (g := w.heap.size) (t := 27) (cs := #[.slice x.A x.l.length x.c, .slice x.B x.t.length x.d, .int .i64 x.ix, .int .i64 x.f1, .int .i64 x.f2, .int .i64 x.f3, .int .i64 x.h1, .int .i64 x.h2]) (by repeat (first | (with_reducible exact At.new _ _ _) | ((with_reducible refine At.new' _ _ _ _ ?_); simp; done) | (with_reducible assumption) | (with_reducible refine At.drew ?_) | (with_reducible refine At.alloc ?_ _) | (with_reducible apply At.upd) | (with_reducible apply At.setRow) | (with_reducible refine At.rowFar ?_ (by first | (simp; done) | (simp; omega) | omega) _) | ((with_reducible refine At.far ?_ (by first | (simp; done) | (simp; omega) | omega) _)) | (with_reducible rfl) | (simp; done))) hxw1
            have A_w1 := At.ext (g := w.heap.size + 1) (t := 33) (cs := #[.bool true, .bool false, .int .i64 un, .bool false]) (by repeat (first | (with_reducible exact At.new _ _ _) | ((with_reducible refine At.new' _ _ _ _ ?_); simp; done) | (with_reducible assumption) | (with_reducible refine At.drew ?_) | (with_reducible refine At.alloc ?_ _) | (with_reducible apply At.upd) | (with_reducible apply At.setRow) | (with_reducible refine At.rowFar ?_ (by first | (simp; done) | (simp; omega) | omega) _) | ((with_reducible refine At.far ?_ (by first | (simp; done) | (simp; omega) | omega) _)) | (with_reducible rfl) | (simp; done))) hxw1
            have B_w1 := At.ext (g := w.heap.size + 1 + 1) (t := 33) (cs := #[.bool false, .bool false, .int .i64 0, .bool false]) (by repeat (first | (with_reducible exact At.new _ _ _) | ((with_reducible refine At.new' _ _ _ _ ?_); simp; done) | (with_reducible assumption) | (with_reducible refine At.drew ?_) | (with_reducible refine At.alloc ?_ _) | (with_reducible apply At.upd) | (with_reducible apply At.setRow) | (with_reducible refine At.rowFar ?_ (by first | (simp; done) | (simp; omega) | omega) _) | ((with_reducible refine At.far ?_ (by first | (simp; done) | (simp; omega) | omega) _)) | (with_reducible rfl) | (simp; done))) hxw1
            clear hxw1
            have s_X_w1 := X_w1.lt
            have e_X_w1 := cellsAt_at X_w1
            have s_A_w1 := A_w1.lt
            have c_A_w1_0 := A_w1.cell 0
            have f_A_w1_0 := A_w1.frozen 0
            have c_A_w1_1 := A_w1.cell 1
            have f_A_w1_1 := A_w1.frozen 1
            have c_A_w1_2 := A_w1.cell 2
            have f_A_w1_2 := A_w1.frozen 2
            have c_A_w1_3 := A_w1.cell 3
            have f_A_w1_3 := A_w1.frozen 3
            simp only [List.getElem?_toArray, List.getElem?_cons_zero, List.getElem?_cons_succ] at c_A_w1_0 c_A_w1_1 c_A_w1_2 c_A_w1_3
            have s_B_w1 := B_w1.lt
            have c_B_w1_0 := B_w1.cell 0
            have f_B_w1_0 := B_w1.frozen 0
            have c_B_w1_1 := B_w1.cell 1
            have f_B_w1_1 := B_w1.frozen 1
            have c_B_w1_2 := B_w1.cell 2
            have f_B_w1_2 := B_w1.frozen 2
            have c_B_w1_3 := B_w1.cell 3
            have f_B_w1_3 := B_w1.frozen 3
            simp only [List.getElem?_toArray, List.getElem?_cons_zero, List.getElem?_cons_succ] at c_B_w1_0 c_B_w1_1 c_B_w1_2 c_B_w1_3
            go_wp2_with fail
            refine (HCH.out _ _ _).mono ?_
            rintro e w2 ⟨rfl, hxw2⟩
            have X_w2 := At.ext (g := w.heap.size) (t := 27) (cs := #[.slice x.A x.l.length x.c, .slice x.B x.t.length x.d, .int .i64 x.ix, .int .i64 x.f1, .int .i64 x.f2, .int .i64 x.f3, .int .i64 x.h1, .int .i64 x.h2]) (by repeat (first | (with_reducible exact At.new _ _ _) | ((with_reducible refine At.new' _ _ _ _ ?_); simp; done) | (with_reducible assumption) | (with_reducible refine At.drew ?_) | (with_reducible refine At.alloc ?_ _) | (with_reducible apply At.upd) | (with_reducible apply At.setRow) | (with_reducible refine At.rowFar ?_ (by first | (simp; done) | (simp; omega) | omega) _) | ((with_reducible refine At.far ?_ (by first | (simp; done) | (simp; omega) | omega) _)) | (with_reducible rfl) | (simp; done))) hxw2
            have A_w2 := At.ext (g := w.heap.size + 1) (t := 33) (cs := #[.bool true, .bool false, .int .i64 un, .bool false]) (by repeat (first | (with_reducible exact At.new _ _ _) | ((with_reducible refine At.new' _ _ _ _ ?_); simp; done) | (with_reducible assumption) | (with_reducible refine At.drew ?_) | (with_reducible refine At.alloc ?_ _) | (with_reducible apply At.upd) | (with_reducible apply At.setRow) | (with_reducible refine At.rowFar ?_ (by first | (simp; done) | (simp; omega) | omega) _) | ((with_reducible refine At.far ?_ (by first | (simp; done) | (simp; omega) | omega) _)) | (with_reducible rfl) | (simp; done))) hxw2
            have B_w2 := At.ext (g := w.heap.size + 1 + 1) (t := 33) (cs := #[.bool false, .bool false, .int .i64 0, .bool false]) (by repeat (first | (with_reducible exact At.new _ _ _) | ((with_reducible refine At.new' _ _ _ _ ?_); simp; done) | (with_reducible assumption) | (with_reducible refine At.drew ?_) | (with_reducible refine At.alloc ?_ _) | (with_reducible apply At.upd) | (with_reducible apply At.setRow) | (with_reducible refine At.rowFar ?_ (by first | (simp; done) | (simp; omega) | omega) _) | ((with_reducible refine At.far ?_ (by first | (simp; done) | (simp; omega) | omega) _)) | (with_reducible rfl) | (simp; done))) hxw2
            have xw2 : Ext w w2 := Ext.trans (by repeat (first | (with_reducible exact Ext.refl _) | (with_reducible assumption) | (with_reducible refine Ext.alloc ?_ _) | (with_reducible refine Ext.drew ?_) | (with_reducible refine Ext.drewN ?_ _) | (with_reducible refine Ext.setCell ?_ (by simp; try omega) _) | (with_reducible refine Ext.setRow ?_ (by simp; try omega) _))) hxw2
            clear X_w1 s_X_w1 e_X_w1 A_w1 s_A_w1 c_A_w1_0 f_A_w1_0 c_A_w1_1 f_A_w1_1 c_A_w1_2 f_A_w1_2 c_A_w1_3 f_A_w1_3 B_w1 s_B_w1 c_B_w1_0 f_B_w1_0 c_B_w1_1 f_B_w1_1 c_B_w1_2 f_B_w1_2 c_B_w1_3 f_B_w1_3 hxw2 xw1
            have s_X_w2 := X_w2.lt
            have e_X_w2 := cellsAt_at X_w2
            have s_A_w2 := A_w2.lt
            have c_A_w2_0 := A_w2.cell 0
            have f_A_w2_0 := A_w2.frozen 0
            have c_A_w2_1 := A_w2.cell 1
            have f_A_w2_1 := A_w2.frozen 1
            have c_A_w2_2 := A_w2.cell 2
            have f_A_w2_2 := A_w2.frozen 2
            have c_A_w2_3 := A_w2.cell 3
            have f_A_w2_3 := A_w2.frozen 3
            simp only [List.getElem?_toArray, List.getElem?_cons_zero, List.getElem?_cons_succ] at c_A_w2_0 c_A_w2_1 c_A_w2_2 c_A_w2_3
            have s_B_w2 := B_w2.lt
            have c_B_w2_0 := B_w2.cell 0
            have f_B_w2_0 := B_w2.frozen 0
            have c_B_w2_1 := B_w2.cell 1
            have f_B_w2_1 := B_w2.frozen 1
            have c_B_w2_2 := B_w2.cell 2
            have f_B_w2_2 := B_w2.frozen 2
            have c_B_w2_3 := B_w2.cell 3
            have f_B_w2_3 := B_w2.frozen 3
            simp only [List.getElem?_toArray, List.getElem?_cons_zero, List.getElem?_cons_succ] at c_B_w2_0 c_B_w2_1 c_B_w2_2 c_B_w2_3
            go_wp2_with fail
            all_goals
              first | refine fin_ret rfl (fun K hK => ?_) | refine fin_norm rfl (fun K hK => ?_)
              simp [results, Try.results8, go_sem, rsat]
              try go_simp
              refine hK _ ?_
              clear hK K
              exact ⟨rfl, (by repeat (first | (with_reducible exact Ext.refl _) | (with_reducible assumption) | (with_reducible refine Ext.alloc ?_ _) | (with_reducible refine Ext.drew ?_) | (with_reducible refine Ext.drewN ?_ _) | (with_reducible refine Ext.setCell ?_ (by simp; try omega) _) | (with_reducible refine Ext.setRow ?_ (by simp; try omega) _)))⟩
          · simp only [if_true, if_false, Bool.true_eq_false, Bool.false_eq_true]
            have HCL := Lib.hid CL
            have HCH := Lib.hid CH
            have HC1 := Lib.hid C1
            have HC2 := Lib.hid C2
            clear CL CH C1 C2
            go_enter Try.func8, Try.ntmps8
            go_wp2_with fail
            refine (HCL.out _).mono ?_
            rintro e w1 ⟨rfl, hxw1⟩
            have xw1 : Ext w w1 := Ext.trans (by repeat (first | (with_reducible exact Ext.refl _) | (with_reducible assumption) | (with_reducible refine Ext.alloc ?_ _) | (with_reducible refine Ext.drew ?_) | (with_reducible refine Ext.drewN ?_ _) | (with_reducible refine Ext.setCell ?_ (by simp; try omega) _) | (with_reducible refine Ext.setRow ?_ (by simp; try omega) _))) hxw1
            have lw1 := xw1.size
            have X_w1 := At.ext (g := w.heap.size) (t := 27) (cs := #[.slice x.A x.l.length x.c, .slice x.B x.t.length x.d, .int .i64 x.ix, .int .i64 x.f1, .int .i64 x.f2, .int .i64 x.f3, .int .i64 x.h1, .int .i64 x.h2]) (by repeat (first | (with_reducible exact At.new _ _ _) | ((with_reducible refine At.new' _ _ _ _ ?_); simp; done) | (with_reducible assumption) | (with_reducible refine At.drew ?_) | (with_reducible refine At.alloc ?_ _) | (with_reducible apply At.upd) | (with_reducible apply At.setRow) | (with_reducible refine At.rowFar ?_ (by first | (simp; done) | (simp; omega) | omega) _) | ((with_reducible refine At.far ?_ (by first | (simp; done) | (simp; omega) | omega) _)) | (with_reducible rfl) | (simp; done))) hxw1
            have A_w1 := At.ext (g := w.heap.size + 1) (t := 33) (cs := #[.bool true, .bool true, .int .i64 un, .bool false]) (by repeat (first | (with_reducible exact At.new _ _ _) | ((with_reducible refine At.new' _ _ _ _ ?_); simp; done) | (with_reducible assumption) | (with_reducible refine At.drew ?_) | (with_reducible refine At.alloc ?_ _) | (with_reducible apply At.upd) | (with_reducible apply At.setRow) | (with_reducible refine At.rowFar ?_ (by first | (simp; done) | (simp; omega) | omega) _) | ((with_reducible refine At.far ?_ (by first | (simp; done) | (simp; omega) | omega) _)) | (with_reducible rfl) | (simp; done))) hxw1
            have B_w1 := At.ext (g := w.heap.size + 1 + 1) (t := 33) (cs := #[.bool false, .bool false, .int .i64 0, .bool false]) (by repeat (first | (with_reducible exact At.new _ _ _) | ((with_reducible refine At.new' _ _ _ _ ?_); simp; done) | (with_reducible assumption) | (with_reducible refine At.drew ?_) | (with_reducible refine At.alloc ?_ _) | (with_reducible apply At.upd) | (with_reducible apply At.setRow) | (with_reducible refine At.rowFar ?_ (by first | (simp; done) | (simp; omega) | omega) _) | ((with_reducible refine At.far ?_ (by first | (simp; done) | (simp; omega) | omega) _)) | (with_reducible rfl) | (simp; done))) hxw1
            clear hxw1
            have s_X_w1 := X_w1.lt
            have e_X_w1 := cellsAt_at X_w1
            have s_A_w1 := A_w1.lt
            have c_A_w1_0 := A_w1.cell 0
            have f_A_w1_0 := A_w1.frozen 0
            have c_A_w1_1 := A_w1.cell 1
            have f_A_w1_1 := A_w1.frozen 1
            have c_A_w1_2 := A_w1.cell 2
            have f_A_w1_2 := A_w1.frozen 2
            have c_A_w1_3 := A_w1.cell 3
            have f_A_w1_3 := A_w1.frozen 3
            simp only [List.getElem?_toArray, List.getElem?_cons_zero, List.getElem?_cons_succ] at c_A_w1_0 c_A_w1_1 c_A_w1_2 c_A_w1_3
            have s_B_w1 := B_w1.lt
            have c_B_w1_0 := B_w1.cell 0
            have f_B_w1_0 := B_w1.frozen 0
            have c_B_w1_1 := B_w1.cell 1
            have f_B_w1_1 := B_w1.frozen 1
            have c_B_w1_2 := B_w1.cell 2
            have f_B_w1_2 := B_w1.frozen 2
            have c_B_w1_3 := B_w1.cell 3
            have f_B_w1_3 := B_w1.frozen 3
            simp only [List.getElem?_toArray, List.getElem?_cons_zero, List.getElem?_cons_succ] at c_B_w1_0 c_B_w1_1 c_B_w1_2 c_B_w1_3
            go_wp2_with fail
            refine (HCH.out _ _ _).mono ?_
            rintro e w2 ⟨rfl, hxw2⟩
            have X_w2 := At.ext (g := w.heap.size) (t := 27) (cs := #[.slice x.A x.l.length x.c, .slice x.B x.t.length x.d, .int .i64 x.ix, .int .i64 x.f1, .int .i64 x.f2, .int .i64 x.f3, .int .i64 x.h1, .int .i64 x.h2]) (by repeat (first | (with_reducible exact At.new _ _ _) | ((with_reducible refine At.new' _ _ _ _ ?_); simp; done) | (with_reducible assumption) | (with_reducible refine At.drew ?_) | (with_reducible refine At.alloc ?_ _) | (with_reducible apply At.upd) | (with_reducible apply At.setRow) | (with_reducible refine At.rowFar ?_ (by first | (simp; done) | (simp; omega) | omega) _) | ((with_reducible refine At.far ?_ (by first | (simp; done) | (simp; omega) | omega) _)) | (with_reducible rfl) | (simp; done))) hxw2
            have A_w2 := At.ext (g := w.heap.size + 1) (t := 33) (cs := #[.bool true, .bool true, .int .i64 un, .bool false]) (by repeat (first | (with_reducible exact At.new _ _ _) | ((with_reducible refine At.new' _ _ _ _ ?_); simp; done) | (with_reducible assumption) | (with_reducible refine At.drew ?_) | (with_reducible refine At.alloc ?_ _) | (with_reducible apply At.upd) | (with_reducible apply At.setRow) | (with_reducible refine At.rowFar ?_ (by first | (simp; done) | (simp; omega) | omega) _) | ((with_reducible refine At.far ?_ (by first | (simp; done) | (simp; omega) | omega) _)) | (with_reducible rfl) | (simp; done))) hxw2
            have B_w2 := At.ext (g := w.heap.size + 1 + 1) (t := 33) (cs := #[.bool false, .bool false, .int .i64 0, .bool false]) (by repeat (first | (with_reducible exact At.new _ _ _) | ((with_reducible refine At.new' _ _ _ _ ?_); simp; done) | (with_reducible assumption) | (with_reducible refine At.drew ?_) | (with_reducible refine At.alloc ?_ _) | (with_reducible apply At.upd) | (with_reducible apply At.setRow) | (with_reducible refine At.rowFar ?_ (by first | (simp; done) | (simp; omega) | omega) _) | ((with_reducible refine At.far ?_ (by first | (simp; done) | (simp; omega) | omega) _)) | (with_reducible rfl) | (simp; done))) hxw2
            have xw2 : Ext w w2 := Ext.trans (by repeat (first | (with_reducible exact Ext.refl _) | (with_reducible assumption) | (with_reducible refine Ext.alloc ?_ _) | (with_reducible refine Ext.drew ?_) | (with_reducible refine Ext.drewN ?_ _) | (with_reducible refine Ext.setCell ?_ (by simp; try omega) _) | (with_reducible refine Ext.setRow ?_ (by simp; try omega) _))) hxw2
            clear X_w1 s_X_w1 e_X_w1 A_w1 s_A_w1 c_A_w1_0 f_A_w1_0 c_A_w1_1 f_A_w1_1 c_A_w1_2 f_A_w1_2 c_A_w1_3 f_A_w1_3 B_w1 s_B_w1 c_B_w1_0 f_B_w1_0 c_B_w1_1 f_B_w1_1 c_B_w1_2 f_B_w1_2 c_B_w1_3 f_B_w1_3 hxw2 xw1
            have s_X_w2 := X_w2.lt
            have e_X_w2 := cellsAt_at X_w2
            have s_A_w2 := A_w2.lt
            have c_A_w2_0 := A_w2.cell 0
            have f_A_w2_0 := A_w2.frozen 0
            have c_A_w2_1 := A_w2.cell 1
            have f_A_w2_1 := A_w2.frozen 1
            have c_A_w2_2 := A_w2.cell 2
            have f_A_w2_2 := A_w2.frozen 2
            have c_A_w2_3 := A_w2.cell 3
            have f_A_w2_3 := A_w2.frozen 3
            simp only [List.getElem?_toArray, List.getElem?_cons_zero, List.getElem?_cons_succ] at c_A_w2_0 c_A_w2_1 c_A_w2_2 c_A_w2_3
            have s_B_w2 := B_w2.lt
            have c_B_w2_0 := B_w2.cell 0
            have f_B_w2_0 := B_w2.frozen 0
            have c_B_w2_1 := B_w2.cell 1
            have f_B_w2_1 := B_w2.frozen 1
            have c_B_w2_2 := B_w2.cell 2
            have f_B_w2_2 := B_w2.frozen 2
            have c_B_w2_3 := B_w2.cell 3
            have f_B_w2_3 := B_w2.frozen 3
            simp only [List.getElem?_toArray, List.getElem?_cons_zero, List.getElem?_cons_succ] at c_B_w2_0 c_B_w2_1 c_B_w2_2 c_B_w2_3
            go_wp2_with fail
            all_goals
              first | refine fin_ret rfl (fun K hK => ?_) | refine fin_norm rfl (fun K hK => ?_)
              simp [results, Try.results8, go_sem, rsat]
              try go_simp
              refine hK _ ?_
              clear hK K
              exact ⟨rfl, (by repeat (first | (with_reducible exact Ext.refl _) | (with_reducible assumption) | (with_reducible refine Ext.alloc ?_ _) | (with_reducible refine Ext.drew ?_) | (with_reducible refine Ext.drewN ?_ _) | (with_reducible refine Ext.setCell ?_ (by simp; try omega) _) | (with_reducible refine Ext.setRow ?_ (by simp; try omega) _)))⟩
    · simp only [Bool.false_eq_true, if_false, show ((2 : Int) = 3) = False by simp, show ((2 : Int) = 0) = False by simp, or_false, show ((2 : Int) = 2) = True by simp, true_and]
      unfold haltedB at CH
      by_cases hh : t < un
      · simp only [hh, if_true, decide_true, Bool.not_false, Bool.true_and] at CH ⊢
        have HCL := Lib.hid CL
        have HCH := Lib.hid CH
        have HC1 := Lib.hid C1
        have HC2 := Lib.hid C2
        clear CL CH C1 C2
        go_enter Try.func8, Try.ntmps8
        go_wp2_with fail
        refine (HCL.out _).mono ?_
        rintro e w1 ⟨rfl, hxw1⟩
        have xw1 : Ext w w1 := Ext.trans (by repeat (first | (with_reducible exact Ext.refl _) | (with_reducible assumption) | (with_reducible refine Ext.alloc ?_ _) | (with_reducible refine Ext.drew ?_) | (with_reducible refine Ext.drewN ?_ _) | (with_reducible refine Ext.setCell ?_ (by simp; try omega) _) | (with_reducible refine Ext.setRow ?_ (by simp; try omega) _))) hxw1
        have lw1 := xw1.size
        have X_w1 := At.ext (g := w.heap.size) (t := 27) (cs := #[.slice x.A x.l.length x.c, .slice x.B x.t.length x.d, .int .i64 x.ix, .int .i64 x.f1, .int .i64 x.f2, .int .i64 x.f3, .int .i64 x.h1, .int .i64 x.h2]) (by repeat (first | (with_reducible exact At.new _ _ _) | ((with_reducible refine At.new' _ _ _ _ ?_); simp; done) | (with_reducible assumption) | (with_reducible refine At.drew ?_) | (with_reducible refine At.alloc ?_ _) | (with_reducible apply At.upd) | (with_reducible apply At.setRow) | (with_reducible refine At.rowFar ?_ (by first | (simp; done) | (simp; omega) | omega) _) | ((with_reducible refine At.far ?_ (by first | (simp; done) | (simp; omega) | omega) _)) | (with_reducible rfl) | (simp; done))) hxw1
        have A_w1 := At.ext (g := w.heap.size + 1) (t := 33) (cs := #[.bool u0, .bool u1, .int .i64 un, .bool false]) (by repeat (first | (with_reducible exact At.new _ _ _) | ((with_reducible refine At.new' _ _ _ _ ?_); simp; done) | (with_reducible assumption) | (with_reducible refine At.drew ?_) | (with_reducible refine At.alloc ?_ _) | (with_reducible apply At.upd) | (with_reducible apply At.setRow) | (with_reducible refine At.rowFar ?_ (by first | (simp; done) | (simp; omega) | omega) _) | ((with_reducible refine At.far ?_ (by first | (simp; done) | (simp; omega) | omega) _)) | (with_reducible rfl) | (simp; done))) hxw1
        have B_w1 := At.ext (g := w.heap.size + 1 + 1) (t := 33) (cs := #[.bool false, .bool false, .int .i64 0, .bool false]) (by repeat (first | (with_reducible exact At.new _ _ _) | ((with_reducible refine At.new' _ _ _ _ ?_); simp; done) | (with_reducible assumption) | (with_reducible refine At.drew ?_) | (with_reducible refine At.alloc ?_ _) | (with_reducible apply At.upd) | (with_reducible apply At.setRow) | (with_reducible refine At.rowFar ?_ (by first | (simp; done) | (simp; omega) | omega) _) | ((with_reducible refine At.far ?_ (by first | (simp; done) | (simp; omega) | omega) _)) | (with_reducible rfl) | (simp; done))) hxw1
        clear hxw1
        have s_X_w1 := X_w1.lt
        have e_X_w1 := cellsAt_at X_w1
        have s_A_w1 := A_w1.lt
        have c_A_w1_0 := A_w1.cell 0
        have f_A_w1_0 := A_w1.frozen 0
        have c_A_w1_1 := A_w1.cell 1
        have f_A_w1_1 := A_w1.frozen 1
        have c_A_w1_2 := A_w1.cell 2
        have f_A_w1_2 := A_w1.frozen 2
        have c_A_w1_3 := A_w1.cell 3
        have f_A_w1_3 := A_w1.frozen 3
        simp only [List.getElem?_toArray, List.getElem?_cons_zero, List.getElem?_cons_succ] at c_A_w1_0 c_A_w1_1 c_A_w1_2 c_A_w1_3
        have s_B_w1 := B_w1.lt
        have c_B_w1_0 := B_w1.cell 0
        have f_B_w1_0 := B_w1.frozen 0
        have c_B_w1_1 := B_w1.cell 1
        have f_B_w1_1 := B_w1.frozen 1
        have c_B_w1_2 := B_w1.cell 2
        have f_B_w1_2 := B_w1.frozen 2
        have c_B_w1_3 := B_w1.cell 3
        have f_B_w1_3 := B_w1.frozen 3
        simp only [List.getElem?_toArray, List.getElem?_cons_zero, List.getElem?_cons_succ] at c_B_w1_0 c_B_w1_1 c_B_w1_2 c_B_w1_3
        go_wp2_with fail
        refine (HCH.out _ _ _).mono ?_
        rintro e w2 ⟨rfl, hxw2⟩
        have X_w2 := At.ext (g := w.heap.size) (t := 27) (cs := #[.slice x.A x.l.length x.c, .slice x.B x.t.length x.d, .int .i64 x.ix, .int .i64 x.f1, .int .i64 x.f2, .int .i64 x.f3, .int .i64 x.h1, .int .i64 x.h2]) (by repeat (first | (with_reducible exact At.new _ _ _) | ((with_reducible refine At.new' _ _ _ _ ?_); simp; done) | (with_reducible assumption) | (with_reducible refine At.drew ?_) | (with_reducible refine At.alloc ?_ _) | (with_reducible apply At.upd) | (with_reducible apply At.setRow) | (with_reducible refine At.rowFar ?_ (by first | (simp; done) | (simp; omega) | omega) _) | ((with_reducible refine At.far ?_ (by first | (simp; done) | (simp; omega) | omega) _)) | (with_reducible rfl) | (simp; done))) hxw2
        have A_w2 := At.ext (g := w.heap.size + 1) (t := 33) (cs := #[.bool u0, .bool u1, .int .i64 un, .bool false]) (by repeat (first | (with_reducible exact At.new _ _ _) | ((with_reducible refine At.new' _ _ _ _ ?_); simp; done) | (with_reducible assumption) | (with_reducible refine At.drew ?_) | (with_reducible refine At.alloc ?_ _) | (with_reducible apply At.upd) | (with_reducible apply At.setRow) | (with_reducible refine At.rowFar ?_ (by first | (simp; done) | (simp; omega) | omega) _) | ((with_reducible refine At.far ?_ (by first | (simp; done) | (simp; omega) | omega) _)) | (with_reducible rfl) | (simp; done))) hxw2
        have B_w2 := At.ext (g := w.heap.size + 1 + 1) (t := 33) (cs := #[.bool false, .bool false, .int .i64 0, .bool false]) (by repeat (first | (with_reducible exact At.new _ _ _) | ((with_reducible refine At.new' _ _ _ _ ?_); simp; done) | (with_reducible assumption) | (with_reducible refine At.drew ?_) | (with_reducible refine At.alloc ?_ _) | (with_reducible apply At.upd) | (with_reducible apply At.setRow) | (with_reducible refine At.rowFar ?_ (by first | (simp; done) | (simp; omega) | omega) _) | ((with_reducible refine At.far ?_ (by first | (simp; done) | (simp; omega) | omega) _)) | (with_reducible rfl) | (simp; done))) hxw2
        have xw2 : Ext w w2 := Ext.trans (by repeat (first | (with_reducible exact Ext.refl _) | (with_reducible assumption) | (with_reducible refine Ext.alloc ?_ _) | (with_reducible refine Ext.drew ?_) | (with_reducible refine Ext.drewN ?_ _) | (with_reducible refine Ext.setCell ?_ (by simp; try omega) _) | (with_reducible refine Ext.setRow ?_ (by simp; try omega) _))) hxw2
        clear X_w1 s_X_w1 e_X_w1 A_w1 s_A_w1 c_A_w1_0 f_A_w1_0 c_A_w1_1 f_A_w1_1 c_A_w1_2 f_A_w1_2 c_A_w1_3 f_A_w1_3 B_w1 s_B_w1 c_B_w1_0 f_B_w1_0 c_B_w1_1 f_B_w1_1 c_B_w1_2 f_B_w1_2 c_B_w1_3 f_B_w1_3 hxw2 xw1
        have s_X_w2 := X_w2.lt
        have e_X_w2 := cellsAt_at X_w2
        have s_A_w2 := A_w2.lt
        have c_A_w2_0 := A_w2.cell 0
        have f_A_w2_0 := A_w2.frozen 0
        have c_A_w2_1 := A_w2.cell 1
        have f_A_w2_1 := A_w2.frozen 1
        have c_A_w2_2 := A_w2.cell 2
        have f_A_w2_2 := A_w2.frozen 2
        have c_A_w2_3 := A_w2.cell 3
        have f_A_w2_3 := A_w2.frozen 3
        simp only [List.getElem?_toArray, List.getElem?_cons_zero, List.getElem?_cons_succ] at c_A_w2_0 c_A_w2_1 c_A_w2_2 c_A_w2_3
        have s_B_w2 := B_w2.lt
        have c_B_w2_0 := B_w2.cell 0
        have f_B_w2_0 := B_w2.frozen 0
        have c_B_w2_1 := B_w2.cell 1
        have f_B_w2_1 := B_w2.frozen 1
        have c_B_w2_2 := B_w2.cell 2
        have f_B_w2_2 := B_w2.frozen 2
        have c_B_w2_3 := B_w2.cell 3
        have f_B_w2_3 := B_w2.frozen 3
        simp only [List.getElem?_toArray, List.getElem?_cons_zero, List.getElem?_cons_succ] at c_B_w2_0 c_B_w2_1 c_B_w2_2 c_B_w2_3
        go_wp2_with fail
        all_goals
          first | refine fin_ret rfl (fun K hK => ?_) | refine fin_norm rfl (fun K hK => ?_)
          simp [results, Try.results8, go_sem, rsat]
          try go_simp
          refine hK _ ?_
          clear hK K
          exact ⟨rfl, (by repeat (first | (with_reducible exact Ext.refl _) | (with_reducible assumption) | (with_reducible refine Ext.alloc ?_ _) | (with_reducible refine Ext.drew ?_) | (with_reducible refine Ext.drewN ?_ _) | (with_reducible refine Ext.setCell ?_ (by simp; try omega) _) | (with_reducible refine Ext.setRow ?_ (by simp; try omega) _)))⟩
      · simp only [hh, if_false, decide_false, Bool.and_false] at CH ⊢
        cases u0
        · cases u1
          · simp only [if_true, if_false, Bool.true_eq_false, Bool.false_eq_true]
            have HCL := Lib.hid CL
            have HCH := Lib.hid CH
            have HC1 := Lib.hid C1
            have HC2 := Lib.hid C2
            clear CL CH C1 C2
            go_enter Try.func8, Try.ntmps8
            go_wp2_with fail
            refine (HCL.out _).mono ?_
            rintro e w1 ⟨rfl, hxw1⟩
            have xw1 : Ext w w1 := Ext.trans (by repeat (first | (with_reducible exact Ext.refl _) | (with_reducible assumption) | (with_reducible refine Ext.alloc ?_ _) | (with_reducible refine Ext.drew ?_) | (with_reducible refine Ext.drewN ?_ _) | (with_reducible refine Ext.setCell ?_ (by simp; try omega) _) | (with_reducible refine Ext.setRow ?_ (by simp; try omega) _))) hxw1
            have lw1 := xw1.size
            have X_w1 := At.ext (g := w.heap.size) (t := 27) (cs := #[.slice x.A x.l.length x.c, .slice x.B x.t.length x.d, .int .i64 x.ix, .int .i64 x.f1, .int .i64 x.f2, .int .i64 x.f3, .int .i64 x.h1, .int .i64 x.h2]) (by repeat (first | (with_reducible exact At.new _ _ _) | ((with_reducible refine At.new' _ _ _ _ ?_); simp; done) | (with_reducible assumption) | (with_reducible refine At.drew ?_) | (with_reducible refine At.alloc ?_ _) | (with_reducible apply At.upd) | (with_reducible apply At.setRow) | (with_reducible refine At.rowFar ?_ (by first | (simp; done) | (simp; omega) | omega) _) | ((with_reducible refine At.far ?_ (by first | (simp; done) | (simp; omega) | omega) _)) | (with_reducible rfl) | (simp; done))) hxw1
            have A_w1 := At.ext (g := w.heap.size + 1) (t := 33) (cs := #[.bool false, .bool false, .int .i64 un, .bool false]) (by repeat (first | (with_reducible exact At.new _ _ _) | ((with_reducible refine At.new' _ _ _ _ ?_); simp; done) | (with_reducible assumption) | (with_reducible refine At.drew ?_) | (with_reducible refine At.alloc ?_ _) | (with_reducible apply At.upd) | (with_reducible apply At.setRow) | (with_reducible refine At.rowFar ?_ (by first | (simp; done) | (simp; omega) | omega) _) | ((with_reducible refine At.far ?_ (by first | (simp; done) | (simp; omega) | omega) _)) | (with_reducible rfl) | (simp; done))) hxw1
            have B_w1 := At.ext (g := w.heap.size + 1 + 1) (t := 33) (cs := #[.bool false, .bool false, .int .i64 0, .bool false]) (by repeat (first | (with_reducible exact At.new _ _ _) | ((with_reducible refine At.new' _ _ _ _ ?_); simp; done) | (with_reducible assumption) | (with_reducible refine At.drew ?_) | (with_reducible refine At.alloc ?_ _) | (with_reducible apply At.upd) | (with_reducible apply At.setRow) | (with_reducible refine At.rowFar ?_ (by first | (simp; done) | (simp; omega) | omega) _) | ((with_reducible refine At.far ?_ (by first | (simp; done) | (simp; omega) | omega) _)) | (with_reducible rfl) | (simp; done))) hxw1
            clear hxw1
            have s_X_w1 := X_w1.lt
            have e_X_w1 := cellsAt_at X_w1
            have s_A_w1 := A_w1.lt
            have c_A_w1_0 := A_w1.cell 0
            have f_A_w1_0 := A_w1.frozen 0
            have c_A_w1_1 := A_w1.cell 1
            have f_A_w1_1 := A_w1.frozen 1
            have c_A_w1_2 := A_w1.cell 2
            have f_A_w1_2 := A_w1.frozen 2
            have c_A_w1_3 := A_w1.cell 3
            have f_A_w1_3 := A_w1.frozen 3
            simp only [List.getElem?_toArray, List.getElem?_cons_zero, List.getElem?_cons_succ] at c_A_w1_0 c_A_w1_1 c_A_w1_2 c_A_w1_3
            have s_B_w1 := B_w1.lt
            have c_B_w1_0 := B_w1.cell 0
            have f_B_w1_0 := B_w1.frozen 0
            have c_B_w1_1 := B_w1.cell 1
            have f_B_w1_1 := B_w1.frozen 1
            have c_B_w1_2 := B_w1.cell 2
            have f_B_w1_2 := B_w1.frozen 2
            have c_B_w1_3 := B_w1.cell 3
            have f_B_w1_3 := B_w1.frozen 3
            simp only [List.getElem?_toArray, List.getElem?_cons_zero, List.getElem?_cons_succ] at c_B_w1_0 c_B_w1_1 c_B_w1_2 c_B_w1_3
            go_wp2_with fail
            refine (HCH.out _ _ _).mono ?_
            rintro e w2 ⟨rfl, hxw2⟩
            have X_w2 := At.ext (g := w.heap.size) (t := 27) (cs := #[.slice x.A x.l.length x.c, .slice x.B x.t.length x.d, .int .i64 x.ix, .int .i64 x.f1, .int .i64 x.f2, .int .i64 x.f3, .int .i64 x.h1, .int .i64 x.h2]) (by repeat (first | (with_reducible exact At.new _ _ _) | ((with_reducible refine At.new' _ _ _ _ ?_); simp; done) | (with_reducible assumption) | (with_reducible refine At.drew ?_) | (with_reducible refine At.alloc ?_ _) | (with_reducible apply At.upd) | (with_reducible apply At.setRow) | (with_reducible refine At.rowFar ?_ (by first | (simp; done) | (simp; omega) | omega) _) | ((with_reducible refine At.far ?_ (by first | (simp; done) | (simp; omega) | omega) _)) | (with_reducible rfl) | (simp; done))) hxw2
            have A_w2 := At.ext (g := w.heap.size + 1) (t := 33) (cs := #[.bool false, .bool false, .int .i64 un, .bool false]) (by repeat (first | (with_reducible exact At.new _ _ _) | ((with_reducible refine At.new' _ _ _ _ ?_); simp; done) | (with_reducible assumption) | (with_reducible refine At.drew ?_) | (with_reducible refine At.alloc ?_ _) | (with_reducible apply At.upd) | (with_reducible apply At.setRow) | (with_reducible refine At.rowFar ?_ (by first | (simp; done) | (simp; omega) | omega) _) | ((with_reducible refine At.far ?_ (by first | (simp; done) | (simp; omega) | omega) _)) | (with_reducible rfl) | (simp; done))) hxw2
            have B_w2 := At.ext (g := w.heap.size + 1 + 1) (t := 33) (cs := #[.bool false, .bool false, .int .i64 0, .bool false]) (by repeat (first | (with_reducible exact At.new _ _ _) | ((with_reducible refine At.new' _ _ _ _ ?_); simp; done) | (with_reducible assumption) | (with_reducible refine At.drew ?_) | (with_reducible refine At.alloc ?_ _) | (with_reducible apply At.upd) | (with_reducible apply At.setRow) | (with_reducible refine At.rowFar ?_ (by first | (simp; done) | (simp; omega) | omega) _) | ((with_reducible refine At.far ?_ (by first | (simp; done) | (simp; omega) | omega) _)) | (with_reducible rfl) | (simp; done))) hxw2
            have xw2 : Ext w w2 := Ext.trans (by repeat (first | (with_reducible exact Ext.refl _) | (with_reducible assumption) | (with_reducible refine Ext.alloc ?_ _) | (with_reducible refine Ext.drew ?_) | (with_reducible refine Ext.drewN ?_ _) | (with_reducible refine Ext.setCell ?_ (by simp; try omega) _) | (with_reducible refine Ext.setRow ?_ (by simp; try omega) _))) hxw2
            clear X_w1 s_X_w1 e_X_w1 A_w1 s_A_w1 c_A_w1_0 f_A_w1_0 c_A_w1_1 f_A_w1_1 c_A_w1_2 f_A_w1_2 c_A_w1_3 f_A_w1_3 B_w1 s_B_w1 c_B_w1_0 f_B_w1_0 c_B_w1_1 f_B_w1_1 c_B_w1_2 f_B_w1_2 c_B_w1_3 f_B_w1_3 hxw2 xw1
            have s_X_w2 := X_w2.lt
            have e_X_w2 := cellsAt_at X_w2
            have s_A_w2 := A_w2.lt
            have c_A_w2_0 := A_w2.cell 0
            have f_A_w2_0 := A_w2.frozen 0
            have c_A_w2_1 := A_w2.cell 1
            have f_A_w2_1 := A_w2.frozen 1
            have c_A_w2_2 := A_w2.cell 2
            have f_A_w2_2 := A_w2.frozen 2
            have c_A_w2_3 := A_w2.cell 3
            have f_A_w2_3 := A_w2.frozen 3
            simp only [List.getElem?_toArray, List.getElem?_cons_zero, List.getElem?_cons_succ] at c_A_w2_0 c_A_w2_1 c_A_w2_2 c_A_w2_3
            have s_B_w2 := B_w2.lt
            have c_B_w2_0 := B_w2.cell 0
            have f_B_w2_0 := B_w2.frozen 0
            have c_B_w2_1 := B_w2.cell 1
            have f_B_w2_1 := B_w2.frozen 1
            have c_B_w2_2 := B_w2.cell 2
            have f_B_w2_2 := B_w2.frozen 2
            have c_B_w2_3 := B_w2.cell 3
            have f_B_w2_3 := B_w2.frozen 3
            simp only [List.getElem?_toArray, List.getElem?_cons_zero, List.getElem?_cons_succ] at c_B_w2_0 c_B_w2_1 c_B_w2_2 c_B_w2_3
            go_wp2_with fail
            refine (HC2.out _ _ _).mono ?_
            rintro e w3 ⟨rfl, hxw3⟩
            have B_w3 := At.ext (g := w.heap.size + 1 + 1) (t := 33) (cs := #[.bool false, .bool false, .int .i64 0, .bool false]) (by repeat (first | (with_reducible exact At.new _ _ _) | ((with_reducible refine At.new' _ _ _ _ ?_); simp; done) | (with_reducible assumption) | (with_reducible refine At.drew ?_) | (with_reducible refine At.alloc ?_ _) | (with_reducible apply At.upd) | (with_reducible apply At.setRow) | (with_reducible refine At.rowFar ?_ (by first | (simp; done) | (simp; omega) | omega) _) | ((with_reducible refine At.far ?_ (by first | (simp; done) | (simp; omega) | omega) _)) | (with_reducible rfl) | (simp; done))) hxw3
            have xw3 : Ext w w3 := Ext.trans (by repeat (first | (with_reducible exact Ext.refl _) | (with_reducible assumption) | (with_reducible refine Ext.alloc ?_ _) | (with_reducible refine Ext.drew ?_) | (with_reducible refine Ext.drewN ?_ _) | (with_reducible refine Ext.setCell ?_ (by simp; try omega) _) | (with_reducible refine Ext.setRow ?_ (by simp; try omega) _))) hxw3
            clear B_w2 s_B_w2 c_B_w2_0 f_B_w2_0 c_B_w2_1 f_B_w2_1 c_B_w2_2 f_B_w2_2 c_B_w2_3 f_B_w2_3 X_w2 s_X_w2 e_X_w2 A_w2 s_A_w2 c_A_w2_0 f_A_w2_0 c_A_w2_1 f_A_w2_1 c_A_w2_2 f_A_w2_2 c_A_w2_3 f_A_w2_3 hxw3 xw2
            have s_B_w3 := B_w3.lt
            have c_B_w3_0 := B_w3.cell 0
            have f_B_w3_0 := B_w3.frozen 0
            have c_B_w3_1 := B_w3.cell 1
            have f_B_w3_1 := B_w3.frozen 1
            have c_B_w3_2 := B_w3.cell 2
            have f_B_w3_2 := B_w3.frozen 2
            have c_B_w3_3 := B_w3.cell 3
            have f_B_w3_3 := B_w3.frozen 3
            simp only [List.getElem?_toArray, List.getElem?_cons_zero, List.getElem?_cons_succ] at c_B_w3_0 c_B_w3_1 c_B_w3_2 c_B_w3_3
            go_wp2_with fail
            all_goals
              first | refine fin_ret rfl (fun K hK => ?_) | refine fin_norm rfl (fun K hK => ?_)
              simp [results, Try.results8, go_sem, rsat]
              try go_simp
              refine hK _ ?_
              clear hK K
              exact ⟨rfl, (by repeat (first | (with_reducible exact Ext.refl _) | (with_reducible assumption) | (with_reducible refine Ext.alloc ?_ _) | (with_reducible refine Ext.drew ?_) | (with_reducible refine Ext.drewN ?_ _) | (with_reducible refine Ext.setCell ?_ (by simp; try omega) _) | (with_reducible refine Ext.setRow ?_ (by simp; try omega) _)))⟩
          · simp only [if_true, if_false, Bool.true_eq_false, Bool.false_eq_true]
            have HCL := Lib.hid CL
            have HCH := Lib.hid CH
            have HC1 := Lib.hid C1
            have HC2 := Lib.hid C2
            clear CL CH C1 C2
            go_enter Try.func8, Try.ntmps8
            go_wp2_with fail
            refine (HCL.out _).mono ?_
            rintro e w1 ⟨rfl, hxw1⟩
            have xw1 : Ext w w1 := Ext.trans (by repeat (first | (with_reducible exact Ext.refl _) | (with_reducible assumption) | (with_reducible refine Ext.alloc ?_ _) | (with_reducible refine Ext.drew ?_) | (with_reducible refine Ext.drewN ?_ _) | (with_reducible refine Ext.setCell ?_ (by simp; try omega) _) | (with_reducible refine Ext.setRow ?_ (by simp; try omega) _))) hxw1
            have lw1 := xw1.size
            have X_w1 := At.ext (g := w.heap.size) (t := 27) (cs := #[.slice x.A x.l.length x.c, .slice x.B x.t.length x.d, .int .i64 x.ix, .int .i64 x.f1, .int .i64 x.f2, .int .i64 x.f3, .int .i64 x.h1, .int .i64 x.h2]) (by repeat (first | (with_reducible exact At.new _ _ _) | ((with_reducible refine At.new' _ _ _ _ ?_); simp; done) | (with_reducible assumption) | (with_reducible refine At.drew ?_) | (with_reducible refine At.alloc ?_ _) | (with_reducible apply At.upd) | (with_reducible apply At.setRow) | (with_reducible refine At.rowFar ?_ (by first | (simp; done) | (simp; omega) | omega) _) | ((with_reducible refine At.far ?_ (by first | (simp; done) | (simp; omega) | omega) _)) | (with_reducible rfl) | (simp; done))) hxw1
            have A_w1 := At.ext (g := w.heap.size + 1) (t := 33) (cs := #[.bool false, .bool true, .int .i64 un, .bool false]) (by repeat (first | (with_reducible exact At.new _ _ _) | ((with_reducible refine At.new' _ _ _ _ ?_); simp; done) | (with_reducible assumption) | (with_reducible refine At.drew ?_) | (with_reducible refine At.alloc ?_ _) | (with_reducible apply At.upd) | (with_reducible apply At.setRow) | (with_reducible refine At.rowFar ?_ (by first | (simp; done) | (simp; omega) | omega) _) | ((with_reducible refine At.far ?_ (by first | (simp; done) | (simp; omega) | omega) _)) | (with_reducible rfl) | (simp; done))) hxw1
            have B_w1 := At.ext (g := w.heap.size + 1 + 1) (t := 33) (cs := #[.bool false, .bool false, .int .i64 0, .bool false]) (by repeat (first | (with_reducible exact At.new _ _ _) | ((with_reducible refine At.new' _ _ _ _ ?_); simp; done) | (with_reducible assumption) | (with_reducible refine At.drew ?_) | (with_reducible refine At.alloc ?_ _) | (with_reducible apply At.upd) | (with_reducible apply At.setRow) | (with_reducible refine At.rowFar ?_ (by first | (simp; done) | (simp; omega) | omega) _) | ((with_reducible refine At.far ?_ (by first | (simp; done) | (simp; omega) | omega) _)) | (with_reducible rfl) | (simp; done))) hxw1
            clear hxw1
            have s_X_w1 := X_w1.lt
            have e_X_w1 := cellsAt_at X_w1
            have s_A_w1 := A_w1.lt
            have c_A_w1_0 := A_w1.cell 0
            have f_A_w1_0 := A_w1.frozen 0
            have c_A_w1_1 := A_w1.cell 1
            have f_A_w1_1 := A_w1.frozen 1
            have c_A_w1_2 := A_w1.cell 2
            have f_A_w1_2 := A_w1.frozen 2
            have c_A_w1_3 := A_w1.cell 3
            have f_A_w1_3 := A_w1.frozen 3
            simp only [List.getElem?_toArray, List.getElem?_cons_zero, List.getElem?_cons_succ] at c_A_w1_0 c_A_w1_1 c_A_w1_2 c_A_w1_3
            have s_B_w1 := B_w1.lt
            have c_B_w1_0 := B_w1.cell 0
            have f_B_w1_0 := B_w1.frozen 0
            have c_B_w1_1 := B_w1.cell 1
            have f_B_w1_1 := B_w1.frozen 1
            have c_B_w1_2 := B_w1.cell 2
            have f_B_w1_2 := B_w1.frozen 2
            have c_B_w1_3 := B_w1.cell 3
            have f_B_w1_3 := B_w1.frozen 3
            simp only [List.getElem?_toArray, List.getElem?_cons_zero, List.getElem?_cons_succ] at c_B_w1_0 c_B_w1_1 c_B_w1_2 c_B_w1_3
            go_wp2_with fail
            refine (HCH.out _ _ _).mono ?_
            rintro e w2 ⟨rfl, hxw2⟩
            have X_w2 := At.ext (g := w.heap.size) (t := 27) (cs := #[.slice x.A x.l.length x.c, .slice x.B x.t.length x.d, .int .i64 x.ix, .int .i64 x.f1, .int .i64 x.f2, .int .i64 x.f3, .int .i64 x.h1, .int .i64 x.h2]) (by repeat (first | (with_reducible exact At.new _ _ _) | ((with_reducible refine At.new' _ _ _ _ ?_); simp; done) | (with_reducible assumption) | (with_reducible refine At.drew ?_) | (with_reducible refine At.alloc ?_ _) | (with_reducible apply At.upd) | (with_reducible apply At.setRow) | (with_reducible refine At.rowFar ?_ (by first | (simp; done) | (simp; omega) | omega) _) | ((with_reducible refine At.far ?_ (by first | (simp; done) | (simp; omega) | omega) _)) | (with_reducible rfl) | (simp; done))) hxw2
            have A_w2 := At.ext (g := w.heap.size + 1) (t := 33) (cs := #[.bool false, .bool true, .int .i64 un, .bool false]) (by repeat (first | (with_reducible exact At.new _ _ _) | ((with_reducible refine At.new' _ _ _ _ ?_); simp; done) | (with_reducible assumption) | (with_reducible refine At.drew ?_) | (with_reducible refine At.alloc ?_ _) | (with_reducible apply At.upd) | (with_reducible apply At.setRow) | (with_reducible refine At.rowFar ?_ (by first | (simp; done) | (simp; omega) | omega) _) | ((with_reducible refine At.far ?_ (by first | (simp; done) | (simp; omega) | omega) _)) | (with_reducible rfl) | (simp; done))) hxw2
            have B_w2 := At.ext (g := w.heap.size + 1 + 1) (t := 33) (cs := #[.bool false, .bool false, .int .i64 0, .bool false]) (by repeat (first | (with_reducible exact At.new _ _ _) | ((with_reducible refine At.new' _ _ _ _ ?_); simp; done) | (with_reducible assumption) | (with_reducible refine At.drew ?_) | (with_reducible refine At.alloc ?_ _) | (with_reducible apply At.upd) | (with_reducible apply At.setRow) | (with_reducible refine At.rowFar ?_ (by first | (simp; done) | (simp; omega) | omega) _) | ((with_reducible refine At.far ?_ (by first | (simp; done) | (simp; omega) | omega) _)) | (with_reducible rfl) | (simp; done))) hxw2
            have xw2 : Ext w w2 := Ext.trans (by repeat (first | (with_reducible exact Ext.refl _) | (with_reducible assumption) | (with_reducible refine Ext.alloc ?_ _) | (with_reducible refine Ext.drew ?_) | (with_reducible refine Ext.drewN ?_ _) | (with_reducible refine Ext.setCell ?_ (by simp; try omega) _) | (with_reducible refine Ext.setRow ?_ (by simp; try omega) _))) hxw2
            clear X_w1 s_X_w1 e_X_w1 A_w1 s_A_w1 c_A_w1_0 f_A_w1_0 c_A_w1_1 f_A_w1_1 c_A_w1_2 f_A_w1_2 c_A_w1_3 f_A_w1_3 B_w1 s_B_w1 c_B_w1_0 f_B_w1_0 c_B_w1_1 f_B_w1_1 c_B_w1_2 f_B_w1_2 c_B_w1_3 f_B_w1_3 hxw2 xw1
            have s_X_w2 := X_w2.lt
            have e_X_w2 := cellsAt_at X_w2
            have s_A_w2 := A_w2.lt
            have c_A_w2_0 := A_w2.cell 0
            have f_A_w2_0 := A_w2.frozen 0
            have c_A_w2_1 := A_w2.cell 1
            have f_A_w2_1 := A_w2.frozen 1
            have c_A_w2_2 := A_w2.cell 2
            have f_A_w2_2 := A_w2.frozen 2
            have c_A_w2_3 := A_w2.cell 3
            have f_A_w2_3 := A_w2.frozen 3
            simp only [List.getElem?_toArray, List.getElem?_cons_zero, List.getElem?_cons_succ] at c_A_w2_0 c_A_w2_1 c_A_w2_2 c_A_w2_3
            have s_B_w2 := B_w2.lt
            have c_B_w2_0 := B_w2.cell 0
            have f_B_w2_0 := B_w2.frozen 0
            have c_B_w2_1 := B_w2.cell 1
            have f_B_w2_1 := B_w2.frozen 1
            have c_B_w2_2 := B_w2.cell 2
            have f_B_w2_2 := B_w2.frozen 2
            have c_B_w2_3 := B_w2.cell 3
            have f_B_w2_3 := B_w2.frozen 3
            simp only [List.getElem?_toArray, List.getElem?_cons_zero, List.getElem?_cons_succ] at c_B_w2_0 c_B_w2_1 c_B_w2_2 c_B_w2_3
            go_wp2_with fail
            refine (HC1.out _ _ _).mono ?_
            rintro e w3 ⟨rfl, hxw3⟩
            have B_w3 := At.ext (g := w.heap.size + 1 + 1) (t := 33) (cs := #[.bool false, .bool false, .int .i64 0, .bool false]) (by repeat (first | (with_reducible exact At.new _ _ _) | ((with_reducible refine At.new' _ _ _ _ ?_); simp; done) | (with_reducible assumption) | (with_reducible refine At.drew ?_) | (with_reducible refine At.alloc ?_ _) | (with_reducible apply At.upd) | (with_reducible apply At.setRow) | (with_reducible refine At.rowFar ?_ (by first | (simp; done) | (simp; omega) | omega) _) | ((with_reducible refine At.far ?_ (by first | (simp; done) | (simp; omega) | omega) _)) | (with_reducible rfl) | (simp; done))) hxw3
            have xw3 : Ext w w3 := Ext.trans (by repeat (first | (with_reducible exact Ext.refl _) | (with_reducible assumption) | (with_reducible refine Ext.alloc ?_ _) | (with_reducible refine Ext.drew ?_) | (with_reducible refine Ext.drewN ?_ _) | (with_reducible refine Ext.setCell ?_ (by simp; try omega) _) | (with_reducible refine Ext.setRow ?_ (by simp; try omega) _))) hxw3
            clear B_w2 s_B_w2 c_B_w2_0 f_B_w2_0 c_B_w2_1 f_B_w2_1 c_B_w2_2 f_B_w2_2 c_B_w2_3 f_B_w2_3 X_w2 s_X_w2 e_X_w2 A_w2 s_A_w2 c_A_w2_0 f_A_w2_0 c_A_w2_1 f_A_w2_1 c_A_w2_2 f_A_w2_2 c_A_w2_3 f_A_w2_3 hxw3 xw2
            have s_B_w3 := B_w3.lt
            have c_B_w3_0 := B_w3.cell 0
            have f_B_w3_0 := B_w3.frozen 0
            have c_B_w3_1 := B_w3.cell 1
            have f_B_w3_1 := B_w3.frozen 1
            have c_B_w3_2 := B_w3.cell 2
            have f_B_w3_2 := B_w3.frozen 2
            have c_B_w3_3 := B_w3.cell 3
            have f_B_w3_3 := B_w3.frozen 3
            simp only [List.getElem?_toArray, List.getElem?_cons_zero, List.getElem?_cons_succ] at c_B_w3_0 c_B_w3_1 c_B_w3_2 c_B_w3_3
            go_wp2_with fail
            all_goals
              first | refine fin_ret rfl (fun K hK => ?_) | refine fin_norm rfl (fun K hK => ?_)
              simp [results, Try.results8, go_sem, rsat]
              try go_simp
              refine hK _ ?_
              clear hK K
              exact ⟨rfl, (by repeat (first | (with_reducible exact Ext.refl _) | (with_reducible assumption) | (with_reducible refine Ext.alloc ?_ _) | (with_reducible refine Ext.drew ?_) | (with_reducible refine Ext.drewN ?_ _) | (with_reducible refine Ext.setCell ?_ (by simp; try omega) _) | (with_reducible refine Ext.setRow ?_ (by simp; try omega) _)))⟩
        · cases u1
          · simp only [if_true, if_false, Bool.true_eq_false, Bool.false_eq_true]
            have HCL := Lib.hid CL
            have HCH := Lib.hid CH
            have HC1 := Lib.hid C1
            have HC2 := Lib.hid C2
            clear CL CH C1 C2
            go_enter Try.func8, Try.ntmps8
            go_wp2_with fail
            refine (HCL.out _).mono ?_
            rintro e w1 ⟨rfl, hxw1⟩
            have xw1 : Ext w w1 := Ext.trans (by repeat (first | (with_reducible exact Ext.refl _) | (with_reducible assumption) | (with_reducible refine Ext.alloc ?_ _) | (with_reducible refine Ext.drew ?_) | (with_reducible refine Ext.drewN ?_ _) | (with_reducible refine Ext.setCell ?_ (by simp; try omega) _) | (with_reducible refine Ext.setRow ?_ (by simp; try omega) _))) hxw1
            have lw1 := xw1.size
            have X_w1 := At.ext (g := w.heap.size) (t := 27) (cs := #[.slice x.A x.l.length x.c, .slice x.B x.t.length x.d, .int .i64 x.ix, .int .i64 x.f1, .int .i64 x.f2, .int .i64 x.f3, .int .i64 x.h1, .int .i64 x.h2]) (by repeat (first | (with_reducible exact At.new _ _ _) | ((with_reducible refine At.new' _ _ _ _ ?_); simp; done) | (with_reducible assumption) | (with_reducible refine At.drew ?_) | (with_reducible refine At.alloc ?_ _) | (with_reducible apply At.upd) | (with_reducible apply At.setRow) | (with_reducible refine At.rowFar ?_ (by first | (simp; done) | (simp; omega) | omega) _) | ((with_reducible refine At.far ?_ (by first | (simp; done) | (simp; omega) | omega) _)) | (with_reducible rfl) | (simp; done))) hxw1
            have A_w1 := At.ext (g := w.heap.size + 1) (t := 33) (cs := #[.bool true, .bool false, .int .i64 un, .bool false]) (by repeat (first | (with_reducible exact At.new _ _ _) | ((with_reducible refine At.new' _ _ _ _ ?_); simp; done) | (with_reducible assumption) | (with_reducible refine At.drew ?_) | (with_reducible refine At.alloc ?_ _) | (with_reducible apply At.upd) | (with_reducible apply At.setRow) | (with_reducible refine At.rowFar ?_ (by first | (simp; done) | (simp; omega) | omega) _) | ((with_reducible refine At.far ?_ (by first | (simp; done) | (simp; omega) | omega) _)) | (with_reducible rfl) | (simp; done))) hxw1
            have B_w1 := At.ext (g := w.heap.size + 1 + 1) (t := 33) (cs := #[.bool false, .bool false, .int .i64 0, .bool false]) (by repeat (first | (with_reducible exact At.new _ _ _) | ((with_reducible refine At.new' _ _ _ _ ?_); simp; done) | (with_reducible assumption) | (with_reducible refine At.drew ?_) | (with_reducible refine At.alloc ?_ _) | (with_reducible apply At.upd) | (with_reducible apply At.setRow) | (with_reducible refine At.rowFar ?_ (by first | (simp; done) | (simp; omega) | omega) _) | ((with_reducible refine At.far ?_ (by first | (simp; done) | (simp; omega) | omega) _)) | (with_reducible rfl) | (simp; done))) hxw1
            clear hxw1
            have s_X_w1 := X_w1.lt
            have e_X_w1 := cellsAt_at X_w1
            have s_A_w1 := A_w1.lt
            have c_A_w1_0 := A_w1.cell 0
            have f_A_w1_0 := A_w1.frozen 0
            have c_A_w1_1 := A_w1.cell 1
            have f_A_w1_1 := A_w1.frozen 1
            have c_A_w1_2 := A_w1.cell 2
            have f_A_w1_2 := A_w1.frozen 2
            have c_A_w1_3 := A_w1.cell 3
            have f_A_w1_3 := A_w1.frozen 3
            simp only [List.getElem?_toArray, List.getElem?_cons_zero, List.getElem?_cons_succ] at c_A_w1_0 c_A_w1_1 c_A_w1_2 c_A_w1_3
            have s_B_w1 := B_w1.lt
            have c_B_w1_0 := B_w1.cell 0
            have f_B_w1_0 := B_w1.frozen 0
            have c_B_w1_1 := B_w1.cell 1
            have f_B_w1_1 := B_w1.frozen 1
            have c_B_w1_2 := B_w1.cell 2
            have f_B_w1_2 := B_w1.frozen 2
            have c_B_w1_3 := B_w1.cell 3
            have f_B_w1_3 := B_w1.frozen 3
            simp only [List.getElem?_toArray, List.getElem?_cons_zero, List.getElem?_cons_succ] at c_B_w1_0 c_B_w1_1 c_B_w1_2 c_B_w1_3
            go_wp2_with fail
            refine (HCH.out _ _ _).mono ?_
            rintro e w2 ⟨rfl, hxw2⟩
            have X_w2 := At.ext (g := w.heap.size) (t := 27) (cs := #[.slice x.A x.l.length x.c, .slice x.B x.t.length x.d, .int .i64 x.ix, .int .i64 x.f1, .int .i64 x.f2, .int .i64 x.f3, .int .i64 x.h1, .int .i64 x.h2]) (by repeat (first | (with_reducible exact At.new _ _ _) | ((with_reducible refine At.new' _ _ _ _ ?_); simp; done) | (with_reducible assumption) | (with_reducible refine At.drew ?_) | (with_reducible refine At.alloc ?_ _) | (with_reducible apply At.upd) | (with_reducible apply At.setRow) | (with_reducible refine At.rowFar ?_ (by first | (simp; done) | (simp; omega) | omega) _) | ((with_reducible refine At.far ?_ (by first | (simp; done) | (simp; omega) | omega) _)) | (with_reducible rfl) | (simp; done))) hxw2
            have A_w2 := At.ext (g := w.heap.size + 1) (t := 33) (cs := #[.bool true, .bool false, .int .i64 un, .bool false]) (by repeat (first | (with_reducible exact At.new _ _ _) | ((with_reducible refine At.new' _ _ _ _ ?_); simp; done) | (with_reducible assumption) | (with_reducible refine At.drew ?_) | (with_reducible refine At.alloc ?_ _) | (with_reducible apply At.upd) | (with_reducible apply At.setRow) | (with_reducible refine At.rowFar ?_ (by first | (simp; done) | (simp; omega) | omega) _) | ((with_reducible refine At.far ?_ (by first | (simp; done) | (simp; omega) | omega) _)) | (with_reducible rfl) | (simp; done))) hxw2
            have B_w2 := At.ext (g := w.heap.size + 1 + 1) (t := 33) (cs := #[.bool false, .bool false, .int .i64 0, .bool false]) (by repeat (first | (with_reducible exact At.new _ _ _) | ((with_reducible refine At.new' _ _ _ _ ?_); simp; done) | (with_reducible assumption) | (with_reducible refine At.drew ?_) | (with_reducible refine At.alloc ?_ _) | (with_reducible apply At.upd) | (with_reducible apply At.setRow) | (with_reducible refine At.rowFar ?_ (by first | (simp; done) | (simp; omega) | omega) _) | ((with_reducible refine At.far ?_ (by first | (simp; done) | (simp; omega) | omega) _)) | (with_reducible rfl) | (simp; done))) hxw2
            have xw2 : Ext w w2 := Ext.trans (by repeat (first | (with_reducible exact Ext.refl _) | (with_reducible assumption) | (with_reducible refine Ext.alloc ?_ _) | (with_reducible refine Ext.drew ?_) | (with_reducible refine Ext.drewN ?_ _) | (with_reducible refine Ext.setCell ?_ (by simp; try omega) _) | (with_reducible refine Ext.setRow ?_ (by simp; try omega) _))) hxw2
            clear X_w1 s_X_w1 e_X_w1 A_w1 s_A_w1 c_A_w1_0 f_A_w1_0 c_A_w1_1 f_A_w1_1 c_A_w1_2 f_A_w1_2 c_A_w1_3 f_A_w1_3 B_w1 s_B_w1 c_B_w1_0 f_B_w1_0 c_B_w1_1 f_B_w1_1 c_B_w1_2 f_B_w1_2 c_B_w1_3 f_B_w1_3 hxw2 xw1
            have s_X_w2 := X_w2.lt
            have e_X_w2 := cellsAt_at X_w2
            have s_A_w2 := A_w2.lt
            have c_A_w2_0 := A_w2.cell 0
            have f_A_w2_0 := A_w2.frozen 0
            have c_A_w2_1 := A_w2.cell 1
            have f_A_w2_1 := A_w2.frozen 1
            have c_A_w2_2 := A_w2.cell 2
            have f_A_w2_2 := A_w2.frozen 2
            have c_A_w2_3 := A_w2.cell 3
            have f_A_w2_3 := A_w2.frozen 3
            simp only [List.getElem?_toArray, List.getElem?_cons_zero, List.getElem?_cons_succ] at c_A_w2_0 c_A_w2_1 c_A_w2_2 c_A_w2_3
            have s_B_w2 := B_w2.lt
            have c_B_w2_0 := B_w2.cell 0
            have f_B_w2_0 := B_w2.frozen 0
            have c_B_w2_1 := B_w2.cell 1
            have f_B_w2_1 := B_w2.frozen 1
            have c_B_w2_2 := B_w2.cell 2
            have f_B_w2_2 := B_w2.frozen 2
            have c_B_w2_3 := B_w2.cell 3
            have f_B_w2_3 := B_w2.frozen 3
            simp only [List.getElem?_toArray, List.getElem?_cons_zero, List.getElem?_cons_succ] at c_B_w2_0 c_B_w2_1 c_B_w2_2 c_B_w2_3
            go_wp2_with fail
            refine (HC2.out _ _ _).mono ?_
            rintro e w3 ⟨rfl, hxw3⟩
            have B_w3 := At.ext (g := w.heap.size + 1 + 1) (t := 33) (cs := #[.bool false, .bool false, .int .i64 0, .bool false]) (by repeat (first | (with_reducible exact At.new _ _ _) | ((with_reducible refine At.new' _ _ _ _ ?_); simp; done) | (with_reducible assumption) | (with_reducible refine At.drew ?_) | (with_reducible refine At.alloc ?_ _) | (with_reducible apply At.upd) | (with_reducible apply At.setRow) | (with_reducible refine At.rowFar ?_ (by first | (simp; done) | (simp; omega) | omega) _) | ((with_reducible refine At.far ?_ (by first | (simp; done) | (simp; omega) | omega) _)) | (with_reducible rfl) | (simp; done))) hxw3
            have xw3 : Ext w w3 := Ext.trans (by repeat (first | (with_reducible exact Ext.refl _) | (with_reducible assumption) | (with_reducible refine Ext.alloc ?_ _) | (with_reducible refine Ext.drew ?_) | (with_reducible refine Ext.drewN ?_ _) | (with_reducible refine Ext.setCell ?_ (by simp; try omega) _) | (with_reducible refine Ext.setRow ?_ (by simp; try omega) _))) hxw3
            clear B_w2 s_B_w2 c_B_w2_0 f_B_w2_0 c_B_w2_1 f_B_w2_1 c_B_w2_2 f_B_w2_2 c_B_w2_3 f_B_w2_3 X_w2 s_X_w2 e_X_w2 A_w2 s_A_w2 c_A_w2_0 f_A_w2_0 c_A_w2_1 f_A_w2_1 c_A_w2_2 f_A_w2_2 c_A_w2_3 f_A_w2_3 hxw3 xw2
            have s_B_w3 := B_w3.lt
            have c_B_w3_0 := B_w3.cell 0
            have f_B_w3_0 := B_w3.frozen 0
            have c_B_w3_1 := B_w3.cell 1
            have f_B_w3_1 := B_w3.frozen 1
            have c_B_w3_2 := B_w3.cell 2
            have f_B_w3_2 := B_w3.frozen 2
            have c_B_w3_3 := B_w3.cell 3
            have f_B_w3_3 := B_w3.frozen 3
            simp only [List.getElem?_toArray, List.getElem?_cons_zero, List.getElem?_cons_succ] at c_B_w3_0 c_B_w3_1 c_B_w3_2 c_B_w3_3
            go_wp2_with fail
            all_goals
              first | refine fin_ret rfl (fun K hK => ?_) | refine fin_norm rfl (fun K hK => ?_)
              simp [results, Try.results8, go_sem, rsat]
              try go_simp
              refine hK _ ?_
              clear hK K
              exact ⟨rfl, (by repeat (first | (with_reducible exact Ext.refl _) | (with_reducible assumption) | (with_reducible refine Ext.alloc ?_ _) | (with_reducible refine Ext.drew ?_) | (with_reducible refine Ext.drewN ?_ _) | (with_reducible refine Ext.setCell ?_ (by simp; try omega) _) | (with_reducible refine Ext.setRow ?_ (by simp; try omega) _)))⟩
          · simp only [if_true, if_false, Bool.true_eq_false, Bool.false_eq_true]
            have HCL := Lib.hid CL
            have HCH := Lib.hid CH
            have HC1 := Lib.hid C1
            have HC2 := Lib.hid C2
            clear CL CH C1 C2
            go_enter Try.func8, Try.ntmps8
            go_wp2_with fail
            refine (HCL.out _).mono ?_
            rintro e w1 ⟨rfl, hxw1⟩
            have xw1 : Ext w w1 := Ext.trans (by repeat (first | (with_reducible exact Ext.refl _) | (with_reducible assumption) | (with_reducible refine Ext.alloc ?_ _) | (with_reducible refine Ext.drew ?_) | (with_reducible refine Ext.drewN ?_ _) | (with_reducible refine Ext.setCell ?_ (by simp; try omega) _) | (with_reducible refine Ext.setRow ?_ (by simp; try omega) _))) hxw1
            have lw1 := xw1.size
            have X_w1 := At.ext (g := w.heap.size) (t := 27) (cs := #[.slice x.A x.l.length x.c, .slice x.B x.t.length x.d, .int .i64 x.ix, .int .i64 x.f1, .int .i64 x.f2, .int .i64 x.f3, .int .i64 x.h1, .int .i64 x.h2]) (by repeat (first | (with_reducible exact At.new _ _ _) | ((with_reducible refine At.new' _ _ _ _ ?_); simp; done) | (with_reducible assumption) | (with_reducible refine At.drew ?_) | (with_reducible refine At.alloc ?_ _) | (with_reducible apply At.upd) | (with_reducible apply At.setRow) | (with_reducible refine At.rowFar ?_ (by first | (simp; done) | (simp; omega) | omega) _) | ((with_reducible refine At.far ?_ (by first | (simp; done) | (simp; omega) | omega) _)) | (with_reducible rfl) | (simp; done))) hxw1
            have A_w1 := At.ext (g := w.heap.size + 1) (t := 33) (cs := #[.bool true, .bool true, .int .i64 un, .bool false]) (by repeat (first | (with_reducible exact At.new _ _ _) | ((with_reducible refine At.new' _ _ _ _ ?_); simp; done) | (with_reducible assumption) | (with_reducible refine At.drew ?_) | (with_reducible refine At.alloc ?_ _) | (with_reducible apply At.upd) | (with_reducible apply At.setRow) | (with_reducible refine At.rowFar ?_ (by first | (simp; done) | (simp; omega) | omega) _) | ((with_reducible refine At.far ?_ (by first | (simp; done) | (simp; omega) | omega) _)) | (with_reducible rfl) | (simp; done))) hxw1
            have B_w1 := At.ext (g := w.heap.size + 1 + 1) (t := 33) (cs := #[.bool false, .bool false, .int .i64 0, .bool false]) (by repeat (first | (with_reducible exact At.new _ _ _) | ((with_reducible refine At.new' _ _ _ _ ?_); simp; done) | (with_reducible assumption) | (with_reducible refine At.drew ?_) | (with_reducible refine At.alloc ?_ _) | (with_reducible apply At.upd) | (with_reducible apply At.setRow) | (with_reducible refine At.rowFar ?_ (by first | (simp; done) | (simp; omega) | omega) _) | ((with_reducible refine At.far ?_ (by first | (simp; done) | (simp; omega) | omega) _)) | (with_reducible rfl) | (simp; done))) hxw1
            clear hxw1
            have s_X_w1 := X_w1.lt
            have e_X_w1 := cellsAt_at X_w1
            have s_A_w1 := A_w1.lt
            have c_A_w1_0 := A_w1.cell 0
            have f_A_w1_0 := A_w1.frozen 0
            have c_A_w1_1 := A_w1.cell 1
            have f_A_w1_1 := A_w1.frozen 1
            have c_A_w1_2 := A_w1.cell 2
            have f_A_w1_2 := A_w1.frozen 2
            have c_A_w1_3 := A_w1.cell 3
            have f_A_w1_3 := A_w1.frozen 3
            simp only [List.getElem?_toArray, List.getElem?_cons_zero, List.getElem?_cons_succ] at c_A_w1_0 c_A_w1_1 c_A_w1_2 c_A_w1_3
            have s_B_w1 := B_w1.lt
            have c_B_w1_0 := B_w1.cell 0
            have f_B_w1_0 := B_w1.frozen 0
            have c_B_w1_1 := B_w1.cell 1
            have f_B_w1_1 := B_w1.frozen 1
            have c_B_w1_2 := B_w1.cell 2
            have f_B_w1_2 := B_w1.frozen 2
            have c_B_w1_3 := B_w1.cell 3
            have f_B_w1_3 := B_w1.frozen 3
            simp only [List.getElem?_toArray, List.getElem?_cons_zero, List.getElem?_cons_succ] at c_B_w1_0 c_B_w1_1 c_B_w1_2 c_B_w1_3
            go_wp2_with fail
            refine (HCH.out _ _ _).mono ?_
            rintro e w2 ⟨rfl, hxw2⟩
            have X_w2 := At.ext (g := w.heap.size) (t := 27) (cs := #[.slice x.A x.l.length x.c, .slice x.B x.t.length x.d, .int .i64 x.ix, .int .i64 x.f1, .int .i64 x.f2, .int .i64 x.f3, .int .i64 x.h1, .int .i64 x.h2]) (by repeat (first | (with_reducible exact At.new _ _ _) | ((with_reducible refine At.new' _ _ _ _ ?_); simp; done) | (with_reducible assumption) | (with_reducible refine At.drew ?_) | (with_reducible refine At.alloc ?_ _) | (with_reducible apply At.upd) | (with_reducible apply At.setRow) | (with_reducible refine At.rowFar ?_ (by first | (simp; done) | (simp; omega) | omega) _) | ((with_reducible refine At.far ?_ (by first | (simp; done) | (simp; omega) | omega) _)) | (with_reducible rfl) | (simp; done))) hxw2
            have A_w2 := At.ext (g := w.heap.size + 1) (t := 33) (cs := #[.bool true, .bool true, .int .i64 un, .bool false]) (by repeat (first | (with_reducible exact At.new _ _ _) | ((with_reducible refine At.new' _ _ _ _ ?_); simp; done) | (with_reducible assumption) | (with_reducible refine At.drew ?_) | (with_reducible refine At.alloc ?_ _) | (with_reducible apply At.upd) | (with_reducible apply At.setRow) | (with_reducible refine At.rowFar ?_ (by first | (simp; done) | (simp; omega) | omega) _) | ((with_reducible refine At.far ?_ (by first | (simp; done) | (simp; omega) | omega) _)) | (with_reducible rfl) | (simp; done))) hxw2
            have B_w2 := At.ext (g := w.heap.size + 1 + 1) (t := 33) (cs := #[.bool false, .bool false, .int .i64 0, .bool false]) (by repeat (first | (with_reducible exact At.new _ _ _) | ((with_reducible refine At.new' _ _ _ _ ?_); simp; done) | (with_reducible assumption) | (with_reducible refine At.drew ?_) | (with_reducible refine At.alloc ?_ _) | (with_reducible apply At.upd) | (with_reducible apply At.setRow) | (with_reducible refine At.rowFar ?_ (by first | (simp; done) | (simp; omega) | omega) _) | ((with_reducible refine At.far ?_ (by first | (simp; done) | (simp; omega) | omega) _)) | (with_reducible rfl) | (simp; done))) hxw2
            have xw2 : Ext w w2 := Ext.trans (by repeat (first | (with_reducible exact Ext.refl _) | (with_reducible assumption) | (with_reducible refine Ext.alloc ?_ _) | (with_reducible refine Ext.drew ?_) | (with_reducible refine Ext.drewN ?_ _) | (with_reducible refine Ext.setCell ?_ (by simp; try omega) _) | (with_reducible refine Ext.setRow ?_ (by simp; try omega) _))) hxw2
            clear X_w1 s_X_w1 e_X_w1 A_w1 s_A_w1 c_A_w1_0 f_A_w1_0 c_A_w1_1 f_A_w1_1 c_A_w1_2 f_A_w1_2 c_A_w1_3 f_A_w1_3 B_w1 s_B_w1 c_B_w1_0 f_B_w1_0 c_B_w1_1 f_B_w1_1 c_B_w1_2 f_B_w1_2 c_B_w1_3 f_B_w1_3 hxw2 xw1
            have s_X_w2 := X_w2.lt
            have e_X_w2 := cellsAt_at X_w2
            have s_A_w2 := A_w2.lt
            have c_A_w2_0 := A_w2.cell 0
            have f_A_w2_0 := A_w2.frozen 0
            have c_A_w2_1 := A_w2.cell 1
            have f_A_w2_1 := A_w2.frozen 1
            have c_A_w2_2 := A_w2.cell 2
            have f_A_w2_2 := A_w2.frozen 2
            have c_A_w2_3 := A_w2.cell 3
            have f_A_w2_3 := A_w2.frozen 3
            simp only [List.getElem?_toArray, List.getElem?_cons_zero, List.getElem?_cons_succ] at c_A_w2_0 c_A_w2_1 c_A_w2_2 c_A_w2_3
            have s_B_w2 := B_w2.lt
            have c_B_w2_0 := B_w2.cell 0
            have f_B_w2_0 := B_w2.frozen 0
            have c_B_w2_1 := B_w2.cell 1
            have f_B_w2_1 := B_w2.frozen 1
            have c_B_w2_2 := B_w2.cell 2
            have f_B_w2_2 := B_w2.frozen 2
            have c_B_w2_3 := B_w2.cell 3
            have f_B_w2_3 := B_w2.frozen 3
            simp only [List.getElem?_toArray, List.getElem?_cons_zero, List.getElem?_cons_succ] at c_B_w2_0 c_B_w2_1 c_B_w2_2 c_B_w2_3
            go_wp2_with fail
            all_goals
              first | refine fin_ret rfl (fun K hK => ?_) | refine fin_norm rfl (fun K hK => ?_)
              simp [results, Try.results8, go_sem, rsat]
              try go_simp
              refine hK _ ?_
              clear hK K
              exact ⟨rfl, (by repeat (first | (with_reducible exact Ext.refl _) | (with_reducible assumption) | (with_reducible refine Ext.alloc ?_ _) | (with_reducible refine Ext.drew ?_) | (with_reducible refine Ext.drewN ?_ _) | (with_reducible refine Ext.setCell ?_ (by simp; try omega) _) | (with_reducible refine Ext.setRow ?_ (by simp; try omega) _)))⟩
    · simp only [Bool.false_eq_true, if_false, if_true]
      have HCL := Lib.hid CL
      have HCH := Lib.hid CH
      have HC1 := Lib.hid C1
      have HC2 := Lib.hid C2
      clear CL CH C1 C2
      go_enter Try.func8, Try.ntmps8
      go_wp2_with fail
      refine (HCL.out _).mono ?_
      rintro e w1 ⟨rfl, hxw1⟩
      have xw1 : Ext w w1 := Ext.trans (by repeat (first | (with_reducible exact Ext.refl _) | (with_reducible assumption) | (with_reducible refine Ext.alloc ?_ _) | (with_reducible refine Ext.drew ?_) | (with_reducible refine Ext.drewN ?_ _) | (with_reducible refine Ext.setCell ?_ (by simp; try omega) _) | (with_reducible refine Ext.setRow ?_ (by simp; try omega) _))) hxw1
      have lw1 := xw1.size
      have X_w1 := At.ext (g := w.heap.size) (t := 27) (cs := #[.slice x.A x.l.length x.c, .slice x.B x.t.length x.d, .int .i64 x.ix, .int .i64 x.f1, .int .i64 x.f2, .int .i64 x.f3, .int .i64 x.h1, .int .i64 x.h2]) (by repeat (first | (with_reducible exact At.new _ _ _) | ((with_reducible refine At.new' _ _ _ _ ?_); simp; done) | (with_reducible assumption) | (with_reducible refine At.drew ?_) | (with_reducible refine At.alloc ?_ _) | (with_reducible apply At.upd) | (with_reducible apply At.setRow) | (with_reducible refine At.rowFar ?_ (by first | (simp; done) | (simp; omega) | omega) _) | ((with_reducible refine At.far ?_ (by first | (simp; done) | (simp; omega) | omega) _)) | (with_reducible rfl) | (simp; done))) hxw1
      have A_w1 := At.ext (g := w.heap.size + 1) (t := 33) (cs := #[.bool u0, .bool u1, .int .i64 un, .bool false]) (by repeat (first | (with_reducible exact At.new _ _ _) | ((with_reducible refine At.new' _ _ _ _ ?_); simp; done) | (with_reducible assumption) | (with_reducible refine At.drew ?_) | (with_reducible refine At.alloc ?_ _) | (with_reducible apply At.upd) | (with_reducible apply At.setRow) | (with_reducible refine At.rowFar ?_ (by first | (simp; done) | (simp; omega) | omega) _) | ((with_reducible refine At.far ?_ (by first | (simp; done) | (simp; omega) | omega) _)) | (with_reducible rfl) | (simp; done))) hxw1
      have B_w1 := At.ext (g := w.heap.size + 1 + 1) (t := 33) (cs := #[.bool false, .bool false, .int .i64 0, .bool false]) (by repeat (first | (with_reducible exact At.new _ _ _) | ((with_reducible refine At.new' _ _ _ _ ?_); simp; done) | (with_reducible assumption) | (with_reducible refine At.drew ?_) | (with_reducible refine At.alloc ?_ _) | (with_reducible apply At.upd) | (with_reducible apply At.setRow) | (with_reducible refine At.rowFar ?_ (by first | (simp; done) | (simp; omega) | omega) _) | ((with_reducible refine At.far ?_ (by first | (simp; done) | (simp; omega) | omega) _)) | (with_reducible rfl) | (simp; done))) hxw1
      clear hxw1
      have s_X_w1 := X_w1.lt
      have e_X_w1 := cellsAt_at X_w1
      have s_A_w1 := A_w1.lt
      have c_A_w1_0 := A_w1.cell 0
      have f_A_w1_0 := A_w1.frozen 0
      have c_A_w1_1 := A_w1.cell 1
      have f_A_w1_1 := A_w1.frozen 1
      have c_A_w1_2 := A_w1.cell 2
      have f_A_w1_2 := A_w1.frozen 2
      have c_A_w1_3 := A_w1.cell 3
      have f_A_w1_3 := A_w1.frozen 3
      simp only [List.getElem?_toArray, List.getElem?_cons_zero, List.getElem?_cons_succ] at c_A_w1_0 c_A_w1_1 c_A_w1_2 c_A_w1_3
      have s_B_w1 := B_w1.lt
      have c_B_w1_0 := B_w1.cell 0
      have f_B_w1_0 := B_w1.frozen 0
      have c_B_w1_1 := B_w1.cell 1
      have f_B_w1_1 := B_w1.frozen 1
      have c_B_w1_2 := B_w1.cell 2
      have f_B_w1_2 := B_w1.frozen 2
      have c_B_w1_3 := B_w1.cell 3
      have f_B_w1_3 := B_w1.frozen 3
      simp only [List.getElem?_toArray, List.getElem?_cons_zero, List.getElem?_cons_succ] at c_B_w1_0 c_B_w1_1 c_B_w1_2 c_B_w1_3
      go_wp2_with fail
      all_goals
        first | refine fin_ret rfl (fun K hK => ?_) | refine fin_norm rfl (fun K hK => ?_)
        simp [results, Try.results8, go_sem, rsat]
        try go_simp
        refine hK _ ?_
        clear hK K
        exact ⟨rfl, (by repeat (first | (with_reducible exact Ext.refl _) | (with_reducible assumption) | (with_reducible refine Ext.alloc ?_ _) | (with_reducible refine Ext.drew ?_) | (with_reducible refine Ext.drewN ?_ _) | (with_reducible refine Ext.setCell ?_ (by simp; try omega) _) | (with_reducible refine Ext.setRow ?_ (by simp; try omega) _)))⟩
  · simp only [if_true]
    have HCL := Lib.hid CL
    have HCH := Lib.hid CH
    have HC1 := Lib.hid C1
    have HC2 := Lib.hid C2
    clear CL CH C1 C2
    go_enter Try.func8, Try.ntmps8
    go_wp2_with fail
    refine (HCL.out _).mono ?_
    rintro e w1 ⟨rfl, hxw1⟩
    have xw1 : Ext w w1 := Ext.trans (by repeat (first | (with_reducible exact Ext.refl _) | (with_reducible assumption) | (with_reducible refine Ext.alloc ?_ _) | (with_reducible refine Ext.drew ?_) | (with_reducible refine Ext.drewN ?_ _) | (with_reducible refine Ext.setCell ?_ (by simp; try omega) _) | (with_reducible refine Ext.setRow ?_ (by simp; try omega) _))) hxw1
    have lw1 := xw1.size
    have X_w1 := At.ext (g := w.heap.size) (t := 27) (cs := #[.slice x.A x.l.length x.c, .slice x.B x.t.length x.d, .int .i64 x.ix, .int .i64 x.f1, .int .i64 x.f2, .int .i64 x.f3, .int .i64 x.h1, .int .i64 x.h2]) (by repeat (first | (with_reducible exact At.new _ _ _) | ((with_reducible refine At.new' _ _ _ _ ?_); simp; done) | (with_reducible assumption) | (with_reducible refine At.drew ?_) | (with_reducible refine At.alloc ?_ _) | (with_reducible apply At.upd) | (with_reducible apply At.setRow) | (with_reducible refine At.rowFar ?_ (by first | (simp; done) | (simp; omega) | omega) _) | ((with_reducible refine At.far ?_ (by first | (simp; done) | (simp; omega) | omega) _)) | (with_reducible rfl) | (simp; done))) hxw1
    have A_w1 := At.ext (g := w.heap.size + 1) (t := 33) (cs := #[.bool u0, .bool u1, .int .i64 un, .bool true]) (by repeat (first | (with_reducible exact At.new _ _ _) | ((with_reducible refine At.new' _ _ _ _ ?_); simp; done) | (with_reducible assumption) | (with_reducible refine At.drew ?_) | (with_reducible refine At.alloc ?_ _) | (with_reducible apply At.upd) | (with_reducible apply At.setRow) | (with_reducible refine At.rowFar ?_ (by first | (simp; done) | (simp; omega) | omega) _) | ((with_reducible refine At.far ?_ (by first | (simp; done) | (simp; omega) | omega) _)) | (with_reducible rfl) | (simp; done))) hxw1
    have B_w1 := At.ext (g := w.heap.size + 1 + 1) (t := 33) (cs := #[.bool false, .bool false, .int .i64 0, .bool false]) (by repeat (first | (with_reducible exact At.new _ _ _) | ((with_reducible refine At.new' _ _ _ _ ?_); simp; done) | (with_reducible assumption) | (with_reducible refine At.drew ?_) | (with_reducible refine At.alloc ?_ _) | (with_reducible apply At.upd) | (with_reducible apply At.setRow) | (with_reducible refine At.rowFar ?_ (by first | (simp; done) | (simp; omega) | omega) _) | ((with_reducible refine At.far ?_ (by first | (simp; done) | (simp; omega) | omega) _)) | (with_reducible rfl) | (simp; done))) hxw1
    clear hxw1
    have s_X_w1 := X_w1.lt
    have e_X_w1 := cellsAt_at X_w1
    have s_A_w1 := A_w1.lt
    have c_A_w1_0 := A_w1.cell 0
    have f_A_w1_0 := A_w1.frozen 0
    have c_A_w1_1 := A_w1.cell 1
    have f_A_w1_1 := A_w1.frozen 1
    have c_A_w1_2 := A_w1.cell 2
    have f_A_w1_2 := A_w1.frozen 2
    have c_A_w1_3 := A_w1.cell 3
    have f_A_w1_3 := A_w1.frozen 3
    simp only [List.getElem?_toArray, List.getElem?_cons_zero, List.getElem?_cons_succ] at c_A_w1_0 c_A_w1_1 c_A_w1_2 c_A_w1_3
    have s_B_w1 := B_w1.lt
    have c_B_w1_0 := B_w1.cell 0
    have f_B_w1_0 := B_w1.frozen 0
    have c_B_w1_1 := B_w1.cell 1
    have f_B_w1_1 := B_w1.frozen 1
    have c_B_w1_2 := B_w1.cell 2
    have f_B_w1_2 := B_w1.frozen 2
    have c_B_w1_3 := B_w1.cell 3
    have f_B_w1_3 := B_w1.frozen 3
    simp only [List.getElem?_toArray, List.getElem?_cons_zero, List.getElem?_cons_succ] at c_B_w1_0 c_B_w1_1 c_B_w1_2 c_B_w1_3
    go_wp2_with fail
    all_goals
      first | refine fin_ret rfl (fun K hK => ?_) | refine fin_norm rfl (fun K hK => ?_)
      simp [results, Try.results8, go_sem, rsat]
      try go_simp
      refine hK _ ?_
      clear hK K
      exact ⟨rfl, (by repeat (first | (with_reducible exact Ext.refl _) | (with_reducible assumption) | (with_reducible refine Ext.alloc ?_ _) | (with_reducible refine Ext.drew ?_) | (with_reducible refine Ext.drewN ?_ _) | (with_reducible refine Ext.setCell ?_ (by simp; try omega) _) | (with_reducible refine Ext.setRow ?_ (by simp; try omega) _)))⟩
set_option maxHeartbeats 4000000 in
set_option maxRecDepth 100000 in
theorem rindex_c (x : Cfg) (hF : x.Fine) (s : Bst) (t i : Int) (ht : 0 ≤ t ∧ t ≤ 1152921504606846976) (hi : I64 i) (w : World) : Calls Try.prog 9 #[.agg #[.slice x.A x.l.length x.c, .slice x.B x.t.length x.d, .int .i64 x.ix, .int .i64 x.f1, .int .i64 x.f2, .int .i64 x.f3, .int .i64 x.h1, .int .i64 x.h2], .agg #[.bool s.u0, .bool s.u1, .int .i64 s.un, .bool s.sh], .int .i64 t, .int .i64 i] w fun e w' => e = .returned (.tuple #[.agg #[.bool (idxI x s t i).1.u0, .bool (idxI x s t i).1.u1, .int .i64 (idxI x s t i).1.un, .bool (idxI x s t i).1.sh], .int .i64 (idxI x s t i).2]) ∧ Ext w w' := by
  obtain ⟨u0, u1, un, sh⟩ := s
  have CL := rlevel_c x hF i hi
  have CH := fun b0 b1 => rhalted_c b0 b1 sh un t
  have C1 := rspan_c x 1 ⟨by decide, by decide⟩
  have C2 := rspan_c x 2 ⟨by decide, by decide⟩
  rw [show spanI x 1 = x.h1 from rfl] at C1
  rw [show spanI x 2 = x.h2 from rfl] at C2
  have hw1 : wrap64 (t + x.h1) = t + x.h1 := wrap64_in ⟨by have := hF.h1; omega, by have := hF.h1; omega⟩
  have hw2 : wrap64 (t + x.h2) = t + x.h2 := wrap64_in ⟨by have := hF.h2; omega, by have := hF.h2; omega⟩
  have iw0 : IntKind.i64.wrap 0 = 0 := by decide
  have iw1 : IntKind.i64.wrap 1 = 1 := by decide
  have hL := levelI_4 x i
  have hdef : idxI x ⟨u0, u1, un, sh⟩ t i = (if sh = true then (⟨u0, u1, un, sh⟩, 0) else if levelI x i = 3 then (⟨u0, u1, 0, true⟩, 3) else if t < un ∨ levelI x i = 0 then (⟨u0, u1, un, sh⟩, 0) else if levelI x i = 2 ∧ u1 = false then (⟨true, true, t + x.h2, sh⟩, 2) else if u0 = false then (⟨true, u1, t + x.h1, sh⟩, 1) else (⟨u0, u1, un, sh⟩, 0)) := rfl
  rw [hdef]
  clear hdef
  generalize levelI x i = L at CL hL ⊢
  cases sh
  · rcases hL with rfl | rfl | rfl | rfl
    · simp only [Bool.false_eq_true, if_false, if_true, or_true, show ((0 : Int) = 3) = False by simp]
      unfold haltedB at CH
      by_cases hh : t < un
      · simp only [hh, decide_true, Bool.not_false, Bool.true_and] at CH
        have HCL := Lib.hid CL
        have HCH := Lib.hid CH
        have HC1 := Lib.hid C1
        have HC2 := Lib.hid C2
        clear CL CH C1 C2
        go_enter Try.func9, Try.ntmps9
        go_wp2_with fail
        refine (HCL.out _).mono ?_
        rintro e w1 ⟨rfl, hxw1⟩
        have xw1 : Ext w w1 := Ext.trans (by repeat (first | (with_reducible exact Ext.refl _) | (with_reducible assumption) | (with_reducible refine Ext.alloc ?_ _) | (with_reducible refine Ext.drew ?_) | (with_reducible refine Ext.drewN ?_ _) | (with_reducible refine Ext.setCell ?_ (by simp; try omega) _) | (with_reducible refine Ext.setRow ?_ (by simp; try omega) _))) hxw1
        have lw1 := xw1.size
        have X_w1 := At.ext (g := w.heap.size) (t := 27) (cs := #[.slice x.A x.l.length x.c, .slice x.B x.t.length x.d, .int .i64 x.ix, .int .i64 x.f1, .int .i64 x.f2, .int .i64 x.f3, .int .i64 x.h1, .int .i64 x.h2]) (by repeat (first | (with_reducible exact At.new _ _ _) | ((with_reducible refine At.new' _ _ _ _ ?_); simp; done) | (with_reducible assumption) | (with_reducible refine At.drew ?_) | (with_reducible refine At.alloc ?_ _) | (with_reducible apply At.upd) | (with_reducible apply At.setRow) | (with_reducible refine At.rowFar ?_ (by first | (simp; done) | (simp; omega) | omega) _) | ((with_reducible refine At.far ?_ (by first | (simp; done) | (simp; omega) | omega) _)) | (with_reducible rfl) | (simp; done))) hxw1
        have A_w1 := At.ext (g := w.heap.size + 1) (t := 34) (cs := #[.bool u0, .bool u1, .int .i64 un, .bool false]) (by repeat (first | (with_reducible exact At.new _ _ _) | ((with_reducible refine At.new' _ _ _ _ ?_); simp; done) | (with_reducible assumption) | (with_reducible refine At.drew ?_) | (with_reducible refine At.alloc ?_ _) | (with_reducible apply At.upd) | (with_reducible apply At.setRow) | (with_reducible refine At.rowFar ?_ (by first | (simp; done) | (simp; omega) | omega) _) | ((with_reducible refine At.far ?_ (by first | (simp; done) | (simp; omega) | omega) _)) | (with_reducible rfl) | (simp; done))) hxw1
        have B_w1 := At.ext (g := w.heap.size + 1 + 1) (t := 34) (cs := #[.bool false, .bool false, .int .i64 0, .bool false]) (by repeat (first | (with_reducible exact At.new _ _ _) | ((with_reducible refine At.new' _ _ _ _ ?_); simp; done) | (with_reducible assumption) | (with_reducible refine At.drew ?_) | (with_reducible refine At.alloc ?_ _) | (with_reducible apply At.upd) | (with_reducible apply At.setRow) | (with_reducible refine At.rowFar ?_ (by first | (simp; done) | (simp; omega) | omega) _) | ((with_reducible refine At.far ?_ (by first | (simp; done) | (simp; omega) | omega) _)) | (with_reducible rfl) | (simp; done))) hxw1
        clear hxw1
        have s_X_w1 := X_w1.lt
        have e_X_w1 := cellsAt_at X_w1
        have s_A_w1 := A_w1.lt
        have c_A_w1_0 := A_w1.cell 0
        have f_A_w1_0 := A_w1.frozen 0
        have c_A_w1_1 := A_w1.cell 1
        have f_A_w1_1 := A_w1.frozen 1
        have c_A_w1_2 := A_w1.cell 2
        have f_A_w1_2 := A_w1.frozen 2
        have c_A_w1_3 := A_w1.cell 3
        have f_A_w1_3 := A_w1.frozen 3
        simp only [List.getElem?_toArray, List.getElem?_cons_zero, List.getElem?_cons_succ] at c_A_w1_0 c_A_w1_1 c_A_w1_2 c_A_w1_3
        have s_B_w1 := B_w1.lt
        have c_B_w1_0 := B_w1.cell 0
        have f_B_w1_0 := B_w1.frozen 0
        have c_B_w1_1 := B_w1.cell 1
        have f_B_w1_1 := B_w1.frozen 1
        have c_B_w1_2 := B_w1.cell 2
        have f_B_w1_2 := B_w1.frozen 2
        have c_B_w1_3 := B_w1.cell 3
        have f_B_w1_3 := B_w1.frozen 3
        simp only [List.getElem?_toArray, List.getElem?_cons_zero, List.getElem?_cons_succ] at c_B_w1_0 c_B_w1_1 c_B_w1_2 c_B_w1_3
        go_wp2_with fail
        refine (HCH.out _ _ _).mono ?_
        rintro e w2 ⟨rfl, hxw2⟩
        have X_w2 := At.ext (g := w.heap.size) (t := 27) (cs := #[.slice x.A x.l.length x.c, .slice x.B x.t.length x.d, .int .i64 x.ix, .int .i64 x.f1, .int .i64 x.f2, .int .i64 x.f3, .int .i64 x.h1, .int .i64 x.h2]) (by repeat (first | (with_reducible exact At.new _ _ _) | ((with_reducible refine At.new' _ _ _ _ ?_); simp; done) | (with_reducible assumption) | (with_reducible refine At.drew ?_) | (with_reducible refine At.alloc ?_ _) | (with_reducible apply At.upd) | (with_reducible apply At.setRow) | (with_reducible refine At.rowFar ?_ (by first | (simp; done) | (simp; omega) | omega) _) | ((with_reducible refine At.far ?_ (by first | (simp; done) | (simp; omega) | omega) _)) | (with_reducible rfl) | (simp; done))) hxw2
        have A_w2 := At.ext (g := w.heap.size + 1) (t := 34) (cs := #[.bool u0, .bool u1, .int .i64 un, .bool false]) (by repeat (first | (with_reducible exact At.new _ _ _) | ((with_reducible refine At.new' _ _ _ _ ?_); simp; done) | (with_reducible assumption) | (with_reducible refine At.drew ?_) | (with_reducible refine At.alloc ?_ _) | (with_reducible apply At.upd) | (with_reducible apply At.setRow) | (with_reducible refine At.rowFar ?_ (by first | (simp; done) | (simp; omega) | omega) _) | ((with_reducible refine At.far ?_ (by first | (simp; done) | (simp; omega) | omega) _)) | (with_reducible rfl) | (simp; done))) hxw2
        have B_w2 := At.ext (g := w.heap.size + 1 + 1) (t := 34) (cs := #[.bool false, .bool false, .int .i64 0, .bool false]) (by repeat (first | (with_reducible exact At.new _ _ _) | ((with_reducible refine At.new' _ _ _ _ ?_); simp; done) | (with_reducible assumption) | (with_reducible refine At.drew ?_) | (with_reducible refine At.alloc ?_ _) | (with_reducible apply At.upd) | (with_reducible apply At.setRow) | (with_reducible refine At.rowFar ?_ (by first | (simp; done) | (simp; omega) | omega) _) | ((with_reducible refine At.far ?_ (by first | (simp; done) | (simp; omega) | omega) _)) | (with_reducible rfl) | (simp; done))) hxw2
        have xw2 : Ext w w2 := Ext.trans (by repeat (first | (with_reducible exact Ext.refl _) | (with_reducible assumption) | (with_reducible refine Ext.alloc ?_ _) | (with_reducible refine Ext.drew ?_) | (with_reducible refine Ext.drewN ?_ _) | (with_reducible refine Ext.setCell ?_ (by simp; try omega) _) | (with_reducible refine Ext.setRow ?_ (by simp; try omega) _))) hxw2
        clear X_w1 s_X_w1 e_X_w1 A_w1 s_A_w1 c_A_w1_0 f_A_w1_0 c_A_w1_1 f_A_w1_1 c_A_w1_2 f_A_w1_2 c_A_w1_3 f_A_w1_3 B_w1 s_B_w1 c_B_w1_0 f_B_w1_0 c_B_w1_1 f_B_w1_1 c_B_w1_2 f_B_w1_2 c_B_w1_3 f_B_w1_3 hxw2 xw1
        have s_X_w2 := X_w2.lt
        have e_X_w2 := cellsAt_at X_w2
        have s_A_w2 := A_w2.lt
        have c_A_w2_0 := A_w2.cell 0
        have f_A_w2_0 := A_w2.frozen 0
        have c_A_w2_1 := A_w2.cell 1
        have f_A_w2_1 := A_w2.frozen 1
        have c_A_w2_2 := A_w2.cell 2
        have f_A_w2_2 := A_w2.frozen 2
        have c_A_w2_3 := A_w2.cell 3
        have f_A_w2_3 := A_w2.frozen 3
        simp only [List.getElem?_toArray, List.getElem?_cons_zero, List.getElem?_cons_succ] at c_A_w2_0 c_A_w2_1 c_A_w2_2 c_A_w2_3
        have s_B_w2 := B_w2.lt
        have c_B_w2_0 := B_w2.cell 0
        have f_B_w2_0 := B_w2.frozen 0
        have c_B_w2_1 := B_w2.cell 1
        have f_B_w2_1 := B_w2.frozen 1
        have c_B_w2_2 := B_w2.cell 2
        have f_B_w2_2 := B_w2.frozen 2
        have c_B_w2_3 := B_w2.cell 3
        have f_B_w2_3 := B_w2.frozen 3
        simp only [List.getElem?_toArray, List.getElem?_cons_zero, List.getElem?_cons_succ] at c_B_w2_0 c_B_w2_1 c_B_w2_2 c_B_w2_3
        go_wp2_with fail
        all_goals
          first | refine fin_ret rfl (fun K hK => ?_) | refine fin_norm rfl (fun K hK => ?_)
          simp [results, Try.results9, go_sem, rsat]
          try go_simp
          refine hK _ ?_
          clear hK K
          exact ⟨rfl, (by repeat (first | (with_reducible exact Ext.refl _) | (with_reducible assumption) | (with_reducible refine Ext.alloc ?_ _) | (with_reducible refine Ext.drew ?_) | (with_reducible refine Ext.drewN ?_ _) | (with_reducible refine Ext.setCell ?_ (by simp; try omega) _) | (with_reducible refine Ext.setRow ?_ (by simp; try omega) _)))⟩
      · simp only [hh, decide_false, Bool.and_false] at CH
        have HCL := Lib.hid CL
        have HCH := Lib.hid CH
        have HC1 := Lib.hid C1
        have HC2 := Lib.hid C2
        clear CL CH C1 C2
        go_enter Try.func9, Try.ntmps9
        go_wp2_with fail
        refine (HCL.out _).mono ?_
        rintro e w1 ⟨rfl, hxw1⟩
        have xw1 : Ext w w1 := Ext.trans (by repeat (first | (with_reducible exact Ext.refl _) | (with_reducible assumption) | (with_reducible refine Ext.alloc ?_ _) | (with_reducible refine Ext.drew ?_) | (with_reducible refine Ext.drewN ?_ _) | (with_reducible refine Ext.setCell ?_ (by simp; try omega) _) | (with_reducible refine Ext.setRow ?_ (by simp; try omega) _))) hxw1
        have lw1 := xw1.size
        have X_w1 := At.ext (g := w.heap.size) (t := 27) (cs := #[.slice x.A x.l.length x.c, .slice x.B x.t.length x.d, .int .i64 x.ix, .int .i64 x.f1, .int .i64 x.f2, .int .i64 x.f3, .int .i64 x.h1, .int .i64 x.h2]) (by repeat (first | (with_reducible exact At.new _ _ _) | ((with_reducible refine At.new' _ _ _ _ ?_); simp; done) | (with_reducible assumption) | (with_reducible refine At.drew ?_) | (with_reducible refine At.alloc ?_ _) | (with_reducible apply At.upd) | (with_reducible apply At.setRow) | (with_reducible refine At.rowFar ?_ (by first | (simp; done) | (simp; omega) | omega) _) | ((with_reducible refine At.far ?_ (by first | (simp; done) | (simp; omega) | omega) _)) | (with_reducible rfl) | (simp; done))) hxw1
        have A_w1 := At.ext (g := w.heap.size + 1) (t := 34) (cs := #[.bool u0, .bool u1, .int .i64 un, .bool false]) (by repeat (first | (with_reducible exact At.new _ _ _) | ((with_reducible refine At.new' _ _ _ _ ?_); simp; done) | (with_reducible assumption) | (with_reducible refine At.drew ?_) | (with_reducible refine At.alloc ?_ _) | (with_reducible apply At.upd) | (with_reducible apply At.setRow) | (with_reducible refine At.rowFar ?_ (by first | (simp; done) | (simp; omega) | omega) _) | ((with_reducible refine At.far ?_ (by first | (simp; done) | (simp; omega) | omega) _)) | (with_reducible rfl) | (simp; done))) hxw1
        have B_w1 := At.ext (g := w.heap.size + 1 + 1) (t := 34) (cs := #[.bool false, .bool false, .int .i64 0, .bool false]) (by repeat (first | (with_reducible exact At.new _ _ _) | ((with_reducible refine At.new' _ _ _ _ ?_); simp; done) | (with_reducible assumption) | (with_reducible refine At.drew ?_) | (with_reducible refine At.alloc ?_ _) | (with_reducible apply At.upd) | (with_reducible apply At.setRow) | (with_reducible refine At.rowFar ?_ (by first | (simp; done) | (simp; omega) | omega) _) | ((with_reducible refine At.far ?_ (by first | (simp; done) | (simp; omega) | omega) _)) | (with_reducible rfl) | (simp; done))) hxw1
        clear hxw1
        have s_X_w1 := X_w1.lt
        have e_X_w1 := cellsAt_at X_w1
        have s_A_w1 := A_w1.lt
        have c_A_w1_0 := A_w1.cell 0
        have f_A_w1_0 := A_w1.frozen 0
        have c_A_w1_1 := A_w1.cell 1
        have f_A_w1_1 := A_w1.frozen 1
        have c_A_w1_2 := A_w1.cell 2
        have f_A_w1_2 := A_w1.frozen 2
        have c_A_w1_3 := A_w1.cell 3
        have f_A_w1_3 := A_w1.frozen 3
        simp only [List.getElem?_toArray, List.getElem?_cons_zero, List.getElem?_cons_succ] at c_A_w1_0 c_A_w1_1 c_A_w1_2 c_A_w1_3
        have s_B_w1 := B_w1.lt
        have c_B_w1_0 := B_w1.cell 0
        have f_B_w1_0 := B_w1.frozen 0
        have c_B_w1_1 := B_w1.cell 1
        have f_B_w1_1 := B_w1.frozen 1
        have c_B_w1_2 := B_w1.cell 2
        have f_B_w1_2 := B_w1.frozen 2
        have c_B_w1_3 := B_w1.cell 3
        have f_B_w1_3 := B_w1.frozen 3
        simp only [List.getElem?_toArray, List.getElem?_cons_zero, List.getElem?_cons_succ] at c_B_w1_0 c_B_w1_1 c_B_w1_2 c_B_w1_3
        go_wp2_with fail
        refine (HCH.out _ _ _).mono ?_
        rintro e w2 ⟨rfl, hxw2⟩
        have X_w2 := At.ext (g := w.heap.size) (t := 27) (cs := #[.slice x.A x.l.length x.c, .slice x.B x.t.length x.d, .int .i64 x.ix, .int .i64 x.f1, .int .i64 x.f2, .int .i64 x.f3, .int .i64 x.h1, .int .i64 x.h2]) (by repeat (first | (with_reducible exact At.new _ _ _) | ((with_reducible refine At.new' _ _ _ _ ?_); simp; done) | (with_reducible assumption) | (with_reducible refine At.drew ?_) | (with_reducible refine At.alloc ?_ _) | (with_reducible apply At.upd) | (with_reducible apply At.setRow) | (with_reducible refine At.rowFar ?_ (by first | (simp; done) | (simp; omega) | omega) _) | ((with_reducible refine At.far ?_ (by first | (simp; done) | (simp; omega) | omega) _)) | (with_reducible rfl) | (simp; done))) hxw2
        have A_w2 := At.ext (g := w.heap.size + 1) (t := 34) (cs := #[.bool u0, .bool u1, .int .i64 un, .bool false]) (by repeat (first | (with_reducible exact At.new _ _ _) | ((with_reducible refine At.new' _ _ _ _ ?_); simp; done) | (with_reducible assumption) | (with_reducible refine At.drew ?_) | (with_reducible refine At.alloc ?_ _) | (with_reducible apply At.upd) | (with_reducible apply At.setRow) | (with_reducible refine At.rowFar ?_ (by first | (simp; done) | (simp; omega) | omega) _) | ((with_reducible refine At.far ?_ (by first | (simp; done) | (simp; omega) | omega) _)) | (with_reducible rfl) | (simp; done))) hxw2
        have B_w2 := At.ext (g := w.heap.size + 1 + 1) (t := 34) (cs := #[.bool false, .bool false, .int .i64 0, .bool false]) (by repeat (first | (with_reducible exact At.new _ _ _) | ((with_reducible refine At.new' _ _ _ _ ?_); simp; done) | (with_reducible assumption) | (with_reducible refine At.drew ?_) | (with_reducible refine At.alloc ?_ _) | (with_reducible apply At.upd) | (with_reducible apply At.setRow) | (with_reducible refine At.rowFar ?_ (by first | (simp; done) | (simp; omega) | omega) _) | ((with_reducible refine At.far ?_ (by first | (simp; done) | (simp; omega) | omega) _)) | (with_reducible rfl) | (simp; done))) hxw2
        have xw2 : Ext w w2 := Ext.trans (by repeat (first | (with_reducible exact Ext.refl _) | (with_reducible assumption) | (with_reducible refine Ext.alloc ?_ _) | (with_reducible refine Ext.drew ?_) | (with_reducible refine Ext.drewN ?_ _) | (with_reducible refine Ext.setCell ?_ (by simp; try omega) _) | (with_reducible refine Ext.setRow ?_ (by simp; try omega) _))) hxw2
        clear X_w1 s_X_w1 e_X_w1 A_w1 s_A_w1 c_A_w1_0 f_A_w1_0 c_A_w1_1 f_A_w1_1 c_A_w1_2 f_A_w1_2 c_A_w1_3 f_A_w1_3 B_w1 s_B_w1 c_B_w1_0 f_B_w1_0 c_B_w1_1 f_B_w1_1 c_B_w1_2 f_B_w1_2 c_B_w1_3 f_B_w1_3 hxw2 xw1
        have s_X_w2 := X_w2.lt
        have e_X_w2 := cellsAt_at X_w2
        have s_A_w2 := A_w2.lt
        have c_A_w2_0 := A_w2.cell 0
        have f_A_w2_0 := A_w2.frozen 0
        have c_A_w2_1 := A_w2.cell 1
        have f_A_w2_1 := A_w2.frozen 1
        have c_A_w2_2 := A_w2.cell 2
        have f_A_w2_2 := A_w2.frozen 2
        have c_A_w2_3 := A_w2.cell 3
        have f_A_w2_3 := A_w2.frozen 3
        simp only [List.getElem?_toArray, List.getElem?_cons_zero, List.getElem?_cons_succ] at c_A_w2_0 c_A_w2_1 c_A_w2_2 c_A_w2_3
        have s_B_w2 := B_w2.lt
        have c_B_w2_0 := B_w2.cell 0
        have f_B_w2_0 := B_w2.frozen 0
        have c_B_w2_1 := B_w2.cell 1
        have f_B_w2_1 := B_w2.frozen 1
        have c_B_w2_2 := B_w2.cell 2
        have f_B_w2_2 := B_w2.frozen 2
        have c_B_w2_3 := B_w2.cell 3
        have f_B_w2_3 := B_w2.frozen 3
        simp only [List.getElem?_toArray, List.getElem?_cons_zero, List.getElem?_cons_succ] at c_B_w2_0 c_B_w2_1 c_B_w2_2 c_B_w2_3
        go_wp2_with fail
        all_goals
          first | refine fin_ret rfl (fun K hK => ?_) | refine fin_norm rfl (fun K hK => ?_)
          simp [results, Try.results9, go_sem, rsat]
          try go_simp
          refine hK _ ?_
          clear hK K
          exact ⟨rfl, (by repeat (first | (with_reducible exact Ext.refl _) | (with_reducible assumption) | (with_reducible refine Ext.alloc ?_ _) | (with_reducible refine Ext.drew ?_) | (with_reducible refine Ext.drewN ?_ _) | (with_reducible refine Ext.setCell ?_ (by simp; try omega) _) | (with_reducible refine Ext.setRow ?_ (by simp; try omega) _)))⟩
    · simp only [Bool.false_eq_true, if_false, show ((1 : Int) = 3) = False by simp, show ((1 : Int) = 0) = False by simp, or_false, show ((1 : Int) = 2) = False by simp, false_and, if_false]
      unfold haltedB at CH
      by_cases hh : t < un
      · simp only [hh, if_true, decide_true, Bool.not_false, Bool.true_and] at CH ⊢
        have HCL := Lib.hid CL
        have HCH := Lib.hid CH
        have HC1 := Lib.hid C1
        have HC2 := Lib.hid C2
        clear CL CH C1 C2
        go_enter Try.func9, Try.ntmps9
        go_wp2_with fail
        refine (HCL.out _).mono ?_
        rintro e w1 ⟨rfl, hxw1⟩
        have xw1 : Ext w w1 := Ext.trans (by repeat (first | (with_reducible exact Ext.refl _) | (with_reducible assumption) | (with_reducible refine Ext.alloc ?_ _) | (with_reducible refine Ext.drew ?_) | (with_reducible refine Ext.drewN ?_ _) | (with_reducible refine Ext.setCell ?_ (by simp; try omega) _) | (with_reducible refine Ext.setRow ?_ (by simp; try omega) _))) hxw1
        have lw1 := xw1.size
        have X_w1 := At.ext (g := w.heap.size) (t := 27) (cs := #[.slice x.A x.l.length x.c, .slice x.B x.t.length x.d, .int .i64 x.ix, .int .i64 x.f1, .int .i64 x.f2, .int .i64 x.f3, .int .i64 x.h1, .int .i64 x.h2]) (by repeat (first | (with_reducible exact At.new _ _ _) | ((with_reducible refine At.new' _ _ _ _ ?_); simp; done) | (with_reducible assumption) | (with_reducible refine At.drew ?_) | (with_reducible refine At.alloc ?_ _) | (with_reducible apply At.upd) | (with_reducible apply At.setRow) | (with_reducible refine At.rowFar ?_ (by first | (simp; done) | (simp; omega) | omega) _) | ((with_reducible refine At.far ?_ (by first | (simp; done) | (simp; omega) | omega) _)) | (with_reducible rfl) | (simp; done))) hxw1
        have A_w1 := At.ext (g := w.heap.size + 1) (t := 34) (cs := #[.bool u0, .bool u1, .int .i64 un, .bool false]) (by repeat (first | (with_reducible exact At.new _ _ _) | ((with_reducible refine At.new' _ _ _ _ ?_); simp; done) | (with_reducible assumption) | (with_reducible refine At.drew ?_) | (with_reducible refine At.alloc ?_ _) | (with_reducible apply At.upd) | (with_reducible apply At.setRow) | (with_reducible refine At.rowFar ?_ (by first | (simp; done) | (simp; omega) | omega) _) | ((with_reducible refine At.far ?_ (by first | (simp; done) | (simp; omega) | omega) _)) | (with_reducible rfl) | (simp; done))) hxw1
        have B_w1 := At.ext (g := w.heap.size + 1 + 1) (t := 34) (cs := #[.bool false, .bool false, .int .i64 0, .bool false]) (by repeat (first | (with_reducible exact At.new _ _ _) | ((with_reducible refine At.new' _ _ _ _ ?_); simp; done) | (with_reducible assumption) | (with_reducible refine At.drew ?_) | (with_reducible refine At.alloc ?_ _) | (with_reducible apply At.upd) | (with_reducible apply At.setRow) | (with_reducible refine At.rowFar ?_ (by first | (simp; done) | (simp; omega) | omega) _) | ((with_reducible refine At.far ?_ (by first | (simp; done) | (simp; omega) | omega) _)) | (with_reducible rfl) | (simp; done))) hxw1
        clear hxw1
        have s_X_w1 := X_w1.lt
        have e_X_w1 := cellsAt_at X_w1
        have s_A_w1 := A_w1.lt
        have c_A_w1_0 := A_w1.cell 0
        have f_A_w1_0 := A_w1.frozen 0
        have c_A_w1_1 := A_w1.cell 1
        have f_A_w1_1 := A_w1.frozen 1
        have c_A_w1_2 := A_w1.cell 2
        have f_A_w1_2 := A_w1.frozen 2
        have c_A_w1_3 := A_w1.cell 3
        have f_A_w1_3 := A_w1.frozen 3
        simp only [List.getElem?_toArray, List.getElem?_cons_zero, List.getElem?_cons_succ] at c_A_w1_0 c_A_w1_1 c_A_w1_2 c_A_w1_3
        have s_B_w1 := B_w1.lt
        have c_B_w1_0 := B_w1.cell 0
        have f_B_w1_0 := B_w1.frozen 0
        have c_B_w1_1 := B_w1.cell 1
        have f_B_w1_1 := B_w1.frozen 1
        have c_B_w1_2 := B_w1.cell 2
        have f_B_w1_2 := B_w1.frozen 2
        have c_B_w1_3 := B_w1.cell 3
        have f_B_w1_3 := B_w1.frozen 3
        simp only [List.getElem?_toArray, List.getElem?_cons_zero, List.getElem?_cons_succ] at c_B_w1_0 c_B_w1_1 c_B_w1_2 c_B_w1_3
        go_wp2_with fail
        refine (HCH.out _ _ _).mono ?_
        rintro e w2 ⟨rfl, hxw2⟩
        have X_w2 := At.ext (g := w.heap.size) (t := 27) (cs := #[.slice x.A x.l.length x.c, .slice x.B x.t.length x.d, .int .i64 x.ix, .int .i64 x.f1, .int .i64 x.f2, .int .i64 x.f3, .int .i64 x.h1, .int .i64 x.h2]) (by repeat (first | (with_reducible exact At.new _ _ _) | ((with_reducible refine At.new' _ _ _ _ ?_); simp; done) | (with_reducible assumption) | (with_reducible refine At.drew ?_) | (with_reducible refine At.alloc ?_ _) | (with_reducible apply At.upd) | (with_reducible apply At.setRow) | (with_reducible refine At.rowFar ?_ (by first | (simp; done) | (simp; omega) | omega) _) | ((with_reducible refine At.far ?_ (by first | (simp; done) | (simp; omega) | omega) _)) | (with_reducible rfl) | (simp; done))) hxw2
        have A_w2 := At.ext (g := w.heap.size + 1) (t := 34) (cs := #[.bool u0, .bool u1, .int .i64 un, .bool false]) (by repeat (first | (with_reducible exact At.new _ _ _) | ((with_reducible refine At.new' _ _ _ _ ?_); simp; done) | (with_reducible assumption) | (with_reducible refine At.drew ?_) | (with_reducible refine At.alloc ?_ _) | (with_reducible apply At.upd) | (with_reducible apply At.setRow) | (with_reducible refine At.rowFar ?_ (by first | (simp; done) | (simp; omega) | omega) _) | ((with_reducible refine At.far ?_ (by first | (simp; done) | (simp; omega) | omega) _)) | (with_reducible rfl) | (simp; done))) hxw2
        have B_w2 := At.ext (g := w.heap.size + 1 + 1) (t := 34) (cs := #[.bool false, .bool false, .int .i64 0, .bool false]) (by repeat (first | (with_reducible exact At.new _ _ _) | ((with_reducible refine At.new' _ _ _ _ ?_); simp; done) | (with_reducible assumption) | (with_reducible refine At.drew ?_) | (with_reducible refine At.alloc ?_ _) | (with_reducible apply At.upd) | (with_reducible apply At.setRow) | (with_reducible refine At.rowFar ?_ (by first | (simp; done) | (simp; omega) | omega) _) | ((with_reducible refine At.far ?_ (by first | (simp; done) | (simp; omega) | omega) _)) | (with_reducible rfl) | (simp; done))) hxw2
        have xw2 : Ext w w2 := Ext.trans (by repeat (first | (with_reducible exact Ext.refl _) | (with_reducible assumption) | (with_reducible refine Ext.alloc ?_ _) | (with_reducible refine Ext.drew ?_) | (with_reducible refine Ext.drewN ?_ _) | (with_reducible refine Ext.setCell ?_ (by simp; try omega) _) | (with_reducible refine Ext.setRow ?_ (by simp; try omega) _))) hxw2
        clear X_w1 s_X_w1 e_X_w1 A_w1 s_A_w1 c_A_w1_0 f_A_w1_0 c_A_w1_1 f_A_w1_1 c_A_w1_2 f_A_w1_2 c_A_w1_3 f_A_w1_3 B_w1 s_B_w1 c_B_w1_0 f_B_w1_0 c_B_w1_1 f_B_w1_1 c_B_w1_2 f_B_w1_2 c_B_w1_3 f_B_w1_3 hxw2 xw1
        have s_X_w2 := X_w2.lt
        have e_X_w2 := cellsAt_at X_w2
        have s_A_w2 := A_w2.lt
        have c_A_w2_0 := A_w2.cell 0
        have f_A_w2_0 := A_w2.frozen 0
        have c_A_w2_1 := A_w2.cell 1
        have f_A_w2_1 := A_w2.frozen 1
        have c_A_w2_2 := A_w2.cell 2
        have f_A_w2_2 := A_w2.frozen 2
        have c_A_w2_3 := A_w2.cell 3
        have f_A_w2_3 := A_w2.frozen 3
        simp only [List.getElem?_toArray, List.getElem?_cons_zero, List.getElem?_cons_succ] at c_A_w2_0 c_A_w2_1 c_A_w2_2 c_A_w2_3
        have s_B_w2 := B_w2.lt
        have c_B_w2_0 := B_w2.cell 0
        have f_B_w2_0 := B_w2.frozen 0
        have c_B_w2_1 := B_w2.cell 1
        have f_B_w2_1 := B_w2.frozen 1
        have c_B_w2_2 := B_w2.cell 2
        have f_B_w2_2 := B_w2.frozen 2
        have c_B_w2_3 := B_w2.cell 3
        have f_B_w2_3 := B_w2.frozen 3
        simp only [List.getElem?_toArray, List.getElem?_cons_zero, List.getElem?_cons_succ] at c_B_w2_0 c_B_w2_1 c_B_w2_2 c_B_w2_3
        go_wp2_with fail
        all_goals
          first | refine fin_ret rfl (fun K hK => ?_) | refine fin_norm rfl (fun K hK => ?_)
          simp [results, Try.results9, go_sem, rsat]
          try go_simp
          refine hK _ ?_
          clear hK K
          exact ⟨rfl, (by repeat (first | (with_reducible exact Ext.refl _) | (with_reducible assumption) | (with_reducible refine Ext.alloc ?_ _) | (with_reducible refine Ext.drew ?_) | (with_reducible refine Ext.drewN ?_ _) | (with_reducible refine Ext.setCell ?_ (by simp; try omega) _) | (with_reducible refine Ext.setRow ?_ (by simp; try omega) _)))⟩
      · simp only [hh, if_false, decide_false, Bool.and_false] at CH ⊢
        cases u0
        · cases u1
          · simp only [if_true, if_false, Bool.true_eq_false, Bool.false_eq_true]
            have HCL := Lib.hid CL
            have HCH := Lib.hid CH
            have HC1 := Lib.hid C1
            have HC2 := Lib.hid C2
            clear CL CH C1 C2
            go_enter Try.func9, Try.ntmps9
            go_wp2_with fail
            refine (HCL.out _).mono ?_
            rintro e w1 ⟨rfl, hxw1⟩
            have xw1 : Ext w w1 := Ext.trans (by repeat (first | (with_reducible exact Ext.refl _) | (with_reducible assumption) | (with_reducible refine Ext.alloc ?_ _) | (with_reducible refine Ext.drew ?_) | (with_reducible refine Ext.drewN ?_ _) | (with_reducible refine Ext.setCell ?_ (by simp; try omega) _) | (with_reducible refine Ext.setRow ?_ (by simp; try omega) _))) hxw1
            have lw1 := xw1.size
            have X_w1 := At.ext (g := w.heap.size) (t := 27) (cs := #[.slice x.A x.l.length x.c, .slice x.B x.t.length x.d, .int .i64 x.ix, .int .i64 x.f1, .int .i64 x.f2, .int .i64 x.f3, .int .i64 x.h1, .int .i64 x.h2]) (by repeat (first | (with_reducible exact At.new _ _ _) | ((with_reducible refine At.new' _ _ _ _ ?_); simp; done) | (with_reducible assumption) | (with_reducible refine At.drew ?_) | (with_reducible refine At.alloc ?_ _) | (with_reducible apply At.upd) | (with_reducible apply At.setRow) | (with_reducible refine At.rowFar ?_ (by first | (simp; done) | (simp; omega) | omega) _) | ((with_reducible refine At.far ?_ (by first | (simp; done) | (simp; omega) | omega) _)) | (with_reducible rfl) | (simp; done))) hxw1
            have A_w1 := At.ext (g := w.heap.size + 1) (t := 34) (cs := #[.bool false, .bool false, .int .i64 un, .bool false]) (by repeat (first | (with_reducible exact At.new _ _ _) | ((with_reducible refine At.new' _ _ _ _ ?_); simp; done) | (with_reducible assumption) | (with_reducible refine At.drew ?_) | (with_reducible refine At.alloc ?_ _) | (with_reducible apply At.upd) | (with_reducible apply At.setRow) | (with_reducible refine At.rowFar ?_ (by first | (simp; done) | (simp; omega) | omega) _) | ((with_reducible refine At.far ?_ (by first | (simp; done) | (simp; omega) | omega) _)) | (with_reducible rfl) | (simp; done))) hxw1
            have B_w1 := At.ext (g := w.heap.size + 1 + 1) (t := 34) (cs := #[.bool false, .bool false, .int .i64 0, .bool false]) (by repeat (first | (with_reducible exact At.new _ _ _) | ((with_reducible refine At.new' _ _ _ _ ?_); simp; done) | (with_reducible assumption) | (with_reducible refine At.drew ?_) | (with_reducible refine At.alloc ?_ _) | (with_reducible apply At.upd) | (with_reducible apply At.setRow) | (with_reducible refine At.rowFar ?_ (by first | (simp; done) | (simp; omega) | omega) _) | ((with_reducible refine At.far ?_ (by first | (simp; done) | (simp; omega) | omega) _)) | (with_reducible rfl) | (simp; done))) hxw1
            clear hxw1
            have s_X_w1 := X_w1.lt
            have e_X_w1 := cellsAt_at X_w1
            have s_A_w1 := A_w1.lt
            have c_A_w1_0 := A_w1.cell 0
            have f_A_w1_0 := A_w1.frozen 0
            have c_A_w1_1 := A_w1.cell 1
            have f_A_w1_1 := A_w1.frozen 1
            have c_A_w1_2 := A_w1.cell 2
            have f_A_w1_2 := A_w1.frozen 2
            have c_A_w1_3 := A_w1.cell 3
            have f_A_w1_3 := A_w1.frozen 3
            simp only [List.getElem?_toArray, List.getElem?_cons_zero, List.getElem?_cons_succ] at c_A_w1_0 c_A_w1_1 c_A_w1_2 c_A_w1_3
            have s_B_w1 := B_w1.lt
            have c_B_w1_0 := B_w1.cell 0
            have f_B_w1_0 := B_w1.frozen 0
            have c_B_w1_1 := B_w1.cell 1
            have f_B_w1_1 := B_w1.frozen 1
            have c_B_w1_2 := B_w1.cell 2
            have f_B_w1_2 := B_w1.frozen 2
            have c_B_w1_3 := B_w1.cell 3
            have f_B_w1_3 := B_w1.frozen 3
            simp only [List.getElem?_toArray, List.getElem?_cons_zero, List.getElem?_cons_succ] at c_B_w1_0 c_B_w1_1 c_B_w1_2 c_B_w1_3
            go_wp2_with fail
            refine (HCH.out _ _ _).mono ?_
            rintro e w2 ⟨rfl, hxw2⟩
            have X_w2 := At.ext (g := w.heap.size) (t := 27) (cs := #[.slice x.A x.l.length x.c, .slice x.B x.t.length x.d, .int .i64 x.ix, .int .i64 x.f1, .int .i64 x.f2, .int .i64 x.f3, .int .i64 x.h1, .int .i64 x.h2]) (by repeat (first | (with_reducible exact At.new _ _ _) | ((with_reducible refine At.new' _ _ _ _ ?_); simp; done) | (with_reducible assumption) | (with_reducible refine At.drew ?_) | (with_reducible refine At.alloc ?_ _) | (with_reducible apply At.upd) | (with_reducible apply At.setRow) | (with_reducible refine At.rowFar ?_ (by first | (simp; done) | (simp; omega) | omega) _) | ((with_reducible refine At.far ?_ (by first | (simp; done) | (simp; omega) | omega) _)) | (with_reducible rfl) | (simp; done))) hxw2
            have A_w2 := At.ext (g := w.heap.size + 1) (t := 34) (cs := #[.bool false, .bool false, .int .i64 un, .bool false]) (by repeat (first | (with_reducible exact At.new _ _ _) | ((with_reducible refine At.new' _ _ _ _ ?_); simp; done) | (with_reducible assumption) | (with_reducible refine At.drew ?_) | (with_reducible refine At.alloc ?_ _) | (with_reducible apply At.upd) | (with_reducible apply At.setRow) | (with_reducible refine At.rowFar ?_ (by first | (simp; done) | (simp; omega) | omega) _) | ((with_reducible refine At.far ?_ (by first | (simp; done) | (simp; omega) | omega) _)) | (with_reducible rfl) | (simp; done))) hxw2
            have B_w2 := At.ext (g := w.heap.size + 1 + 1) (t := 34) (cs := #[.bool false, .bool false, .int .i64 0, .bool false]) (by repeat (first | (with_reducible exact At.new _ _ _) | ((with_reducible refine At.new' _ _ _ _ ?_); simp; done) | (with_reducible assumption) | (with_reducible refine At.drew ?_) | (with_reducible refine At.alloc ?_ _) | (with_reducible apply At.upd) | (with_reducible apply At.setRow) | (with_reducible refine At.rowFar ?_ (by first | (simp; done) | (simp; omega) | omega) _) | ((with_reducible refine At.far ?_ (by first | (simp; done) | (simp; omega) | omega) _)) | (with_reducible rfl) | (simp; done))) hxw2
            have xw2 : Ext w w2 := Ext.trans (by repeat (first | (with_reducible exact Ext.refl _) | (with_reducible assumption) | (with_reducible refine Ext.alloc ?_ _) | (with_reducible refine Ext.drew ?_) | (with_reducible refine Ext.drewN ?_ _) | (with_reducible refine Ext.setCell ?_ (by simp; try omega) _) | (with_reducible refine Ext.setRow ?_ (by simp; try omega) _))) hxw2
            clear X_w1 s_X_w1 e_X_w1 A_w1 s_A_w1 c_A_w1_0 f_A_w1_0 c_A_w1_1 f_A_w1_1 c_A_w1_2 f_A_w1_2 c_A_w1_3 f_A_w1_3 B_w1 s_B_w1 c_B_w1_0 f_B_w1_0 c_B_w1_1 f_B_w1_1 c_B_w1_2 f_B_w1_2 c_B_w1_3 f_B_w1_3 hxw2 xw1
            have s_X_w2 := X_w2.lt
            have e_X_w2 := cellsAt_at X_w2
            have s_A_w2 := A_w2.lt
            have c_A_w2_0 := A_w2.cell 0
            have f_A_w2_0 := A_w2.frozen 0
            have c_A_w2_1 := A_w2.cell 1
            have f_A_w2_1 := A_w2.frozen 1
            have c_A_w2_2 := A_w2.cell 2
            have f_A_w2_2 := A_w2.frozen 2
            have c_A_w2_3 := A_w2.cell 3
            have f_A_w2_3 := A_w2.frozen 3
            simp only [List.getElem?_toArray, List.getElem?_cons_zero, List.getElem?_cons_succ] at c_A_w2_0 c_A_w2_1 c_A_w2_2 c_A_w2_3
            have s_B_w2 := B_w2.lt
            have c_B_w2_0 := B_w2.cell 0
            have f_B_w2_0 := B_w2.frozen 0
            have c_B_w2_1 := B_w2.cell 1
            have f_B_w2_1 := B_w2.frozen 1
            have c_B_w2_2 := B_w2.cell 2
            have f_B_w2_2 := B_w2.frozen 2
            have c_B_w2_3 := B_w2.cell 3
            have f_B_w2_3 := B_w2.frozen 3
            simp only [List.getElem?_toArray, List.getElem?_cons_zero, List.getElem?_cons_succ] at c_B_w2_0 c_B_w2_1 c_B_w2_2 c_B_w2_3
            go_wp2_with fail
            refine (HC1.out _).mono ?_
            rintro e w3 ⟨rfl, hxw3⟩
            have X_w3 := At.ext (g := w.heap.size) (t := 27) (cs := #[.slice x.A x.l.length x.c, .slice x.B x.t.length x.d, .int .i64 x.ix, .int .i64 x.f1, .int .i64 x.f2, .int .i64 x.f3, .int .i64 x.h1, .int .i64 x.h2]) (by repeat (first | (with_reducible exact At.new _ _ _) | ((with_reducible refine At.new' _ _ _ _ ?_); simp; done) | (with_reducible assumption) | (with_reducible refine At.drew ?_) | (with_reducible refine At.alloc ?_ _) | (with_reducible apply At.upd) | (with_reducible apply At.setRow) | (with_reducible refine At.rowFar ?_ (by first | (simp; done) | (simp; omega) | omega) _) | ((with_reducible refine At.far ?_ (by first | (simp; done) | (simp; omega) | omega) _)) | (with_reducible rfl) | (simp; done))) hxw3
            have A_w3 := At.ext (g := w.heap.size + 1) (t := 34) (cs := #[.bool true, .bool false, .int .i64 un, .bool false]) (by repeat (first | (with_reducible exact At.new _ _ _) | ((with_reducible refine At.new' _ _ _ _ ?_); simp; done) | (with_reducible assumption) | (with_reducible refine At.drew ?_) | (with_reducible refine At.alloc ?_ _) | (with_reducible apply At.upd) | (with_reducible apply At.setRow) | (with_reducible refine At.rowFar ?_ (by first | (simp; done) | (simp; omega) | omega) _) | ((with_reducible refine At.far ?_ (by first | (simp; done) | (simp; omega) | omega) _)) | (with_reducible rfl) | (simp; done))) hxw3
            have B_w3 := At.ext (g := w.heap.size + 1 + 1) (t := 34) (cs := #[.bool false, .bool false, .int .i64 0, .bool false]) (by repeat (first | (with_reducible exact At.new _ _ _) | ((with_reducible refine At.new' _ _ _ _ ?_); simp; done) | (with_reducible assumption) | (with_reducible refine At.drew ?_) | (with_reducible refine At.alloc ?_ _) | (with_reducible apply At.upd) | (with_reducible apply At.setRow) | (with_reducible refine At.rowFar ?_ (by first | (simp; done) | (simp; omega) | omega) _) | ((with_reducible refine At.far ?_ (by first | (simp; done) | (simp; omega) | omega) _)) | (with_reducible rfl) | (simp; done))) hxw3
            have xw3 : Ext w w3 := Ext.trans (by repeat (first | (with_reducible exact Ext.refl _) | (with_reducible assumption) | (with_reducible refine Ext.alloc ?_ _) | (with_reducible refine Ext.drew ?_) | (with_reducible refine Ext.drewN ?_ _) | (with_reducible refine Ext.setCell ?_ (by simp; try omega) _) | (with_reducible refine Ext.setRow ?_ (by simp; try omega) _))) hxw3
            clear X_w2 s_X_w2 e_X_w2 A_w2 s_A_w2 c_A_w2_0 f_A_w2_0 c_A_w2_1 f_A_w2_1 c_A_w2_2 f_A_w2_2 c_A_w2_3 f_A_w2_3 B_w2 s_B_w2 c_B_w2_0 f_B_w2_0 c_B_w2_1 f_B_w2_1 c_B_w2_2 f_B_w2_2 c_B_w2_3 f_B_w2_3 hxw3 xw2
            have s_X_w3 := X_w3.lt
            have e_X_w3 := cellsAt_at X_w3
            have s_A_w3 := A_w3.lt
            have c_A_w3_0 := A_w3.cell 0
            have f_A_w3_0 := A_w3.frozen 0
            have c_A_w3_1 := A_w3.cell 1
            have f_A_w3_1 := A_w3.frozen 1
            have c_A_w3_2 := A_w3.cell 2
            have f_A_w3_2 := A_w3.frozen 2
            have c_A_w3_3 := A_w3.cell 3
            have f_A_w3_3 := A_w3.frozen 3
            simp only [List.getElem?_toArray, List.getElem?_cons_zero, List.getElem?_cons_succ] at c_A_w3_0 c_A_w3_1 c_A_w3_2 c_A_w3_3
            have s_B_w3 := B_w3.lt
            have c_B_w3_0 := B_w3.cell 0
            have f_B_w3_0 := B_w3.frozen 0
            have c_B_w3_1 := B_w3.cell 1
            have f_B_w3_1 := B_w3.frozen 1
            have c_B_w3_2 := B_w3.cell 2
            have f_B_w3_2 := B_w3.frozen 2
            have c_B_w3_3 := B_w3.cell 3
            have f_B_w3_3 := B_w3.frozen 3
            simp only [List.getElem?_toArray, List.getElem?_cons_zero, List.getElem?_cons_succ] at c_B_w3_0 c_B_w3_1 c_B_w3_2 c_B_w3_3
            go_wp2_with fail
            all_goals
              first | refine fin_ret rfl (fun K hK => ?_) | refine fin_norm rfl (fun K hK => ?_)
              simp [results, Try.results9, go_sem, rsat]
              try go_simp
              refine hK _ ?_
              clear hK K
              exact ⟨rfl, (by repeat (first | (with_reducible exact Ext.refl _) | (with_reducible assumption) | (with_reducible refine Ext.alloc ?_ _) | (with_reducible refine Ext.drew ?_) | (with_reducible refine Ext.drewN ?_ _) | (with_reducible refine Ext.setCell ?_ (by simp; try omega) _) | (with_reducible refine Ext.setRow ?_ (by simp; try omega) _)))⟩
          · simp only [if_true, if_false, Bool.true_eq_false, Bool.false_eq_true]
            have HCL := Lib.hid CL
            have HCH := Lib.hid CH
            have HC1 := Lib.hid C1
            have HC2 := Lib.hid C2
            clear CL CH C1 C2
            go_enter Try.func9, Try.ntmps9
            go_wp2_with fail
            refine (HCL.out _).mono ?_
            rintro e w1 ⟨rfl, hxw1⟩
            have xw1 : Ext w w1 := Ext.trans (by repeat (first | (with_reducible exact Ext.refl _) | (with_reducible assumption) | (with_reducible refine Ext.alloc ?_ _) | (with_reducible refine Ext.drew ?_) | (with_reducible refine Ext.drewN ?_ _) | (with_reducible refine Ext.setCell ?_ (by simp; try omega) _) | (with_reducible refine Ext.setRow ?_ (by simp; try omega) _))) hxw1
            have lw1 := xw1.size
            have X_w1 := At.ext (g := w.heap.size) (t := 27) (cs := #[.slice x.A x.l.length x.c, .slice x.B x.t.length x.d, .int .i64 x.ix, .int .i64 x.f1, .int .i64 x.f2, .int .i64 x.f3, .int .i64 x.h1, .int .i64 x.h2]) (by repeat (first | (with_reducible exact At.new _ _ _) | ((with_reducible refine At.new' _ _ _ _ ?_); simp; done) | (with_reducible assumption) | (with_reducible refine At.drew ?_) | (with_reducible refine At.alloc ?_ _) | (with_reducible apply At.upd) | (with_reducible apply At.setRow) | (with_reducible refine At.rowFar ?_ (by first | (simp; done) | (simp; omega) | omega) _) | ((with_reducible refine At.far ?_ (by first | (simp; done) | (simp; omega) | omega) _)) | (with_reducible rfl) | (simp; done))) hxw1
            have A_w1 := At.ext (g := w.heap.size + 1) (t := 34) (cs := #[.bool false, .bool true, .int .i64 un, .bool false]) (by repeat (first | (with_reducible exact At.new _ _ _) | ((with_reducible refine At.new' _ _ _ _ ?_); simp; done) | (with_reducible assumption) | (with_reducible refine At.drew ?_) | (with_reducible refine At.alloc ?_ _) | (with_reducible apply At.upd) | (with_reducible apply At.setRow) | (with_reducible refine At.rowFar ?_ (by first | (simp; done) | (simp; omega) | omega) _) | ((with_reducible refine At.far ?_ (by first | (simp; done) | (simp; omega) | omega) _)) | (with_reducible rfl) | (simp; done))) hxw1
            have B_w1 := At.ext (g := w.heap.size + 1 + 1) (t := 34) (cs := #[.bool false, .bool false, .int .i64 0, .bool false]) (by repeat (first | (with_reducible exact At.new _ _ _) | ((with_reducible refine At.new' _ _ _ _ ?_); simp; done) | (with_reducible assumption) | (with_reducible refine At.drew ?_) | (with_reducible refine At.alloc ?_ _) | (with_reducible apply At.upd) | (with_reducible apply At.setRow) | (with_reducible refine At.rowFar ?_ (by first | (simp; done) | (simp; omega) | omega) _) | ((with_reducible refine At.far ?_ (by first | (simp; done) | (simp; omega) | omega) _)) | (with_reducible rfl) | (simp; done))) hxw1
            clear hxw1
            have s_X_w1 := X_w1.lt
            have e_X_w1 := cellsAt_at X_w1
            have s_A_w1 := A_w1.lt
            have c_A_w1_0 := A_w1.cell 0
            have f_A_w1_0 := A_w1.frozen 0
            have c_A_w1_1 := A_w1.cell 1
            have f_A_w1_1 := A_w1.frozen 1
            have c_A_w1_2 := A_w1.cell 2
            have f_A_w1_2 := A_w1.frozen 2
            have c_A_w1_3 := A_w1.cell 3
            have f_A_w1_3 := A_w1.frozen 3
            simp only [List.getElem?_toArray, List.getElem?_cons_zero, List.getElem?_cons_succ] at c_A_w1_0 c_A_w1_1 c_A_w1_2 c_A_w1_3
            have s_B_w1 := B_w1.lt
            have c_B_w1_0 := B_w1.cell 0
            have f_B_w1_0 := B_w1.frozen 0
            have c_B_w1_1 := B_w1.cell 1
            have f_B_w1_1 := B_w1.frozen 1
            have c_B_w1_2 := B_w1.cell 2
            have f_B_w1_2 := B_w1.frozen 2
            have c_B_w1_3 := B_w1.cell 3
            have f_B_w1_3 := B_w1.frozen 3
            simp only [List.getElem?_toArray, List.getElem?_cons_zero, List.getElem?_cons_succ] at c_B_w1_0 c_B_w1_1 c_B_w1_2 c_B_w1_3
            go_wp2_with fail
            refine (HCH.out _ _ _).mono ?_
            rintro e w2 ⟨rfl, hxw2⟩
            have X_w2 := At.ext (g := w.heap.size) (t := 27) (cs := #[.slice x.A x.l.length x.c, .slice x.B x.t.length x.d, .int .i64 x.ix, .int .i64 x.f1, .int .i64 x.f2, .int .i64 x.f3, .int .i64 x.h1, .int .i64 x.h2]) (by repeat (first | (with_reducible exact At.new _ _ _) | ((with_reducible refine At.new' _ _ _ _ ?_); simp; done) | (with_reducible assumption) | (with_reducible refine At.drew ?_) | (with_reducible refine At.alloc ?_ _) | (with_reducible apply At.upd) | (with_reducible apply At.setRow) | (with_reducible refine At.rowFar ?_ (by first | (simp; done) | (simp; omega) | omega) _) | ((with_reducible refine At.far ?_ (by first | (simp; done) | (simp; omega) | omega) _)) | (with_reducible rfl) | (simp; done))) hxw2
            have A_w2 := At.ext (g := w.heap.size + 1) (t := 34) (cs := #[.bool false, .bool true, .int .i64 un, .bool false]) (by repeat (first | (with_reducible exact At.new _ _ _) | ((with_reducible refine At.new' _ _ _ _ ?_); simp; done) | (with_reducible assumption) | (with_reducible refine At.drew ?_) | (with_reducible refine At.alloc ?_ _) | (with_reducible apply At.upd) | (with_reducible apply At.setRow) | (with_reducible refine At.rowFar ?_ (by first | (simp; done) | (simp; omega) | omega) _) | ((with_reducible refine At.far ?_ (by first | (simp; done) | (simp; omega) | omega) _)) | (with_reducible rfl) | (simp; done))) hxw2
            have B_w2 := At.ext (g := w.heap.size + 1 + 1) (t := 34) (cs := #[.bool false, .bool false, .int .i64 0, .bool false]) (by repeat (first | (with_reducible exact At.new _ _ _) | ((with_reducible refine At.new' _ _ _ _ ?_); simp; done) | (with_reducible assumption) | (with_reducible refine At.drew ?_) | (with_reducible refine At.alloc ?_ _) | (with_reducible apply At.upd) | (with_reducible apply At.setRow) | (with_reducible refine At.rowFar ?_ (by first | (simp; done) | (simp; omega) | omega) _) | ((with_reducible refine At.far ?_ (by first | (simp; done) | (simp; omega) | omega) _)) | (with_reducible rfl) | (simp; done))) hxw2
            have xw2 : Ext w w2 := Ext.trans (by repeat (first | (with_reducible exact Ext.refl _) | (with_reducible assumption) | (with_reducible refine Ext.alloc ?_ _) | (with_reducible refine Ext.drew ?_) | (with_reducible refine Ext.drewN ?_ _) | (with_reducible refine Ext.setCell ?_ (by simp; try omega) _) | (with_reducible refine Ext.setRow ?_ (by simp; try omega) _))) hxw2
            clear X_w1 s_X_w1 e_X_w1 A_w1 s_A_w1 c_A_w1_0 f_A_w1_0 c_A_w1_1 f_A_w1_1 c_A_w1_2 f_A_w1_2 c_A_w1_3 f_A_w1_3 B_w1 s_B_w1 c_B_w1_0 f_B_w1_0 c_B_w1_1 f_B_w1_1 c_B_w1_2 f_B_w1_2 c_B_w1_3 f_B_w1_3 hxw2 xw1
            have s_X_w2 := X_w2.lt
            have e_X_w2 := cellsAt_at X_w2
            have s_A_w2 := A_w2.lt
            have c_A_w2_0 := A_w2.cell 0
            have f_A_w2_0 := A_w2.frozen 0
            have c_A_w2_1 := A_w2.cell 1
            have f_A_w2_1 := A_w2.frozen 1
            have c_A_w2_2 := A_w2.cell 2
            have f_A_w2_2 := A_w2.frozen 2
            have c_A_w2_3 := A_w2.cell 3
            have f_A_w2_3 := A_w2.frozen 3
            simp only [List.getElem?_toArray, List.getElem?_cons_zero, List.getElem?_cons_succ] at c_A_w2_0 c_A_w2_1 c_A_w2_2 c_A_w2_3
            have s_B_w2 := B_w2.lt
            have c_B_w2_0 := B_w2.cell 0
            have f_B_w2_0 := B_w2.frozen 0
            have c_B_w2_1 := B_w2.cell 1
            have f_B_w2_1 := B_w2.frozen 1
            have c_B_w2_2 := B_w2.cell 2
            have f_B_w2_2 := B_w2.frozen 2
            have c_B_w2_3 := B_w2.cell 3
            have f_B_w2_3 := B_w2.frozen 3
            simp only [List.getElem?_toArray, List.getElem?_cons_zero, List.getElem?_cons_succ] at c_B_w2_0 c_B_w2_1 c_B_w2_2 c_B_w2_3
            go_wp2_with fail
            refine (HC1.out _).mono ?_
            rintro e w3 ⟨rfl, hxw3⟩
            have X_w3 := At.ext (g := w.heap.size) (t := 27) (cs := #[.slice x.A x.l.length x.c, .slice x.B x.t.length x.d, .int .i64 x.ix, .int .i64 x.f1, .int .i64 x.f2, .int .i64 x.f3, .int .i64 x.h1, .int .i64 x.h2]) (by repeat (first | (with_reducible exact At.new _ _ _) | ((with_reducible refine At.new' _ _ _ _ ?_); simp; done) | (with_reducible assumption) | (with_reducible refine At.drew ?_) | (with_reducible refine At.alloc ?_ _) | (with_reducible apply At.upd) | (with_reducible apply At.setRow) | (with_reducible refine At.rowFar ?_ (by first | (simp; done) | (simp; omega) | omega) _) | ((with_reducible refine At.far ?_ (by first | (simp; done) | (simp; omega) | omega) _)) | (with_reducible rfl) | (simp; done))) hxw3
            have A_w3 := At.ext (g := w.heap.size + 1) (t := 34) (cs := #[.bool true, .bool true, .int .i64 un, .bool false]) (by repeat (first | (with_reducible exact At.new _ _ _) | ((with_reducible refine At.new' _ _ _ _ ?_); simp; done) | (with_reducible assumption) | (with_reducible refine At.drew ?_) | (with_reducible refine At.alloc ?_ _) | (with_reducible apply At.upd) | (with_reducible apply At.setRow) | (with_reducible refine At.rowFar ?_ (by first | (simp; done) | (simp; omega) | omega) _) | ((with_reducible refine At.far ?_ (by first | (simp; done) | (simp; omega) | omega) _)) | (with_reducible rfl) | (simp; done))) hxw3
            have B_w3 := At.ext (g := w.heap.size + 1 + 1) (t := 34) (cs := #[.bool false, .bool false, .int .i64 0, .bool false]) (by repeat (first | (with_reducible exact At.new _ _ _) | ((with_reducible refine At.new' _ _ _ _ ?_); simp; done) | (with_reducible assumption) | (with_reducible refine At.drew ?_) | (with_reducible refine At.alloc ?_ _) | (with_reducible apply At.upd) | (with_reducible apply At.setRow) | (with_reducible refine At.rowFar ?_ (by first | (simp; done) | (simp; omega) | omega) _) | ((with_reducible refine At.far ?_ (by first | (simp; done) | (simp; omega) | omega) _)) | (with_reducible rfl) | (simp; done))) hxw3
            have xw3 : Ext w w3 := Ext.trans (by repeat (first | (with_reducible exact Ext.refl _) | (with_reducible assumption) | (with_reducible refine Ext.alloc ?_ _) | (with_reducible refine Ext.drew ?_) | (with_reducible refine Ext.drewN ?_ _) | (with_reducible refine Ext.setCell ?_ (by simp; try omega) _) | (with_reducible refine Ext.setRow ?_ (by simp; try omega) _))) hxw3
            clear X_w2 s_X_w2 e_X_w2 A_w2 s_A_w2 c_A_w2_0 f_A_w2_0 c_A_w2_1 f_A_w2_1 c_A_w2_2 f_A_w2_2 c_A_w2_3 f_A_w2_3 B_w2 s_B_w2 c_B_w2_0 f_B_w2_0 c_B_w2_1 f_B_w2_1 c_B_w2_2 f_B_w2_2 c_B_w2_3 f_B_w2_3 hxw3 xw2
            have s_X_w3 := X_w3.lt
            have e_X_w3 := cellsAt_at X_w3
            have s_A_w3 := A_w3.lt
            have c_A_w3_0 := A_w3.cell 0
            have f_A_w3_0 := A_w3.frozen 0
            have c_A_w3_1 := A_w3.cell 1
            have f_A_w3_1 := A_w3.frozen 1
            have c_A_w3_2 := A_w3.cell 2
            have f_A_w3_2 := A_w3.frozen 2
            have c_A_w3_3 := A_w3.cell 3
            have f_A_w3_3 := A_w3.frozen 3
            simp only [List.getElem?_toArray, List.getElem?_cons_zero, List.getElem?_cons_succ] at c_A_w3_0 c_A_w3_1 c_A_w3_2 c_A_w3_3
            have s_B_w3 := B_w3.lt
            have c_B_w3_0 := B_w3.cell 0
            have f_B_w3_0 := B_w3.frozen 0
            have c_B_w3_1 := B_w3.cell 1
            have f_B_w3_1 := B_w3.frozen 1
            have c_B_w3_2 := B_w3.cell 2
            have f_B_w3_2 := B_w3.frozen 2
            have c_B_w3_3 := B_w3.cell 3
            have f_B_w3_3 := B_w3.frozen 3
            simp only [List.getElem?_toArray, List.getElem?_cons_zero, List.getElem?_cons_succ] at c_B_w3_0 c_B_w3_1 c_B_w3_2 c_B_w3_3
            go_wp2_with fail
            all_goals
              first | refine fin_ret rfl (fun K hK => ?_) | refine fin_norm rfl (fun K hK => ?_)
              simp [results, Try.results9, go_sem, rsat]
              try go_simp
              refine hK _ ?_
              clear hK K
              exact ⟨rfl, (by repeat (first | (with_reducible exact Ext.refl _) | (with_reducible assumption) | (with_reducible refine Ext.alloc ?_ _) | (with_reducible refine Ext.drew ?_) | (with_reducible refine Ext.drewN ?_ _) | (with_reducible refine Ext.setCell ?_ (by simp; try omega) _) | (with_reducible refine Ext.setRow ?_ (by simp; try omega) _)))⟩
        · cases u1
          · simp only [if_true, if_false, Bool.true_eq_false, Bool.false_eq_true]
            have HCL := Lib.hid CL
            have HCH := Lib.hid CH
            have HC1 := Lib.hid C1
            have HC2 := Lib.hid C2
            clear CL CH C1 C2
            go_enter Try.func9, Try.ntmps9
            go_wp2_with fail
            refine (HCL.out _).mono ?_
            rintro e w1 ⟨rfl, hxw1⟩
            have xw1 : Ext w w1 := Ext.trans (by repeat (first | (with_reducible exact Ext.refl _) | (with_reducible assumption) | (with_reducible refine Ext.alloc ?_ _) | (with_reducible refine Ext.drew ?_) | (with_reducible refine Ext.drewN ?_ _) | (with_reducible refine Ext.setCell ?_ (by simp; try omega) _) | (with_reducible refine Ext.setRow ?_ (by simp; try omega) _))) hxw1
            have lw1 := xw1.size
            have X_w1 := At.ext (g := w.heap.size) (t := 27) (cs := #[.slice x.A x.l.length x.c, .slice x.B x.t.length x.d, .int .i64 x.ix, .int .i64 x.f1, .int .i64 x.f2, .int .i64 x.f3, .int .i64 x.h1, .int .i64 x.h2]) (by repeat (first | (with_reducible exact At.new _ _ _) | ((with_reducible refine At.new' _ _ _ _ ?_); simp; done) | (with_reducible assumption) | (with_reducible refine At.drew ?_) | (with_reducible refine At.alloc ?_ _) | (with_reducible apply At.upd) | (with_reducible apply At.setRow) | (with_reducible refine At.rowFar ?_ (by first | (simp; done) | (simp; omega) | omega) _) | ((with_reducible refine At.far ?_ (by first | (simp; done) | (simp; omega) | omega) _)) | (with_reducible rfl) | (simp; done))) hxw1
            have A_w1 := At.ext (g := w.heap.size + 1) (t := 34) (cs := #[.bool true, .bool false, .int .i64 un, .bool false]) (by repeat (first | (with_reducible exact At.new _ _ _) | ((with_reducible refine At.new' _ _ _ _ ?_); simp; done) | (with_reducible assumption) | (with_reducible refine At.drew ?_) | (with_reducible refine At.alloc ?_ _) | (with_reducible apply At.upd) | (with_reducible apply At.setRow) | (with_reducible refine At.rowFar ?_ (by first | (simp; done) | (simp; omega) | omega) _) | ((with_reducible refine At.far ?_ (by first | (simp; done) | (simp; omega) | omega) _)) | (with_reducible rfl) | (simp; done))) hxw1
            have B_w1 := At.ext (g := w.heap.size + 1 + 1) (t := 34) (cs := #[.bool false, .bool false, .int .i64 0, .bool false]) (by repeat (first | (with_reducible exact At.new _ _ _) | ((with_reducible refine At.new' _ _ _ _ ?_); simp; done) | (with_reducible assumption) | (with_reducible refine At.drew ?_) | (with_reducible refine At.alloc ?_ _) | (with_reducible apply At.upd) | (with_reducible apply At.setRow) | (with_reducible refine At.rowFar ?_ (by first | (simp; done) | (simp; omega) | omega) _) | ((with_reducible refine At.far ?_ (by first | (simp; done) | (simp; omega) | omega) _)) | (with_reducible rfl) | (simp; done))) hxw1
            clear hxw1
            have s_X_w1 := X_w1.lt
            have e_X_w1 := cellsAt_at X_w1
            have s_A_w1 := A_w1.lt
            have c_A_w1_0 := A_w1.cell 0
            have f_A_w1_0 := A_w1.frozen 0
            have c_A_w1_1 := A_w1.cell 1
            have f_A_w1_1 := A_w1.frozen 1
            have c_A_w1_2 := A_w1.cell 2
            have f_A_w1_2 := A_w1.frozen 2
            have c_A_w1_3 := A_w1.cell 3
            have f_A_w1_3 := A_w1.frozen 3
            simp only [List.getElem?_toArray, List.getElem?_cons_zero, List.getElem?_cons_succ] at c_A_w1_0 c_A_w1_1 c_A_w1_2 c_A_w1_3
            have s_B_w1 := B_w1.lt
            have c_B_w1_0 := B_w1.cell 0
            have f_B_w1_0 := B_w1.frozen 0
            have c_B_w1_1 := B_w1.cell 1
            have f_B_w1_1 := B_w1.frozen 1
            have c_B_w1_2 := B_w1.cell 2
            have f_B_w1_2 := B_w1.frozen 2
            have c_B_w1_3 := B_w1.cell 3
            have f_B_w1_3 := B_w1.frozen 3
            simp only [List.getElem?_toArray, List.getElem?_cons_zero, List.getElem?_cons_succ] at c_B_w1_0 c_B_w1_1 c_B_w1_2 c_B_w1_3
            go_wp2_with fail
            refine (HCH.out _ _ _).mono ?_
            rintro e w2 ⟨rfl, hxw2⟩
            have X_w2 := At.ext (g := w.heap.size) (t := 27) (cs := #[.slice x.A x.l.length x.c, .slice x.B x.t.length x.d, .int .i64 x.ix, .int .i64 x.f1, .int .i64 x.f2, .int .i64 x.f3, .int .i64 x.h1, .int .i64 x.h2]) (by repeat (first | (with_reducible exact At.new _ _ _) | ((with_reducible refine At.new' _ _ _ _ ?_); simp; done) | (with_reducible assumption) | (with_reducible refine At.drew ?_) | (with_reducible refine At.alloc ?_ _) | (with_reducible apply At.upd) | (with_reducible apply At.setRow) | (with_reducible refine At.rowFar ?_ (by first | (simp; done) | (simp; omega) | omega) _) | ((with_reducible refine At.far ?_ (by first | (simp; done) | (simp; omega) | omega) _)) | (with_reducible rfl) | (simp; done))) hxw2
            have A_w2 := At.ext (g := w.heap.size + 1) (t := 34) (cs := #[.bool true, .bool false, .int .i64 un, .bool false]) (by repeat (first | (with_reducible exact At.new _ _ _) | ((with_reducible refine At.new' _ _ _ _ ?_); simp; done) | (with_reducible assumption) | (with_reducible refine At.drew ?_) | (with_reducible refine At.alloc ?_ _) | (with_reducible apply At.upd) | (with_reducible apply At.setRow) | (with_reducible refine At.rowFar ?_ (by first | (simp; done) | (simp; omega) | omega) _) | ((with_reducible refine At.far ?_ (by first | (simp; done) | (simp; omega) | omega) _)) | (with_reducible rfl) | (simp; done))) hxw2
            have B_w2 := At.ext (g := w.heap.size + 1 + 1) (t := 34) (cs := #[.bool false, .bool false, .int .i64 0, .bool false]) (by repeat (first | (with_reducible exact At.new _ _ _) | ((with_reducible refine At.new' _ _ _ _ ?_); simp; done) | (with_reducible assumption) | (with_reducible refine At.drew ?_) | (with_reducible refine At.alloc ?_ _) | (with_reducible apply At.upd) | (with_reducible apply At.setRow) | (with_reducible refine At.rowFar ?_ (by first | (simp; done) | (simp; omega) | omega) _) | ((with_reducible refine At.far ?_ (by first | (simp; done) | (simp; omega) | omega) _)) | (with_reducible rfl) | (simp; done))) hxw2
            have xw2 : Ext w w2 := Ext.trans (by repeat (first | (with_reducible exact Ext.refl _) | (with_reducible assumption) | (with_reducible refine Ext.alloc ?_ _) | (with_reducible refine Ext.drew ?_) | (with_reducible refine Ext.drewN ?_ _) | (with_reducible refine Ext.setCell ?_ (by simp; try omega) _) | (with_reducible refine Ext.setRow ?_ (by simp; try omega) _))) hxw2
            clear X_w1 s_X_w1 e_X_w1 A_w1 s_A_w1 c_A_w1_0 f_A_w1_0 c_A_w1_1 f_A_w1_1 c_A_w1_2 f_A_w1_2 c_A_w1_3 f_A_w1_3 B_w1 s_B_w1 c_B_w1_0 f_B_w1_0 c_B_w1_1 f_B_w1_1 c_B_w1_2 f_B_w1_2 c_B_w1_3 f_B_w1_3 hxw2 xw1
            have s_X_w2 := X_w2.lt
            have e_X_w2 := cellsAt_at X_w2
            have s_A_w2 := A_w2.lt
            have c_A_w2_0 := A_w2.cell 0
            have f_A_w2_0 := A_w2.frozen 0
            have c_A_w2_1 := A_w2.cell 1
            have f_A_w2_1 := A_w2.frozen 1
            have c_A_w2_2 := A_w2.cell 2
            have f_A_w2_2 := A_w2.frozen 2
            have c_A_w2_3 := A_w2.cell 3
            have f_A_w2_3 := A_w2.frozen 3
            simp only [List.getElem?_toArray, List.getElem?_cons_zero, List.getElem?_cons_succ] at c_A_w2_0 c_A_w2_1 c_A_w2_2 c_A_w2_3
            have s_B_w2 := B_w2.lt
            have c_B_w2_0 := B_w2.cell 0
            have f_B_w2_0 := B_w2.frozen 0
            have c_B_w2_1 := B_w2.cell 1
            have f_B_w2_1 := B_w2.frozen 1
            have c_B_w2_2 := B_w2.cell 2
            have f_B_w2_2 := B_w2.frozen 2
            have c_B_w2_3 := B_w2.cell 3
            have f_B_w2_3 := B_w2.frozen 3
            simp only [List.getElem?_toArray, List.getElem?_cons_zero, List.getElem?_cons_succ] at c_B_w2_0 c_B_w2_1 c_B_w2_2 c_B_w2_3
            go_wp2_with fail
            all_goals
              first | refine fin_ret rfl (fun K hK => ?_) | refine fin_norm rfl (fun K hK => ?_)
              simp [results, Try.results9, go_sem, rsat]
              try go_simp
              refine hK _ ?_
              clear hK K
              exact ⟨rfl, (by repeat (first | (with_reducible exact Ext.refl _) | (with_reducible assumption) | (with_reducible refine Ext.alloc ?_ _) | (with_reducible refine Ext.drew ?_) | (with_reducible refine Ext.drewN ?_ _) | (with_reducible refine Ext.setCell ?_ (by simp; try omega) _) | (with_reducible refine Ext.setRow ?_ (by simp; try omega) _)))⟩
          · simp only [if_true, if_false, Bool.true_eq_false, Bool.false_eq_true]
            have HCL := Lib.hid CL
            have HCH := Lib.hid CH
            have HC1 := Lib.hid C1
            have HC2 := Lib.hid C2
            clear CL CH C1 C2
            go_enter Try.func9, Try.ntmps9
            go_wp2_with fail
            refine (HCL.out _).mono ?_
            rintro e w1 ⟨rfl, hxw1⟩
            have xw1 : Ext w w1 := Ext.trans (by repeat (first | (with_reducible exact Ext.refl _) | (with_reducible assumption) | (with_reducible refine Ext.alloc ?_ _) | (with_reducible refine Ext.drew ?_) | (with_reducible refine Ext.drewN ?_ _) | (with_reducible refine Ext.setCell ?_ (by simp; try omega) _) | (with_reducible refine Ext.setRow ?_ (by simp; try omega) _))) hxw1
            have lw1 := xw1.size
            have X_w1 := At.ext (g := w.heap.size) (t := 27) (cs := #[.slice x.A x.l.length x.c, .slice x.B x.t.length x.d, .int .i64 x.ix, .int .i64 x.f1, .int .i64 x.f2, .int .i64 x.f3, .int .i64 x.h1, .int .i64 x.h2]) (by repeat (first | (with_reducible exact At.new _ _ _) | ((with_reducible refine At.new' _ _ _ _ ?_); simp; done) | (with_reducible assumption) | (with_reducible refine At.drew ?_) | (with_reducible refine At.alloc ?_ _) | (with_reducible apply At.upd) | (with_reducible apply At.setRow) | (with_reducible refine At.rowFar ?_ (by first | (simp; done) | (simp; omega) | omega) _) | ((with_reducible refine At.far ?_ (by first | (simp; done) | (simp; omega) | omega) _)) | (with_reducible rfl) | (simp; done))) hxw1
            have A_w1 := At.ext (g := w.heap.size + 1) (t := 34) (cs := #[.bool true, .bool true, .int .i64 un, .bool false]) (by repeat (first | (with_reducible exact At.new _ _ _) | ((with_reducible refine At.new' _ _ _ _ ?_); simp; done) | (with_reducible assumption) | (with_reducible refine At.drew ?_) | (with_reducible refine At.alloc ?_ _) | (with_reducible apply At.upd) | (with_reducible apply At.setRow) | (with_reducible refine At.rowFar ?_ (by first | (simp; done) | (simp; omega) | omega) _) | ((with_reducible refine At.far ?_ (by first | (simp; done) | (simp; omega) | omega) _)) | (with_reducible rfl) | (simp; done))) hxw1
            have B_w1 := At.ext (g := w.heap.size + 1 + 1) (t := 34) (cs := #[.bool false, .bool false, .int .i64 0, .bool false]) (by repeat (first | (with_reducible exact At.new _ _ _) | ((with_reducible refine At.new' _ _ _ _ ?_); simp; done) | (with_reducible assumption) | (with_reducible refine At.drew ?_) | (with_reducible refine At.alloc ?_ _) | (with_reducible apply At.upd) | (with_reducible apply At.setRow) | (with_reducible refine At.rowFar ?_ (by first | (simp; done) | (simp; omega) | omega) _) | ((with_reducible refine At.far ?_ (by first | (simp; done) | (simp; omega) | omega) _)) | (with_reducible rfl) | (simp; done))) hxw1
            clear hxw1
            have s_X_w1 := X_w1.lt
            have e_X_w1 := cellsAt_at X_w1
            have s_A_w1 := A_w1.lt
            have c_A_w1_0 := A_w1.cell 0
            have f_A_w1_0 := A_w1.frozen 0
            have c_A_w1_1 := A_w1.cell 1
            have f_A_w1_1 := A_w1.frozen 1
            have c_A_w1_2 := A_w1.cell 2
            have f_A_w1_2 := A_w1.frozen 2
            have c_A_w1_3 := A_w1.cell 3
            have f_A_w1_3 := A_w1.frozen 3
            simp only [List.getElem?_toArray, List.getElem?_cons_zero, List.getElem?_cons_succ] at c_A_w1_0 c_A_w1_1 c_A_w1_2 c_A_w1_3
            have s_B_w1 := B_w1.lt
            have c_B_w1_0 := B_w1.cell 0
            have f_B_w1_0 := B_w1.frozen 0
            have c_B_w1_1 := B_w1.cell 1
            have f_B_w1_1 := B_w1.frozen 1
            have c_B_w1_2 := B_w1.cell 2
            have f_B_w1_2 := B_w1.frozen 2
            have c_B_w1_3 := B_w1.cell 3
            have f_B_w1_3 := B_w1.frozen 3
            simp only [List.getElem?_toArray, List.getElem?_cons_zero, List.getElem?_cons_succ] at c_B_w1_0 c_B_w1_1 c_B_w1_2 c_B_w1_3
            go_wp2_with fail
            refine (HCH.out _ _ _).mono ?_
            rintro e w2 ⟨rfl, hxw2⟩
            have X_w2 := At.ext (g := w.heap.size) (t := 27) (cs := #[.slice x.A x.l.length x.c, .slice x.B x.t.length x.d, .int .i64 x.ix, .int .i64 x.f1, .int .i64 x.f2, .int .i64 x.f3, .int .i64 x.h1, .int .i64 x.h2]) (by repeat (first | (with_reducible exact At.new _ _ _) | ((with_reducible refine At.new' _ _ _ _ ?_); simp; done) | (with_reducible assumption) | (with_reducible refine At.drew ?_) | (with_reducible refine At.alloc ?_ _) | (with_reducible apply At.upd) | (with_reducible apply At.setRow) | (with_reducible refine At.rowFar ?_ (by first | (simp; done) | (simp; omega) | omega) _) | ((with_reducible refine At.far ?_ (by first | (simp; done) | (simp; omega) | omega) _)) | (with_reducible rfl) | (simp; done))) hxw2
            have A_w2 := At.ext (g := w.heap.size + 1) (t := 34) (cs := #[.bool true, .bool true, .int .i64 un, .bool false]) (by repeat (first | (with_reducible exact At.new _ _ _) | ((with_reducible refine At.new' _ _ _ _ ?_); simp; done) | (with_reducible assumption) | (with_reducible refine At.drew ?_) | (with_reducible refine At.alloc ?_ _) | (with_reducible apply At.upd) | (with_reducible apply At.setRow) | (with_reducible refine At.rowFar ?_ (by first | (simp; done) | (simp; omega) | omega) _) | ((with_reducible refine At.far ?_ (by first | (simp; done) | (simp; omega) | omega) _)) | (with_reducible rfl) | (simp; done))) hxw2
            have B_w2 := At.ext (g := w.heap.size + 1 + 1) (t := 34) (cs := #[.bool false, .bool false, .int .i64 0, .bool false]) (by repeat (first | (with_reducible exact At.new _ _ _) | ((with_reducible refine At.new' _ _ _ _ ?_); simp; done) | (with_reducible assumption) | (with_reducible refine At.drew ?_) | (with_reducible refine At.alloc ?_ _) | (with_reducible apply At.upd) | (with_reducible apply At.setRow) | (with_reducible refine At.rowFar ?_ (by first | (simp; done) | (simp; omega) | omega) _) | ((with_reducible refine At.far ?_ (by first | (simp; done) | (simp; omega) | omega) _)) | (with_reducible rfl) | (simp; done))) hxw2
            have xw2 : Ext w w2 := Ext.trans (by repeat (first | (with_reducible exact Ext.refl _) | (with_reducible assumption) | (with_reducible refine Ext.alloc ?_ _) | (with_reducible refine Ext.drew ?_) | (with_reducible refine Ext.drewN ?_ _) | (with_reducible refine Ext.setCell ?_ (by simp; try omega) _) | (with_reducible refine Ext.setRow ?_ (by simp; try omega) _))) hxw2
            clear X_w1 s_X_w1 e_X_w1 A_w1 s_A_w1 c_A_w1_0 f_A_w1_0 c_A_w1_1 f_A_w1_1 c_A_w1_2 f_A_w1_2 c_A_w1_3 f_A_w1_3 B_w1 s_B_w1 c_B_w1_0 f_B_w1_0 c_B_w1_1 f_B_w1_1 c_B_w1_2 f_B_w1_2 c_B_w1_3 f_B_w1_3 hxw2 xw1
            have s_X_w2 := X_w2.lt
            have e_X_w2 := cellsAt_at X_w2
            have s_A_w2 := A_w2.lt
            have c_A_w2_0 := A_w2.cell 0
            have f_A_w2_0 := A_w2.frozen 0
            have c_A_w2_1 := A_w2.cell 1
            have f_A_w2_1 := A_w2.frozen 1
            have c_A_w2_2 := A_w2.cell 2
            have f_A_w2_2 := A_w2.frozen 2
            have c_A_w2_3 := A_w2.cell 3
            have f_A_w2_3 := A_w2.frozen 3
            simp only [List.getElem?_toArray, List.getElem?_cons_zero, List.getElem?_cons_succ] at c_A_w2_0 c_A_w2_1 c_A_w2_2 c_A_w2_3
            have s_B_w2 := B_w2.lt
            have c_B_w2_0 := B_w2.cell 0
            have f_B_w2_0 := B_w2.frozen 0
            have c_B_w2_1 := B_w2.cell 1
            have f_B_w2_1 := B_w2.frozen 1
            have c_B_w2_2 := B_w2.cell 2
            have f_B_w2_2 := B_w2.frozen 2
            have c_B_w2_3 := B_w2.cell 3
            have f_B_w2_3 := B_w2.frozen 3
            simp only [List.getElem?_toArray, List.getElem?_cons_zero, List.getElem?_cons_succ] at c_B_w2_0 c_B_w2_1 c_B_w2_2 c_B_w2_3
            go_wp2_with fail
            all_goals
              first | refine fin_ret rfl (fun K hK => ?_) | refine fin_norm rfl (fun K hK => ?_)
              simp [results, Try.results9, go_sem, rsat]
              try go_simp
              refine hK _ ?_
              clear hK K
              exact ⟨rfl, (by repeat (first | (with_reducible exact Ext.refl _) | (with_reducible assumption) | (with_reducible refine Ext.alloc ?_ _) | (with_reducible refine Ext.drew ?_) | (with_reducible refine Ext.drewN ?_ _) | (with_reducible refine Ext.setCell ?_ (by simp; try omega) _) | (with_reducible refine Ext.setRow ?_ (by simp; try omega) _)))⟩
    · simp only [Bool.false_eq_true, if_false, show ((2 : Int) = 3) = False by simp, show ((2 : Int) = 0) = False by simp, or_false, show ((2 : Int) = 2) = True by simp, true_and]
      unfold haltedB at CH
      by_cases hh : t < un
      · simp only [hh, if_true, decide_true, Bool.not_false, Bool.true_and] at CH ⊢
        have HCL := Lib.hid CL
        have HCH := Lib.hid CH
        have HC1 := Lib.hid C1
        have HC2 := Lib.hid C2
        clear CL CH C1 C2
        go_enter Try.func9, Try.ntmps9
        go_wp2_with fail
        refine (HCL.out _).mono ?_
        rintro e w1 ⟨rfl, hxw1⟩
        have xw1 : Ext w w1 := Ext.trans (by repeat (first | (with_reducible exact Ext.refl _) | (with_reducible assumption) | (with_reducible refine Ext.alloc ?_ _) | (with_reducible refine Ext.drew ?_) | (with_reducible refine Ext.drewN ?_ _) | (with_reducible refine Ext.setCell ?_ (by simp; try omega) _) | (with_reducible refine Ext.setRow ?_ (by simp; try omega) _))) hxw1
        have lw1 := xw1.size
        have X_w1 := At.ext (g := w.heap.size) (t := 27) (cs := #[.slice x.A x.l.length x.c, .slice x.B x.t.length x.d, .int .i64 x.ix, .int .i64 x.f1, .int .i64 x.f2, .int .i64 x.f3, .int .i64 x.h1, .int .i64 x.h2]) (by repeat (first | (with_reducible exact At.new _ _ _) | ((with_reducible refine At.new' _ _ _ _ ?_); simp; done) | (with_reducible assumption) | (with_reducible refine At.drew ?_) | (with_reducible refine At.alloc ?_ _) | (with_reducible apply At.upd) | (with_reducible apply At.setRow) | (with_reducible refine At.rowFar ?_ (by first | (simp; done) | (simp; omega) | omega) _) | ((with_reducible refine At.far ?_ (by first | (simp; done) | (simp; omega) | omega) _)) | (with_reducible rfl) | (simp; done))) hxw1
        have A_w1 := At.ext (g := w.heap.size + 1) (t := 34) (cs := #[.bool u0, .bool u1, .int .i64 un, .bool false]) (by repeat (first | (with_reducible exact At.new _ _ _) | ((with_reducible refine At.new' _ _ _ _ ?_); simp; done) | (with_reducible assumption) | (with_reducible refine At.drew ?_) | (with_reducible refine At.alloc ?_ _) | (with_reducible apply At.upd) | (with_reducible apply At.setRow) | (with_reducible refine At.rowFar ?_ (by first | (simp; done) | (simp; omega) | omega) _) | ((with_reducible refine At.far ?_ (by first | (simp; done) | (simp; omega) | omega) _)) | (with_reducible rfl) | (simp; done))) hxw1
        have B_w1 := At.ext (g := w.heap.size + 1 + 1) (t := 34) (cs := #[.bool false, .bool false, .int .i64 0, .bool false]) (by repeat (first | (with_reducible exact At.new _ _ _) | ((with_reducible refine At.new' _ _ _ _ ?_); simp; done) | (with_reducible assumption) | (with_reducible refine At.drew ?_) | (with_reducible refine At.alloc ?_ _) | (with_reducible apply At.upd) | (with_reducible apply At.setRow) | (with_reducible refine At.rowFar ?_ (by first | (simp; done) | (simp; omega) | omega) _) | ((with_reducible refine At.far ?_ (by first | (simp; done) | (simp; omega) | omega) _)) | (with_reducible rfl) | (simp; done))) hxw1
        clear hxw1
        have s_X_w1 := X_w1.lt
        have e_X_w1 := cellsAt_at X_w1
        have s_A_w1 := A_w1.lt
        have c_A_w1_0 := A_w1.cell 0
        have f_A_w1_0 := A_w1.frozen 0
        have c_A_w1_1 := A_w1.cell 1
        have f_A_w1_1 := A_w1.frozen 1
        have c_A_w1_2 := A_w1.cell 2
        have f_A_w1_2 := A_w1.frozen 2
        have c_A_w1_3 := A_w1.cell 3
        have f_A_w1_3 := A_w1.frozen 3
        simp only [List.getElem?_toArray, List.getElem?_cons_zero, List.getElem?_cons_succ] at c_A_w1_0 c_A_w1_1 c_A_w1_2 c_A_w1_3
        have s_B_w1 := B_w1.lt
        have c_B_w1_0 := B_w1.cell 0
        have f_B_w1_0 := B_w1.frozen 0
        have c_B_w1_1 := B_w1.cell 1
        have f_B_w1_1 := B_w1.frozen 1
        have c_B_w1_2 := B_w1.cell 2
        have f_B_w1_2 := B_w1.frozen 2
        have c_B_w1_3 := B_w1.cell 3
        have f_B_w1_3 := B_w1.frozen 3
        simp only [List.getElem?_toArray, List.getElem?_cons_zero, List.getElem?_cons_succ] at c_B_w1_0 c_B_w1_1 c_B_w1_2 c_B_w1_3
        go_wp2_with fail
        refine (HCH.out _ _ _).mono ?_
        rintro e w2 ⟨rfl, hxw2⟩
        have X_w2 := At.ext (g := w.heap.size) (t := 27) (cs := #[.slice x.A x.l.length x.c, .slice x.B x.t.length x.d, .int .i64 x.ix, .int .i64 x.f1, .int .i64 x.f2, .int .i64 x.f3, .int .i64 x.h1, .int .i64 x.h2]) (by repeat (first | (with_reducible exact At.new _ _ _) | ((with_reducible refine At.new' _ _ _ _ ?_); simp; done) | (with_reducible assumption) | (with_reducible refine At.drew ?_) | (with_reducible refine At.alloc ?_ _) | (with_reducible apply At.upd) | (with_reducible apply At.setRow) | (with_reducible refine At.rowFar ?_ (by first | (simp; done) | (simp; omega) | omega) _) | ((with_reducible refine At.far ?_ (by first | (simp; done) | (simp; omega) | omega) _)) | (with_reducible rfl) | (simp; done))) hxw2
        have A_w2 := At.ext (g := w.heap.size + 1) (t := 34) (cs := #[.bool u0, .bool u1, .int .i64 un, .bool false]) (by repeat (first | (with_reducible exact At.new _ _ _) | ((with_reducible refine At.new' _ _ _ _ ?_); simp; done) | (with_reducible assumption) | (with_reducible refine At.drew ?_) | (with_reducible refine At.alloc ?_ _) | (with_reducible apply At.upd) | (with_reducible apply At.setRow) | (with_reducible refine At.rowFar ?_ (by first | (simp; done) | (simp; omega) | omega) _) | ((with_reducible refine At.far ?_ (by first | (simp; done) | (simp; omega) | omega) _)) | (with_reducible rfl) | (simp; done))) hxw2
        have B_w2 := At.ext (g := w.heap.size + 1 + 1) (t := 34) (cs := #[.bool false, .bool false, .int .i64 0, .bool false]) (by repeat (first | (with_reducible exact At.new _ _ _) | ((with_reducible refine At.new' _ _ _ _ ?_); simp; done) | (with_reducible assumption) | (with_reducible refine At.drew ?_) | (with_reducible refine At.alloc ?_ _) | (with_reducible apply At.upd) | (with_reducible apply At.setRow) | (with_reducible refine At.rowFar ?_ (by first | (simp; done) | (simp; omega) | omega) _) | ((with_reducible refine At.far ?_ (by first | (simp; done) | (simp; omega) | omega) _)) | (with_reducible rfl) | (simp; done))) hxw2
        have xw2 : Ext w w2 := Ext.trans (by repeat (first | (with_reducible exact Ext.refl _) | (with_reducible assumption) | (with_reducible refine Ext.alloc ?_ _) | (with_reducible refine Ext.drew ?_) | (with_reducible refine Ext.drewN ?_ _) | (with_reducible refine Ext.setCell ?_ (by simp; try omega) _) | (with_reducible refine Ext.setRow ?_ (by simp; try omega) _))) hxw2
        clear X_w1 s_X_w1 e_X_w1 A_w1 s_A_w1 c_A_w1_0 f_A_w1_0 c_A_w1_1 f_A_w1_1 c_A_w1_2 f_A_w1_2 c_A_w1_3 f_A_w1_3 B_w1 s_B_w1 c_B_w1_0 f_B_w1_0 c_B_w1_1 f_B_w1_1 c_B_w1_2 f_B_w1_2 c_B_w1_3 f_B_w1_3 hxw2 xw1
        have s_X_w2 := X_w2.lt
        have e_X_w2 := cellsAt_at X_w2
        have s_A_w2 := A_w2.lt
        have c_A_w2_0 := A_w2.cell 0
        have f_A_w2_0 := A_w2.frozen 0
        have c_A_w2_1 := A_w2.cell 1
        have f_A_w2_1 := A_w2.frozen 1
        have c_A_w2_2 := A_w2.cell 2
        have f_A_w2_2 := A_w2.frozen 2
        have c_A_w2_3 := A_w2.cell 3
        have f_A_w2_3 := A_w2.frozen 3
        simp only [List.getElem?_toArray, List.getElem?_cons_zero, List.getElem?_cons_succ] at c_A_w2_0 c_A_w2_1 c_A_w2_2 c_A_w2_3
        have s_B_w2 := B_w2.lt
        have c_B_w2_0 := B_w2.cell 0
        have f_B_w2_0 := B_w2.frozen 0
        have c_B_w2_1 := B_w2.cell 1
        have f_B_w2_1 := B_w2.frozen 1
        have c_B_w2_2 := B_w2.cell 2
        have f_B_w2_2 := B_w2.frozen 2
        have c_B_w2_3 := B_w2.cell 3
        have f_B_w2_3 := B_w2.frozen 3
        simp only [List.getElem?_toArray, List.getElem?_cons_zero, List.getElem?_cons_succ] at c_B_w2_0 c_B_w2_1 c_B_w2_2 c_B_w2_3
        go_wp2_with fail
        all_goals
          first | refine fin_ret rfl (fun K hK => ?_) | refine fin_norm rfl (fun K hK => ?_)
          simp [results, Try.results9, go_sem, rsat]
          try go_simp
          refine hK _ ?_
          clear hK K
          exact ⟨rfl, (by repeat (first | (with_reducible exact Ext.refl _) | (with_reducible assumption) | (with_reducible refine Ext.alloc ?_ _) | (with_reducible refine Ext.drew ?_) | (with_reducible refine Ext.drewN ?_ _) | (with_reducible refine Ext.setCell ?_ (by simp; try omega) _) | (with_reducible refine Ext.setRow ?_ (by simp; try omega) _)))⟩
      · simp only [hh, if_false, decide_false, Bool.and_false] at CH ⊢
        cases u0
        · cases u1
          · simp only [if_true, if_false, Bool.true_eq_false, Bool.false_eq_true]
            have HCL := Lib.hid CL
            have HCH := Lib.hid CH
            have HC1 := Lib.hid C1
            have HC2 := Lib.hid C2
            clear CL CH C1 C2
            go_enter Try.func9, Try.ntmps9
            go_wp2_with fail
            refine (HCL.out _).mono ?_
            rintro e w1 ⟨rfl, hxw1⟩
            have xw1 : Ext w w1 := Ext.trans (by repeat (first | (with_reducible exact Ext.refl _) | (with_reducible assumption) | (with_reducible refine Ext.alloc ?_ _) | (with_reducible refine Ext.drew ?_) | (with_reducible refine Ext.drewN ?_ _) | (with_reducible refine Ext.setCell ?_ (by simp; try omega) _) | (with_reducible refine Ext.setRow ?_ (by simp; try omega) _))) hxw1
            have lw1 := xw1.size
            have X_w1 := At.ext (g := w.heap.size) (t := 27) (cs := #[.slice x.A x.l.length x.c, .slice x.B x.t.length x.d, .int .i64 x.ix, .int .i64 x.f1, .int .i64 x.f2, .int .i64 x.f3, .int .i64 x.h1, .int .i64 x.h2]) (by repeat (first | (with_reducible exact At.new _ _ _) | ((with_reducible refine At.new' _ _ _ _ ?_); simp; done) | (with_reducible assumption) | (with_reducible refine At.drew ?_) | (with_reducible refine At.alloc ?_ _) | (with_reducible apply At.upd) | (with_reducible apply At.setRow) | (with_reducible refine At.rowFar ?_ (by first | (simp; done) | (simp; omega) | omega) _) | ((with_reducible refine At.far ?_ (by first | (simp; done) | (simp; omega) | omega) _)) | (with_reducible rfl) | (simp; done))) hxw1
            have A_w1 := At.ext (g := w.heap.size + 1) (t := 34) (cs := #[.bool false, .bool false, .int .i64 un, .bool false]) (by repeat (first | (with_reducible exact At.new _ _ _) | ((with_reducible refine At.new' _ _ _ _ ?_); simp; done) | (with_reducible assumption) | (with_reducible refine At.drew ?_) | (with_reducible refine At.alloc ?_ _) | (with_reducible apply At.upd) | (with_reducible apply At.setRow) | (with_reducible refine At.rowFar ?_ (by first | (simp; done) | (simp; omega) | omega) _) | ((with_reducible refine At.far ?_ (by first | (simp; done) | (simp; omega) | omega) _)) | (with_reducible rfl) | (simp; done))) hxw1
            have B_w1 := At.ext (g := w.heap.size + 1 + 1) (t := 34) (cs := #[.bool false, .bool false, .int .i64 0, .bool false]) (by repeat (first | (with_reducible exact At.new _ _ _) | ((with_reducible refine At.new' _ _ _ _ ?_); simp; done) | (with_reducible assumption) | (with_reducible refine At.drew ?_) | (with_reducible refine At.alloc ?_ _) | (with_reducible apply At.upd) | (with_reducible apply At.setRow) | (with_reducible refine At.rowFar ?_ (by first | (simp; done) | (simp; omega) | omega) _) | ((with_reducible refine At.far ?_ (by first | (simp; done) | (simp; omega) | omega) _)) | (with_reducible rfl) | (simp; done))) hxw1
            clear hxw1
            have s_X_w1 := X_w1.lt
            have e_X_w1 := cellsAt_at X_w1
            have s_A_w1 := A_w1.lt
            have c_A_w1_0 := A_w1.cell 0
            have f_A_w1_0 := A_w1.frozen 0
            have c_A_w1_1 := A_w1.cell 1
            have f_A_w1_1 := A_w1.frozen 1
            have c_A_w1_2 := A_w1.cell 2
            have f_A_w1_2 := A_w1.frozen 2
            have c_A_w1_3 := A_w1.cell 3
            have f_A_w1_3 := A_w1.frozen 3
            simp only [List.getElem?_toArray, List.getElem?_cons_zero, List.getElem?_cons_succ] at c_A_w1_0 c_A_w1_1 c_A_w1_2 c_A_w1_3
            have s_B_w1 := B_w1.lt
            have c_B_w1_0 := B_w1.cell 0
            have f_B_w1_0 := B_w1.frozen 0
            have c_B_w1_1 := B_w1.cell 1
            have f_B_w1_1 := B_w1.frozen 1
            have c_B_w1_2 := B_w1.cell 2
            have f_B_w1_2 := B_w1.frozen 2
            have c_B_w1_3 := B_w1.cell 3
            have f_B_w1_3 := B_w1.frozen 3
            simp only [List.getElem?_toArray, List.getElem?_cons_zero, List.getElem?_cons_succ] at c_B_w1_0 c_B_w1_1 c_B_w1_2 c_B_w1_3
            go_wp2_with fail
            refine (HCH.out _ _ _).mono ?_
            rintro e w2 ⟨rfl, hxw2⟩
            have X_w2 := At.ext (g := w.heap.size) (t := 27) (cs := #[.slice x.A x.l.length x.c, .slice x.B x.t.length x.d, .int .i64 x.ix, .int .i64 x.f1, .int .i64 x.f2, .int .i64 x.f3, .int .i64 x.h1, .int .i64 x.h2]) (by repeat (first | (with_reducible exact At.new _ _ _) | ((with_reducible refine At.new' _ _ _ _ ?_); simp; done) | (with_reducible assumption) | (with_reducible refine At.drew ?_) | (with_reducible refine At.alloc ?_ _) | (with_reducible apply At.upd) | (with_reducible apply At.setRow) | (with_reducible refine At.rowFar ?_ (by first | (simp; done) | (simp; omega) | omega) _) | ((with_reducible refine At.far ?_ (by first | (simp; done) | (simp; omega) | omega) _)) | (with_reducible rfl) | (simp; done))) hxw2
            have A_w2 := At.ext (g := w.heap.size + 1) (t := 34) (cs := #[.bool false, .bool false, .int .i64 un, .bool false]) (by repeat (first | (with_reducible exact At.new _ _ _) | ((with_reducible refine At.new' _ _ _ _ ?_); simp; done) | (with_reducible assumption) | (with_reducible refine At.drew ?_) | (with_reducible refine At.alloc ?_ _) | (with_reducible apply At.upd) | (with_reducible apply At.setRow) | (with_reducible refine At.rowFar ?_ (by first | (simp; done) | (simp; omega) | omega) _) | ((with_reducible refine At.far ?_ (by first | (simp; done) | (simp; omega) | omega) _)) | (with_reducible rfl) | (simp; done))) hxw2
            have B_w2 := At.ext (g := w.heap.size + 1 + 1) (t := 34) (cs := #[.bool false, .bool false, .int .i64 0, .bool false]) (by repeat (first | (with_reducible exact At.new _ _ _) | ((with_reducible refine At.new' _ _ _ _ ?_); simp; done) | (with_reducible assumption) | (with_reducible refine At.drew ?_) | (with_reducible refine At.alloc ?_ _) | (with_reducible apply At.upd) | (with_reducible apply At.setRow) | (with_reducible refine At.rowFar ?_ (by first | (simp; done) | (simp; omega) | omega) _) | ((with_reducible refine At.far ?_ (by first | (simp; done) | (simp; omega) | omega) _)) | (with_reducible rfl) | (simp; done))) hxw2
            have xw2 : Ext w w2 := Ext.trans (by repeat (first | (with_reducible exact Ext.refl _) | (with_reducible assumption) | (with_reducible refine Ext.alloc ?_ _) | (with_reducible refine Ext.drew ?_) | (with_reducible refine Ext.drewN ?_ _) | (with_reducible refine Ext.setCell ?_ (by simp; try omega) _) | (with_reducible refine Ext.setRow ?_ (by simp; try omega) _))) hxw2
            clear X_w1 s_X_w1 e_X_w1 A_w1 s_A_w1 c_A_w1_0 f_A_w1_0 c_A_w1_1 f_A_w1_1 c_A_w1_2 f_A_w1_2 c_A_w1_3 f_A_w1_3 B_w1 s_B_w1 c_B_w1_0 f_B_w1_0 c_B_w1_1 f_B_w1_1 c_B_w1_2 f_B_w1_2 c_B_w1_3 f_B_w1_3 hxw2 xw1
            have s_X_w2 := X_w2.lt
            have e_X_w2 := cellsAt_at X_w2
            have s_A_w2 := A_w2.lt
            have c_A_w2_0 := A_w2.cell 0
            have f_A_w2_0 := A_w2.frozen 0
            have c_A_w2_1 := A_w2.cell 1
            have f_A_w2_1 := A_w2.frozen 1
            have c_A_w2_2 := A_w2.cell 2
            have f_A_w2_2 := A_w2.frozen 2
            have c_A_w2_3 := A_w2.cell 3
            have f_A_w2_3 := A_w2.frozen 3
            simp only [List.getElem?_toArray, List.getElem?_cons_zero, List.getElem?_cons_succ] at c_A_w2_0 c_A_w2_1 c_A_w2_2 c_A_w2_3
            have s_B_w2 := B_w2.lt
            have c_B_w2_0 := B_w2.cell 0
            have f_B_w2_0 := B_w2.frozen 0
            have c_B_w2_1 := B_w2.cell 1
            have f_B_w2_1 := B_w2.frozen 1
            have c_B_w2_2 := B_w2.cell 2
            have f_B_w2_2 := B_w2.frozen 2
            have c_B_w2_3 := B_w2.cell 3
            have f_B_w2_3 := B_w2.frozen 3
            simp only [List.getElem?_toArray, List.getElem?_cons_zero, List.getElem?_cons_succ] at c_B_w2_0 c_B_w2_1 c_B_w2_2 c_B_w2_3
            go_wp2_with fail
            refine (HC2.out _).mono ?_
            rintro e w3 ⟨rfl, hxw3⟩
            have X_w3 := At.ext (g := w.heap.size) (t := 27) (cs := #[.slice x.A x.l.length x.c, .slice x.B x.t.length x.d, .int .i64 x.ix, .int .i64 x.f1, .int .i64 x.f2, .int .i64 x.f3, .int .i64 x.h1, .int .i64 x.h2]) (by repeat (first | (with_reducible exact At.new _ _ _) | ((with_reducible refine At.new' _ _ _ _ ?_); simp; done) | (with_reducible assumption) | (with_reducible refine At.drew ?_) | (with_reducible refine At.alloc ?_ _) | (with_reducible apply At.upd) | (with_reducible apply At.setRow) | (with_reducible refine At.rowFar ?_ (by first | (simp; done) | (simp; omega) | omega) _) | ((with_reducible refine At.far ?_ (by first | (simp; done) | (simp; omega) | omega) _)) | (with_reducible rfl) | (simp; done))) hxw3
            have A_w3 := At.ext (g := w.heap.size + 1) (t := 34) (cs := #[.bool true, .bool true, .int .i64 un, .bool false]) (by repeat (first | (with_reducible exact At.new _ _ _) | ((with_reducible refine At.new' _ _ _ _ ?_); simp; done) | (with_reducible assumption) | (with_reducible refine At.drew ?_) | (with_reducible refine At.alloc ?_ _) | (with_reducible apply At.upd) | (with_reducible apply At.setRow) | (with_reducible refine At.rowFar ?_ (by first | (simp; done) | (simp; omega) | omega) _) | ((with_reducible refine At.far ?_ (by first | (simp; done) | (simp; omega) | omega) _)) | (with_reducible rfl) | (simp; done))) hxw3
            have B_w3 := At.ext (g := w.heap.size + 1 + 1) (t := 34) (cs := #[.bool false, .bool false, .int .i64 0, .bool false]) (by repeat (first | (with_reducible exact At.new _ _ _) | ((with_reducible refine At.new' _ _ _ _ ?_); simp; done) | (with_reducible assumption) | (with_reducible refine At.drew ?_) | (with_reducible refine At.alloc ?_ _) | (with_reducible apply At.upd) | (with_reducible apply At.setRow) | (with_reducible refine At.rowFar ?_ (by first | (simp; done) | (simp; omega) | omega) _) | ((with_reducible refine At.far ?_ (by first | (simp; done) | (simp; omega) | omega) _)) | (with_reducible rfl) | (simp; done))) hxw3
            have xw3 : Ext w w3 := Ext.trans (by repeat (first | (with_reducible exact Ext.refl _) | (with_reducible assumption) | (with_reducible refine Ext.alloc ?_ _) | (with_reducible refine Ext.drew ?_) | (with_reducible refine Ext.drewN ?_ _) | (with_reducible refine Ext.setCell ?_ (by simp; try omega) _) | (with_reducible refine Ext.setRow ?_ (by simp; try omega) _))) hxw3
            clear X_w2 s_X_w2 e_X_w2 A_w2 s_A_w2 c_A_w2_0 f_A_w2_0 c_A_w2_1 f_A_w2_1 c_A_w2_2 f_A_w2_2 c_A_w2_3 f_A_w2_3 B_w2 s_B_w2 c_B_w2_0 f_B_w2_0 c_B_w2_1 f_B_w2_1 c_B_w2_2 f_B_w2_2 c_B_w2_3 f_B_w2_3 hxw3 xw2
            have s_X_w3 := X_w3.lt
            have e_X_w3 := cellsAt_at X_w3
            have s_A_w3 := A_w3.lt
            have c_A_w3_0 := A_w3.cell 0
            have f_A_w3_0 := A_w3.frozen 0
            have c_A_w3_1 := A_w3.cell 1
            have f_A_w3_1 := A_w3.frozen 1
            have c_A_w3_2 := A_w3.cell 2
            have f_A_w3_2 := A_w3.frozen 2
            have c_A_w3_3 := A_w3.cell 3
            have f_A_w3_3 := A_w3.frozen 3
            simp only [List.getElem?_toArray, List.getElem?_cons_zero, List.getElem?_cons_succ] at c_A_w3_0 c_A_w3_1 c_A_w3_2 c_A_w3_3
            have s_B_w3 := B_w3.lt
            have c_B_w3_0 := B_w3.cell 0
            have f_B_w3_0 := B_w3.frozen 0
            have c_B_w3_1 := B_w3.cell 1
            have f_B_w3_1 := B_w3.frozen 1
            have c_B_w3_2 := B_w3.cell 2
            have f_B_w3_2 := B_w3.frozen 2
            have c_B_w3_3 := B_w3.cell 3
            have f_B_w3_3 := B_w3.frozen 3
            simp only [List.getElem?_toArray, List.getElem?_cons_zero, List.getElem?_cons_succ] at c_B_w3_0 c_B_w3_1 c_B_w3_2 c_B_w3_3
            go_wp2_with fail
            all_goals
              first | refine fin_ret rfl (fun K hK => ?_) | refine fin_norm rfl (fun K hK => ?_)
              simp [results, Try.results9, go_sem, rsat]
              try go_simp
              refine hK _ ?_
              clear hK K
              exact ⟨rfl, (by repeat (first | (with_reducible exact Ext.refl _) | (with_reducible assumption) | (with_reducible refine Ext.alloc ?_ _) | (with_reducible refine Ext.drew ?_) | (with_reducible refine Ext.drewN ?_ _) | (with_reducible refine Ext.setCell ?_ (by simp; try omega) _) | (with_reducible refine Ext.setRow ?_ (by simp; try omega) _)))⟩
          · simp only [if_true, if_false, Bool.true_eq_false, Bool.false_eq_true]
            have HCL := Lib.hid CL
            have HCH := Lib.hid CH
            have HC1 := Lib.hid C1
            have HC2 := Lib.hid C2
            clear CL CH C1 C2
            go_enter Try.func9, Try.ntmps9
            go_wp2_with fail
            refine (HCL.out _).mono ?_
            rintro e w1 ⟨rfl, hxw1⟩
            have xw1 : Ext w w1 := Ext.trans (by repeat (first | (with_reducible exact Ext.refl _) | (with_reducible assumption) | (with_reducible refine Ext.alloc ?_ _) | (with_reducible refine Ext.drew ?_) | (with_reducible refine Ext.drewN ?_ _) | (with_reducible refine Ext.setCell ?_ (by simp; try omega) _) | (with_reducible refine Ext.setRow ?_ (by simp; try omega) _))) hxw1
            have lw1 := xw1.size
            have X_w1 := At.ext (g := w.heap.size) (t := 27) (cs := #[.slice x.A x.l.length x.c, .slice x.B x.t.length x.d, .int .i64 x.ix, .int .i64 x.f1, .int .i64 x.f2, .int .i64 x.f3, .int .i64 x.h1, .int .i64 x.h2]) (by repeat (first | (with_reducible exact At.new _ _ _) | ((with_reducible refine At.new' _ _ _ _ ?_); simp; done) | (with_reducible assumption) | (with_reducible refine At.drew ?_) | (with_reducible refine At.alloc ?_ _) | (with_reducible apply At.upd) | (with_reducible apply At.setRow) | (with_reducible refine At.rowFar ?_ (by first | (simp; done) | (simp; omega) | omega) _) | ((with_reducible refine At.far ?_ (by first | (simp; done) | (simp; omega) | omega) _)) | (with_reducible rfl) | (simp; done))) hxw1
            have A_w1 := At.ext (g := w.heap.size + 1) (t := 34) (cs := #[.bool false, .bool true, .int .i64 un, .bool false]) (by repeat (first | (with_reducible exact At.new _ _ _) | ((with_reducible refine At.new' _ _ _ _ ?_); simp; done) | (with_reducible assumption) | (with_reducible refine At.drew ?_) | (with_reducible refine At.alloc ?_ _) | (with_reducible apply At.upd) | (with_reducible apply At.setRow) | (with_reducible refine At.rowFar ?_ (by first | (simp; done) | (simp; omega) | omega) _) | ((with_reducible refine At.far ?_ (by first | (simp; done) | (simp; omega) | omega) _)) | (with_reducible rfl) | (simp; done))) hxw1
            have B_w1 := At.ext (g := w.heap.size + 1 + 1) (t := 34) (cs := #[.bool false, .bool false, .int .i64 0, .bool false]) (by repeat (first | (with_reducible exact At.new _ _ _) | ((with_reducible refine At.new' _ _ _ _ ?_); simp; done) | (with_reducible assumption) | (with_reducible refine At.drew ?_) | (with_reducible refine At.alloc ?_ _) | (with_reducible apply At.upd) | (with_reducible apply At.setRow) | (with_reducible refine At.rowFar ?_ (by first | (simp; done) | (simp; omega) | omega) _) | ((with_reducible refine At.far ?_ (by first | (simp; done) | (simp; omega) | omega) _)) | (with_reducible rfl) | (simp; done))) hxw1
            clear hxw1
            have s_X_w1 := X_w1.lt
            have e_X_w1 := cellsAt_at X_w1
            have s_A_w1 := A_w1.lt
            have c_A_w1_0 := A_w1.cell 0
            have f_A_w1_0 := A_w1.frozen 0
            have c_A_w1_1 := A_w1.cell 1
            have f_A_w1_1 := A_w1.frozen 1
            have c_A_w1_2 := A_w1.cell 2
            have f_A_w1_2 := A_w1.frozen 2
            have c_A_w1_3 := A_w1.cell 3
            have f_A_w1_3 := A_w1.frozen 3
            simp only [List.getElem?_toArray, List.getElem?_cons_zero, List.getElem?_cons_succ] at c_A_w1_0 c_A_w1_1 c_A_w1_2 c_A_w1_3
            have s_B_w1 := B_w1.lt
            have c_B_w1_0 := B_w1.cell 0
            have f_B_w1_0 := B_w1.frozen 0
            have c_B_w1_1 := B_w1.cell 1
            have f_B_w1_1 := B_w1.frozen 1
            have c_B_w1_2 := B_w1.cell 2
            have f_B_w1_2 := B_w1.frozen 2
            have c_B_w1_3 := B_w1.cell 3
            have f_B_w1_3 := B_w1.frozen 3
            simp only [List.getElem?_toArray, List.getElem?_cons_zero, List.getElem?_cons_succ] at c_B_w1_0 c_B_w1_1 c_B_w1_2 c_B_w1_3
            go_wp2_with fail
            refine (HCH.out _ _ _).mono ?_
            rintro e w2 ⟨rfl, hxw2⟩
            have X_w2 := At.ext (g := w.heap.size) (t := 27) (cs := #[.slice x.A x.l.length x.c, .slice x.B x.t.length x.d, .int .i64 x.ix, .int .i64 x.f1, .int .i64 x.f2, .int .i64 x.f3, .int .i64 x.h1, .int .i64 x.h2]) (by repeat (first | (with_reducible exact At.new _ _ _) | ((with_reducible refine At.new' _ _ _ _ ?_); simp; done) | (with_reducible assumption) | (with_reducible refine At.drew ?_) | (with_reducible refine At.alloc ?_ _) | (with_reducible apply At.upd) | (with_reducible apply At.setRow) | (with_reducible refine At.rowFar ?_ (by first | (simp; done) | (simp; omega) | omega) _) | ((with_reducible refine At.far ?_ (by first | (simp; done) | (simp; omega) | omega) _)) | (with_reducible rfl) | (simp; done))) hxw2
            have A_w2 := At.ext (g := w.heap.size + 1) (t := 34) (cs := #[.bool false, .bool true, .int .i64 un, .bool false]) (by repeat (first | (with_reducible exact At.new _ _ _) | ((with_reducible refine At.new' _ _ _ _ ?_); simp; done) | (with_reducible assumption) | (with_reducible refine At.drew ?_) | (with_reducible refine At.alloc ?_ _) | (with_reducible apply At.upd) | (with_reducible apply At.setRow) | (with_reducible refine At.rowFar ?_ (by first | (simp; done) | (simp; omega) | omega) _) | ((with_reducible refine At.far ?_ (by first | (simp; done) | (simp; omega) | omega) _)) | (with_reducible rfl) | (simp; done))) hxw2
            have B_w2 := At.ext (g := w.heap.size + 1 + 1) (t := 34) (cs := #[.bool false, .bool false, .int .i64 0, .bool false]) (by repeat (first | (with_reducible exact At.new _ _ _) | ((with_reducible refine At.new' _ _ _ _ ?_); simp; done) | (with_reducible assumption) | (with_reducible refine At.drew ?_) | (with_reducible refine At.alloc ?_ _) | (with_reducible apply At.upd) | (with_reducible apply At.setRow) | (with_reducible refine At.rowFar ?_ (by first | (simp; done) | (simp; omega) | omega) _) | ((with_reducible refine At.far ?_ (by first | (simp; done) | (simp; omega) | omega) _)) | (with_reducible rfl) | (simp; done))) hxw2
            have xw2 : Ext w w2 := Ext.trans (by repeat (first | (with_reducible exact Ext.refl _) | (with_reducible assumption) | (with_reducible refine Ext.alloc ?_ _) | (with_reducible refine Ext.drew ?_) | (with_reducible refine Ext.drewN ?_ _) | (with_reducible refine Ext.setCell ?_ (by simp; try omega) _) | (with_reducible refine Ext.setRow ?_ (by simp; try omega) _))) hxw2
            clear X_w1 s_X_w1 e_X_w1 A_w1 s_A_w1 c_A_w1_0 f_A_w1_0 c_A_w1_1 f_A_w1_1 c_A_w1_2 f_A_w1_2 c_A_w1_3 f_A_w1_3 B_w1 s_B_w1 c_B_w1_0 f_B_w1_0 c_B_w1_1 f_B_w1_1 c_B_w1_2 f_B_w1_2 c_B_w1_3 f_B_w1_3 hxw2 xw1
            have s_X_w2 := X_w2.lt
            have e_X_w2 := cellsAt_at X_w2
            have s_A_w2 := A_w2.lt
            have c_A_w2_0 := A_w2.cell 0
            have f_A_w2_0 := A_w2.frozen 0
            have c_A_w2_1 := A_w2.cell 1
            have f_A_w2_1 := A_w2.frozen 1
            have c_A_w2_2 := A_w2.cell 2
            have f_A_w2_2 := A_w2.frozen 2
            have c_A_w2_3 := A_w2.cell 3
            have f_A_w2_3 := A_w2.frozen 3
            simp only [List.getElem?_toArray, List.getElem?_cons_zero, List.getElem?_cons_succ] at c_A_w2_0 c_A_w2_1 c_A_w2_2 c_A_w2_3
            have s_B_w2 := B_w2.lt
            have c_B_w2_0 := B_w2.cell 0
            have f_B_w2_0 := B_w2.frozen 0
            have c_B_w2_1 := B_w2.cell 1
            have f_B_w2_1 := B_w2.frozen 1
            have c_B_w2_2 := B_w2.cell 2
            have f_B_w2_2 := B_w2.frozen 2
            have c_B_w2_3 := B_w2.cell 3
            have f_B_w2_3 := B_w2.frozen 3
            simp only [List.getElem?_toArray, List.getElem?_cons_zero, List.getElem?_cons_succ] at c_B_w2_0 c_B_w2_1 c_B_w2_2 c_B_w2_3
            go_wp2_with fail
            refine (HC1.out _).mono ?_
            rintro e w3 ⟨rfl, hxw3⟩
            have X_w3 := At.ext (g := w.heap.size) (t := 27) (cs := #[.slice x.A x.l.length x.c, .slice x.B x.t.length x.d, .int .i64 x.ix, .int .i64 x.f1, .int .i64 x.f2, .int .i64 x.f3, .int .i64 x.h1, .int .i64 x.h2]) (by repeat (first | (with_reducible exact At.new _ _ _) | ((with_reducible refine At.new' _ _ _ _ ?_); simp; done) | (with_reducible assumption) | (with_reducible refine At.drew ?_) | (with_reducible refine At.alloc ?_ _) | (with_reducible apply At.upd) | (with_reducible apply At.setRow) | (with_reducible refine At.rowFar ?_ (by first | (simp; done) | (simp; omega) | omega) _) | ((with_reducible refine At.far ?_ (by first | (simp; done) | (simp; omega) | omega) _)) | (with_reducible rfl) | (simp; done))) hxw3
            have A_w3 := At.ext (g := w.heap.size + 1) (t := 34) (cs := #[.bool true, .bool true, .int .i64 un, .bool false]) (by repeat (first | (with_reducible exact At.new _ _ _) | ((with_reducible refine At.new' _ _ _ _ ?_); simp; done) | (with_reducible assumption) | (with_reducible refine At.drew ?_) | (with_reducible refine At.alloc ?_ _) | (with_reducible apply At.upd) | (with_reducible apply At.setRow) | (with_reducible refine At.rowFar ?_ (by first | (simp; done) | (simp; omega) | omega) _) | ((with_reducible refine At.far ?_ (by first | (simp; done) | (simp; omega) | omega) _)) | (with_reducible rfl) | (simp; done))) hxw3
            have B_w3 := At.ext (g := w.heap.size + 1 + 1) (t := 34) (cs := #[.bool false, .bool false, .int .i64 0, .bool false]) (by repeat (first | (with_reducible exact At.new _ _ _) | ((with_reducible refine At.new' _ _ _ _ ?_); simp; done) | (with_reducible assumption) | (with_reducible refine At.drew ?_) | (with_reducible refine At.alloc ?_ _) | (with_reducible apply At.upd) | (with_reducible apply At.setRow) | (with_reducible refine At.rowFar ?_ (by first | (simp; done) | (simp; omega) | omega) _) | ((with_reducible refine At.far ?_ (by first | (simp; done) | (simp; omega) | omega) _)) | (with_reducible rfl) | (simp; done))) hxw3
            have xw3 : Ext w w3 := Ext.trans (by repeat (first | (with_reducible exact Ext.refl _) | (with_reducible assumption) | (with_reducible refine Ext.alloc ?_ _) | (with_reducible refine Ext.drew ?_) | (with_reducible refine Ext.drewN ?_ _) | (with_reducible refine Ext.setCell ?_ (by simp; try omega) _) | (with_reducible refine Ext.setRow ?_ (by simp; try omega) _))) hxw3
            clear X_w2 s_X_w2 e_X_w2 A_w2 s_A_w2 c_A_w2_0 f_A_w2_0 c_A_w2_1 f_A_w2_1 c_A_w2_2 f_A_w2_2 c_A_w2_3 f_A_w2_3 B_w2 s_B_w2 c_B_w2_0 f_B_w2_0 c_B_w2_1 f_B_w2_1 c_B_w2_2 f_B_w2_2 c_B_w2_3 f_B_w2_3 hxw3 xw2
            have s_X_w3 := X_w3.lt
            have e_X_w3 := cellsAt_at X_w3
            have s_A_w3 := A_w3.lt
            have c_A_w3_0 := A_w3.cell 0
            have f_A_w3_0 := A_w3.frozen 0
            have c_A_w3_1 := A_w3.cell 1
            have f_A_w3_1 := A_w3.frozen 1
            have c_A_w3_2 := A_w3.cell 2
            have f_A_w3_2 := A_w3.frozen 2
            have c_A_w3_3 := A_w3.cell 3
            have f_A_w3_3 := A_w3.frozen 3
            simp only [List.getElem?_toArray, List.getElem?_cons_zero, List.getElem?_cons_succ] at c_A_w3_0 c_A_w3_1 c_A_w3_2 c_A_w3_3
            have s_B_w3 := B_w3.lt
            have c_B_w3_0 := B_w3.cell 0
            have f_B_w3_0 := B_w3.frozen 0
            have c_B_w3_1 := B_w3.cell 1
            have f_B_w3_1 := B_w3.frozen 1
            have c_B_w3_2 := B_w3.cell 2
            have f_B_w3_2 := B_w3.frozen 2
            have c_B_w3_3 := B_w3.cell 3
            have f_B_w3_3 := B_w3.frozen 3
            simp only [List.getElem?_toArray, List.getElem?_cons_zero, List.getElem?_cons_succ] at c_B_w3_0 c_B_w3_1 c_B_w3_2 c_B_w3_3
            go_wp2_with fail
            all_goals
              first | refine fin_ret rfl (fun K hK => ?_) | refine fin_norm rfl (fun K hK => ?_)
              simp [results, Try.results9, go_sem, rsat]
              try go_simp
              refine hK _ ?_
              clear hK K
              exact ⟨rfl, (by repeat (first | (with_reducible exact Ext.refl _) | (with_reducible assumption) | (with_reducible refine Ext.alloc ?_ _) | (with_reducible refine Ext.drew ?_) | (with_reducible refine Ext.drewN ?_ _) | (with_reducible refine Ext.setCell ?_ (by simp; try omega) _) | (with_reducible refine Ext.setRow ?_ (by simp; try omega) _)))⟩
        · cases u1
          · simp only [if_true, if_false, Bool.true_eq_false, Bool.false_eq_true]
            have HCL := Lib.hid CL
            have HCH := Lib.hid CH
            have HC1 := Lib.hid C1
            have HC2 := Lib.hid C2
            clear CL CH C1 C2
            go_enter Try.func9, Try.ntmps9
            go_wp2_with fail
            refine (HCL.out _).mono ?_
            rintro e w1 ⟨rfl, hxw1⟩
            have xw1 : Ext w w1 := Ext.trans (by repeat (first | (with_reducible exact Ext.refl _) | (with_reducible assumption) | (with_reducible refine Ext.alloc ?_ _) | (with_reducible refine Ext.drew ?_) | (with_reducible refine Ext.drewN ?_ _) | (with_reducible refine Ext.setCell ?_ (by simp; try omega) _) | (with_reducible refine Ext.setRow ?_ (by simp; try omega) _))) hxw1
            have lw1 := xw1.size
            have X_w1 := At.ext (g := w.heap.size) (t := 27) (cs := #[.slice x.A x.l.length x.c, .slice x.B x.t.length x.d, .int .i64 x.ix, .int .i64 x.f1, .int .i64 x.f2, .int .i64 x.f3, .int .i64 x.h1, .int .i64 x.h2]) (by repeat (first | (with_reducible exact At.new _ _ _) | ((with_reducible refine At.new' _ _ _ _ ?_); simp; done) | (with_reducible assumption) | (with_reducible refine At.drew ?_) | (with_reducible refine At.alloc ?_ _) | (with_reducible apply At.upd) | (with_reducible apply At.setRow) | (with_reducible refine At.rowFar ?_ (by first | (simp; done) | (simp; omega) | omega) _) | ((with_reducible refine At.far ?_ (by first | (simp; done) | (simp; omega) | omega) _)) | (with_reducible rfl) | (simp; done))) hxw1
            have A_w1 := At.ext (g := w.heap.size + 1) (t := 34) (cs := #[.bool true, .bool false, .int .i64 un, .bool false]) (by repeat (first | (with_reducible exact At.new _ _ _) | ((with_reducible refine At.new' _ _ _ _ ?_); simp; done) | (with_reducible assumption) | (with_reducible refine At.drew ?_) | (with_reducible refine At.alloc ?_ _) | (with_reducible apply At.upd) | (with_reducible apply At.setRow) | (with_reducible refine At.rowFar ?_ (by first | (simp; done) | (simp; omega) | omega) _) | ((with_reducible refine At.far ?_ (by first | (simp; done) | (simp; omega) | omega) _)) | (with_reducible rfl) | (simp; done))) hxw1
            have B_w1 := At.ext (g := w.heap.size + 1 + 1) (t := 34) (cs := #[.bool false, .bool false, .int .i64 0, .bool false]) (by repeat (first | (with_reducible exact At.new _ _ _) | ((with_reducible refine At.new' _ _ _ _ ?_); simp; done) | (with_reducible assumption) | (with_reducible refine At.drew ?_) | (with_reducible refine At.alloc ?_ _) | (with_reducible apply At.upd) | (with_reducible apply At.setRow) | (with_reducible refine At.rowFar ?_ (by first | (simp; done) | (simp; omega) | omega) _) | ((with_reducible refine At.far ?_ (by first | (simp; done) | (simp; omega) | omega) _)) | (with_reducible rfl) | (simp; done))) hxw1
            clear hxw1
            have s_X_w1 := X_w1.lt
            have e_X_w1 := cellsAt_at X_w1
            have s_A_w1 := A_w1.lt
            have c_A_w1_0 := A_w1.cell 0
            have f_A_w1_0 := A_w1.frozen 0
            have c_A_w1_1 := A_w1.cell 1
            have f_A_w1_1 := A_w1.frozen 1
            have c_A_w1_2 := A_w1.cell 2
            have f_A_w1_2 := A_w1.frozen 2
            have c_A_w1_3 := A_w1.cell 3
            have f_A_w1_3 := A_w1.frozen 3
            simp only [List.getElem?_toArray, List.getElem?_cons_zero, List.getElem?_cons_succ] at c_A_w1_0 c_A_w1_1 c_A_w1_2 c_A_w1_3
            have s_B_w1 := B_w1.lt
            have c_B_w1_0 := B_w1.cell 0
            have f_B_w1_0 := B_w1.frozen 0
            have c_B_w1_1 := B_w1.cell 1
            have f_B_w1_1 := B_w1.frozen 1
            have c_B_w1_2 := B_w1.cell 2
            have f_B_w1_2 := B_w1.frozen 2
            have c_B_w1_3 := B_w1.cell 3
            have f_B_w1_3 := B_w1.frozen 3
            simp only [List.getElem?_toArray, List.getElem?_cons_zero, List.getElem?_cons_succ] at c_B_w1_0 c_B_w1_1 c_B_w1_2 c_B_w1_3
            go_wp2_with fail
            refine (HCH.out _ _ _).mono ?_
            rintro e w2 ⟨rfl, hxw2⟩
            have X_w2 := At.ext (g := w.heap.size) (t := 27) (cs := #[.slice x.A x.l.length x.c, .slice x.B x.t.length x.d, .int .i64 x.ix, .int .i64 x.f1, .int .i64 x.f2, .int .i64 x.f3, .int .i64 x.h1, .int .i64 x.h2]) (by repeat (first | (with_reducible exact At.new _ _ _) | ((with_reducible refine At.new' _ _ _ _ ?_); simp; done) | (with_reducible assumption) | (with_reducible refine At.drew ?_) | (with_reducible refine At.alloc ?_ _) | (with_reducible apply At.upd) | (with_reducible apply At.setRow) | (with_reducible refine At.rowFar ?_ (by first | (simp; done) | (simp; omega) | omega) _) | ((with_reducible refine At.far ?_ (by first | (simp; done) | (simp; omega) | omega) _)) | (with_reducible rfl) | (simp; done))) hxw2
            have A_w2 := At.ext (g := w.heap.size + 1) (t := 34) (cs := #[.bool true, .bool false, .int .i64 un, .bool false]) (by repeat (first | (with_reducible exact At.new _ _ _) | ((with_reducible refine At.new' _ _ _ _ ?_); simp; done) | (with_reducible assumption) | (with_reducible refine At.drew ?_) | (with_reducible refine At.alloc ?_ _) | (with_reducible apply At.upd) | (with_reducible apply At.setRow) | (with_reducible refine At.rowFar ?_ (by first | (simp; done) | (simp; omega) | omega) _) | ((with_reducible refine At.far ?_ (by first | (simp; done) | (simp; omega) | omega) _)) | (with_reducible rfl) | (simp; done))) hxw2
            have B_w2 := At.ext (g := w.heap.size + 1 + 1) (t := 34) (cs := #[.bool false, .bool false, .int .i64 0, .bool false]) (by repeat (first | (with_reducible exact At.new _ _ _) | ((with_reducible refine At.new' _ _ _ _ ?_); simp; done) | (with_reducible assumption) | (with_reducible refine At.drew ?_) | (with_reducible refine At.alloc ?_ _) | (with_reducible apply At.upd) | (with_reducible apply At.setRow) | (with_reducible refine At.rowFar ?_ (by first | (simp; done) | (simp; omega) | omega) _) | ((with_reducible refine At.far ?_ (by first | (simp; done) | (simp; omega) | omega) _)) | (with_reducible rfl) | (simp; done))) hxw2
            have xw2 : Ext w w2 := Ext.trans (by repeat (first | (with_reducible exact Ext.refl _) | (with_reducible assumption) | (with_reducible refine Ext.alloc ?_ _) | (with_reducible refine Ext.drew ?_) | (with_reducible refine Ext.drewN ?_ _) | (with_reducible refine Ext.setCell ?_ (by simp; try omega) _) | (with_reducible refine Ext.setRow ?_ (by simp; try omega) _))) hxw2
            clear X_w1 s_X_w1 e_X_w1 A_w1 s_A_w1 c_A_w1_0 f_A_w1_0 c_A_w1_1 f_A_w1_1 c_A_w1_2 f_A_w1_2 c_A_w1_3 f_A_w1_3 B_w1 s_B_w1 c_B_w1_0 f_B_w1_0 c_B_w1_1 f_B_w1_1 c_B_w1_2 f_B_w1_2 c_B_w1_3 f_B_w1_3 hxw2 xw1
            have s_X_w2 := X_w2.lt
            have e_X_w2 := cellsAt_at X_w2
            have s_A_w2 := A_w2.lt
            have c_A_w2_0 := A_w2.cell 0
            have f_A_w2_0 := A_w2.frozen 0
            have c_A_w2_1 := A_w2.cell 1
            have f_A_w2_1 := A_w2.frozen 1
            have c_A_w2_2 := A_w2.cell 2
            have f_A_w2_2 := A_w2.frozen 2
            have c_A_w2_3 := A_w2.cell 3
            have f_A_w2_3 := A_w2.frozen 3
            simp only [List.getElem?_toArray, List.getElem?_cons_zero, List.getElem?_cons_succ] at c_A_w2_0 c_A_w2_1 c_A_w2_2 c_A_w2_3
            have s_B_w2 := B_w2.lt
            have c_B_w2_0 := B_w2.cell 0
            have f_B_w2_0 := B_w2.frozen 0
            have c_B_w2_1 := B_w2.cell 1
            have f_B_w2_1 := B_w2.frozen 1
            have c_B_w2_2 := B_w2.cell 2
            have f_B_w2_2 := B_w2.frozen 2
            have c_B_w2_3 := B_w2.cell 3
            have f_B_w2_3 := B_w2.frozen 3
            simp only [List.getElem?_toArray, List.getElem?_cons_zero, List.getElem?_cons_succ] at c_B_w2_0 c_B_w2_1 c_B_w2_2 c_B_w2_3
            go_wp2_with fail
            refine (HC2.out _).mono ?_
            rintro e w3 ⟨rfl, hxw3⟩
            have X_w3 := At.ext (g := w.heap.size) (t := 27) (cs := #[.slice x.A x.l.length x.c, .slice x.B x.t.length x.d, .int .i64 x.ix, .int .i64 x.f1, .int .i64 x.f2, .int .i64 x.f3, .int .i64 x.h1, .int .i64 x.h2]) (by repeat (first | (with_reducible exact At.new _ _ _) | ((with_reducible refine At.new' _ _ _ _ ?_); simp; done) | (with_reducible assumption) | (with_reducible refine At.drew ?_) | (with_reducible refine At.alloc ?_ _) | (with_reducible apply At.upd) | (with_reducible apply At.setRow) | (with_reducible refine At.rowFar ?_ (by first | (simp; done) | (simp; omega) | omega) _) | ((with_reducible refine At.far ?_ (by first | (simp; done) | (simp; omega) | omega) _)) | (with_reducible rfl) | (simp; done))) hxw3
            have A_w3 := At.ext (g := w.heap.size + 1) (t := 34) (cs := #[.bool true, .bool true, .int .i64 un, .bool false]) (by repeat (first | (with_reducible exact At.new _ _ _) | ((with_reducible refine At.new' _ _ _ _ ?_); simp; done) | (with_reducible assumption) | (with_reducible refine At.drew ?_) | (with_reducible refine At.alloc ?_ _) | (with_reducible apply At.upd) | (with_reducible apply At.setRow) | (with_reducible refine At.rowFar ?_ (by first | (simp; done) | (simp; omega) | omega) _) | ((with_reducible refine At.far ?_ (by first | (simp; done) | (simp; omega) | omega) _)) | (with_reducible rfl) | (simp; done))) hxw3
            have B_w3 := At.ext (g := w.heap.size + 1 + 1) (t := 34) (cs := #[.bool false, .bool false, .int .i64 0, .bool false]) (by repeat (first | (with_reducible exact At.new _ _ _) | ((with_reducible refine At.new' _ _ _ _ ?_); simp; done) | (with_reducible assumption) | (with_reducible refine At.drew ?_) | (with_reducible refine At.alloc ?_ _) | (with_reducible apply At.upd) | (with_reducible apply At.setRow) | (with_reducible refine At.rowFar ?_ (by first | (simp; done) | (simp; omega) | omega) _) | ((with_reducible refine At.far ?_ (by first | (simp; done) | (simp; omega) | omega) _)) | (with_reducible rfl) | (simp; done))) hxw3
            have xw3 : Ext w w3 := Ext.trans (by repeat (first | (with_reducible exact Ext.refl _) | (with_reducible assumption) | (with_reducible refine Ext.alloc ?_ _) | (with_reducible refine Ext.drew ?_) | (with_reducible refine Ext.drewN ?_ _) | (with_reducible refine Ext.setCell ?_ (by simp; try omega) _) | (with_reducible refine Ext.setRow ?_ (by simp; try omega) _))) hxw3
            clear X_w2 s_X_w2 e_X_w2 A_w2 s_A_w2 c_A_w2_0 f_A_w2_0 c_A_w2_1 f_A_w2_1 c_A_w2_2 f_A_w2_2 c_A_w2_3 f_A_w2_3 B_w2 s_B_w2 c_B_w2_0 f_B_w2_0 c_B_w2_1 f_B_w2_1 c_B_w2_2 f_B_w2_2 c_B_w2_3 f_B_w2_3 hxw3 xw2
            have s_X_w3 := X_w3.lt
            have e_X_w3 := cellsAt_at X_w3
            have s_A_w3 := A_w3.lt
            have c_A_w3_0 := A_w3.cell 0
            have f_A_w3_0 := A_w3.frozen 0
            have c_A_w3_1 := A_w3.cell 1
            have f_A_w3_1 := A_w3.frozen 1
            have c_A_w3_2 := A_w3.cell 2
            have f_A_w3_2 := A_w3.frozen 2
            have c_A_w3_3 := A_w3.cell 3
            have f_A_w3_3 := A_w3.frozen 3
            simp only [List.getElem?_toArray, List.getElem?_cons_zero, List.getElem?_cons_succ] at c_A_w3_0 c_A_w3_1 c_A_w3_2 c_A_w3_3
            have s_B_w3 := B_w3.lt
            have c_B_w3_0 := B_w3.cell 0
            have f_B_w3_0 := B_w3.frozen 0
            have c_B_w3_1 := B_w3.cell 1
            have f_B_w3_1 := B_w3.frozen 1
            have c_B_w3_2 := B_w3.cell 2
            have f_B_w3_2 := B_w3.frozen 2
            have c_B_w3_3 := B_w3.cell 3
            have f_B_w3_3 := B_w3.frozen 3
            simp only [List.getElem?_toArray, List.getElem?_cons_zero, List.getElem?_cons_succ] at c_B_w3_0 c_B_w3_1 c_B_w3_2 c_B_w3_3
            go_wp2_with fail
            all_goals
              first | refine fin_ret rfl (fun K hK => ?_) | refine fin_norm rfl (fun K hK => ?_)
              simp [results, Try.results9, go_sem, rsat]
              try go_simp
              refine hK _ ?_
              clear hK K
              exact ⟨rfl, (by repeat (first | (with_reducible exact Ext.refl _) | (with_reducible assumption) | (with_reducible refine Ext.alloc ?_ _) | (with_reducible refine Ext.drew ?_) | (with_reducible refine Ext.drewN ?_ _) | (with_reducible refine Ext.setCell ?_ (by simp; try omega) _) | (with_reducible refine Ext.setRow ?_ (by simp; try omega) _)))⟩
          · simp only [if_true, if_false, Bool.true_eq_false, Bool.false_eq_true]
            have HCL := Lib.hid CL
            have HCH := Lib.hid CH
            have HC1 := Lib.hid C1
            have HC2 := Lib.hid C2
            clear CL CH C1 C2
            go_enter Try.func9, Try.ntmps9
            go_wp2_with fail
            refine (HCL.out _).mono ?_
            rintro e w1 ⟨rfl, hxw1⟩
            have xw1 : Ext w w1 := Ext.trans (by repeat (first | (with_reducible exact Ext.refl _) | (with_reducible assumption) | (with_reducible refine Ext.alloc ?_ _) | (with_reducible refine Ext.drew ?_) | (with_reducible refine Ext.drewN ?_ _) | (with_reducible refine Ext.setCell ?_ (by simp; try omega) _) | (with_reducible refine Ext.setRow ?_ (by simp; try omega) _))) hxw1
            have lw1 := xw1.size
            have X_w1 := At.ext (g := w.heap.size) (t := 27) (cs := #[.slice x.A x.l.length x.c, .slice x.B x.t.length x.d, .int .i64 x.ix, .int .i64 x.f1, .int .i64 x.f2, .int .i64 x.f3, .int .i64 x.h1, .int .i64 x.h2]) (by repeat (first | (with_reducible exact At.new _ _ _) | ((with_reducible refine At.new' _ _ _ _ ?_); simp; done) | (with_reducible assumption) | (with_reducible refine At.drew ?_) | (with_reducible refine At.alloc ?_ _) | (with_reducible apply At.upd) | (with_reducible apply At.setRow) | (with_reducible refine At.rowFar ?_ (by first | (simp; done) | (simp; omega) | omega) _) | ((with_reducible refine At.far ?_ (by first | (simp; done) | (simp; omega) | omega) _)) | (with_reducible rfl) | (simp; done))) hxw1
            have A_w1 := At.ext (g := w.heap.size + 1) (t := 34) (cs := #[.bool true, .bool true, .int .i64 un, .bool false]) (by repeat (first | (with_reducible exact At.new _ _ _) | ((with_reducible refine At.new' _ _ _ _ ?_); simp; done) | (with_reducible assumption) | (with_reducible refine At.drew ?_) | (with_reducible refine At.alloc ?_ _) | (with_reducible apply At.upd) | (with_reducible apply At.setRow) | (with_reducible refine At.rowFar ?_ (by first | (simp; done) | (simp; omega) | omega) _) | ((with_reducible refine At.far ?_ (by first | (simp; done) | (simp; omega) | omega) _)) | (with_reducible rfl) | (simp; done))) hxw1
            have B_w1 := At.ext (g := w.heap.size + 1 + 1) (t := 34) (cs := #[.bool false, .bool false, .int .i64 0, .bool false]) (by repeat (first | (with_reducible exact At.new _ _ _) | ((with_reducible refine At.new' _ _ _ _ ?_); simp; done) | (with_reducible assumption) | (with_reducible refine At.drew ?_) | (with_reducible refine At.alloc ?_ _) | (with_reducible apply At.upd) | (with_reducible apply At.setRow) | (with_reducible refine At.rowFar ?_ (by first | (simp; done) | (simp; omega) | omega) _) | ((with_reducible refine At.far ?_ (by first | (simp; done) | (simp; omega) | omega) _)) | (with_reducible rfl) | (simp; done))) hxw1
            clear hxw1
            have s_X_w1 := X_w1.lt
            have e_X_w1 := cellsAt_at X_w1
            have s_A_w1 := A_w1.lt
            have c_A_w1_0 := A_w1.cell 0
            have f_A_w1_0 := A_w1.frozen 0
            have c_A_w1_1 := A_w1.cell 1
            have f_A_w1_1 := A_w1.frozen 1
            have c_A_w1_2 := A_w1.cell 2
            have f_A_w1_2 := A_w1.frozen 2
            have c_A_w1_3 := A_w1.cell 3
            have f_A_w1_3 := A_w1.frozen 3
            simp only [List.getElem?_toArray, List.getElem?_cons_zero, List.getElem?_cons_succ] at c_A_w1_0 c_A_w1_1 c_A_w1_2 c_A_w1_3
            have s_B_w1 := B_w1.lt
            have c_B_w1_0 := B_w1.cell 0
            have f_B_w1_0 := B_w1.frozen 0
            have c_B_w1_1 := B_w1.cell 1
            have f_B_w1_1 := B_w1.frozen 1
            have c_B_w1_2 := B_w1.cell 2
            have f_B_w1_2 := B_w1.frozen 2
            have c_B_w1_3 := B_w1.cell 3
            have f_B_w1_3 := B_w1.frozen 3
            simp only [List.getElem?_toArray, List.getElem?_cons_zero, List.getElem?_cons_succ] at c_B_w1_0 c_B_w1_1 c_B_w1_2 c_B_w1_3
            go_wp2_with fail
            refine (HCH.out _ _ _).mono ?_
            rintro e w2 ⟨rfl, hxw2⟩
            have X_w2 := At.ext (g := w.heap.size) (t := 27) (cs := #[.slice x.A x.l.length x.c, .slice x.B x.t.length x.d, .int .i64 x.ix, .int .i64 x.f1, .int .i64 x.f2, .int .i64 x.f3, .int .i64 x.h1, .int .i64 x.h2]) (by repeat (first | (with_reducible exact At.new _ _ _) | ((with_reducible refine At.new' _ _ _ _ ?_); simp; done) | (with_reducible assumption) | (with_reducible refine At.drew ?_) | (with_reducible refine At.alloc ?_ _) | (with_reducible apply At.upd) | (with_reducible apply At.setRow) | (with_reducible refine At.rowFar ?_ (by first | (simp; done) | (simp; omega) | omega) _) | ((with_reducible refine At.far ?_ (by first | (simp; done) | (simp; omega) | omega) _)) | (with_reducible rfl) | (simp; done))) hxw2
            have A_w2 := At.ext (g := w.heap.size + 1) (t := 34) (cs := #[.bool true, .bool true, .int .i64 un, .bool false]) (by repeat (first | (with_reducible exact At.new _ _ _) | ((with_reducible refine At.new' _ _ _ _ ?_); simp; done) | (with_reducible assumption) | (with_reducible refine At.drew ?_) | (with_reducible refine At.alloc ?_ _) | (with_reducible apply At.upd) | (with_reducible apply At.setRow) | (with_reducible refine At.rowFar ?_ (by first | (simp; done) | (simp; omega) | omega) _) | ((with_reducible refine At.far ?_ (by first | (simp; done) | (simp; omega) | omega) _)) | (with_reducible rfl) | (simp; done))) hxw2
            have B_w2 := At.ext (g := w.heap.size + 1 + 1) (t := 34) (cs := #[.bool false, .bool false, .int .i64 0, .bool false]) (by repeat (first | (with_reducible exact At.new _ _ _) | ((with_reducible refine At.new' _ _ _ _ ?_); simp; done) | (with_reducible assumption) | (with_reducible refine At.drew ?_) | (with_reducible refine At.alloc ?_ _) | (with_reducible apply At.upd) | (with_reducible apply At.setRow) | (with_reducible refine At.rowFar ?_ (by first | (simp; done) | (simp; omega) | omega) _) | ((with_reducible refine At.far ?_ (by first | (simp; done) | (simp; omega) | omega) _)) | (with_reducible rfl) | (simp; done))) hxw2
            have xw2 : Ext w w2 := Ext.trans (by repeat (first | (with_reducible exact Ext.refl _) | (with_reducible assumption) | (with_reducible refine Ext.alloc ?_ _) | (with_reducible refine Ext.drew ?_) | (with_reducible refine Ext.drewN ?_ _) | (with_reducible refine Ext.setCell ?_ (by simp; try omega) _) | (with_reducible refine Ext.setRow ?_ (by simp; try omega) _))) hxw2
            clear X_w1 s_X_w1 e_X_w1 A_w1 s_A_w1 c_A_w1_0 f_A_w1_0 c_A_w1_1 f_A_w1_1 c_A_w1_2 f_A_w1_2 c_A_w1_3 f_A_w1_3 B_w1 s_B_w1 c_B_w1_0 f_B_w1_0 c_B_w1_1 f_B_w1_1 c_B_w1_2 f_B_w1_2 c_B_w1_3 f_B_w1_3 hxw2 xw1
            have s_X_w2 := X_w2.lt
            have e_X_w2 := cellsAt_at X_w2
            have s_A_w2 := A_w2.lt
            have c_A_w2_0 := A_w2.cell 0
            have f_A_w2_0 := A_w2.frozen 0
            have c_A_w2_1 := A_w2.cell 1
            have f_A_w2_1 := A_w2.frozen 1
            have c_A_w2_2 := A_w2.cell 2
            have f_A_w2_2 := A_w2.frozen 2
            have c_A_w2_3 := A_w2.cell 3
            have f_A_w2_3 := A_w2.frozen 3
            simp only [List.getElem?_toArray, List.getElem?_cons_zero, List.getElem?_cons_succ] at c_A_w2_0 c_A_w2_1 c_A_w2_2 c_A_w2_3
            have s_B_w2 := B_w2.lt
            have c_B_w2_0 := B_w2.cell 0
            have f_B_w2_0 := B_w2.frozen 0
            have c_B_w2_1 := B_w2.cell 1
            have f_B_w2_1 := B_w2.frozen 1
            have c_B_w2_2 := B_w2.cell 2
            have f_B_w2_2 := B_w2.frozen 2
            have c_B_w2_3 := B_w2.cell 3
            have f_B_w2_3 := B_w2.frozen 3
            simp only [List.getElem?_toArray, List.getElem?_cons_zero, List.getElem?_cons_succ] at c_B_w2_0 c_B_w2_1 c_B_w2_2 c_B_w2_3
            go_wp2_with fail
            all_goals
              first | refine fin_ret rfl (fun K hK => ?_) | refine fin_norm rfl (fun K hK => ?_)
              simp [results, Try.results9, go_sem, rsat]
              try go_simp
              refine hK _ ?_
              clear hK K
              exact ⟨rfl, (by repeat (first | (with_reducible exact Ext.refl _) | (with_reducible assumption) | (with_reducible refine Ext.alloc ?_ _) | (with_reducible refine Ext.drew ?_) | (with_reducible refine Ext.drewN ?_ _) | (with_reducible refine Ext.setCell ?_ (by simp; try omega) _) | (with_reducible refine Ext.setRow ?_ (by simp; try omega) _)))⟩
    · simp only [Bool.false_eq_true, if_false, if_true]
      have HCL := Lib.hid CL
      have HCH := Lib.hid CH
      have HC1 := Lib.hid C1
      have HC2 := Lib.hid C2
      clear CL CH C1 C2
      go_enter Try.func9, Try.ntmps9
      go_wp2_with fail
      refine (HCL.out _).mono ?_
      rintro e w1 ⟨rfl, hxw1⟩
      have xw1 : Ext w w1 := Ext.trans (by repeat (first | (with_reducible exact Ext.refl _) | (with_reducible assumption) | (with_reducible refine Ext.alloc ?_ _) | (with_reducible refine Ext.drew ?_) | (with_reducible refine Ext.drewN ?_ _) | (with_reducible refine Ext.setCell ?_ (by simp; try omega) _) | (with_reducible refine Ext.setRow ?_ (by simp; try omega) _))) hxw1
      have lw1 := xw1.size
      have X_w1 := At.ext (g := w.heap.size) (t := 27) (cs := #[.slice x.A x.l.length x.c, .slice x.B x.t.length x.d, .int .i64 x.ix, .int .i64 x.f1, .int .i64 x.f2, .int .i64 x.f3, .int .i64 x.h1, .int .i64 x.h2]) (by repeat (first | (with_reducible exact At.new _ _ _) | ((with_reducible refine At.new' _ _ _ _ ?_); simp; done) | (with_reducible assumption) | (with_reducible refine At.drew ?_) | (with_reducible refine At.alloc ?_ _) | (with_reducible apply At.upd) | (with_reducible apply At.setRow) | (with_reducible refine At.rowFar ?_ (by first | (simp; done) | (simp; omega) | omega) _) | ((with_reducible refine At.far ?_ (by first | (simp; done) | (simp; omega) | omega) _)) | (with_reducible rfl) | (simp; done))) hxw1
      have A_w1 := At.ext (g := w.heap.size + 1) (t := 34) (cs := #[.bool u0, .bool u1, .int .i64 un, .bool false]) (by repeat (first | (with_reducible exact At.new _ _ _) | ((with_reducible refine At.new' _ _ _ _ ?_); simp; done) | (with_reducible assumption) | (with_reducible refine At.drew ?_) | (with_reducible refine At.alloc ?_ _) | (with_reducible apply At.upd) | (with_reducible apply At.setRow) | (with_reducible refine At.rowFar ?_ (by first | (simp; done) | (simp; omega) | omega) _) | ((with_reducible refine At.far ?_ (by first | (simp; done) | (simp; omega) | omega) _)) | (with_reducible rfl) | (simp; done))) hxw1
      have B_w1 := At.ext (g := w.heap.size + 1 + 1) (t := 34) (cs := #[.bool false, .bool false, .int .i64 0, .bool false]) (by repeat (first | (with_reducible exact At.new _ _ _) | ((with_reducible refine At.new' _ _ _ _ ?_); simp; done) | (with_reducible assumption) | (with_reducible refine At.drew ?_) | (with_reducible refine At.alloc ?_ _) | (with_reducible apply At.upd) | (with_reducible apply At.setRow) | (with_reducible refine At.rowFar ?_ (by first | (simp; done) | (simp; omega) | omega) _) | ((with_reducible refine At.far ?_ (by first | (simp; done) | (simp; omega) | omega) _)) | (with_reducible rfl) | (simp; done))) hxw1
      clear hxw1
      have s_X_w1 := X_w1.lt
      have e_X_w1 := cellsAt_at X_w1
      have s_A_w1 := A_w1.lt
      have c_A_w1_0 := A_w1.cell 0
      have f_A_w1_0 := A_w1.frozen 0
      have c_A_w1_1 := A_w1.cell 1
      have f_A_w1_1 := A_w1.frozen 1
      have c_A_w1_2 := A_w1.cell 2
      have f_A_w1_2 := A_w1.frozen 2
      have c_A_w1_3 := A_w1.cell 3
      have f_A_w1_3 := A_w1.frozen 3
      simp only [List.getElem?_toArray, List.getElem?_cons_zero, List.getElem?_cons_succ] at c_A_w1_0 c_A_w1_1 c_A_w1_2 c_A_w1_3
      have s_B_w1 := B_w1.lt
      have c_B_w1_0 := B_w1.cell 0
      have f_B_w1_0 := B_w1.frozen 0
      have c_B_w1_1 := B_w1.cell 1
      have f_B_w1_1 := B_w1.frozen 1
      have c_B_w1_2 := B_w1.cell 2
      have f_B_w1_2 := B_w1.frozen 2
      have c_B_w1_3 := B_w1.cell 3
      have f_B_w1_3 := B_w1.frozen 3
      simp only [List.getElem?_toArray, List.getElem?_cons_zero, List.getElem?_cons_succ] at c_B_w1_0 c_B_w1_1 c_B_w1_2 c_B_w1_3
      go_wp2_with fail
      all_goals
        first | refine fin_ret rfl (fun K hK => ?_) | refine fin_norm rfl (fun K hK => ?_)
        simp [results, Try.results9, go_sem, rsat]
        try go_simp
        refine hK _ ?_
        clear hK K
        exact ⟨rfl, (by repeat (first | (with_reducible exact Ext.refl _) | (with_reducible assumption) | (with_reducible refine Ext.alloc ?_ _) | (with_reducible refine Ext.drew ?_) | (with_reducible refine Ext.drewN ?_ _) | (with_reducible refine Ext.setCell ?_ (by simp; try omega) _) | (with_reducible refine Ext.setRow ?_ (by simp; try omega) _)))⟩
  · simp only [if_true]
    have HCL := Lib.hid CL
    have HCH := Lib.hid CH
    have HC1 := Lib.hid C1
    have HC2 := Lib.hid C2
    clear CL CH C1 C2
    go_enter Try.func9, Try.ntmps9
    go_wp2_with fail
    refine (HCL.out _).mono ?_
    rintro e w1 ⟨rfl, hxw1⟩
    have xw1 : Ext w w1 := Ext.trans (by repeat (first | (with_reducible exact Ext.refl _) | (with_reducible assumption) | (with_reducible refine Ext.alloc ?_ _) | (with_reducible refine Ext.drew ?_) | (with_reducible refine Ext.drewN ?_ _) | (with_reducible refine Ext.setCell ?_ (by simp; try omega) _) | (with_reducible refine Ext.setRow ?_ (by simp; try omega) _))) hxw1
    have lw1 := xw1.size
    have X_w1 := At.ext (g := w.heap.size) (t := 27) (cs := #[.slice x.A x.l.length x.c, .slice x.B x.t.length x.d, .int .i64 x.ix, .int .i64 x.f1, .int .i64 x.f2, .int .i64 x.f3, .int .i64 x.h1, .int .i64 x.h2]) (by repeat (first | (with_reducible exact At.new _ _ _) | ((with_reducible refine At.new' _ _ _ _ ?_); simp; done) | (with_reducible assumption) | (with_reducible refine At.drew ?_) | (with_reducible refine At.alloc ?_ _) | (with_reducible apply At.upd) | (with_reducible apply At.setRow) | (with_reducible refine At.rowFar ?_ (by first | (simp; done) | (simp; omega) | omega) _) | ((with_reducible refine At.far ?_ (by first | (simp; done) | (simp; omega) | omega) _)) | (with_reducible rfl) | (simp; done))) hxw1
    have A_w1 := At.ext (g := w.heap.size + 1) (t := 34) (cs := #[.bool u0, .bool u1, .int .i64 un, .bool true]) (by repeat (first | (with_reducible exact At.new _ _ _) | ((with_reducible refine At.new' _ _ _ _ ?_); simp; done) | (with_reducible assumption) | (with_reducible refine At.drew ?_) | (with_reducible refine At.alloc ?_ _) | (with_reducible apply At.upd) | (with_reducible apply At.setRow) | (with_reducible refine At.rowFar ?_ (by first | (simp; done) | (simp; omega) | omega) _) | ((with_reducible refine At.far ?_ (by first | (simp; done) | (simp; omega) | omega) _)) | (with_reducible rfl) | (simp; done))) hxw1
    have B_w1 := At.ext (g := w.heap.size + 1 + 1) (t := 34) (cs := #[.bool false, .bool false, .int .i64 0, .bool false]) (by repeat (first | (with_reducible exact At.new _ _ _) | ((with_reducible refine At.new' _ _ _ _ ?_); simp; done) | (with_reducible assumption) | (with_reducible refine At.drew ?_) | (with_reducible refine At.alloc ?_ _) | (with_reducible apply At.upd) | (with_reducible apply At.setRow) | (with_reducible refine At.rowFar ?_ (by first | (simp; done) | (simp; omega) | omega) _) | ((with_reducible refine At.far ?_ (by first | (simp; done) | (simp; omega) | omega) _)) | (with_reducible rfl) | (simp; done))) hxw1
    clear hxw1
    have s_X_w1 := X_w1.lt
    have e_X_w1 := cellsAt_at X_w1
    have s_A_w1 := A_w1.lt
    have c_A_w1_0 := A_w1.cell 0
    have f_A_w1_0 := A_w1.frozen 0
    have c_A_w1_1 := A_w1.cell 1
    have f_A_w1_1 := A_w1.frozen 1
    have c_A_w1_2 := A_w1.cell 2
    have f_A_w1_2 := A_w1.frozen 2
    have c_A_w1_3 := A_w1.cell 3
    have f_A_w1_3 := A_w1.frozen 3
    simp only [List.getElem?_toArray, List.getElem?_cons_zero, List.getElem?_cons_succ] at c_A_w1_0 c_A_w1_1 c_A_w1_2 c_A_w1_3
    have s_B_w1 := B_w1.lt
    have c_B_w1_0 := B_w1.cell 0
    have f_B_w1_0 := B_w1.frozen 0
    have c_B_w1_1 := B_w1.cell 1
    have f_B_w1_1 := B_w1.frozen 1
    have c_B_w1_2 := B_w1.cell 2
    have f_B_w1_2 := B_w1.frozen 2
    have c_B_w1_3 := B_w1.cell 3
    have f_B_w1_3 := B_w1.frozen 3
    simp only [List.getElem?_toArray, List.getElem?_cons_zero, List.getElem?_cons_succ] at c_B_w1_0 c_B_w1_1 c_B_w1_2 c_B_w1_3
    go_wp2_with fail
    all_goals
      first | refine fin_ret rfl (fun K hK => ?_) | refine fin_norm rfl (fun K hK => ?_)
      simp [results, Try.results9, go_sem, rsat]
      try go_simp
      refine hK _ ?_
      clear hK K
      exact ⟨rfl, (by repeat (first | (with_reducible exact Ext.refl _) | (with_reducible assumption) | (with_reducible refine Ext.alloc ?_ _) | (with_reducible refine Ext.drew ?_) | (with_reducible refine Ext.drewN ?_ _) | (with_reducible refine Ext.setCell ?_ (by simp; try omega) _) | (with_reducible refine Ext.setRow ?_ (by simp; try omega) _)))⟩
end Go.Proofs.Ytdefimhdjllfaaa
