/- The walks of package pause and of the reference of layer 22: states. No condition. -/
import Derived.Test.YtmgcnjcdbidcfaaG8
import Derived.Test.YtmgcnjcdbidcfaaG5
import Derived.Test.YtmgcnjcdbidcfaaSymP
import Derived.LoopN
namespace Go.Proofs.Ytmgcnjcdbidcfaa
open Go.RowKit
attribute [local go_sem] Later.cell QUpon_value QUpon_enter MUpon_value
attribute [local go_sem ↓ high] loadSym_is storeSym_is
attribute [local go_sem] run_loadSym run_loadSym_at run_storeSym one_int one_bool one_slice one_ptr one_str setRow_new setRow_past cell_ca frozen_ca cellsAt_alloc_at cellsAt_alloc_past cellsAt_drew cellsAt_later cellsAt_setCell cellsAt_set_same cellsAt_setRow_same cellsAt_setRow_far subAt_alloc subAt_drew subAt_later subAt_setCell subAt_setRow ltn_2 ltn_3 ltn_4 ltn_5

def goesB (ph : Int) : Bool := (ph == 3) || (ph == 4)
theorem idx0 (w : World) : (Instr.index 70 (.agg #[.int .i64 3, .int .i64 4]) (.int .i64 0)).run Try.prog w = .ok (.int .i64 3) w := by kernel_rfl
theorem idx1 (w : World) : (Instr.index 70 (.agg #[.int .i64 3, .int .i64 4]) (.int .i64 1)).run Try.prog w = .ok (.int .i64 4) w := by kernel_rfl
attribute [local go_sem] idx0 idx1
set_option maxRecDepth 100000 in
theorem goes_c (ph ro un : Int) (w : World) : Calls Try.prog 23 #[.agg #[.int .i64 ph, .int .i64 ro, .int .i64 un]] w fun e w' => e = .returned (.bool (goesB ph)) ∧ Ext w w' := by
  unfold goesB
  by_cases h1 : ph = 3
  · subst h1
    go_enter Try.func23, Try.ntmps23
    go_wp2_with fail
    refine wp_loop_rounds 2 ?_
    rw [rounds_succ]
    go_wp2_with fail
    first | refine fin_ret rfl (fun K hK => ?_) | refine fin_norm rfl (fun K hK => ?_)
    simp [results, Try.results23, go_sem, rsat]
    try go_simp
    refine hK _ ?_
    clear hK K
    exact ⟨rfl, (by repeat (first | (with_reducible exact Ext.refl _) | (with_reducible assumption) | (with_reducible refine Ext.alloc ?_ _) | (with_reducible refine Ext.drew ?_) | (with_reducible refine Ext.drewN ?_ _) | (with_reducible refine Ext.setCell ?_ (by simp; try omega) _) | (with_reducible refine Ext.setRow ?_ (by simp; try omega) _)))⟩
  by_cases h2 : ph = 4
  · subst h2
    go_enter Try.func23, Try.ntmps23
    go_wp2_with fail
    refine wp_loop_rounds 3 ?_
    rw [rounds_succ]
    go_wp2_with fail
    rw [rounds_succ]
    go_wp2_with fail
    first | refine fin_ret rfl (fun K hK => ?_) | refine fin_norm rfl (fun K hK => ?_)
    simp [results, Try.results23, go_sem, rsat]
    try go_simp
    refine hK _ ?_
    clear hK K
    exact ⟨rfl, (by repeat (first | (with_reducible exact Ext.refl _) | (with_reducible assumption) | (with_reducible refine Ext.alloc ?_ _) | (with_reducible refine Ext.drew ?_) | (with_reducible refine Ext.drewN ?_ _) | (with_reducible refine Ext.setCell ?_ (by simp; try omega) _) | (with_reducible refine Ext.setRow ?_ (by simp; try omega) _)))⟩
  have e1 : (ph == 3) = false := beq_eq_false_iff_ne.2 h1
  have e2 : (ph == 4) = false := beq_eq_false_iff_ne.2 h2
  rw [e1, e2]
  clear h1 h2
  go_enter Try.func23, Try.ntmps23
  go_wp2_with fail
  refine wp_loop_rounds 4 ?_
  rw [rounds_succ]
  go_wp2_with fail
  rw [rounds_succ]
  go_wp2_with fail
  rw [rounds_succ]
  go_wp2_with fail
  first | refine fin_ret rfl (fun K hK => ?_) | refine fin_norm rfl (fun K hK => ?_)
  simp [results, Try.results23, go_sem, rsat]
  try go_simp
  refine hK _ ?_
  clear hK K
  exact ⟨rfl, (by repeat (first | (with_reducible exact Ext.refl _) | (with_reducible assumption) | (with_reducible refine Ext.alloc ?_ _) | (with_reducible refine Ext.drew ?_) | (with_reducible refine Ext.drewN ?_ _) | (with_reducible refine Ext.setCell ?_ (by simp; try omega) _) | (with_reducible refine Ext.setRow ?_ (by simp; try omega) _)))⟩
set_option maxRecDepth 100000 in
theorem clocked_c (ph ro un : Int) (w : World) : Calls Try.prog 24 #[.agg #[.int .i64 ph, .int .i64 ro, .int .i64 un]] w fun e w' => e = .returned (.bool (goesB ph)) ∧ Ext w w' := by
  unfold goesB
  by_cases h1 : ph = 3
  · subst h1
    go_enter Try.func24, Try.ntmps24
    go_wp2_with fail
    first | refine fin_ret rfl (fun K hK => ?_) | refine fin_norm rfl (fun K hK => ?_)
    simp [results, Try.results24, go_sem, rsat]
    try go_simp
    refine hK _ ?_
    clear hK K
    exact ⟨rfl, (by repeat (first | (with_reducible exact Ext.refl _) | (with_reducible assumption) | (with_reducible refine Ext.alloc ?_ _) | (with_reducible refine Ext.drew ?_) | (with_reducible refine Ext.drewN ?_ _) | (with_reducible refine Ext.setCell ?_ (by simp; try omega) _) | (with_reducible refine Ext.setRow ?_ (by simp; try omega) _)))⟩
  have e1 : (ph == 3) = false := beq_eq_false_iff_ne.2 h1
  rw [e1]
  clear h1
  go_enter Try.func24, Try.ntmps24
  go_wp2_with fail
  first | refine fin_ret rfl (fun K hK => ?_) | refine fin_norm rfl (fun K hK => ?_)
  simp [results, Try.results24, go_sem, rsat]
  try go_simp
  refine hK _ ?_
  clear hK K
  exact ⟨by simp, (by repeat (first | (with_reducible exact Ext.refl _) | (with_reducible assumption) | (with_reducible refine Ext.alloc ?_ _) | (with_reducible refine Ext.drew ?_) | (with_reducible refine Ext.drewN ?_ _) | (with_reducible refine Ext.setCell ?_ (by simp; try omega) _) | (with_reducible refine Ext.setRow ?_ (by simp; try omega) _)))⟩
def dueT (ph un : Int) : Value := if goesB ph = true then .tuple #[.int .i64 un, .bool true] else .tuple #[.int .i64 0, .bool false]
theorem dueT_open (ph un : Int) : ∃ x c, dueT ph un = .tuple #[.int .i64 x, .bool c] := by unfold dueT; split <;> exact ⟨_, _, rfl⟩
set_option maxRecDepth 100000 in
theorem due_c (ph ro un : Int) (w : World) : Calls Try.prog 8 #[.agg #[.int .i64 ph, .int .i64 ro, .int .i64 un]] w fun e w' => e = .returned (dueT ph un) ∧ Ext w w' := by
  have C := goes_c ph ro un
  unfold dueT
  cases hg : goesB ph
  all_goals
    rw [hg] at C
    have HC := Lib.hid C
    clear C hg
    first | rw [if_pos rfl] | rw [if_neg (by decide)]
    go_enter Try.func8, Try.ntmps8
    go_wp2_with fail
    refine (HC.out _).mono ?_
    rintro e w1 ⟨rfl, hxw1⟩
    have xw1 : Ext w w1 := Ext.trans (by repeat (first | (with_reducible exact Ext.refl _) | (with_reducible assumption) | (with_reducible refine Ext.alloc ?_ _) | (with_reducible refine Ext.drew ?_) | (with_reducible refine Ext.drewN ?_ _) | (with_reducible refine Ext.setCell ?_ (by simp; try omega) _) | (with_reducible refine Ext.setRow ?_ (by simp; try omega) _))) hxw1
    have lw1 := xw1.size
    have S_w1 := At.ext (g := w.heap.size) (t := 30) (cs := #[.int .i64 ph, .int .i64 ro, .int .i64 un]) (by repeat (first | (with_reducible exact At.new _ _ _) | ((with_reducible refine At.new' _ _ _ _ ?_); simp; done) | (with_reducible assumption) | (with_reducible refine At.drew ?_) | (with_reducible refine At.alloc ?_ _) | (with_reducible apply At.upd) | (with_reducible apply At.setRow) | (with_reducible refine At.rowFar ?_ (by first | (simp; done) | (simp; omega) | omega) _) | ((with_reducible refine At.far ?_ (by first | (simp; done) | (simp; omega) | omega) _)) | (with_reducible rfl) | (simp; done))) hxw1
    clear hxw1
    have s_S_w1 := S_w1.lt
    have c_S_w1_0 := S_w1.cell 0
    have f_S_w1_0 := S_w1.frozen 0
    have c_S_w1_1 := S_w1.cell 1
    have f_S_w1_1 := S_w1.frozen 1
    have c_S_w1_2 := S_w1.cell 2
    have f_S_w1_2 := S_w1.frozen 2
    simp only [List.getElem?_toArray, List.getElem?_cons_zero, List.getElem?_cons_succ] at c_S_w1_0 c_S_w1_1 c_S_w1_2
    go_wp2_with fail
    first | refine fin_ret rfl (fun K hK => ?_) | refine fin_norm rfl (fun K hK => ?_)
    simp [results, Try.results8, go_sem, rsat]
    try go_simp
    refine hK _ ?_
    clear hK K
    exact ⟨rfl, (by repeat (first | (with_reducible exact Ext.refl _) | (with_reducible assumption) | (with_reducible refine Ext.alloc ?_ _) | (with_reducible refine Ext.drew ?_) | (with_reducible refine Ext.drewN ?_ _) | (with_reducible refine Ext.setCell ?_ (by simp; try omega) _) | (with_reducible refine Ext.setRow ?_ (by simp; try omega) _)))⟩
set_option maxRecDepth 100000 in
theorem rdue_c (ph ro un : Int) (w : World) : Calls Try.prog 10 #[.agg #[.int .i64 ph, .int .i64 ro, .int .i64 un]] w fun e w' => e = .returned (dueT ph un) ∧ Ext w w' := by
  have C := clocked_c ph ro un
  unfold dueT
  cases hg : goesB ph
  all_goals
    rw [hg] at C
    have HC := Lib.hid C
    clear C hg
    first | rw [if_pos rfl] | rw [if_neg (by decide)]
    go_enter Try.func10, Try.ntmps10
    go_wp2_with fail
    refine (HC.out _).mono ?_
    rintro e w1 ⟨rfl, hxw1⟩
    have xw1 : Ext w w1 := Ext.trans (by repeat (first | (with_reducible exact Ext.refl _) | (with_reducible assumption) | (with_reducible refine Ext.alloc ?_ _) | (with_reducible refine Ext.drew ?_) | (with_reducible refine Ext.drewN ?_ _) | (with_reducible refine Ext.setCell ?_ (by simp; try omega) _) | (with_reducible refine Ext.setRow ?_ (by simp; try omega) _))) hxw1
    have lw1 := xw1.size
    have S_w1 := At.ext (g := w.heap.size) (t := 25) (cs := #[.int .i64 ph, .int .i64 ro, .int .i64 un]) (by repeat (first | (with_reducible exact At.new _ _ _) | ((with_reducible refine At.new' _ _ _ _ ?_); simp; done) | (with_reducible assumption) | (with_reducible refine At.drew ?_) | (with_reducible refine At.alloc ?_ _) | (with_reducible apply At.upd) | (with_reducible apply At.setRow) | (with_reducible refine At.rowFar ?_ (by first | (simp; done) | (simp; omega) | omega) _) | ((with_reducible refine At.far ?_ (by first | (simp; done) | (simp; omega) | omega) _)) | (with_reducible rfl) | (simp; done))) hxw1
    clear hxw1
    have s_S_w1 := S_w1.lt
    have c_S_w1_0 := S_w1.cell 0
    have f_S_w1_0 := S_w1.frozen 0
    have c_S_w1_1 := S_w1.cell 1
    have f_S_w1_1 := S_w1.frozen 1
    have c_S_w1_2 := S_w1.cell 2
    have f_S_w1_2 := S_w1.frozen 2
    simp only [List.getElem?_toArray, List.getElem?_cons_zero, List.getElem?_cons_succ] at c_S_w1_0 c_S_w1_1 c_S_w1_2
    go_wp2_with fail
    first | refine fin_ret rfl (fun K hK => ?_) | refine fin_norm rfl (fun K hK => ?_)
    simp [results, Try.results10, go_sem, rsat]
    try go_simp
    refine hK _ ?_
    clear hK K
    exact ⟨rfl, (by repeat (first | (with_reducible exact Ext.refl _) | (with_reducible assumption) | (with_reducible refine Ext.alloc ?_ _) | (with_reducible refine Ext.drew ?_) | (with_reducible refine Ext.drewN ?_ _) | (with_reducible refine Ext.setCell ?_ (by simp; try omega) _) | (with_reducible refine Ext.setRow ?_ (by simp; try omega) _)))⟩
def shiftT (ph ro un b : Int) : Value := if goesB ph = true then .agg #[.int .i64 ph, .int .i64 ro, .int .i64 (wrap64 (un + b))] else .agg #[.int .i64 ph, .int .i64 ro, .int .i64 un]
theorem shiftT_open (ph ro un b : Int) : ∃ x, shiftT ph ro un b = .agg #[.int .i64 ph, .int .i64 ro, .int .i64 x] := by unfold shiftT; split <;> exact ⟨_, rfl⟩
set_option maxRecDepth 100000 in
theorem shift_c (ph ro un b : Int) (w : World) : Calls Try.prog 13 #[.agg #[.int .i64 ph, .int .i64 ro, .int .i64 un], .int .i64 b] w fun e w' => e = .returned (shiftT ph ro un b) ∧ Ext w w' := by
  have C := goes_c ph ro un
  unfold shiftT
  cases hg : goesB ph
  all_goals
    rw [hg] at C
    have HC := Lib.hid C
    clear C hg
    first | rw [if_pos rfl] | rw [if_neg (by decide)]
    go_enter Try.func13, Try.ntmps13
    go_wp2_with fail
    refine (HC.out _).mono ?_
    rintro e w1 ⟨rfl, hxw1⟩
    have xw1 : Ext w w1 := Ext.trans (by repeat (first | (with_reducible exact Ext.refl _) | (with_reducible assumption) | (with_reducible refine Ext.alloc ?_ _) | (with_reducible refine Ext.drew ?_) | (with_reducible refine Ext.drewN ?_ _) | (with_reducible refine Ext.setCell ?_ (by simp; try omega) _) | (with_reducible refine Ext.setRow ?_ (by simp; try omega) _))) hxw1
    have lw1 := xw1.size
    have S_w1 := At.ext (g := w.heap.size) (t := 30) (cs := #[.int .i64 ph, .int .i64 ro, .int .i64 un]) (by repeat (first | (with_reducible exact At.new _ _ _) | ((with_reducible refine At.new' _ _ _ _ ?_); simp; done) | (with_reducible assumption) | (with_reducible refine At.drew ?_) | (with_reducible refine At.alloc ?_ _) | (with_reducible apply At.upd) | (with_reducible apply At.setRow) | (with_reducible refine At.rowFar ?_ (by first | (simp; done) | (simp; omega) | omega) _) | ((with_reducible refine At.far ?_ (by first | (simp; done) | (simp; omega) | omega) _)) | (with_reducible rfl) | (simp; done))) hxw1
    have R_w1 := At.ext (g := w.heap.size + 1) (t := 30) (cs := #[.int .i64 0, .int .i64 0, .int .i64 0]) (by repeat (first | (with_reducible exact At.new _ _ _) | ((with_reducible refine At.new' _ _ _ _ ?_); simp; done) | (with_reducible assumption) | (with_reducible refine At.drew ?_) | (with_reducible refine At.alloc ?_ _) | (with_reducible apply At.upd) | (with_reducible apply At.setRow) | (with_reducible refine At.rowFar ?_ (by first | (simp; done) | (simp; omega) | omega) _) | ((with_reducible refine At.far ?_ (by first | (simp; done) | (simp; omega) | omega) _)) | (with_reducible rfl) | (simp; done))) hxw1
    clear hxw1
    have s_S_w1 := S_w1.lt
    have c_S_w1_0 := S_w1.cell 0
    have f_S_w1_0 := S_w1.frozen 0
    have c_S_w1_1 := S_w1.cell 1
    have f_S_w1_1 := S_w1.frozen 1
    have c_S_w1_2 := S_w1.cell 2
    have f_S_w1_2 := S_w1.frozen 2
    simp only [List.getElem?_toArray, List.getElem?_cons_zero, List.getElem?_cons_succ] at c_S_w1_0 c_S_w1_1 c_S_w1_2
    have s_R_w1 := R_w1.lt
    have c_R_w1_0 := R_w1.cell 0
    have f_R_w1_0 := R_w1.frozen 0
    have c_R_w1_1 := R_w1.cell 1
    have f_R_w1_1 := R_w1.frozen 1
    have c_R_w1_2 := R_w1.cell 2
    have f_R_w1_2 := R_w1.frozen 2
    simp only [List.getElem?_toArray, List.getElem?_cons_zero, List.getElem?_cons_succ] at c_R_w1_0 c_R_w1_1 c_R_w1_2
    go_wp2_with fail
    first | refine fin_ret rfl (fun K hK => ?_) | refine fin_norm rfl (fun K hK => ?_)
    simp [results, Try.results13, go_sem, rsat]
    try go_simp
    refine hK _ ?_
    clear hK K
    exact ⟨rfl, (by repeat (first | (with_reducible exact Ext.refl _) | (with_reducible assumption) | (with_reducible refine Ext.alloc ?_ _) | (with_reducible refine Ext.drew ?_) | (with_reducible refine Ext.drewN ?_ _) | (with_reducible refine Ext.setCell ?_ (by simp; try omega) _) | (with_reducible refine Ext.setRow ?_ (by simp; try omega) _)))⟩
set_option maxRecDepth 100000 in
theorem rshift_c (ph ro un b : Int) (w : World) : Calls Try.prog 14 #[.agg #[.int .i64 ph, .int .i64 ro, .int .i64 un], .int .i64 b] w fun e w' => e = .returned (shiftT ph ro un b) ∧ Ext w w' := by
  have C := clocked_c ph ro un
  unfold shiftT
  cases hg : goesB ph
  all_goals
    rw [hg] at C
    have HC := Lib.hid C
    clear C hg
    first | rw [if_pos rfl] | rw [if_neg (by decide)]
    go_enter Try.func14, Try.ntmps14
    go_wp2_with fail
    refine (HC.out _).mono ?_
    rintro e w1 ⟨rfl, hxw1⟩
    have xw1 : Ext w w1 := Ext.trans (by repeat (first | (with_reducible exact Ext.refl _) | (with_reducible assumption) | (with_reducible refine Ext.alloc ?_ _) | (with_reducible refine Ext.drew ?_) | (with_reducible refine Ext.drewN ?_ _) | (with_reducible refine Ext.setCell ?_ (by simp; try omega) _) | (with_reducible refine Ext.setRow ?_ (by simp; try omega) _))) hxw1
    have lw1 := xw1.size
    have S_w1 := At.ext (g := w.heap.size) (t := 25) (cs := #[.int .i64 ph, .int .i64 ro, .int .i64 un]) (by repeat (first | (with_reducible exact At.new _ _ _) | ((with_reducible refine At.new' _ _ _ _ ?_); simp; done) | (with_reducible assumption) | (with_reducible refine At.drew ?_) | (with_reducible refine At.alloc ?_ _) | (with_reducible apply At.upd) | (with_reducible apply At.setRow) | (with_reducible refine At.rowFar ?_ (by first | (simp; done) | (simp; omega) | omega) _) | ((with_reducible refine At.far ?_ (by first | (simp; done) | (simp; omega) | omega) _)) | (with_reducible rfl) | (simp; done))) hxw1
    have R_w1 := At.ext (g := w.heap.size + 1) (t := 25) (cs := #[.int .i64 0, .int .i64 0, .int .i64 0]) (by repeat (first | (with_reducible exact At.new _ _ _) | ((with_reducible refine At.new' _ _ _ _ ?_); simp; done) | (with_reducible assumption) | (with_reducible refine At.drew ?_) | (with_reducible refine At.alloc ?_ _) | (with_reducible apply At.upd) | (with_reducible apply At.setRow) | (with_reducible refine At.rowFar ?_ (by first | (simp; done) | (simp; omega) | omega) _) | ((with_reducible refine At.far ?_ (by first | (simp; done) | (simp; omega) | omega) _)) | (with_reducible rfl) | (simp; done))) hxw1
    clear hxw1
    have s_S_w1 := S_w1.lt
    have c_S_w1_0 := S_w1.cell 0
    have f_S_w1_0 := S_w1.frozen 0
    have c_S_w1_1 := S_w1.cell 1
    have f_S_w1_1 := S_w1.frozen 1
    have c_S_w1_2 := S_w1.cell 2
    have f_S_w1_2 := S_w1.frozen 2
    simp only [List.getElem?_toArray, List.getElem?_cons_zero, List.getElem?_cons_succ] at c_S_w1_0 c_S_w1_1 c_S_w1_2
    have s_R_w1 := R_w1.lt
    have c_R_w1_0 := R_w1.cell 0
    have f_R_w1_0 := R_w1.frozen 0
    have c_R_w1_1 := R_w1.cell 1
    have f_R_w1_1 := R_w1.frozen 1
    have c_R_w1_2 := R_w1.cell 2
    have f_R_w1_2 := R_w1.frozen 2
    simp only [List.getElem?_toArray, List.getElem?_cons_zero, List.getElem?_cons_succ] at c_R_w1_0 c_R_w1_1 c_R_w1_2
    go_wp2_with fail
    first | refine fin_ret rfl (fun K hK => ?_) | refine fin_norm rfl (fun K hK => ?_)
    simp [results, Try.results14, go_sem, rsat]
    try go_simp
    refine hK _ ?_
    clear hK K
    exact ⟨rfl, (by repeat (first | (with_reducible exact Ext.refl _) | (with_reducible assumption) | (with_reducible refine Ext.alloc ?_ _) | (with_reducible refine Ext.drew ?_) | (with_reducible refine Ext.drewN ?_ _) | (with_reducible refine Ext.setCell ?_ (by simp; try omega) _) | (with_reducible refine Ext.setRow ?_ (by simp; try omega) _)))⟩
def extT (s : Sym) (ro un : Int) : Value := .agg #[.int .i64 4, .int .i64 (wrap64 (ro + 1)), .int .i64 (wrap64 (un + s.ext))]
set_option maxRecDepth 100000 in
theorem extend_c (s : Sym) (ph ro un : Int) (w : World) : Calls Try.prog 15 #[symV s, .agg #[.int .i64 ph, .int .i64 ro, .int .i64 un]] w fun e w' => e = .returned (extT s ro un) ∧ Ext w w' := by
  unfold extT symV symC
  go_enter Try.func15, Try.ntmps15
  go_wp2_with fail
  first | refine fin_ret rfl (fun K hK => ?_) | refine fin_norm rfl (fun K hK => ?_)
  simp [results, Try.results15, go_sem, rsat]
  try go_simp
  refine hK _ ?_
  clear hK K
  exact ⟨rfl, (by repeat (first | (with_reducible exact Ext.refl _) | (with_reducible assumption) | (with_reducible refine Ext.alloc ?_ _) | (with_reducible refine Ext.drew ?_) | (with_reducible refine Ext.drewN ?_ _) | (with_reducible refine Ext.setCell ?_ (by simp; try omega) _) | (with_reducible refine Ext.setRow ?_ (by simp; try omega) _)))⟩
set_option maxRecDepth 100000 in
theorem rextend_c (s : Sym) (ph ro un : Int) (w : World) : Calls Try.prog 16 #[symV s, .agg #[.int .i64 ph, .int .i64 ro, .int .i64 un]] w fun e w' => e = .returned (extT s ro un) ∧ Ext w w' := by
  unfold extT symV symC
  go_enter Try.func16, Try.ntmps16
  go_wp2_with fail
  first | refine fin_ret rfl (fun K hK => ?_) | refine fin_norm rfl (fun K hK => ?_)
  simp [results, Try.results16, go_sem, rsat]
  try go_simp
  refine hK _ ?_
  clear hK K
  exact ⟨rfl, (by repeat (first | (with_reducible exact Ext.refl _) | (with_reducible assumption) | (with_reducible refine Ext.alloc ?_ _) | (with_reducible refine Ext.drew ?_) | (with_reducible refine Ext.drewN ?_ _) | (with_reducible refine Ext.setCell ?_ (by simp; try omega) _) | (with_reducible refine Ext.setRow ?_ (by simp; try omega) _)))⟩
def beginT (s : Sym) (t : Int) : Value := .agg #[.int .i64 3, .int .i64 0, .int .i64 (wrap64 (t + s.pause))]
set_option maxRecDepth 100000 in
theorem begin_c (s : Sym) (t : Int) (w : World) : Calls Try.prog 11 #[symV s, .int .i64 t] w fun e w' => e = .returned (beginT s t) ∧ Ext w w' := by
  unfold beginT symV symC
  go_enter Try.func11, Try.ntmps11
  go_wp2_with fail
  first | refine fin_ret rfl (fun K hK => ?_) | refine fin_norm rfl (fun K hK => ?_)
  simp [results, Try.results11, go_sem, rsat]
  try go_simp
  refine hK _ ?_
  clear hK K
  exact ⟨rfl, (by repeat (first | (with_reducible exact Ext.refl _) | (with_reducible assumption) | (with_reducible refine Ext.alloc ?_ _) | (with_reducible refine Ext.drew ?_) | (with_reducible refine Ext.drewN ?_ _) | (with_reducible refine Ext.setCell ?_ (by simp; try omega) _) | (with_reducible refine Ext.setRow ?_ (by simp; try omega) _)))⟩
set_option maxRecDepth 100000 in
theorem rbegin_c (s : Sym) (t : Int) (w : World) : Calls Try.prog 12 #[symV s, .int .i64 t] w fun e w' => e = .returned (beginT s t) ∧ Ext w w' := by
  unfold beginT symV symC
  go_enter Try.func12, Try.ntmps12
  go_wp2_with fail
  first | refine fin_ret rfl (fun K hK => ?_) | refine fin_norm rfl (fun K hK => ?_)
  simp [results, Try.results12, go_sem, rsat]
  try go_simp
  refine hK _ ?_
  clear hK K
  exact ⟨rfl, (by repeat (first | (with_reducible exact Ext.refl _) | (with_reducible assumption) | (with_reducible refine Ext.alloc ?_ _) | (with_reducible refine Ext.drew ?_) | (with_reducible refine Ext.drewN ?_ _) | (with_reducible refine Ext.setCell ?_ (by simp; try omega) _) | (with_reducible refine Ext.setRow ?_ (by simp; try omega) _)))⟩
set_option maxRecDepth 100000 in
theorem own_c (ph ro un : Int) (w : World) : Calls Try.prog 9 #[.agg #[.int .i64 ph, .int .i64 ro, .int .i64 un]] w fun e w' => e = .returned (.agg #[.int .i64 ph, .int .i64 ro, .int .i64 un]) ∧ Ext w w' := by
  go_enter Try.func9, Try.ntmps9
  go_wp2_with fail
  first | refine fin_ret rfl (fun K hK => ?_) | refine fin_norm rfl (fun K hK => ?_)
  simp [results, Try.results9, go_sem, rsat]
  try go_simp
  refine hK _ ?_
  clear hK K
  exact ⟨rfl, (by repeat (first | (with_reducible exact Ext.refl _) | (with_reducible assumption) | (with_reducible refine Ext.alloc ?_ _) | (with_reducible refine Ext.drew ?_) | (with_reducible refine Ext.drewN ?_ _) | (with_reducible refine Ext.setCell ?_ (by simp; try omega) _) | (with_reducible refine Ext.setRow ?_ (by simp; try omega) _)))⟩
end Go.Proofs.Ytmgcnjcdbidcfaa
