/- The walks of laws WideTexts and WideSums. -/
import Derived.Test.YtkboegmpfdaneaaC5
namespace Go.Proofs.Ytkboegmpfdaneaa
open Go.RowKit
attribute [local go_sem] Later.cell QUpon_value QUpon_enter MUpon_value
attribute [local go_sem ↓ high] loadVar_is storeVar_is
attribute [local go_sem high] zero_bits
attribute [local go_sem] run_loadBits run_storeBits isArr_arr cellsAt_alloc_at cellsAt_alloc_past cellsAt_drew ltn_2 ltn_3 ltn_4 ltn_5 setRow_new setRow_past bitsOf cellsAt_later cellsAt_setRow_far

set_option maxRecDepth 100000 in
set_option maxHeartbeats 1600000 in
theorem widetexts_c (a b : Int) (ha : U64 a) (hb : U64 b) (w : World) : Calls Try.prog 6 #[.int .u64 a, .int .u64 b] w fun e w' => e = .returned (.bool true) ∧ Ext w w' := by
  have hX := X_lt ha hb
  go_enter Try.func6, Try.ntmps6
  go_wp2_with fail
  rw [← wide_X ha hb]
  refine (text_c _ hX _).mono ?_
  rintro e w1 ⟨rfl, hxw1⟩
  have x1 : Ext w w1 := Ext.trans (by repeat (first | exact Ext.refl _ | assumption | refine Ext.alloc ?_ _ | refine Ext.drew ?_ | refine Ext.drewN ?_ _ | refine Ext.setCell ?_ (by simp; try omega) _)) hxw1
  go_wp2_with fail
  refine (of_c a b ha hb _).mono ?_
  rintro e w2 ⟨rfl, hxw2⟩
  go_wp2_with fail
  refine (rtext_c _ hX _).mono ?_
  rintro e w3 ⟨rfl, hxw3⟩
  go_wp2_with fail
  refine (alive_c _).mono ?_
  rintro e w4 ⟨rfl, hxw4⟩
  go_wp2
  refine fin_ret rfl (fun K hK => ?_)
  simp [results, Try.results6, go_sem, rsat]
  try go_simp
  refine hK _ ?_
  clear hK K
  exact ⟨rfl, (x1.trans hxw2).trans (hxw3.trans hxw4)⟩

theorem mod128 (n : Nat) : n % 340282366920938463463374607431768211456 < 340282366920938463463374607431768211456 := Nat.mod_lt _ (by decide)
theorem is_same (m : Nat) (hm : m < 340282366920938463463374607431768211456) (v : Value) (hv : wide m = v) (w : World) : Calls Try.prog 9 #[v, bitsOf m] w fun e w' => e = .returned (.bool true) ∧ Ext w w' := by
  subst hv
  refine (is_c m m hm hm w).mono ?_
  rintro e w' ⟨rfl, hx⟩
  exact ⟨by simp, hx⟩
set_option maxRecDepth 100000 in
set_option maxHeartbeats 1600000 in
theorem widesums_c (a b c d : Int) (ha : U64 a) (hb : U64 b) (hc : U64 c) (hd : U64 d) (w : World) : Calls Try.prog 8 #[.int .u64 a, .int .u64 b, .int .u64 c, .int .u64 d] w fun e w' => e = .returned (.bool true) ∧ Ext w w' := by
  have hX := X_lt ha hb
  have hY := X_lt hc hd
  go_enter Try.func8, Try.ntmps8
  go_wp2_with fail
  refine (of_c a b ha hb _).mono ?_
  rintro e w1 ⟨rfl, hxw1⟩
  go_wp2_with fail
  refine (of_c c d hc hd _).mono ?_
  rintro e w2 ⟨rfl, hxw2⟩
  have x2 := hxw1.trans hxw2
  clear hxw1 hxw2
  obtain ⟨sh, sl, hS, _⟩ := wide_open ((X a b + X c d) % 340282366920938463463374607431768211456)
  have HS := Lib.hid hS
  clear hS
  go_wp2_with fail
  refine (add_c a b c d ha hb hc hd _).mono ?_
  rintro e w3 ⟨rfl, hxw3⟩
  rw [HS.out]
  have A_w3 := At.ext (g := w2.heap.size) (t := 28) (cs := arr fun j => (X a b).testBit j) (by repeat (first | (with_reducible exact At.new _ _ _) | ((with_reducible refine At.new' _ _ _ _ ?_); simp; done) | (with_reducible assumption) | (with_reducible refine At.drew ?_) | (with_reducible refine At.alloc ?_ _))) hxw3
  have B_w3 := At.ext (g := w2.heap.size + 1) (t := 28) (cs := arr fun j => (X c d).testBit j) (by repeat (first | (with_reducible exact At.new _ _ _) | ((with_reducible refine At.new' _ _ _ _ ?_); simp; done) | (with_reducible assumption) | (with_reducible refine At.drew ?_) | (with_reducible refine At.alloc ?_ _))) hxw3
  have V_w3 := At.ext (g := w2.heap.size + 1 + 1) (t := 25) (cs := #[.int .u64 a, .int .u64 b]) (by repeat (first | (with_reducible exact At.new _ _ _) | ((with_reducible refine At.new' _ _ _ _ ?_); simp; done) | (with_reducible assumption) | (with_reducible refine At.drew ?_) | (with_reducible refine At.alloc ?_ _))) hxw3
  have W_w3 := At.ext (g := w2.heap.size + 1 + 1 + 1) (t := 25) (cs := #[.int .u64 c, .int .u64 d]) (by repeat (first | (with_reducible exact At.new _ _ _) | ((with_reducible refine At.new' _ _ _ _ ?_); simp; done) | (with_reducible assumption) | (with_reducible refine At.drew ?_) | (with_reducible refine At.alloc ?_ _))) hxw3
  have xw3 : Ext w w3 := Ext.trans (by repeat (first | exact Ext.refl _ | assumption | refine Ext.alloc ?_ _ | refine Ext.drew ?_ | refine Ext.drewN ?_ _ | refine Ext.setCell ?_ (by simp; try omega) _)) hxw3
  clear hxw3
  have s_A_w3 := A_w3.lt
  have e_A_w3 := cellsAt_at A_w3
  have s_B_w3 := B_w3.lt
  have e_B_w3 := cellsAt_at B_w3
  have s_V_w3 := V_w3.lt
  have c_V_w3_0 := V_w3.cell 0
  have f_V_w3_0 := V_w3.frozen 0
  have c_V_w3_1 := V_w3.cell 1
  have f_V_w3_1 := V_w3.frozen 1
  simp only [List.getElem?_toArray, List.getElem?_cons_zero, List.getElem?_cons_succ] at c_V_w3_0 c_V_w3_1
  have s_W_w3 := W_w3.lt
  have c_W_w3_0 := W_w3.cell 0
  have f_W_w3_0 := W_w3.frozen 0
  have c_W_w3_1 := W_w3.cell 1
  have f_W_w3_1 := W_w3.frozen 1
  simp only [List.getElem?_toArray, List.getElem?_cons_zero, List.getElem?_cons_succ] at c_W_w3_0 c_W_w3_1
  go_wp2_with fail
  refine (radd_c _ _ hX hY _).mono ?_
  rintro e w4 ⟨rfl, hxw4⟩
  have A_w4 := At.ext (g := w2.heap.size) (t := 28) (cs := arr fun j => (X a b).testBit j) (by repeat (first | (with_reducible exact At.new _ _ _) | ((with_reducible refine At.new' _ _ _ _ ?_); simp; done) | (with_reducible assumption) | (with_reducible refine At.drew ?_) | (with_reducible refine At.alloc ?_ _))) hxw4
  have B_w4 := At.ext (g := w2.heap.size + 1) (t := 28) (cs := arr fun j => (X c d).testBit j) (by repeat (first | (with_reducible exact At.new _ _ _) | ((with_reducible refine At.new' _ _ _ _ ?_); simp; done) | (with_reducible assumption) | (with_reducible refine At.drew ?_) | (with_reducible refine At.alloc ?_ _))) hxw4
  have V_w4 := At.ext (g := w2.heap.size + 1 + 1) (t := 25) (cs := #[.int .u64 a, .int .u64 b]) (by repeat (first | (with_reducible exact At.new _ _ _) | ((with_reducible refine At.new' _ _ _ _ ?_); simp; done) | (with_reducible assumption) | (with_reducible refine At.drew ?_) | (with_reducible refine At.alloc ?_ _))) hxw4
  have W_w4 := At.ext (g := w2.heap.size + 1 + 1 + 1) (t := 25) (cs := #[.int .u64 c, .int .u64 d]) (by repeat (first | (with_reducible exact At.new _ _ _) | ((with_reducible refine At.new' _ _ _ _ ?_); simp; done) | (with_reducible assumption) | (with_reducible refine At.drew ?_) | (with_reducible refine At.alloc ?_ _))) hxw4
  have S_w4 := At.ext (g := w3.heap.size) (t := 25) (cs := #[.int .u64 sh, .int .u64 sl]) (by repeat (first | (with_reducible exact At.new _ _ _) | ((with_reducible refine At.new' _ _ _ _ ?_); simp; done) | (with_reducible assumption) | (with_reducible refine At.drew ?_) | (with_reducible refine At.alloc ?_ _))) hxw4
  have xw4 : Ext w w4 := Ext.trans (by repeat (first | exact Ext.refl _ | assumption | refine Ext.alloc ?_ _ | refine Ext.drew ?_ | refine Ext.drewN ?_ _ | refine Ext.setCell ?_ (by simp; try omega) _)) hxw4
  clear A_w3 s_A_w3 e_A_w3 B_w3 s_B_w3 e_B_w3 V_w3 s_V_w3 c_V_w3_0 f_V_w3_0 c_V_w3_1 f_V_w3_1 W_w3 s_W_w3 c_W_w3_0 f_W_w3_0 c_W_w3_1 f_W_w3_1 hxw4 xw3
  have s_A_w4 := A_w4.lt
  have e_A_w4 := cellsAt_at A_w4
  have s_B_w4 := B_w4.lt
  have e_B_w4 := cellsAt_at B_w4
  have s_V_w4 := V_w4.lt
  have c_V_w4_0 := V_w4.cell 0
  have f_V_w4_0 := V_w4.frozen 0
  have c_V_w4_1 := V_w4.cell 1
  have f_V_w4_1 := V_w4.frozen 1
  simp only [List.getElem?_toArray, List.getElem?_cons_zero, List.getElem?_cons_succ] at c_V_w4_0 c_V_w4_1
  have s_W_w4 := W_w4.lt
  have c_W_w4_0 := W_w4.cell 0
  have f_W_w4_0 := W_w4.frozen 0
  have c_W_w4_1 := W_w4.cell 1
  have f_W_w4_1 := W_w4.frozen 1
  simp only [List.getElem?_toArray, List.getElem?_cons_zero, List.getElem?_cons_succ] at c_W_w4_0 c_W_w4_1
  have s_S_w4 := S_w4.lt
  have c_S_w4_0 := S_w4.cell 0
  have f_S_w4_0 := S_w4.frozen 0
  have c_S_w4_1 := S_w4.cell 1
  have f_S_w4_1 := S_w4.frozen 1
  simp only [List.getElem?_toArray, List.getElem?_cons_zero, List.getElem?_cons_succ] at c_S_w4_0 c_S_w4_1
  obtain ⟨uh, ul, hU, _⟩ := wide_open ((X a b + 340282366920938463463374607431768211456 - X c d) % 340282366920938463463374607431768211456)
  have HU := Lib.hid hU
  clear hU
  go_wp2_with fail
  refine (sub_c a b c d ha hb hc hd _).mono ?_
  rintro e w5 ⟨rfl, hxw5⟩
  rw [HU.out]
  have A_w5 := At.ext (g := w2.heap.size) (t := 28) (cs := arr fun j => (X a b).testBit j) (by repeat (first | (with_reducible exact At.new _ _ _) | ((with_reducible refine At.new' _ _ _ _ ?_); simp; done) | (with_reducible assumption) | (with_reducible refine At.drew ?_) | (with_reducible refine At.alloc ?_ _))) hxw5
  have B_w5 := At.ext (g := w2.heap.size + 1) (t := 28) (cs := arr fun j => (X c d).testBit j) (by repeat (first | (with_reducible exact At.new _ _ _) | ((with_reducible refine At.new' _ _ _ _ ?_); simp; done) | (with_reducible assumption) | (with_reducible refine At.drew ?_) | (with_reducible refine At.alloc ?_ _))) hxw5
  have V_w5 := At.ext (g := w2.heap.size + 1 + 1) (t := 25) (cs := #[.int .u64 a, .int .u64 b]) (by repeat (first | (with_reducible exact At.new _ _ _) | ((with_reducible refine At.new' _ _ _ _ ?_); simp; done) | (with_reducible assumption) | (with_reducible refine At.drew ?_) | (with_reducible refine At.alloc ?_ _))) hxw5
  have W_w5 := At.ext (g := w2.heap.size + 1 + 1 + 1) (t := 25) (cs := #[.int .u64 c, .int .u64 d]) (by repeat (first | (with_reducible exact At.new _ _ _) | ((with_reducible refine At.new' _ _ _ _ ?_); simp; done) | (with_reducible assumption) | (with_reducible refine At.drew ?_) | (with_reducible refine At.alloc ?_ _))) hxw5
  have S_w5 := At.ext (g := w3.heap.size) (t := 25) (cs := #[.int .u64 sh, .int .u64 sl]) (by repeat (first | (with_reducible exact At.new _ _ _) | ((with_reducible refine At.new' _ _ _ _ ?_); simp; done) | (with_reducible assumption) | (with_reducible refine At.drew ?_) | (with_reducible refine At.alloc ?_ _))) hxw5
  have T_w5 := At.ext (g := w4.heap.size) (t := 28) (cs := arr fun j => ((X a b + X c d) % 340282366920938463463374607431768211456).testBit j) (by repeat (first | (with_reducible exact At.new _ _ _) | ((with_reducible refine At.new' _ _ _ _ ?_); simp; done) | (with_reducible assumption) | (with_reducible refine At.drew ?_) | (with_reducible refine At.alloc ?_ _))) hxw5
  have xw5 : Ext w w5 := Ext.trans (by repeat (first | exact Ext.refl _ | assumption | refine Ext.alloc ?_ _ | refine Ext.drew ?_ | refine Ext.drewN ?_ _ | refine Ext.setCell ?_ (by simp; try omega) _)) hxw5
  clear A_w4 s_A_w4 e_A_w4 B_w4 s_B_w4 e_B_w4 V_w4 s_V_w4 c_V_w4_0 f_V_w4_0 c_V_w4_1 f_V_w4_1 W_w4 s_W_w4 c_W_w4_0 f_W_w4_0 c_W_w4_1 f_W_w4_1 S_w4 s_S_w4 c_S_w4_0 f_S_w4_0 c_S_w4_1 f_S_w4_1 hxw5 xw4
  have s_A_w5 := A_w5.lt
  have e_A_w5 := cellsAt_at A_w5
  have s_B_w5 := B_w5.lt
  have e_B_w5 := cellsAt_at B_w5
  have s_V_w5 := V_w5.lt
  have c_V_w5_0 := V_w5.cell 0
  have f_V_w5_0 := V_w5.frozen 0
  have c_V_w5_1 := V_w5.cell 1
  have f_V_w5_1 := V_w5.frozen 1
  simp only [List.getElem?_toArray, List.getElem?_cons_zero, List.getElem?_cons_succ] at c_V_w5_0 c_V_w5_1
  have s_W_w5 := W_w5.lt
  have c_W_w5_0 := W_w5.cell 0
  have f_W_w5_0 := W_w5.frozen 0
  have c_W_w5_1 := W_w5.cell 1
  have f_W_w5_1 := W_w5.frozen 1
  simp only [List.getElem?_toArray, List.getElem?_cons_zero, List.getElem?_cons_succ] at c_W_w5_0 c_W_w5_1
  have s_S_w5 := S_w5.lt
  have c_S_w5_0 := S_w5.cell 0
  have f_S_w5_0 := S_w5.frozen 0
  have c_S_w5_1 := S_w5.cell 1
  have f_S_w5_1 := S_w5.frozen 1
  simp only [List.getElem?_toArray, List.getElem?_cons_zero, List.getElem?_cons_succ] at c_S_w5_0 c_S_w5_1
  have s_T_w5 := T_w5.lt
  have e_T_w5 := cellsAt_at T_w5
  go_wp2_with fail
  refine (rsub_c _ _ hX hY _).mono ?_
  rintro e w6 ⟨rfl, hxw6⟩
  have A_w6 := At.ext (g := w2.heap.size) (t := 28) (cs := arr fun j => (X a b).testBit j) (by repeat (first | (with_reducible exact At.new _ _ _) | ((with_reducible refine At.new' _ _ _ _ ?_); simp; done) | (with_reducible assumption) | (with_reducible refine At.drew ?_) | (with_reducible refine At.alloc ?_ _))) hxw6
  have B_w6 := At.ext (g := w2.heap.size + 1) (t := 28) (cs := arr fun j => (X c d).testBit j) (by repeat (first | (with_reducible exact At.new _ _ _) | ((with_reducible refine At.new' _ _ _ _ ?_); simp; done) | (with_reducible assumption) | (with_reducible refine At.drew ?_) | (with_reducible refine At.alloc ?_ _))) hxw6
  have V_w6 := At.ext (g := w2.heap.size + 1 + 1) (t := 25) (cs := #[.int .u64 a, .int .u64 b]) (by repeat (first | (with_reducible exact At.new _ _ _) | ((with_reducible refine At.new' _ _ _ _ ?_); simp; done) | (with_reducible assumption) | (with_reducible refine At.drew ?_) | (with_reducible refine At.alloc ?_ _))) hxw6
  have W_w6 := At.ext (g := w2.heap.size + 1 + 1 + 1) (t := 25) (cs := #[.int .u64 c, .int .u64 d]) (by repeat (first | (with_reducible exact At.new _ _ _) | ((with_reducible refine At.new' _ _ _ _ ?_); simp; done) | (with_reducible assumption) | (with_reducible refine At.drew ?_) | (with_reducible refine At.alloc ?_ _))) hxw6
  have S_w6 := At.ext (g := w3.heap.size) (t := 25) (cs := #[.int .u64 sh, .int .u64 sl]) (by repeat (first | (with_reducible exact At.new _ _ _) | ((with_reducible refine At.new' _ _ _ _ ?_); simp; done) | (with_reducible assumption) | (with_reducible refine At.drew ?_) | (with_reducible refine At.alloc ?_ _))) hxw6
  have T_w6 := At.ext (g := w4.heap.size) (t := 28) (cs := arr fun j => ((X a b + X c d) % 340282366920938463463374607431768211456).testBit j) (by repeat (first | (with_reducible exact At.new _ _ _) | ((with_reducible refine At.new' _ _ _ _ ?_); simp; done) | (with_reducible assumption) | (with_reducible refine At.drew ?_) | (with_reducible refine At.alloc ?_ _))) hxw6
  have U_w6 := At.ext (g := w5.heap.size) (t := 25) (cs := #[.int .u64 uh, .int .u64 ul]) (by repeat (first | (with_reducible exact At.new _ _ _) | ((with_reducible refine At.new' _ _ _ _ ?_); simp; done) | (with_reducible assumption) | (with_reducible refine At.drew ?_) | (with_reducible refine At.alloc ?_ _))) hxw6
  have xw6 : Ext w w6 := Ext.trans (by repeat (first | exact Ext.refl _ | assumption | refine Ext.alloc ?_ _ | refine Ext.drew ?_ | refine Ext.drewN ?_ _ | refine Ext.setCell ?_ (by simp; try omega) _)) hxw6
  clear A_w5 s_A_w5 e_A_w5 B_w5 s_B_w5 e_B_w5 V_w5 s_V_w5 c_V_w5_0 f_V_w5_0 c_V_w5_1 f_V_w5_1 W_w5 s_W_w5 c_W_w5_0 f_W_w5_0 c_W_w5_1 f_W_w5_1 S_w5 s_S_w5 c_S_w5_0 f_S_w5_0 c_S_w5_1 f_S_w5_1 T_w5 s_T_w5 e_T_w5 hxw6 xw5
  have s_A_w6 := A_w6.lt
  have e_A_w6 := cellsAt_at A_w6
  have s_B_w6 := B_w6.lt
  have e_B_w6 := cellsAt_at B_w6
  have s_V_w6 := V_w6.lt
  have c_V_w6_0 := V_w6.cell 0
  have f_V_w6_0 := V_w6.frozen 0
  have c_V_w6_1 := V_w6.cell 1
  have f_V_w6_1 := V_w6.frozen 1
  simp only [List.getElem?_toArray, List.getElem?_cons_zero, List.getElem?_cons_succ] at c_V_w6_0 c_V_w6_1
  have s_W_w6 := W_w6.lt
  have c_W_w6_0 := W_w6.cell 0
  have f_W_w6_0 := W_w6.frozen 0
  have c_W_w6_1 := W_w6.cell 1
  have f_W_w6_1 := W_w6.frozen 1
  simp only [List.getElem?_toArray, List.getElem?_cons_zero, List.getElem?_cons_succ] at c_W_w6_0 c_W_w6_1
  have s_S_w6 := S_w6.lt
  have c_S_w6_0 := S_w6.cell 0
  have f_S_w6_0 := S_w6.frozen 0
  have c_S_w6_1 := S_w6.cell 1
  have f_S_w6_1 := S_w6.frozen 1
  simp only [List.getElem?_toArray, List.getElem?_cons_zero, List.getElem?_cons_succ] at c_S_w6_0 c_S_w6_1
  have s_T_w6 := T_w6.lt
  have e_T_w6 := cellsAt_at T_w6
  have s_U_w6 := U_w6.lt
  have c_U_w6_0 := U_w6.cell 0
  have f_U_w6_0 := U_w6.frozen 0
  have c_U_w6_1 := U_w6.cell 1
  have f_U_w6_1 := U_w6.frozen 1
  simp only [List.getElem?_toArray, List.getElem?_cons_zero, List.getElem?_cons_succ] at c_U_w6_0 c_U_w6_1
  go_wp2_with fail
  refine gen_world (fun w7 => Ext w w7 ∧ At w7 (w2.heap.size) 28 (arr fun j => (X a b).testBit j) ∧ At w7 (w2.heap.size + 1) 28 (arr fun j => (X c d).testBit j) ∧ At w7 (w2.heap.size + 1 + 1) 25 (#[.int .u64 a, .int .u64 b]) ∧ At w7 (w2.heap.size + 1 + 1 + 1) 25 (#[.int .u64 c, .int .u64 d]) ∧ At w7 (w3.heap.size) 25 (#[.int .u64 sh, .int .u64 sl]) ∧ At w7 (w4.heap.size) 28 (arr fun j => ((X a b + X c d) % 340282366920938463463374607431768211456).testBit j) ∧ At w7 (w5.heap.size) 25 (#[.int .u64 uh, .int .u64 ul]) ∧ At w7 (w6.heap.size) 28 (arr fun j => ((X a b + 340282366920938463463374607431768211456 - X c d) % 340282366920938463463374607431768211456).testBit j)) ⟨(by repeat (first | exact Ext.refl _ | assumption | refine Ext.alloc ?_ _ | refine Ext.drew ?_ | refine Ext.drewN ?_ _ | refine Ext.setCell ?_ (by simp; try omega) _)), (by repeat (first | (with_reducible exact At.new _ _ _) | ((with_reducible refine At.new' _ _ _ _ ?_); simp; done) | (with_reducible assumption) | (with_reducible refine At.drew ?_) | (with_reducible refine At.alloc ?_ _))), (by repeat (first | (with_reducible exact At.new _ _ _) | ((with_reducible refine At.new' _ _ _ _ ?_); simp; done) | (with_reducible assumption) | (with_reducible refine At.drew ?_) | (with_reducible refine At.alloc ?_ _))), (by repeat (first | (with_reducible exact At.new _ _ _) | ((with_reducible refine At.new' _ _ _ _ ?_); simp; done) | (with_reducible assumption) | (with_reducible refine At.drew ?_) | (with_reducible refine At.alloc ?_ _))), (by repeat (first | (with_reducible exact At.new _ _ _) | ((with_reducible refine At.new' _ _ _ _ ?_); simp; done) | (with_reducible assumption) | (with_reducible refine At.drew ?_) | (with_reducible refine At.alloc ?_ _))), (by repeat (first | (with_reducible exact At.new _ _ _) | ((with_reducible refine At.new' _ _ _ _ ?_); simp; done) | (with_reducible assumption) | (with_reducible refine At.drew ?_) | (with_reducible refine At.alloc ?_ _))), (by repeat (first | (with_reducible exact At.new _ _ _) | ((with_reducible refine At.new' _ _ _ _ ?_); simp; done) | (with_reducible assumption) | (with_reducible refine At.drew ?_) | (with_reducible refine At.alloc ?_ _))), (by repeat (first | (with_reducible exact At.new _ _ _) | ((with_reducible refine At.new' _ _ _ _ ?_); simp; done) | (with_reducible assumption) | (with_reducible refine At.drew ?_) | (with_reducible refine At.alloc ?_ _))), (by repeat (first | (with_reducible exact At.new _ _ _) | ((with_reducible refine At.new' _ _ _ _ ?_); simp; done) | (with_reducible assumption) | (with_reducible refine At.drew ?_) | (with_reducible refine At.alloc ?_ _)))⟩ (fun w7 hFw7 => ?_)
  obtain ⟨xw7, A_w7, B_w7, V_w7, W_w7, S_w7, T_w7, U_w7, Z_w7⟩ := hFw7
  clear A_w6 s_A_w6 e_A_w6 B_w6 s_B_w6 e_B_w6 V_w6 s_V_w6 c_V_w6_0 f_V_w6_0 c_V_w6_1 f_V_w6_1 W_w6 s_W_w6 c_W_w6_0 f_W_w6_0 c_W_w6_1 f_W_w6_1 S_w6 s_S_w6 c_S_w6_0 f_S_w6_0 c_S_w6_1 f_S_w6_1 T_w6 s_T_w6 e_T_w6 U_w6 s_U_w6 c_U_w6_0 f_U_w6_0 c_U_w6_1 f_U_w6_1 xw6
  have s_A_w7 := A_w7.lt
  have e_A_w7 := cellsAt_at A_w7
  have s_B_w7 := B_w7.lt
  have e_B_w7 := cellsAt_at B_w7
  have s_V_w7 := V_w7.lt
  have c_V_w7_0 := V_w7.cell 0
  have f_V_w7_0 := V_w7.frozen 0
  have c_V_w7_1 := V_w7.cell 1
  have f_V_w7_1 := V_w7.frozen 1
  simp only [List.getElem?_toArray, List.getElem?_cons_zero, List.getElem?_cons_succ] at c_V_w7_0 c_V_w7_1
  have s_W_w7 := W_w7.lt
  have c_W_w7_0 := W_w7.cell 0
  have f_W_w7_0 := W_w7.frozen 0
  have c_W_w7_1 := W_w7.cell 1
  have f_W_w7_1 := W_w7.frozen 1
  simp only [List.getElem?_toArray, List.getElem?_cons_zero, List.getElem?_cons_succ] at c_W_w7_0 c_W_w7_1
  have s_S_w7 := S_w7.lt
  have c_S_w7_0 := S_w7.cell 0
  have f_S_w7_0 := S_w7.frozen 0
  have c_S_w7_1 := S_w7.cell 1
  have f_S_w7_1 := S_w7.frozen 1
  simp only [List.getElem?_toArray, List.getElem?_cons_zero, List.getElem?_cons_succ] at c_S_w7_0 c_S_w7_1
  have s_T_w7 := T_w7.lt
  have e_T_w7 := cellsAt_at T_w7
  have s_U_w7 := U_w7.lt
  have c_U_w7_0 := U_w7.cell 0
  have f_U_w7_0 := U_w7.frozen 0
  have c_U_w7_1 := U_w7.cell 1
  have f_U_w7_1 := U_w7.frozen 1
  simp only [List.getElem?_toArray, List.getElem?_cons_zero, List.getElem?_cons_succ] at c_U_w7_0 c_U_w7_1
  have s_Z_w7 := Z_w7.lt
  have e_Z_w7 := cellsAt_at Z_w7
  refine wp_region_x 31 [1, 1, 1, 0, 0, 0, 0, 0, 0, 1, 1, 1, 0, 0, 0, 0, 0, 0, 0, 1, 1, 1, 1, 1, 1, 0, 0, 0, 1, 0, 0] (by kernel_rfl) (by kernel_rfl) (by kernel_rfl) ?_
  simp only [List.take_succ_cons, List.take_zero, List.drop_succ_cons, List.drop_zero]
  refine hl_quiet (fun K hK => ?_)
  go_simp
  refine hK _ ?_
  clear hK K
  refine hl_quiet (fun K hK => ?_)
  go_simp
  refine hK _ ?_
  clear hK K
  refine hl_quiet (fun K hK => ?_)
  go_simp
  first
    | (refine hK _ ?_; clear hK K)
    | (apply Exists.intro; refine ⟨fun x => ?_, hK _ ?_⟩
       · (exact is_same _ (mod128 _) _ HS.out _)
       clear hK K)
  refine hl_pure (fun K hK => ?_)
  go_simp
  refine hK _ ?_
  clear hK K
  refine hl_pure (fun K hK => ?_)
  go_simp
  refine hK _ ?_
  clear hK K
  refine hl_pure (fun K hK => ?_)
  go_simp
  refine hK _ ?_
  clear hK K
  refine hl_pure (fun K hK => ?_)
  go_simp
  refine hK _ ?_
  clear hK K
  refine hl_pure (fun K hK => ?_)
  go_simp
  refine hK _ ?_
  clear hK K
  refine hl_pure (fun K hK => ?_)
  go_simp
  refine hK _ ?_
  clear hK K
  refine hl_quiet (fun K hK => ?_)
  go_simp
  refine hK _ ?_
  clear hK K
  refine hl_quiet (fun K hK => ?_)
  go_simp
  refine hK _ ?_
  clear hK K
  refine hl_quiet (fun K hK => ?_)
  go_simp
  first
    | (refine hK _ ?_; clear hK K)
    | (apply Exists.intro; refine ⟨fun x => ?_, hK _ ?_⟩
       · (exact is_same _ (mod128 _) _ HU.out _)
       clear hK K)
  refine hl_pure (fun K hK => ?_)
  go_simp
  refine hK _ ?_
  clear hK K
  refine hl_pure (fun K hK => ?_)
  go_simp
  refine hK _ ?_
  clear hK K
  refine hl_pure (fun K hK => ?_)
  go_simp
  refine hK _ ?_
  clear hK K
  refine hl_pure (fun K hK => ?_)
  go_simp
  refine hK _ ?_
  clear hK K
  refine hl_pure (fun K hK => ?_)
  go_simp
  refine hK _ ?_
  clear hK K
  refine hl_pure (fun K hK => ?_)
  go_simp
  refine hK _ ?_
  clear hK K
  refine hl_pure (fun K hK => ?_)
  go_simp
  refine hK _ ?_
  clear hK K
  refine hl_quiet (fun K hK => ?_)
  go_simp
  refine hK _ ?_
  clear hK K
  refine hl_quiet (fun K hK => ?_)
  go_simp
  refine hK _ ?_
  clear hK K
  refine hl_quiet (fun K hK => ?_)
  go_simp
  first
    | (refine hK _ ?_; clear hK K)
    | (apply Exists.intro; refine ⟨fun x => ?_, hK _ ?_⟩
       · (exact cmp_c a b c d ha hb hc hd _)
       clear hK K)
  refine hl_quiet (fun K hK => ?_)
  go_simp
  refine hK _ ?_
  clear hK K
  refine hl_quiet (fun K hK => ?_)
  go_simp
  refine hK _ ?_
  clear hK K
  refine hl_quiet (fun K hK => ?_)
  go_simp
  first
    | (refine hK _ ?_; clear hK K)
    | (apply Exists.intro; refine ⟨fun x => ?_, hK _ ?_⟩
       · (exact rcmp_c _ _ hX hY _)
       clear hK K)
  refine hl_pure (fun K hK => ?_)
  go_simp
  refine hK _ ?_
  clear hK K
  refine hl_pure (fun K hK => ?_)
  go_simp
  refine hK _ ?_
  clear hK K
  refine hl_pure (fun K hK => ?_)
  go_simp
  refine hK _ ?_
  clear hK K
  refine hl_quiet (fun K hK => ?_)
  go_simp
  first
    | (refine hK _ ?_; clear hK K)
    | (apply Exists.intro; refine ⟨fun x => ?_, hK _ ?_⟩
       · (exact alive_c _)
       clear hK K)
  refine hl_pure (fun K hK => ?_)
  go_simp
  refine hK _ ?_
  clear hK K
  refine hl_pure (fun K hK => ?_)
  go_simp
  refine hK _ ?_
  clear hK K
  refine hl_nil ?_
  intro w8 hxw8 K hK
  have xw8 : Ext w w8 := Ext.trans (by repeat (first | exact Ext.refl _ | assumption | refine Ext.alloc ?_ _ | refine Ext.drew ?_ | refine Ext.drewN ?_ _ | refine Ext.setCell ?_ (by simp; try omega) _)) hxw8
  obtain ⟨hcw8, hfw8⟩ := hxw8.facts
  have hsw8 := hxw8.size
  try simp only [World.size_drew, World.size_alloc, World.size_setCell] at hsw8 hcw8 hfw8
  go_wp2
  refine fin_ret rfl (fun K hK => ?_)
  simp [results, Try.results8, go_sem, rsat]
  try go_simp
  refine hK _ ?_
  clear hK K
  exact ⟨rfl, (by repeat (first | exact Ext.refl _ | assumption | refine Ext.alloc ?_ _ | refine Ext.drew ?_ | refine Ext.drewN ?_ _ | refine Ext.setCell ?_ (by simp; try omega) _))⟩
end Go.Proofs.Ytkboegmpfdaneaa
