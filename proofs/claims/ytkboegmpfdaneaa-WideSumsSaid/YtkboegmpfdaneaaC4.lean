/- The walk of law WideDivs. -/
import Derived.Test.YtkboegmpfdaneaaC3
namespace Go.Proofs.Ytkboegmpfdaneaa
open Go.RowKit
attribute [local go_sem] Later.cell QUpon_value QUpon_enter MUpon_value
attribute [local go_sem ↓ high] loadVar_is storeVar_is
attribute [local go_sem high] zero_bits
attribute [local go_sem] run_loadBits run_storeBits isArr_arr cellsAt_alloc_at cellsAt_alloc_past cellsAt_drew ltn_2 ltn_3 ltn_4 ltn_5 setRow_new setRow_past bitsOf cellsAt_later cellsAt_setRow_far

set_option maxRecDepth 100000 in
set_option maxHeartbeats 1600000 in
theorem widedivs_zero (a b : Int) (w : World) : Calls Try.prog 5 #[.int .u64 a, .int .u64 b, .int .u64 0] w fun e w' => e = .returned (.bool true) ∧ Ext w w' := by
  have e0 : wide 0 = .agg #[.int .u64 0, .int .u64 0] := rfl
  go_enter Try.func5, Try.ntmps5
  go_wp2_with fail
  refine (div_none a b _).mono ?_
  rintro e w1 ⟨rfl, hxw1⟩
  rw [e0]
  clear e0
  have xw1 : Ext w w1 := Ext.trans (by repeat (first | exact Ext.refl _ | assumption | refine Ext.alloc ?_ _ | refine Ext.drew ?_ | refine Ext.drewN ?_ _ | refine Ext.setCell ?_ (by simp; try omega) _)) hxw1
  obtain ⟨hcw1, hfw1⟩ := hxw1.facts
  have hsw1 := hxw1.size
  try simp only [World.size_drew, World.size_alloc, World.size_setCell] at hsw1 hcw1 hfw1
  have hlw1_0 : w.heap.size < w1.heap.size := by omega
  go_wp2_with fail
  refine (alive_c _).mono ?_
  rintro e w2 ⟨rfl, hxw2⟩
  have x2 : Ext w w2 := Ext.trans (by repeat (first | exact Ext.refl _ | assumption | refine Ext.alloc ?_ _ | refine Ext.drew ?_ | refine Ext.drewN ?_ _ | refine Ext.setCell ?_ (by simp; try omega) _)) hxw2
  clear hxw2 hcw1 hfw1
  go_wp2
  refine fin_ret rfl (fun K hK => ?_)
  simp [results, Try.results5, go_sem, rsat]
  try go_simp
  refine hK _ ?_
  clear hK K
  exact ⟨rfl, x2⟩
set_option maxRecDepth 100000 in
set_option maxHeartbeats 1600000 in
theorem widedivs_pos (a b d : Int) (ha : U64 a) (hb : U64 b) (hd : U64 d) (h0 : 0 < d) (w : World) : Calls Try.prog 5 #[.int .u64 a, .int .u64 b, .int .u64 d] w fun e w' => e = .returned (.bool true) ∧ Ext w w' := by
  have hd0 : (d == 0) = false := by simp; omega
  have hX := X_lt ha hb
  have hdn : 0 < d.toNat := by omega
  have hdl := hd.lt
  obtain ⟨q, hq⟩ : ∃ q, q = X a b / d.toNat := ⟨_, rfl⟩
  obtain ⟨r, hr⟩ : ∃ r, r = X a b % d.toNat := ⟨_, rfl⟩
  have hql : q < 340282366920938463463374607431768211456 := by rw [hq]; exact Nat.lt_of_le_of_lt (Nat.div_le_self _ _) hX
  have hrl : r < 18446744073709551616 := by rw [hr]; exact Nat.lt_trans (Nat.mod_lt _ hdn) hdl
  have C1 := Lib.hid (div_c a b d ha hb hd h0)
  have C2 := Lib.hid (rdiv_c (X a b) d hX hd h0)
  rw [← hq, ← hr] at C1 C2
  clear hq hr
  obtain ⟨qh, ql, hw, _⟩ := wide_open q
  have HW := Lib.hid hw
  rw [hw] at C1
  clear hw
  go_enter Try.func5, Try.ntmps5
  go_wp2_with fail
  refine (C1.out _).mono ?_
  rintro e w1 ⟨rfl, hxw1⟩
  have x1 : Ext w w1 := Ext.trans (by repeat (first | exact Ext.refl _ | assumption | refine Ext.alloc ?_ _ | refine Ext.drew ?_ | refine Ext.drewN ?_ _ | refine Ext.setCell ?_ (by simp; try omega) _)) hxw1
  clear hxw1
  have hQ := At.new w1 25 #[.int .u64 qh, .int .u64 ql]
  go_wp2_with fail
  refine (of_c a b ha hb _).mono ?_
  rintro e w2 ⟨rfl, hxw2⟩
  have hQ2 := hQ.ext hxw2
  have x2 : Ext w w2 := x1.trans (Ext.trans (by repeat (first | exact Ext.refl _ | assumption | refine Ext.alloc ?_ _ | refine Ext.drew ?_ | refine Ext.drewN ?_ _ | refine Ext.setCell ?_ (by simp; try omega) _)) hxw2)
  clear hQ hxw2 x1
  go_wp2_with fail
  refine (C2.out _).mono ?_
  rintro e w3 ⟨rfl, hxw3⟩
  have hQ3 := hQ2.ext hxw3
  have x3 := x2.trans hxw3
  clear hQ2 hxw3 x2
  have s1 := hQ3.lt
  go_wp2_with fail
  refine (rhalves_c r (by omega) _).mono ?_
  rintro e w4 ⟨rfl, hxw4⟩
  have ez : r / 18446744073709551616 = 0 := by omega
  have er : r % 18446744073709551616 = r := by omega
  rw [ez, er]
  clear ez er
  have hQ4 := hQ3.ext (Ext.trans (by repeat (first | exact Ext.refl _ | assumption | refine Ext.alloc ?_ _ | refine Ext.drew ?_ | refine Ext.drewN ?_ _ | refine Ext.setCell ?_ (by simp; try omega) _)) hxw4)
  have hB4 := At.ext (g := w3.heap.size) (t := 28) (cs := arr fun j => q.testBit j) (by repeat (first | exact At.new _ _ _ | (refine At.new' _ _ _ _ ?_; simp; done) | assumption | refine At.drew ?_ | refine At.alloc ?_ _)) hxw4
  have x4 : Ext w w4 := x3.trans (Ext.trans (by repeat (first | exact Ext.refl _ | assumption | refine Ext.alloc ?_ _ | refine Ext.drew ?_ | refine Ext.drewN ?_ _ | refine Ext.setCell ?_ (by simp; try omega) _)) hxw4)
  clear hQ3 hxw4 x3 s1
  have c_hQ4_0 := hQ4.cell 0
  have f_hQ4_0 := hQ4.frozen 0
  simp only [List.getElem?_toArray, List.getElem?_cons_zero, List.getElem?_cons_succ] at c_hQ4_0
  have c_hQ4_1 := hQ4.cell 1
  have f_hQ4_1 := hQ4.frozen 1
  simp only [List.getElem?_toArray, List.getElem?_cons_zero, List.getElem?_cons_succ] at c_hQ4_1
  have s_hQ4 := hQ4.lt
  have e4 := cellsAt_at hB4
  go_wp2_with fail
  rw [← HW.out]
  refine (is_c q q hql hql _).mono ?_
  rintro e w5 ⟨rfl, hxw5⟩
  have x5 := x4.trans hxw5
  go_wp2_with fail
  refine (alive_c _).mono ?_
  rintro e w6 ⟨rfl, hxw6⟩
  have x6 := x5.trans hxw6
  go_wp2
  refine fin_ret rfl (fun K hK => ?_)
  simp [results, Try.results5, go_sem, rsat]
  try go_simp
  refine hK _ ?_
  clear hK K
  exact ⟨rfl, x6⟩
theorem widedivs_c (a b d : Int) (ha : U64 a) (hb : U64 b) (hd : U64 d) (w : World) : Calls Try.prog 5 #[.int .u64 a, .int .u64 b, .int .u64 d] w fun e w' => e = .returned (.bool true) ∧ Ext w w' := by
  by_cases h : d = 0
  · subst h; exact widedivs_zero a b w
  · exact widedivs_pos a b d ha hb hd (by have := hd.nn; omega) w
end Go.Proofs.Ytkboegmpfdaneaa
