/- The walks of law 01's own: Is, alive. -/
import Derived.Test.YtkboegmpfdaneaaB3
import Derived.Test.YtkboegmpfdaneaaA8
namespace Go.Proofs.Ytkboegmpfdaneaa
open Go.RowKit
attribute [local go_sem] Later.cell QUpon_value QUpon_enter MUpon_value
attribute [local go_sem ↓ high] loadVar_is storeVar_is
attribute [local go_sem high] zero_bits
attribute [local go_sem] run_loadBits run_storeBits isArr_arr cellsAt_alloc_at cellsAt_alloc_past cellsAt_drew ltn_2 ltn_3 ltn_4 ltn_5 setRow_new bitsOf cellsAt_later cellsAt_setRow_far

theorem wide_inj {m n : Nat} : (((m / 18446744073709551616 : Nat) : Int) = ((n / 18446744073709551616 : Nat) : Int) ∧ ((m % 18446744073709551616 : Nat) : Int) = ((n % 18446744073709551616 : Nat) : Int)) ↔ m = n := by omega

set_option maxRecDepth 100000 in
theorem is_c (m n : Nat) (hm : m < 340282366920938463463374607431768211456) (hn : n < 340282366920938463463374607431768211456) (w : World) : Calls Try.prog 9 #[wide m, bitsOf n] w fun e w' => e = .returned (.bool (decide (m = n))) ∧ Ext w w' := by
  obtain ⟨a, b, hw, HW⟩ := wide_open m
  obtain ⟨c, d, hw2, HW2⟩ := wide_open n
  rw [hw]
  clear hw hw2
  go_enter Try.func9, Try.ntmps9
  go_wp2_with fail
  refine (rhalves_c n hn _).mono ?_
  rintro e w1 ⟨rfl, hxw1⟩
  rw [← HW2.out.1, ← HW2.out.2]
  have xw1 : Ext w w1 := Ext.trans (by repeat (first | exact Ext.refl _ | assumption | refine Ext.alloc ?_ _ | refine Ext.drew ?_ | refine Ext.drewN ?_ _ | refine Ext.setCell ?_ (by simp; try omega) _)) hxw1
  obtain ⟨hcw1, hfw1⟩ := hxw1.facts
  have hsw1 := hxw1.size
  try simp only [World.size_drew, World.size_alloc, World.size_setCell] at hsw1 hcw1 hfw1
  have hlw1_0 : w.heap.size < w1.heap.size := by omega
  have hlw1_1 : w.heap.size + 1 < w1.heap.size := by omega
  have hmn : m = n ↔ a = c ∧ b = d := by rw [HW.out.1, HW.out.2, HW2.out.1, HW2.out.2]; exact wide_inj.symm
  have HM := Lib.hid hmn
  clear hmn
  go_wp2
  · have hac : a = c := by assumption
    refine fin_ret rfl (fun K hK => ?_)
    simp [results, Try.results9, go_sem, rsat]
    try go_simp
    refine hK _ ?_
    clear hK K
    refine ⟨ret_eq (congrArg Value.bool ?_), (by repeat (first | exact Ext.refl _ | assumption | refine Ext.alloc ?_ _ | refine Ext.drew ?_ | refine Ext.drewN ?_ _ | refine Ext.setCell ?_ (by simp; try omega) _))⟩
    rw [Bool.eq_iff_iff]
    simp [HM.out, hac]
  · have hac : ¬ a = c := by assumption
    refine fin_ret rfl (fun K hK => ?_)
    simp [results, Try.results9, go_sem, rsat]
    try go_simp
    refine hK _ ?_
    clear hK K
    refine ⟨ret_eq (congrArg Value.bool ?_), (by repeat (first | exact Ext.refl _ | assumption | refine Ext.alloc ?_ _ | refine Ext.drew ?_ | refine Ext.drewN ?_ _ | refine Ext.setCell ?_ (by simp; try omega) _))⟩
    rw [Bool.eq_iff_iff]
    simp [HM.out, hac]

theorem alive_text : ((lsd 36893488147419103232).reverse.map fun d => UInt8.ofNat (48 + d)) = [51, 54, 56, 57, 51, 52, 56, 56, 49, 52, 55, 52, 49, 57, 49, 48, 51, 50, 51, 50] := by
  have : lsd 36893488147419103232 = [2, 3, 2, 3, 0, 1, 9, 1, 4, 7, 4, 1, 8, 8, 4, 3, 9, 8, 6, 3] := by simp [lsd]
  rw [this]
  rfl
set_option maxRecDepth 100000 in
theorem alive_c (w : World) : Calls Try.prog 12 #[] w fun e w' => e = .returned (.bool true) ∧ Ext w w' := by
  go_enter Try.func12, Try.ntmps12
  go_wp2_with fail
  refine (mul_c 9223372036854775808 4 ⟨by decide, by decide⟩ ⟨by decide, by decide⟩ _).mono ?_
  rintro e w1 ⟨rfl, hxw1⟩
  have xw1 : Ext w w1 := Ext.trans (by repeat (first | exact Ext.refl _ | assumption | refine Ext.alloc ?_ _ | refine Ext.drew ?_ | refine Ext.drewN ?_ _ | refine Ext.setCell ?_ (by simp; try omega) _)) hxw1
  obtain ⟨hcw1, hfw1⟩ := hxw1.facts
  have hsw1 := hxw1.size
  try simp only [World.size_drew, World.size_alloc, World.size_setCell] at hsw1 hcw1 hfw1
  have e1 : wide ((9223372036854775808 : Int).toNat * (4 : Int).toNat) = .agg #[.int .u64 2, .int .u64 0] := rfl
  rw [e1]
  have hA := At.new w1 25 #[.int .u64 2, .int .u64 0]
  have c_hA_0 := hA.cell 0
  have f_hA_0 := hA.frozen 0
  simp only [List.getElem?_toArray, List.getElem?_cons_zero, List.getElem?_cons_succ] at c_hA_0
  have c_hA_1 := hA.cell 1
  have f_hA_1 := hA.frozen 1
  simp only [List.getElem?_toArray, List.getElem?_cons_zero, List.getElem?_cons_succ] at c_hA_1
  have s_hA := hA.lt
  go_wp2_with fail
  rw [show Value.agg #[.int .u64 2, .int .u64 0] = wide 36893488147419103232 from rfl]
  refine (text_c 36893488147419103232 (by decide) _).mono ?_
  rintro e w2 ⟨rfl, hxw2⟩
  rw [alive_text]
  have x2 : Ext w w2 := Ext.trans (by repeat (first | exact Ext.refl _ | assumption | refine Ext.alloc ?_ _ | refine Ext.drew ?_ | refine Ext.drewN ?_ _ | refine Ext.setCell ?_ (by simp; try omega) _)) hxw2
  clear hxw2 hA c_hA_0 c_hA_1 f_hA_0 f_hA_1 s_hA
  go_wp2
  refine fin_ret rfl (fun K hK => ?_)
  simp [results, Try.results12, go_sem, rsat]
  try go_simp
  refine hK _ ?_
  clear hK K
  exact ⟨rfl, x2⟩
end Go.Proofs.Ytkboegmpfdaneaa
