/- The walks of package wide but for Div and Text. No condition but that numbers lie in their ranges. -/
import Derived.Test.YtimgdhpddklplaaSl
import Derived.Test.YtimgdhpddklplaaWP
import Derived.Test.YtimgdhpddklplaaProg
import Derived.Test.YtimgdhpddklplaaRg
import Derived.Deep.RegionHeld3
import Derived.Deep.DrawnRows
namespace Go.Proofs.Ytimgdhpddklplaa
open Go.RowKit
attribute [local go_sem ↓] Go.wp_at_zero Go.wp_at_succ
attribute [local go_sem] Later.cell QUpon_value QUpon_enter MUpon_value

theorem mul_c (a b : Int) (ha : U64 a) (hb : U64 b) (w : World) : Calls Try.prog 57 #[.int .u64 a, .int .u64 b] w fun e w' => e = .returned (wide (a.toNat * b.toNat)) ∧ Ext w w' := by
  go_enter Try.func57, Try.ntmps57
  go_wp2
  refine fin_ret rfl (fun K hK => ?_)
  simp [results, Try.results57, go_sem, rsat]
  try go_simp
  refine hK _ ?_
  clear hK K
  exact ⟨ret_eq (mul_val a b ha hb), (by repeat (first | exact Ext.refl _ | assumption | refine Ext.alloc ?_ _ | refine Ext.drew ?_ | refine Ext.drewN ?_ _ | refine Ext.setCell ?_ (by simp; try omega) _ | refine Ext.setRow ?_ (by simp; try omega) _))⟩
set_option maxRecDepth 100000 in
theorem left_mid (a b n : Int) (ha : U64 a) (hb : U64 b) (hn : 0 < n) (hn1 : n < 64) (w : World) : Calls Try.prog 66 #[.agg #[.int .u64 a, .int .u64 b], .int .i64 n] w fun e w' => e = .returned (wide (shl (X a b) n)) ∧ Ext w w' := by
  have hs : IntKind.i64.wrap (64 - n) = 64 - n := IntWalk.i64_in _ (by omega)
  have h0 : 0 ≤ n := by omega
  have h1 : n ≤ 64 := by omega
  have h2 : 0 ≤ 64 - n := by omega
  have h3 : 64 - n ≤ 64 := by omega
  go_enter Try.func66, Try.ntmps66
  go_wp2
  go_region_held3 (fun w' => w'.cell? ⟨w.heap.size, 0, none⟩ = some (.int .u64 a) ∧ w'.cell? ⟨w.heap.size, 1, none⟩ = some (.int .u64 b)) (go_keep) (fail)
  all_goals go_wp2
  refine fin_ret rfl (fun K hK => ?_)
  simp [results, Try.results66, go_sem, rsat]
  try go_simp
  refine hK _ ?_
  clear hK K
  exact ⟨ret_eq (left_val a b n ha hb hn hn1), (by repeat (first | exact Ext.refl _ | assumption | refine Ext.alloc ?_ _ | refine Ext.drew ?_ | refine Ext.drewN ?_ _ | refine Ext.setCell ?_ (by simp; try omega) _ | refine Ext.setRow ?_ (by simp; try omega) _))⟩
theorem left_far (a b n : Int) (ha : U64 a) (hb : U64 b) (hn : 64 ≤ n) (hn1 : n < 128) (w : World) : Calls Try.prog 66 #[.agg #[.int .u64 a, .int .u64 b], .int .i64 n] w fun e w' => e = .returned (wide (shl (X a b) n)) ∧ Ext w w' := by
  go_enter Try.func66, Try.ntmps66
  go_wp2
  refine fin_ret rfl (fun K hK => ?_)
  simp [results, Try.results66, go_sem, rsat]
  try go_simp
  refine hK _ ?_
  clear hK K
  exact ⟨ret_eq (left_val2 a b n ha hb hn hn1), (by repeat (first | exact Ext.refl _ | assumption | refine Ext.alloc ?_ _ | refine Ext.drew ?_ | refine Ext.drewN ?_ _ | refine Ext.setCell ?_ (by simp; try omega) _ | refine Ext.setRow ?_ (by simp; try omega) _))⟩
theorem left_out (a b n : Int) (ha : U64 a) (hb : U64 b) (hn : 128 ≤ n) (w : World) : Calls Try.prog 66 #[.agg #[.int .u64 a, .int .u64 b], .int .i64 n] w fun e w' => e = .returned (wide (shl (X a b) n)) ∧ Ext w w' := by
  go_enter Try.func66, Try.ntmps66
  go_wp2
  refine fin_ret rfl (fun K hK => ?_)
  simp [results, Try.results66, go_sem, rsat]
  try go_simp
  refine hK _ ?_
  clear hK K
  exact ⟨ret_eq (left_big a b n hn), (by repeat (first | exact Ext.refl _ | assumption | refine Ext.alloc ?_ _ | refine Ext.drew ?_ | refine Ext.drewN ?_ _ | refine Ext.setCell ?_ (by simp; try omega) _ | refine Ext.setRow ?_ (by simp; try omega) _))⟩
theorem left_none (a b n : Int) (ha : U64 a) (hb : U64 b) (hn : n ≤ 0) (w : World) : Calls Try.prog 66 #[.agg #[.int .u64 a, .int .u64 b], .int .i64 n] w fun e w' => e = .returned (wide (shl (X a b) n)) ∧ Ext w w' := by
  go_enter Try.func66, Try.ntmps66
  go_wp2
  refine fin_ret rfl (fun K hK => ?_)
  simp [results, Try.results66, go_sem, rsat]
  try go_simp
  refine hK _ ?_
  clear hK K
  exact ⟨ret_eq ((wide_X ha hb).symm.trans (left_le a b n hn)), (by repeat (first | exact Ext.refl _ | assumption | refine Ext.alloc ?_ _ | refine Ext.drew ?_ | refine Ext.drewN ?_ _ | refine Ext.setCell ?_ (by simp; try omega) _ | refine Ext.setRow ?_ (by simp; try omega) _))⟩
theorem left_c (a b n : Int) (ha : U64 a) (hb : U64 b) (w : World) : Calls Try.prog 66 #[.agg #[.int .u64 a, .int .u64 b], .int .i64 n] w fun e w' => e = .returned (wide (shl (X a b) n)) ∧ Ext w w' := by
  by_cases h : 0 < n
  · by_cases h1 : n < 64
    · exact left_mid a b n ha hb h h1 w
    · by_cases h2 : n < 128
      · exact left_far a b n ha hb (by omega) h2 w
      · exact left_out a b n ha hb (by omega) w
  · exact left_none a b n ha hb (by omega) w
set_option maxRecDepth 100000 in
theorem right_mid (a b n : Int) (ha : U64 a) (hb : U64 b) (hn : 0 < n) (hn1 : n < 64) (w : World) : Calls Try.prog 65 #[.agg #[.int .u64 a, .int .u64 b], .int .i64 n] w fun e w' => e = .returned (wide (shr (X a b) n)) ∧ Ext w w' := by
  have hs : IntKind.i64.wrap (64 - n) = 64 - n := IntWalk.i64_in _ (by omega)
  have h0 : 0 ≤ n := by omega
  have h1 : n ≤ 64 := by omega
  have h2 : 0 ≤ 64 - n := by omega
  have h3 : 64 - n ≤ 64 := by omega
  go_enter Try.func65, Try.ntmps65
  go_wp2
  go_region_held3 (fun w' => w'.cell? ⟨w.heap.size, 0, none⟩ = some (.int .u64 a) ∧ w'.cell? ⟨w.heap.size, 1, none⟩ = some (.int .u64 b)) (go_keep) (fail)
  all_goals go_wp2
  refine fin_ret rfl (fun K hK => ?_)
  simp [results, Try.results65, go_sem, rsat]
  try go_simp
  refine hK _ ?_
  clear hK K
  exact ⟨ret_eq (right_val a b n ha hb hn hn1), (by repeat (first | exact Ext.refl _ | assumption | refine Ext.alloc ?_ _ | refine Ext.drew ?_ | refine Ext.drewN ?_ _ | refine Ext.setCell ?_ (by simp; try omega) _ | refine Ext.setRow ?_ (by simp; try omega) _))⟩
theorem right_far (a b n : Int) (ha : U64 a) (hb : U64 b) (hn : 64 ≤ n) (hn1 : n < 128) (w : World) : Calls Try.prog 65 #[.agg #[.int .u64 a, .int .u64 b], .int .i64 n] w fun e w' => e = .returned (wide (shr (X a b) n)) ∧ Ext w w' := by
  go_enter Try.func65, Try.ntmps65
  go_wp2
  refine fin_ret rfl (fun K hK => ?_)
  simp [results, Try.results65, go_sem, rsat]
  try go_simp
  refine hK _ ?_
  clear hK K
  exact ⟨ret_eq (right_val2 a b n ha hb hn hn1), (by repeat (first | exact Ext.refl _ | assumption | refine Ext.alloc ?_ _ | refine Ext.drew ?_ | refine Ext.drewN ?_ _ | refine Ext.setCell ?_ (by simp; try omega) _ | refine Ext.setRow ?_ (by simp; try omega) _))⟩
theorem right_out (a b n : Int) (ha : U64 a) (hb : U64 b) (hn : 128 ≤ n) (w : World) : Calls Try.prog 65 #[.agg #[.int .u64 a, .int .u64 b], .int .i64 n] w fun e w' => e = .returned (wide (shr (X a b) n)) ∧ Ext w w' := by
  go_enter Try.func65, Try.ntmps65
  go_wp2
  refine fin_ret rfl (fun K hK => ?_)
  simp [results, Try.results65, go_sem, rsat]
  try go_simp
  refine hK _ ?_
  clear hK K
  exact ⟨ret_eq (right_big a b n ha hb hn), (by repeat (first | exact Ext.refl _ | assumption | refine Ext.alloc ?_ _ | refine Ext.drew ?_ | refine Ext.drewN ?_ _ | refine Ext.setCell ?_ (by simp; try omega) _ | refine Ext.setRow ?_ (by simp; try omega) _))⟩
theorem right_none (a b n : Int) (ha : U64 a) (hb : U64 b) (hn : n ≤ 0) (w : World) : Calls Try.prog 65 #[.agg #[.int .u64 a, .int .u64 b], .int .i64 n] w fun e w' => e = .returned (wide (shr (X a b) n)) ∧ Ext w w' := by
  go_enter Try.func65, Try.ntmps65
  go_wp2
  refine fin_ret rfl (fun K hK => ?_)
  simp [results, Try.results65, go_sem, rsat]
  try go_simp
  refine hK _ ?_
  clear hK K
  exact ⟨ret_eq ((wide_X ha hb).symm.trans (right_le a b n hn)), (by repeat (first | exact Ext.refl _ | assumption | refine Ext.alloc ?_ _ | refine Ext.drew ?_ | refine Ext.drewN ?_ _ | refine Ext.setCell ?_ (by simp; try omega) _ | refine Ext.setRow ?_ (by simp; try omega) _))⟩
theorem right_c (a b n : Int) (ha : U64 a) (hb : U64 b) (w : World) : Calls Try.prog 65 #[.agg #[.int .u64 a, .int .u64 b], .int .i64 n] w fun e w' => e = .returned (wide (shr (X a b) n)) ∧ Ext w w' := by
  by_cases h : 0 < n
  · by_cases h1 : n < 64
    · exact right_mid a b n ha hb h h1 w
    · by_cases h2 : n < 128
      · exact right_far a b n ha hb (by omega) h2 w
      · exact right_out a b n ha hb (by omega) w
  · exact right_none a b n ha hb (by omega) w
theorem add_c (a b c d : Int) (ha : U64 a) (hb : U64 b) (hc : U64 c) (hd : U64 d) (w : World) : Calls Try.prog 59 #[.agg #[.int .u64 a, .int .u64 b], .agg #[.int .u64 c, .int .u64 d]] w fun e w' =>
    e = .returned (.tuple #[wide ((X a b + X c d) % 340282366920938463463374607431768211456), .bool (decide (X a b + X c d < 340282366920938463463374607431768211456))]) ∧ Ext w w' := by
  go_enter Try.func59, Try.ntmps59
  go_wp2
  all_goals
    refine fin_ret rfl (fun K hK => ?_)
    simp [results, Try.results59, go_sem, rsat]
    try go_simp
    refine hK _ ?_
    clear hK K
    refine ⟨ret_eq ?_, (by repeat (first | exact Ext.refl _ | assumption | refine Ext.alloc ?_ _ | refine Ext.drew ?_ | refine Ext.drewN ?_ _ | refine Ext.setCell ?_ (by simp; try omega) _ | refine Ext.setRow ?_ (by simp; try omega) _))⟩
    simp only [IntKind.wrap_u64] at *
    unfold U64 at *
    refine tup_wide ?_ ?_ ?_ <;> (unfold X; first | omega | (simp; omega))
theorem sub_val (a b c d : Int) (ha : U64 a) (hb : U64 b) (hc : U64 c) (hd : U64 d) (h : b < d) :
    Value.tuple #[.agg #[.int .u64 (IntKind.u64.wrap (IntKind.u64.wrap (a - c) - 1)), .int .u64 (IntKind.u64.wrap (b - d))], .bool (decide (0 ≤ cmpN (X a b) (X c d)))] = .tuple #[wide ((X a b + 340282366920938463463374607431768211456 - X c d) % 340282366920938463463374607431768211456), .bool (decide (X c d ≤ X a b))] := by
  simp only [IntKind.wrap_u64] at *
  unfold U64 at *
  refine tup_wide ?_ ?_ ?_
  · unfold X; omega
  · unfold X; omega
  · unfold cmpN; simp; split <;> (try split) <;> omega
theorem sub_val2 (a b c d : Int) (ha : U64 a) (hb : U64 b) (hc : U64 c) (hd : U64 d) (h : d ≤ b) :
    Value.tuple #[.agg #[.int .u64 (IntKind.u64.wrap (a - c)), .int .u64 (IntKind.u64.wrap (b - d))], .bool (decide (0 ≤ cmpN (X a b) (X c d)))] = .tuple #[wide ((X a b + 340282366920938463463374607431768211456 - X c d) % 340282366920938463463374607431768211456), .bool (decide (X c d ≤ X a b))] := by
  simp only [IntKind.wrap_u64] at *
  unfold U64 at *
  refine tup_wide ?_ ?_ ?_
  · unfold X; omega
  · unfold X; omega
  · unfold cmpN; simp; split <;> (try split) <;> omega

end Go.Proofs.Ytimgdhpddklplaa
