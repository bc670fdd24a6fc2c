/- The walks of package wide but for Div and Text. No condition but that numbers lie in their ranges. -/
import Derived.Test.YtgjaiikfgejgoaaSl
import Derived.Test.YtgjaiikfgejgoaaWP
import Derived.Test.YtgjaiikfgejgoaaProg
import Derived.Test.YtgjaiikfgejgoaaRg
import Derived.Deep.RegionHeld3
import Derived.Deep.DrawnRows
namespace Go.Proofs.Ytgjaiikfgejgoaa
open Go.RowKit
attribute [local go_sem ↓] Go.wp_at_zero Go.wp_at_succ
attribute [local go_sem] Later.cell QUpon_value QUpon_enter MUpon_value

theorem mul_c (a b : Int) (ha : U64 a) (hb : U64 b) (w : World) : Calls Try.prog 22 #[.int .u64 a, .int .u64 b] w fun e w' => e = .returned (wide (a.toNat * b.toNat)) ∧ Ext w w' := by
  go_enter Try.func22, Try.ntmps22
  go_wp2
  first | refine fin_ret rfl (fun K hK => ?_) | refine fin_norm rfl (fun K hK => ?_)
  simp [results, Try.results22, go_sem, rsat]
  try go_simp
  refine hK _ ?_
  clear hK K
  exact ⟨ret_eq (mul_val a b ha hb), (by repeat (first | (with_reducible exact Ext.refl _) | (with_reducible assumption) | (with_reducible refine Ext.alloc ?_ _) | (with_reducible refine Ext.drew ?_) | (with_reducible refine Ext.drewN ?_ _) | (with_reducible refine Ext.setCell ?_ (by simp; try omega) _) | (with_reducible refine Ext.setRow ?_ (by simp; try omega) _)))⟩
theorem cmp_c (a b c d : Int) (ha : U64 a) (hb : U64 b) (hc : U64 c) (hd : U64 d) (w : World) : Calls Try.prog 45 #[.agg #[.int .u64 a, .int .u64 b], .agg #[.int .u64 c, .int .u64 d]] w fun e w' => e = .returned (.int .i64 (cmpN (X a b) (X c d))) ∧ Ext w w' := by
  by_cases hac : a = c
  · subst hac
    have hbe : (a == a) = true := by simp
    go_enter Try.func45, Try.ntmps45
    go_wp2
    refine wp_region_x 6 [0, 1, 0, 1, 0, 0] (by kernel_rfl) (by kernel_rfl) (by kernel_rfl) ?_
    simp only [List.take_succ_cons, List.take_zero, List.drop_succ_cons, List.drop_zero]
    refine hl_pure (fun K hK => ?_)
    go_simp
    refine hK _ ?_
    clear hK K
    refine hl_quiet (fun K hK => ?_)
    go_simp
    refine hK _ ?_
    clear hK K
    refine hl_pure (fun K hK => ?_)
    go_simp
    refine hK _ ?_
    clear hK K
    refine hl_quiet (fun K hK => ?_)
    go_simp
    refine hK _ ?_
    clear hK K
    refine hl_pure (fun K hK => ?_)
    go_simp
    refine hK _ ?_
    clear hK K
    refine hl_pure (fun K hK => ?_)
    go_simp
    refine hK _ ?_
    clear hK K
    refine hl_nil ?_
    intro w1 hxw1 K hK
    have xw1 : Ext w w1 := Ext.trans (by repeat (first | (with_reducible exact Ext.refl _) | (with_reducible assumption) | (with_reducible refine Ext.alloc ?_ _) | (with_reducible refine Ext.drew ?_) | (with_reducible refine Ext.drewN ?_ _) | (with_reducible refine Ext.setCell ?_ (by simp; try omega) _) | (with_reducible refine Ext.setRow ?_ (by simp; try omega) _))) hxw1
    obtain ⟨hcw1, hfw1⟩ := hxw1.facts
    have hsw1 := hxw1.size
    try simp only [World.size_drew, World.size_alloc, World.size_setCell] at hsw1 hcw1 hfw1
    have hlw1_0 : w.heap.size < w1.heap.size := by omega
    have hlw1_1 : w.heap.size + 1 < w1.heap.size := by omega
    go_wp2
    refine wp_region_x 6 [0, 1, 0, 1, 0, 0] (by kernel_rfl) (by kernel_rfl) (by kernel_rfl) ?_
    simp only [List.take_succ_cons, List.take_zero, List.drop_succ_cons, List.drop_zero]
    refine hl_pure (fun K hK => ?_)
    go_simp
    refine hK _ ?_
    clear hK K
    refine hl_quiet (fun K hK => ?_)
    go_simp
    refine hK _ ?_
    clear hK K
    refine hl_pure (fun K hK => ?_)
    go_simp
    refine hK _ ?_
    clear hK K
    refine hl_quiet (fun K hK => ?_)
    go_simp
    refine hK _ ?_
    clear hK K
    refine hl_pure (fun K hK => ?_)
    go_simp
    refine hK _ ?_
    clear hK K
    refine hl_pure (fun K hK => ?_)
    go_simp
    refine hK _ ?_
    clear hK K
    refine hl_nil ?_
    intro w2 hxw2 K hK
    have xw2 : Ext w w2 := Ext.trans (by repeat (first | (with_reducible exact Ext.refl _) | (with_reducible assumption) | (with_reducible refine Ext.alloc ?_ _) | (with_reducible refine Ext.drew ?_) | (with_reducible refine Ext.drewN ?_ _) | (with_reducible refine Ext.setCell ?_ (by simp; try omega) _) | (with_reducible refine Ext.setRow ?_ (by simp; try omega) _))) hxw2
    obtain ⟨hcw2, hfw2⟩ := hxw2.facts
    have hsw2 := hxw2.size
    try simp only [World.size_drew, World.size_alloc, World.size_setCell] at hsw2 hcw2 hfw2
    have hlw2_0 : w.heap.size < w2.heap.size := by omega
    have hlw2_1 : w.heap.size + 1 < w2.heap.size := by omega
    go_wp2
    all_goals
      first | refine fin_ret rfl (fun K hK => ?_) | refine fin_norm rfl (fun K hK => ?_)
      simp [results, Try.results45, go_sem, rsat]
      try go_simp
      refine hK _ ?_
      clear hK K
      refine ⟨ret_eq ?_, (by repeat (first | (with_reducible exact Ext.refl _) | (with_reducible assumption) | (with_reducible refine Ext.alloc ?_ _) | (with_reducible refine Ext.drew ?_) | (with_reducible refine Ext.drewN ?_ _) | (with_reducible refine Ext.setCell ?_ (by simp; try omega) _) | (with_reducible refine Ext.setRow ?_ (by simp; try omega) _)))⟩
      unfold U64 at *
      clear hcw1 hfw1 hcw2 hfw2 hsw1 hsw2
      congr 1
      first | (rw [cmpN, if_pos (show X a b < X a d by unfold X; omega)]) | (rw [cmpN, if_neg (show ¬ X a b < X a d by unfold X; omega), if_pos (show X a d < X a b by unfold X; omega)]) | (rw [cmpN, if_neg (show ¬ X a b < X a d by unfold X; omega), if_neg (show ¬ X a d < X a b by unfold X; omega)])
  · have hbe : (a == c) = false := by simpa using hac
    go_enter Try.func45, Try.ntmps45
    go_wp2
    refine wp_region_x 6 [0, 1, 0, 1, 0, 0] (by kernel_rfl) (by kernel_rfl) (by kernel_rfl) ?_
    simp only [List.take_succ_cons, List.take_zero, List.drop_succ_cons, List.drop_zero]
    refine hl_pure (fun K hK => ?_)
    go_simp
    refine hK _ ?_
    clear hK K
    refine hl_quiet (fun K hK => ?_)
    go_simp
    refine hK _ ?_
    clear hK K
    refine hl_pure (fun K hK => ?_)
    go_simp
    refine hK _ ?_
    clear hK K
    refine hl_quiet (fun K hK => ?_)
    go_simp
    refine hK _ ?_
    clear hK K
    refine hl_pure (fun K hK => ?_)
    go_simp
    refine hK _ ?_
    clear hK K
    refine hl_pure (fun K hK => ?_)
    go_simp
    refine hK _ ?_
    clear hK K
    refine hl_nil ?_
    intro w1 hxw1 K hK
    have xw1 : Ext w w1 := Ext.trans (by repeat (first | (with_reducible exact Ext.refl _) | (with_reducible assumption) | (with_reducible refine Ext.alloc ?_ _) | (with_reducible refine Ext.drew ?_) | (with_reducible refine Ext.drewN ?_ _) | (with_reducible refine Ext.setCell ?_ (by simp; try omega) _) | (with_reducible refine Ext.setRow ?_ (by simp; try omega) _))) hxw1
    obtain ⟨hcw1, hfw1⟩ := hxw1.facts
    have hsw1 := hxw1.size
    try simp only [World.size_drew, World.size_alloc, World.size_setCell] at hsw1 hcw1 hfw1
    have hlw1_0 : w.heap.size < w1.heap.size := by omega
    have hlw1_1 : w.heap.size + 1 < w1.heap.size := by omega
    go_wp2
    all_goals
      first | refine fin_ret rfl (fun K hK => ?_) | refine fin_norm rfl (fun K hK => ?_)
      simp [results, Try.results45, go_sem, rsat]
      try go_simp
      refine hK _ ?_
      clear hK K
      refine ⟨ret_eq ?_, (by repeat (first | (with_reducible exact Ext.refl _) | (with_reducible assumption) | (with_reducible refine Ext.alloc ?_ _) | (with_reducible refine Ext.drew ?_) | (with_reducible refine Ext.drewN ?_ _) | (with_reducible refine Ext.setCell ?_ (by simp; try omega) _) | (with_reducible refine Ext.setRow ?_ (by simp; try omega) _)))⟩
      unfold U64 at *
      clear hcw1 hfw1 hsw1
      congr 1
      first | (rw [cmpN, if_pos (show X a b < X c d by unfold X; omega)]) | (rw [cmpN, if_neg (show ¬ X a b < X c d by unfold X; omega), if_pos (show X c d < X a b by unfold X; omega)]) | (rw [cmpN, if_neg (show ¬ X a b < X c d by unfold X; omega), if_neg (show ¬ X c d < X a b by unfold X; omega)])
set_option maxRecDepth 100000 in
theorem left_mid (a b n : Int) (ha : U64 a) (hb : U64 b) (hn : 0 < n) (hn1 : n < 64) (w : World) : Calls Try.prog 37 #[.agg #[.int .u64 a, .int .u64 b], .int .i64 n] w fun e w' => e = .returned (wide (shl (X a b) n)) ∧ Ext w w' := by
  have hs : IntKind.i64.wrap (64 - n) = 64 - n := IntWalk.i64_in _ (by omega)
  have h0 : 0 ≤ n := by omega
  have h1 : n ≤ 64 := by omega
  have h2 : 0 ≤ 64 - n := by omega
  have h3 : 64 - n ≤ 64 := by omega
  go_enter Try.func37, Try.ntmps37
  go_wp2
  go_region_held3 (fun w' => w'.cell? ⟨w.heap.size, 0, none⟩ = some (.int .u64 a) ∧ w'.cell? ⟨w.heap.size, 1, none⟩ = some (.int .u64 b)) (go_keep) (fail)
  all_goals go_wp2
  first | refine fin_ret rfl (fun K hK => ?_) | refine fin_norm rfl (fun K hK => ?_)
  simp [results, Try.results37, go_sem, rsat]
  try go_simp
  refine hK _ ?_
  clear hK K
  exact ⟨ret_eq (left_val a b n ha hb hn hn1), (by repeat (first | (with_reducible exact Ext.refl _) | (with_reducible assumption) | (with_reducible refine Ext.alloc ?_ _) | (with_reducible refine Ext.drew ?_) | (with_reducible refine Ext.drewN ?_ _) | (with_reducible refine Ext.setCell ?_ (by simp; try omega) _) | (with_reducible refine Ext.setRow ?_ (by simp; try omega) _)))⟩
theorem left_far (a b n : Int) (ha : U64 a) (hb : U64 b) (hn : 64 ≤ n) (hn1 : n < 128) (w : World) : Calls Try.prog 37 #[.agg #[.int .u64 a, .int .u64 b], .int .i64 n] w fun e w' => e = .returned (wide (shl (X a b) n)) ∧ Ext w w' := by
  go_enter Try.func37, Try.ntmps37
  go_wp2
  first | refine fin_ret rfl (fun K hK => ?_) | refine fin_norm rfl (fun K hK => ?_)
  simp [results, Try.results37, go_sem, rsat]
  try go_simp
  refine hK _ ?_
  clear hK K
  exact ⟨ret_eq (left_val2 a b n ha hb hn hn1), (by repeat (first | (with_reducible exact Ext.refl _) | (with_reducible assumption) | (with_reducible refine Ext.alloc ?_ _) | (with_reducible refine Ext.drew ?_) | (with_reducible refine Ext.drewN ?_ _) | (with_reducible refine Ext.setCell ?_ (by simp; try omega) _) | (with_reducible refine Ext.setRow ?_ (by simp; try omega) _)))⟩
theorem left_out (a b n : Int) (ha : U64 a) (hb : U64 b) (hn : 128 ≤ n) (w : World) : Calls Try.prog 37 #[.agg #[.int .u64 a, .int .u64 b], .int .i64 n] w fun e w' => e = .returned (wide (shl (X a b) n)) ∧ Ext w w' := by
  go_enter Try.func37, Try.ntmps37
  go_wp2
  first | refine fin_ret rfl (fun K hK => ?_) | refine fin_norm rfl (fun K hK => ?_)
  simp [results, Try.results37, go_sem, rsat]
  try go_simp
  refine hK _ ?_
  clear hK K
  exact ⟨ret_eq (left_big a b n hn), (by repeat (first | (with_reducible exact Ext.refl _) | (with_reducible assumption) | (with_reducible refine Ext.alloc ?_ _) | (with_reducible refine Ext.drew ?_) | (with_reducible refine Ext.drewN ?_ _) | (with_reducible refine Ext.setCell ?_ (by simp; try omega) _) | (with_reducible refine Ext.setRow ?_ (by simp; try omega) _)))⟩
theorem left_none (a b n : Int) (ha : U64 a) (hb : U64 b) (hn : n ≤ 0) (w : World) : Calls Try.prog 37 #[.agg #[.int .u64 a, .int .u64 b], .int .i64 n] w fun e w' => e = .returned (wide (shl (X a b) n)) ∧ Ext w w' := by
  go_enter Try.func37, Try.ntmps37
  go_wp2
  first | refine fin_ret rfl (fun K hK => ?_) | refine fin_norm rfl (fun K hK => ?_)
  simp [results, Try.results37, go_sem, rsat]
  try go_simp
  refine hK _ ?_
  clear hK K
  exact ⟨ret_eq ((wide_X ha hb).symm.trans (left_le a b n hn)), (by repeat (first | (with_reducible exact Ext.refl _) | (with_reducible assumption) | (with_reducible refine Ext.alloc ?_ _) | (with_reducible refine Ext.drew ?_) | (with_reducible refine Ext.drewN ?_ _) | (with_reducible refine Ext.setCell ?_ (by simp; try omega) _) | (with_reducible refine Ext.setRow ?_ (by simp; try omega) _)))⟩
theorem left_c (a b n : Int) (ha : U64 a) (hb : U64 b) (w : World) : Calls Try.prog 37 #[.agg #[.int .u64 a, .int .u64 b], .int .i64 n] w fun e w' => e = .returned (wide (shl (X a b) n)) ∧ Ext w w' := by
  by_cases h : 0 < n
  · by_cases h1 : n < 64
    · exact left_mid a b n ha hb h h1 w
    · by_cases h2 : n < 128
      · exact left_far a b n ha hb (by omega) h2 w
      · exact left_out a b n ha hb (by omega) w
  · exact left_none a b n ha hb (by omega) w
set_option maxRecDepth 100000 in
theorem right_mid (a b n : Int) (ha : U64 a) (hb : U64 b) (hn : 0 < n) (hn1 : n < 64) (w : World) : Calls Try.prog 36 #[.agg #[.int .u64 a, .int .u64 b], .int .i64 n] w fun e w' => e = .returned (wide (shr (X a b) n)) ∧ Ext w w' := by
  have hs : IntKind.i64.wrap (64 - n) = 64 - n := IntWalk.i64_in _ (by omega)
  have h0 : 0 ≤ n := by omega
  have h1 : n ≤ 64 := by omega
  have h2 : 0 ≤ 64 - n := by omega
  have h3 : 64 - n ≤ 64 := by omega
  go_enter Try.func36, Try.ntmps36
  go_wp2
  go_region_held3 (fun w' => w'.cell? ⟨w.heap.size, 0, none⟩ = some (.int .u64 a) ∧ w'.cell? ⟨w.heap.size, 1, none⟩ = some (.int .u64 b)) (go_keep) (fail)
  all_goals go_wp2
  first | refine fin_ret rfl (fun K hK => ?_) | refine fin_norm rfl (fun K hK => ?_)
  simp [results, Try.results36, go_sem, rsat]
  try go_simp
  refine hK _ ?_
  clear hK K
  exact ⟨ret_eq (right_val a b n ha hb hn hn1), (by repeat (first | (with_reducible exact Ext.refl _) | (with_reducible assumption) | (with_reducible refine Ext.alloc ?_ _) | (with_reducible refine Ext.drew ?_) | (with_reducible refine Ext.drewN ?_ _) | (with_reducible refine Ext.setCell ?_ (by simp; try omega) _) | (with_reducible refine Ext.setRow ?_ (by simp; try omega) _)))⟩
theorem right_far (a b n : Int) (ha : U64 a) (hb : U64 b) (hn : 64 ≤ n) (hn1 : n < 128) (w : World) : Calls Try.prog 36 #[.agg #[.int .u64 a, .int .u64 b], .int .i64 n] w fun e w' => e = .returned (wide (shr (X a b) n)) ∧ Ext w w' := by
  go_enter Try.func36, Try.ntmps36
  go_wp2
  first | refine fin_ret rfl (fun K hK => ?_) | refine fin_norm rfl (fun K hK => ?_)
  simp [results, Try.results36, go_sem, rsat]
  try go_simp
  refine hK _ ?_
  clear hK K
  exact ⟨ret_eq (right_val2 a b n ha hb hn hn1), (by repeat (first | (with_reducible exact Ext.refl _) | (with_reducible assumption) | (with_reducible refine Ext.alloc ?_ _) | (with_reducible refine Ext.drew ?_) | (with_reducible refine Ext.drewN ?_ _) | (with_reducible refine Ext.setCell ?_ (by simp; try omega) _) | (with_reducible refine Ext.setRow ?_ (by simp; try omega) _)))⟩
theorem right_out (a b n : Int) (ha : U64 a) (hb : U64 b) (hn : 128 ≤ n) (w : World) : Calls Try.prog 36 #[.agg #[.int .u64 a, .int .u64 b], .int .i64 n] w fun e w' => e = .returned (wide (shr (X a b) n)) ∧ Ext w w' := by
  go_enter Try.func36, Try.ntmps36
  go_wp2
  first | refine fin_ret rfl (fun K hK => ?_) | refine fin_norm rfl (fun K hK => ?_)
  simp [results, Try.results36, go_sem, rsat]
  try go_simp
  refine hK _ ?_
  clear hK K
  exact ⟨ret_eq (right_big a b n ha hb hn), (by repeat (first | (with_reducible exact Ext.refl _) | (with_reducible assumption) | (with_reducible refine Ext.alloc ?_ _) | (with_reducible refine Ext.drew ?_) | (with_reducible refine Ext.drewN ?_ _) | (with_reducible refine Ext.setCell ?_ (by simp; try omega) _) | (with_reducible refine Ext.setRow ?_ (by simp; try omega) _)))⟩
theorem right_none (a b n : Int) (ha : U64 a) (hb : U64 b) (hn : n ≤ 0) (w : World) : Calls Try.prog 36 #[.agg #[.int .u64 a, .int .u64 b], .int .i64 n] w fun e w' => e = .returned (wide (shr (X a b) n)) ∧ Ext w w' := by
  go_enter Try.func36, Try.ntmps36
  go_wp2
  first | refine fin_ret rfl (fun K hK => ?_) | refine fin_norm rfl (fun K hK => ?_)
  simp [results, Try.results36, go_sem, rsat]
  try go_simp
  refine hK _ ?_
  clear hK K
  exact ⟨ret_eq ((wide_X ha hb).symm.trans (right_le a b n hn)), (by repeat (first | (with_reducible exact Ext.refl _) | (with_reducible assumption) | (with_reducible refine Ext.alloc ?_ _) | (with_reducible refine Ext.drew ?_) | (with_reducible refine Ext.drewN ?_ _) | (with_reducible refine Ext.setCell ?_ (by simp; try omega) _) | (with_reducible refine Ext.setRow ?_ (by simp; try omega) _)))⟩
theorem right_c (a b n : Int) (ha : U64 a) (hb : U64 b) (w : World) : Calls Try.prog 36 #[.agg #[.int .u64 a, .int .u64 b], .int .i64 n] w fun e w' => e = .returned (wide (shr (X a b) n)) ∧ Ext w w' := by
  by_cases h : 0 < n
  · by_cases h1 : n < 64
    · exact right_mid a b n ha hb h h1 w
    · by_cases h2 : n < 128
      · exact right_far a b n ha hb (by omega) h2 w
      · exact right_out a b n ha hb (by omega) w
  · exact right_none a b n ha hb (by omega) w
theorem add_c (a b c d : Int) (ha : U64 a) (hb : U64 b) (hc : U64 c) (hd : U64 d) (w : World) : Calls Try.prog 23 #[.agg #[.int .u64 a, .int .u64 b], .agg #[.int .u64 c, .int .u64 d]] w fun e w' =>
    e = .returned (.tuple #[wide ((X a b + X c d) % 340282366920938463463374607431768211456), .bool (decide (X a b + X c d < 340282366920938463463374607431768211456))]) ∧ Ext w w' := by
  go_enter Try.func23, Try.ntmps23
  go_wp2
  all_goals
    first | refine fin_ret rfl (fun K hK => ?_) | refine fin_norm rfl (fun K hK => ?_)
    simp [results, Try.results23, go_sem, rsat]
    try go_simp
    refine hK _ ?_
    clear hK K
    refine ⟨ret_eq ?_, (by repeat (first | (with_reducible exact Ext.refl _) | (with_reducible assumption) | (with_reducible refine Ext.alloc ?_ _) | (with_reducible refine Ext.drew ?_) | (with_reducible refine Ext.drewN ?_ _) | (with_reducible refine Ext.setCell ?_ (by simp; try omega) _) | (with_reducible refine Ext.setRow ?_ (by simp; try omega) _)))⟩
    simp only [IntKind.wrap_u64] at *
    unfold U64 at *
    refine tup_wide ?_ ?_ ?_ <;> (unfold X; first | omega | (simp; omega))
theorem sub_val (a b c d : Int) (ha : U64 a) (hb : U64 b) (hc : U64 c) (hd : U64 d) (h : b < d) :
    Value.tuple #[.agg #[.int .u64 (IntKind.u64.wrap (IntKind.u64.wrap (a - c) - 1)), .int .u64 (IntKind.u64.wrap (b - d))], .bool (decide (0 ≤ cmpN (X a b) (X c d)))] = .tuple #[wide ((X a b + 340282366920938463463374607431768211456 - X c d) % 340282366920938463463374607431768211456), .bool (decide (X c d ≤ X a b))] := by
  simp only [IntKind.wrap_u64] at *
  unfold U64 at *
  refine tup_wide ?_ ?_ ?_
  · unfold X; omega
  · unfold X; omega
  · unfold cmpN; simp; split <;> (try split) <;> omega
theorem sub_val2 (a b c d : Int) (ha : U64 a) (hb : U64 b) (hc : U64 c) (hd : U64 d) (h : d ≤ b) :
    Value.tuple #[.agg #[.int .u64 (IntKind.u64.wrap (a - c)), .int .u64 (IntKind.u64.wrap (b - d))], .bool (decide (0 ≤ cmpN (X a b) (X c d)))] = .tuple #[wide ((X a b + 340282366920938463463374607431768211456 - X c d) % 340282366920938463463374607431768211456), .bool (decide (X c d ≤ X a b))] := by
  simp only [IntKind.wrap_u64] at *
  unfold U64 at *
  refine tup_wide ?_ ?_ ?_
  · unfold X; omega
  · unfold X; omega
  · unfold cmpN; simp; split <;> (try split) <;> omega

set_option maxRecDepth 100000 in
theorem sub_c (a b c d : Int) (ha : U64 a) (hb : U64 b) (hc : U64 c) (hd : U64 d) (w : World) : Calls Try.prog 34 #[.agg #[.int .u64 a, .int .u64 b], .agg #[.int .u64 c, .int .u64 d]] w fun e w' =>
    e = .returned (.tuple #[wide ((X a b + 340282366920938463463374607431768211456 - X c d) % 340282366920938463463374607431768211456), .bool (decide (X c d ≤ X a b))]) ∧ Ext w w' := by
  go_enter Try.func34, Try.ntmps34
  go_wp2_with fail
  ·
    refine wp_region_x 5 [1, 1, 1, 1, 0] (by kernel_rfl) (by kernel_rfl) (by kernel_rfl) ?_
    simp only [List.take_succ_cons, List.take_zero, List.drop_succ_cons, List.drop_zero]
    refine hl_quiet (fun K hK => ?_)
    go_simp
    refine hK _ ?_
    clear hK K
    refine hl_quiet (fun K hK => ?_)
    go_simp
    refine hK _ ?_
    clear hK K
    refine hl_quiet (fun K hK => ?_)
    go_simp
    refine hK _ ?_
    clear hK K
    refine hl_quiet (fun K hK => ?_)
    go_simp
    first
      | (refine hK _ ?_; clear hK K)
      | (apply Exists.intro; refine ⟨fun x => ?_, hK _ ?_⟩
         · (exact cmp_c _ _ _ _ ha hb hc hd _)
         clear hK K)
    refine hl_pure (fun K hK => ?_)
    go_simp
    refine hK _ ?_
    clear hK K
    refine hl_nil ?_
    intro w1 hxw1 K hK
    have xw1 : Ext w w1 := Ext.trans (by repeat (first | (with_reducible exact Ext.refl _) | (with_reducible assumption) | (with_reducible refine Ext.alloc ?_ _) | (with_reducible refine Ext.drew ?_) | (with_reducible refine Ext.drewN ?_ _) | (with_reducible refine Ext.setCell ?_ (by simp; try omega) _) | (with_reducible refine Ext.setRow ?_ (by simp; try omega) _))) hxw1
    obtain ⟨hcw1, hfw1⟩ := hxw1.facts
    have hsw1 := hxw1.size
    try simp only [World.size_drew, World.size_alloc, World.size_setCell] at hsw1 hcw1 hfw1
    have hlw1_0 : w.heap.size < w1.heap.size := by omega
    have hlw1_1 : w.heap.size + 1 < w1.heap.size := by omega
    have hlw1_2 : w.heap.size + 1 + 1 < w1.heap.size := by omega
    have hlw1_3 : w.heap.size + 1 + 1 + 1 < w1.heap.size := by omega
    go_wp2
    first | refine fin_ret rfl (fun K hK => ?_) | refine fin_norm rfl (fun K hK => ?_)
    simp [results, Try.results34, go_sem, rsat]
    try go_simp
    refine hK _ ?_
    clear hK K
    exact ⟨ret_eq (sub_val a b c d ha hb hc hd (by assumption)), (by repeat (first | (with_reducible exact Ext.refl _) | (with_reducible assumption) | (with_reducible refine Ext.alloc ?_ _) | (with_reducible refine Ext.drew ?_) | (with_reducible refine Ext.drewN ?_ _) | (with_reducible refine Ext.setCell ?_ (by simp; try omega) _) | (with_reducible refine Ext.setRow ?_ (by simp; try omega) _)))⟩
  ·
    refine wp_region_x 5 [1, 1, 1, 1, 0] (by kernel_rfl) (by kernel_rfl) (by kernel_rfl) ?_
    simp only [List.take_succ_cons, List.take_zero, List.drop_succ_cons, List.drop_zero]
    refine hl_quiet (fun K hK => ?_)
    go_simp
    refine hK _ ?_
    clear hK K
    refine hl_quiet (fun K hK => ?_)
    go_simp
    refine hK _ ?_
    clear hK K
    refine hl_quiet (fun K hK => ?_)
    go_simp
    refine hK _ ?_
    clear hK K
    refine hl_quiet (fun K hK => ?_)
    go_simp
    first
      | (refine hK _ ?_; clear hK K)
      | (apply Exists.intro; refine ⟨fun x => ?_, hK _ ?_⟩
         · (exact cmp_c _ _ _ _ ha hb hc hd _)
         clear hK K)
    refine hl_pure (fun K hK => ?_)
    go_simp
    refine hK _ ?_
    clear hK K
    refine hl_nil ?_
    intro w1 hxw1 K hK
    have xw1 : Ext w w1 := Ext.trans (by repeat (first | (with_reducible exact Ext.refl _) | (with_reducible assumption) | (with_reducible refine Ext.alloc ?_ _) | (with_reducible refine Ext.drew ?_) | (with_reducible refine Ext.drewN ?_ _) | (with_reducible refine Ext.setCell ?_ (by simp; try omega) _) | (with_reducible refine Ext.setRow ?_ (by simp; try omega) _))) hxw1
    obtain ⟨hcw1, hfw1⟩ := hxw1.facts
    have hsw1 := hxw1.size
    try simp only [World.size_drew, World.size_alloc, World.size_setCell] at hsw1 hcw1 hfw1
    have hlw1_0 : w.heap.size < w1.heap.size := by omega
    have hlw1_1 : w.heap.size + 1 < w1.heap.size := by omega
    have hlw1_2 : w.heap.size + 1 + 1 < w1.heap.size := by omega
    have hlw1_3 : w.heap.size + 1 + 1 + 1 < w1.heap.size := by omega
    go_wp2
    first | refine fin_ret rfl (fun K hK => ?_) | refine fin_norm rfl (fun K hK => ?_)
    simp [results, Try.results34, go_sem, rsat]
    try go_simp
    refine hK _ ?_
    clear hK K
    exact ⟨ret_eq (sub_val2 a b c d ha hb hc hd (by assumption)), (by repeat (first | (with_reducible exact Ext.refl _) | (with_reducible assumption) | (with_reducible refine Ext.alloc ?_ _) | (with_reducible refine Ext.drew ?_) | (with_reducible refine Ext.drewN ?_ _) | (with_reducible refine Ext.setCell ?_ (by simp; try omega) _) | (with_reducible refine Ext.setRow ?_ (by simp; try omega) _)))⟩
end Go.Proofs.Ytgjaiikfgejgoaa
