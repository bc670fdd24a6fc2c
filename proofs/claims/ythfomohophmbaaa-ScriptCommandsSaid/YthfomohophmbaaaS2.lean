/- Steps (layer 29): which are right, and a step's bytes. No condition. -/
import Derived.Test.YthfomohophmbaaaS1
import Derived.Test.YthfomohophmbaaaO4
namespace Go.Proofs.Ythfomohophmbaaa
open Go.RowKit
attribute [local go_sem] Later.cell QUpon_value QUpon_enter MUpon_value run_eql_slice_nil
attribute [local go_sem ↓ high] loadStp_is storeStp_is
attribute [local go_sem] run_loadStp run_loadStp_at run_storeStp one_int one_bool one_slice one_ptr one_str setRow_new setRow_past cell_ca frozen_ca cellsAt_alloc_at cellsAt_alloc_past cellsAt_drew cellsAt_later cellsAt_setCell cellsAt_set_same cellsAt_setRow_same cellsAt_setRow_far subAt_alloc subAt_drew subAt_later subAt_setCell subAt_setRow ltn_2 ltn_3 ltn_4 ltn_5
/-- Which steps are right. -/
def rightS (k s n : Int) (len : Nat) : Bool := if k = 1 then decide (s = 0 ∧ n = 0 ∧ len ≤ 64) else if k = 2 ∨ k = 3 then decide (s = 0 ∧ len = 0) else if k = 4 then decide (0 ≤ s ∧ s ≤ 255 ∧ len = 0) else false
def formS (k s n : Int) (xs : List Int) : List Int := if k = 1 then k :: (numB xs.length ++ xs) else if k = 4 then k :: s :: intB n else k :: intB n
theorem natz {n : Nat} : ((n : Int) == 0) = decide (n = 0) := by
  by_cases h : n = 0
  · simp [h]
  · rw [decide_eq_false h]; exact beq_eq_false_iff_ne.2 (by omega)
set_option maxHeartbeats 4000000 in
set_option maxRecDepth 100000 in
theorem sright_c (k s n : Int) (A : Option Addr) (c m : Nat) (w : World) : Calls Try.prog 11 #[.agg #[.int .i64 k, .int .i64 s, .int .i64 n, .slice A m c]] w fun e w' => e = .returned (.bool (rightS k s n m)) ∧ Ext w w' := by
  have hz : ((m : Int) == 0) = decide (m = 0) := natz
  obtain ⟨z, hz2⟩ : ∃ z, z = decide (m = 0) := ⟨_, rfl⟩
  rw [← hz2] at hz
  by_cases k1 : k = 1
  · subst k1
    have hR : rightS 1 s n m = ((s == 0) && ((n == 0) && decide (m ≤ 64))) := by
      unfold rightS; rw [if_pos rfl]; rw [Bool.eq_iff_iff]; simp
    rw [hR]
    clear hR hz2
    go_enter Try.func11, Try.ntmps11
    go_wp2_with fail
    all_goals
      first | refine fin_ret rfl (fun K hK => ?_) | refine fin_norm rfl (fun K hK => ?_)
      simp [results, Try.results11, go_sem, rsat]
      try go_simp
      refine hK _ ?_
      clear hK K
      exact ⟨by simp [*]; try omega, (by repeat (first | (with_reducible exact Ext.refl _) | (with_reducible assumption) | (with_reducible refine Ext.alloc ?_ _) | (with_reducible refine Ext.drew ?_) | (with_reducible refine Ext.drewN ?_ _) | (with_reducible refine Ext.setCell ?_ (by simp; try omega) _) | (with_reducible refine Ext.setRow ?_ (by simp; try omega) _)))⟩
  by_cases k23 : k = 2 ∨ k = 3
  · have hR : rightS k s n m = (z && (s == 0)) := by
      unfold rightS; rw [if_neg k1, if_pos k23, hz2]; rw [Bool.eq_iff_iff]; simp [and_comm]
    rw [hR]
    clear hR hz2
    cases z
    · rcases k23 with rfl | rfl
      ·
        go_enter Try.func11, Try.ntmps11
        go_wp2_with fail
        all_goals
          first | refine fin_ret rfl (fun K hK => ?_) | refine fin_norm rfl (fun K hK => ?_)
          simp [results, Try.results11, go_sem, rsat]
          try go_simp
          refine hK _ ?_
          clear hK K
          exact ⟨by simp [*], (by repeat (first | (with_reducible exact Ext.refl _) | (with_reducible assumption) | (with_reducible refine Ext.alloc ?_ _) | (with_reducible refine Ext.drew ?_) | (with_reducible refine Ext.drewN ?_ _) | (with_reducible refine Ext.setCell ?_ (by simp; try omega) _) | (with_reducible refine Ext.setRow ?_ (by simp; try omega) _)))⟩
      ·
        go_enter Try.func11, Try.ntmps11
        go_wp2_with fail
        all_goals
          first | refine fin_ret rfl (fun K hK => ?_) | refine fin_norm rfl (fun K hK => ?_)
          simp [results, Try.results11, go_sem, rsat]
          try go_simp
          refine hK _ ?_
          clear hK K
          exact ⟨by simp [*], (by repeat (first | (with_reducible exact Ext.refl _) | (with_reducible assumption) | (with_reducible refine Ext.alloc ?_ _) | (with_reducible refine Ext.drew ?_) | (with_reducible refine Ext.drewN ?_ _) | (with_reducible refine Ext.setCell ?_ (by simp; try omega) _) | (with_reducible refine Ext.setRow ?_ (by simp; try omega) _)))⟩
    · rcases k23 with rfl | rfl
      ·
        go_enter Try.func11, Try.ntmps11
        go_wp2_with fail
        all_goals
          first | refine fin_ret rfl (fun K hK => ?_) | refine fin_norm rfl (fun K hK => ?_)
          simp [results, Try.results11, go_sem, rsat]
          try go_simp
          refine hK _ ?_
          clear hK K
          exact ⟨by simp [*], (by repeat (first | (with_reducible exact Ext.refl _) | (with_reducible assumption) | (with_reducible refine Ext.alloc ?_ _) | (with_reducible refine Ext.drew ?_) | (with_reducible refine Ext.drewN ?_ _) | (with_reducible refine Ext.setCell ?_ (by simp; try omega) _) | (with_reducible refine Ext.setRow ?_ (by simp; try omega) _)))⟩
      ·
        go_enter Try.func11, Try.ntmps11
        go_wp2_with fail
        all_goals
          first | refine fin_ret rfl (fun K hK => ?_) | refine fin_norm rfl (fun K hK => ?_)
          simp [results, Try.results11, go_sem, rsat]
          try go_simp
          refine hK _ ?_
          clear hK K
          exact ⟨by simp [*], (by repeat (first | (with_reducible exact Ext.refl _) | (with_reducible assumption) | (with_reducible refine Ext.alloc ?_ _) | (with_reducible refine Ext.drew ?_) | (with_reducible refine Ext.drewN ?_ _) | (with_reducible refine Ext.setCell ?_ (by simp; try omega) _) | (with_reducible refine Ext.setRow ?_ (by simp; try omega) _)))⟩
  by_cases k4 : k = 4
  · subst k4
    have hR : rightS 4 s n m = (z && (decide (0 ≤ s) && decide (s ≤ 255))) := by
      unfold rightS; rw [if_neg k1, if_neg k23, if_pos rfl, hz2]; rw [Bool.eq_iff_iff]; simp [and_comm, and_assoc]
    rw [hR]
    clear hR hz2
    cases z
    ·
      go_enter Try.func11, Try.ntmps11
      go_wp2_with fail
      all_goals
        first | refine fin_ret rfl (fun K hK => ?_) | refine fin_norm rfl (fun K hK => ?_)
        simp [results, Try.results11, go_sem, rsat]
        try go_simp
        refine hK _ ?_
        clear hK K
        exact ⟨by simp [*]; try omega, (by repeat (first | (with_reducible exact Ext.refl _) | (with_reducible assumption) | (with_reducible refine Ext.alloc ?_ _) | (with_reducible refine Ext.drew ?_) | (with_reducible refine Ext.drewN ?_ _) | (with_reducible refine Ext.setCell ?_ (by simp; try omega) _) | (with_reducible refine Ext.setRow ?_ (by simp; try omega) _)))⟩
    ·
      go_enter Try.func11, Try.ntmps11
      go_wp2_with fail
      all_goals
        first | refine fin_ret rfl (fun K hK => ?_) | refine fin_norm rfl (fun K hK => ?_)
        simp [results, Try.results11, go_sem, rsat]
        try go_simp
        refine hK _ ?_
        clear hK K
        exact ⟨by simp [*]; try omega, (by repeat (first | (with_reducible exact Ext.refl _) | (with_reducible assumption) | (with_reducible refine Ext.alloc ?_ _) | (with_reducible refine Ext.drew ?_) | (with_reducible refine Ext.drewN ?_ _) | (with_reducible refine Ext.setCell ?_ (by simp; try omega) _) | (with_reducible refine Ext.setRow ?_ (by simp; try omega) _)))⟩
  · have hR : rightS k s n m = false := by
      unfold rightS; rw [if_neg k1, if_neg k23, if_neg k4]
    rw [hR]
    have q1 : (k == 1) = false := beq_eq_false_iff_ne.2 k1
    have q2 : (k == 2) = false := beq_eq_false_iff_ne.2 (fun h => k23 (.inl h))
    have q3 : (k == 3) = false := beq_eq_false_iff_ne.2 (fun h => k23 (.inr h))
    have q4 : (k == 4) = false := beq_eq_false_iff_ne.2 k4
    clear hR hz2 k1 k23 k4
    go_enter Try.func11, Try.ntmps11
    go_wp2_with fail
    all_goals
      first | refine fin_ret rfl (fun K hK => ?_) | refine fin_norm rfl (fun K hK => ?_)
      simp [results, Try.results11, go_sem, rsat]
      try go_simp
      refine hK _ ?_
      clear hK K
      exact ⟨rfl, (by repeat (first | (with_reducible exact Ext.refl _) | (with_reducible assumption) | (with_reducible refine Ext.alloc ?_ _) | (with_reducible refine Ext.drew ?_) | (with_reducible refine Ext.drewN ?_ _) | (with_reducible refine Ext.setCell ?_ (by simp; try omega) _) | (with_reducible refine Ext.setRow ?_ (by simp; try omega) _)))⟩
set_option maxHeartbeats 4000000 in
set_option maxRecDepth 100000 in
theorem rright29_c (k s n : Int) (A : Option Addr) (c m : Nat) (w : World) : Calls Try.prog 12 #[.agg #[.int .i64 k, .int .i64 s, .int .i64 n, .slice A m c]] w fun e w' => e = .returned (.bool (rightS k s n m)) ∧ Ext w w' := by
  have hz : ((m : Int) == 0) = decide (m = 0) := natz
  obtain ⟨z, hz2⟩ : ∃ z, z = decide (m = 0) := ⟨_, rfl⟩
  rw [← hz2] at hz
  by_cases k1 : k = 1
  · subst k1
    have hR : rightS 1 s n m = ((s == 0) && ((n == 0) && decide (m ≤ 64))) := by
      unfold rightS; rw [if_pos rfl]; rw [Bool.eq_iff_iff]; simp
    rw [hR]
    clear hR hz2
    go_enter Try.func12, Try.ntmps12
    go_wp2_with fail
    all_goals
      first | refine fin_ret rfl (fun K hK => ?_) | refine fin_norm rfl (fun K hK => ?_)
      simp [results, Try.results12, go_sem, rsat]
      try go_simp
      refine hK _ ?_
      clear hK K
      exact ⟨by simp [*]; try omega, (by repeat (first | (with_reducible exact Ext.refl _) | (with_reducible assumption) | (with_reducible refine Ext.alloc ?_ _) | (with_reducible refine Ext.drew ?_) | (with_reducible refine Ext.drewN ?_ _) | (with_reducible refine Ext.setCell ?_ (by simp; try omega) _) | (with_reducible refine Ext.setRow ?_ (by simp; try omega) _)))⟩
  by_cases k23 : k = 2 ∨ k = 3
  · have hR : rightS k s n m = ((s == 0) && z) := by
      unfold rightS; rw [if_neg k1, if_pos k23, hz2]; rw [Bool.eq_iff_iff]; simp
    rw [hR]
    clear hR hz2
    rcases k23 with rfl | rfl
    ·
      go_enter Try.func12, Try.ntmps12
      go_wp2_with fail
      all_goals
        first | refine fin_ret rfl (fun K hK => ?_) | refine fin_norm rfl (fun K hK => ?_)
        simp [results, Try.results12, go_sem, rsat]
        try go_simp
        refine hK _ ?_
        clear hK K
        exact ⟨by simp [*], (by repeat (first | (with_reducible exact Ext.refl _) | (with_reducible assumption) | (with_reducible refine Ext.alloc ?_ _) | (with_reducible refine Ext.drew ?_) | (with_reducible refine Ext.drewN ?_ _) | (with_reducible refine Ext.setCell ?_ (by simp; try omega) _) | (with_reducible refine Ext.setRow ?_ (by simp; try omega) _)))⟩
    ·
      go_enter Try.func12, Try.ntmps12
      go_wp2_with fail
      all_goals
        first | refine fin_ret rfl (fun K hK => ?_) | refine fin_norm rfl (fun K hK => ?_)
        simp [results, Try.results12, go_sem, rsat]
        try go_simp
        refine hK _ ?_
        clear hK K
        exact ⟨by simp [*], (by repeat (first | (with_reducible exact Ext.refl _) | (with_reducible assumption) | (with_reducible refine Ext.alloc ?_ _) | (with_reducible refine Ext.drew ?_) | (with_reducible refine Ext.drewN ?_ _) | (with_reducible refine Ext.setCell ?_ (by simp; try omega) _) | (with_reducible refine Ext.setRow ?_ (by simp; try omega) _)))⟩
  by_cases k4 : k = 4
  · subst k4
    have hR : rightS 4 s n m = (decide (0 ≤ s) && (decide (s ≤ 255) && z)) := by
      unfold rightS; rw [if_neg k1, if_neg k23, if_pos rfl, hz2]; rw [Bool.eq_iff_iff]; simp
    rw [hR]
    clear hR hz2
    go_enter Try.func12, Try.ntmps12
    go_wp2_with fail
    all_goals
      first | refine fin_ret rfl (fun K hK => ?_) | refine fin_norm rfl (fun K hK => ?_)
      simp [results, Try.results12, go_sem, rsat]
      try go_simp
      refine hK _ ?_
      clear hK K
      exact ⟨by simp [*]; try omega, (by repeat (first | (with_reducible exact Ext.refl _) | (with_reducible assumption) | (with_reducible refine Ext.alloc ?_ _) | (with_reducible refine Ext.drew ?_) | (with_reducible refine Ext.drewN ?_ _) | (with_reducible refine Ext.setCell ?_ (by simp; try omega) _) | (with_reducible refine Ext.setRow ?_ (by simp; try omega) _)))⟩
  · have hR : rightS k s n m = false := by
      unfold rightS; rw [if_neg k1, if_neg k23, if_neg k4]
    rw [hR]
    have q1 : (k == 1) = false := beq_eq_false_iff_ne.2 k1
    have q2 : (k == 2) = false := beq_eq_false_iff_ne.2 (fun h => k23 (.inl h))
    have q3 : (k == 3) = false := beq_eq_false_iff_ne.2 (fun h => k23 (.inr h))
    have q4 : (k == 4) = false := beq_eq_false_iff_ne.2 k4
    clear hR hz2 k1 k23 k4
    go_enter Try.func12, Try.ntmps12
    go_wp2_with fail
    all_goals
      first | refine fin_ret rfl (fun K hK => ?_) | refine fin_norm rfl (fun K hK => ?_)
      simp [results, Try.results12, go_sem, rsat]
      try go_simp
      refine hK _ ?_
      clear hK K
      exact ⟨rfl, (by repeat (first | (with_reducible exact Ext.refl _) | (with_reducible assumption) | (with_reducible refine Ext.alloc ?_ _) | (with_reducible refine Ext.drew ?_) | (with_reducible refine Ext.drewN ?_ _) | (with_reducible refine Ext.setCell ?_ (by simp; try omega) _) | (with_reducible refine Ext.setRow ?_ (by simp; try omega) _)))⟩
end Go.Proofs.Ythfomohophmbaaa
