/- The walks of package band and of the reference of layer 20: Clip, In, Touches. No condition. -/
import Derived.Test.YtmgcnjcdbidcfaaSy
namespace Go.Proofs.Ytmgcnjcdbidcfaa
open Go.RowKit
attribute [local go_sem] Later.cell QUpon_value QUpon_enter MUpon_value

def clipT (lo hi p : Int) : Value := if hi < lo then .tuple #[.int .i64 0, .bool false] else .tuple #[.int .i64 (min (max p lo) hi), .bool true]
theorem tup2_eq {a b : Int} {c d : Bool} (h1 : a = b) (h2 : c = d) : Ending.returned (.tuple #[.int .i64 a, .bool c]) = Ending.returned (.tuple #[.int .i64 b, .bool d]) := by rw [h1, h2]
theorem bool_eq {a b : Bool} (h : a = b) : Ending.returned (.bool a) = Ending.returned (.bool b) := by rw [h]
theorem clip_c (lo hi p : Int) (w : World) : Calls Try.prog 40 #[.agg #[.int .i64 lo, .int .i64 hi], .int .i64 p] w fun e w' => e = .returned (clipT lo hi p) ∧ Ext w w' := by
  unfold clipT
  by_cases h : hi < lo
  · rw [if_pos h]
    go_enter Try.func40, Try.ntmps40
    go_wp2_with fail
    first | refine fin_ret rfl (fun K hK => ?_) | refine fin_norm rfl (fun K hK => ?_)
    simp [results, Try.results40, go_sem, rsat]
    try go_simp
    refine hK _ ?_
    clear hK K
    exact ⟨rfl, (by repeat (first | (with_reducible exact Ext.refl _) | (with_reducible assumption) | (with_reducible refine Ext.alloc ?_ _) | (with_reducible refine Ext.drew ?_) | (with_reducible refine Ext.drewN ?_ _) | (with_reducible refine Ext.setCell ?_ (by simp; try omega) _) | (with_reducible refine Ext.setRow ?_ (by simp; try omega) _)))⟩
  · rw [if_neg h]
    go_enter Try.func40, Try.ntmps40
    go_wp2_with fail
    all_goals
      first | refine fin_ret rfl (fun K hK => ?_) | refine fin_norm rfl (fun K hK => ?_)
      simp [results, Try.results40, go_sem, rsat]
      try go_simp
      refine hK _ ?_
      clear hK K
      exact ⟨tup2_eq (by omega) rfl, (by repeat (first | (with_reducible exact Ext.refl _) | (with_reducible assumption) | (with_reducible refine Ext.alloc ?_ _) | (with_reducible refine Ext.drew ?_) | (with_reducible refine Ext.drewN ?_ _) | (with_reducible refine Ext.setCell ?_ (by simp; try omega) _) | (with_reducible refine Ext.setRow ?_ (by simp; try omega) _)))⟩
def inB (lo hi p : Int) : Bool := decide (lo ≤ p ∧ p ≤ hi)
theorem clipT_in (lo hi p : Int) : (hi < lo ∧ clipT lo hi p = .tuple #[.int .i64 0, .bool false] ∧ inB lo hi p = false) ∨ (∃ x, clipT lo hi p = .tuple #[.int .i64 x, .bool true] ∧ (x == p) = inB lo hi p) := by
  unfold clipT inB
  by_cases h : hi < lo
  · exact .inl ⟨h, if_pos h, decide_eq_false (by omega)⟩
  · refine .inr ⟨_, if_neg h, ?_⟩
    rw [Bool.eq_iff_iff, beq_iff_eq, decide_eq_true_eq]
    omega
theorem in_c (lo hi p : Int) (w : World) : Calls Try.prog 27 #[.agg #[.int .i64 lo, .int .i64 hi], .int .i64 p] w fun e w' => e = .returned (.bool (inB lo hi p)) ∧ Ext w w' := by
  have C := clip_c lo hi p
  rcases clipT_in lo hi p with ⟨_, h2, h3⟩ | ⟨x, h2, h3⟩
  · rw [h2] at C
    rw [h3]
    have HC := Lib.hid C
    clear C h2 h3
    go_enter Try.func27, Try.ntmps27
    go_wp2_with fail
    refine (HC.out _).mono ?_
    rintro e w1 ⟨rfl, hxw1⟩
    have xw1 : Ext w w1 := Ext.trans (by repeat (first | (with_reducible exact Ext.refl _) | (with_reducible assumption) | (with_reducible refine Ext.alloc ?_ _) | (with_reducible refine Ext.drew ?_) | (with_reducible refine Ext.drewN ?_ _) | (with_reducible refine Ext.setCell ?_ (by simp; try omega) _) | (with_reducible refine Ext.setRow ?_ (by simp; try omega) _))) hxw1
    have lw1 := xw1.size
    go_wp2_with fail
    first | refine fin_ret rfl (fun K hK => ?_) | refine fin_norm rfl (fun K hK => ?_)
    simp [results, Try.results27, go_sem, rsat]
    try go_simp
    refine hK _ ?_
    clear hK K
    exact ⟨rfl, (by repeat (first | (with_reducible exact Ext.refl _) | (with_reducible assumption) | (with_reducible refine Ext.alloc ?_ _) | (with_reducible refine Ext.drew ?_) | (with_reducible refine Ext.drewN ?_ _) | (with_reducible refine Ext.setCell ?_ (by simp; try omega) _) | (with_reducible refine Ext.setRow ?_ (by simp; try omega) _)))⟩
  · rw [h2] at C
    rw [← h3]
    have HC := Lib.hid C
    clear C h2 h3
    go_enter Try.func27, Try.ntmps27
    go_wp2_with fail
    refine (HC.out _).mono ?_
    rintro e w1 ⟨rfl, hxw1⟩
    have xw1 : Ext w w1 := Ext.trans (by repeat (first | (with_reducible exact Ext.refl _) | (with_reducible assumption) | (with_reducible refine Ext.alloc ?_ _) | (with_reducible refine Ext.drew ?_) | (with_reducible refine Ext.drewN ?_ _) | (with_reducible refine Ext.setCell ?_ (by simp; try omega) _) | (with_reducible refine Ext.setRow ?_ (by simp; try omega) _))) hxw1
    have lw1 := xw1.size
    go_wp2_with fail
    first | refine fin_ret rfl (fun K hK => ?_) | refine fin_norm rfl (fun K hK => ?_)
    simp [results, Try.results27, go_sem, rsat]
    try go_simp
    refine hK _ ?_
    clear hK K
    exact ⟨rfl, (by repeat (first | (with_reducible exact Ext.refl _) | (with_reducible assumption) | (with_reducible refine Ext.alloc ?_ _) | (with_reducible refine Ext.drew ?_) | (with_reducible refine Ext.drewN ?_ _) | (with_reducible refine Ext.setCell ?_ (by simp; try omega) _) | (with_reducible refine Ext.setRow ?_ (by simp; try omega) _)))⟩
theorem rin_c (lo hi p : Int) (w : World) : Calls Try.prog 28 #[.agg #[.int .i64 lo, .int .i64 hi], .int .i64 p] w fun e w' => e = .returned (.bool (inB lo hi p)) ∧ Ext w w' := by
  by_cases h : lo ≤ p
  · have e : inB lo hi p = decide (p ≤ hi) := by unfold inB; rw [decide_eq_decide]; omega
    rw [e]
    clear e
    go_enter Try.func28, Try.ntmps28
    go_wp2_with fail
    first | refine fin_ret rfl (fun K hK => ?_) | refine fin_norm rfl (fun K hK => ?_)
    simp [results, Try.results28, go_sem, rsat]
    try go_simp
    refine hK _ ?_
    clear hK K
    exact ⟨rfl, (by repeat (first | (with_reducible exact Ext.refl _) | (with_reducible assumption) | (with_reducible refine Ext.alloc ?_ _) | (with_reducible refine Ext.drew ?_) | (with_reducible refine Ext.drewN ?_ _) | (with_reducible refine Ext.setCell ?_ (by simp; try omega) _) | (with_reducible refine Ext.setRow ?_ (by simp; try omega) _)))⟩
  · have e : inB lo hi p = false := decide_eq_false (by omega)
    rw [e]
    clear e
    go_enter Try.func28, Try.ntmps28
    go_wp2_with fail
    first | refine fin_ret rfl (fun K hK => ?_) | refine fin_norm rfl (fun K hK => ?_)
    simp [results, Try.results28, go_sem, rsat]
    try go_simp
    refine hK _ ?_
    clear hK K
    exact ⟨rfl, (by repeat (first | (with_reducible exact Ext.refl _) | (with_reducible assumption) | (with_reducible refine Ext.alloc ?_ _) | (with_reducible refine Ext.drew ?_) | (with_reducible refine Ext.drewN ?_ _) | (with_reducible refine Ext.setCell ?_ (by simp; try omega) _) | (with_reducible refine Ext.setRow ?_ (by simp; try omega) _)))⟩
def touchB (lo hi bid ask : Int) : Bool := (!(bid == 0) && (bid == hi)) || (!(ask == 0) && (ask == lo))
end Go.Proofs.Ytmgcnjcdbidcfaa
