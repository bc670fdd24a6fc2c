/- Laws of layer 19: what must come at any rate, moves, nil windows. No condition. -/
import Derived.Test.YtgjaiikfgejgoaaV6
namespace Go.Proofs.Ytgjaiikfgejgoaa
open Go.RowKit
attribute [local go_sem] Later.cell QUpon_value QUpon_enter MUpon_value
set_option maxHeartbeats 2000000 in
set_option maxRecDepth 100000 in
theorem alive_c (w : World) : Calls Try.prog 7 #[] w fun e w' => e = .returned (.bool true) ∧ Ext w w' := by
  go_enter Try.func7, Try.ntmps7
  go_wp2_with fail
  refine (new_c 5 1 90 (by decide) (by decide) (by decide) _).mono ?_
  rintro e w1 ⟨hx1, (⟨hb, _⟩ | ⟨_, g, hg, rfl, hA1⟩)⟩
  · exact absurd hb (by decide)
  have hW1 : Win w1 g none 5 1 90 0 [] := ⟨by simp, by simp [ablk], 0, hA1, Row.nil _ _ _ _⟩
  have hC1 : Chg w w1 [] := Chg.of_ext hx1 []
  go_wp2_with fail
  refine (wadd_c g none 5 1 90 0 [] 1 100 1 (by decide) (by decide) (by decide) _ hW1 (by decide)).mono ?_
  rintro e w2 (⟨hb, _⟩ | ⟨_, rfl, A2, hW2, hC2, hf2⟩)
  · exact absurd hb (by decide)
  have hC2' : Chg w w2 [] := hC1.step hC2 (fun i hi => by simp [ablk] at hi; right; omega)
  go_wp2_with fail
  refine (wadd_c g A2 5 1 90 1 ([] ++ [⟨1, 100, 1⟩]) 2 104 3 (by decide) (by decide) (by decide) _ hW2 (by decide)).mono ?_
  rintro e w3 (⟨hb, _⟩ | ⟨_, rfl, A3, hW3, hC3, hf3⟩)
  · exact absurd hb (by decide)
  have hC3' : Chg w w3 [] := hC2'.step hC3 (fun i hi => by
    right
    rcases List.mem_cons.1 hi with h | h
    · omega
    · rcases hf2 i h with h1 | h1
      · simp [ablk] at h1
      · have := hx1.size; omega)
  go_wp2_with fail
  refine (mean_c g A3 5 1 90 2 ([] ++ [⟨1, 100, 1⟩] ++ [⟨2, 104, 3⟩]) 3 (by decide) (by decide) (by decide) _ hW3 (by decide)).mono ?_
  rintro e w4 (⟨hb, _⟩ | ⟨_, rfl, A4, hb4, hW4, hC4⟩)
  · exact absurd hb (by decide)
  have hC4' : Chg w w4 [] := hC3'.step hC4 (fun i hi => by simp at hi; right; omega)
  have x4 : Ext w w4 := hC4'.ext (by simp)
  rw [show meanR 1 (dropT (3 - 5) ([] ++ [⟨1, 100, 1⟩] ++ [⟨2, 104, 3⟩])) = .tuple #[.int .i64 103, .bool true] from rfl]
  go_wp2_with fail
  refine (ref_c g A4 5 1 90 3 _ _ hW4).mono ?_
  rintro e w5 ⟨rfl, hxw5⟩
  have xw5 : Ext w w5 := Ext.trans (by repeat (first | (with_reducible exact Ext.refl _) | (with_reducible assumption) | (with_reducible refine Ext.alloc ?_ _) | (with_reducible refine Ext.drew ?_) | (with_reducible refine Ext.drewN ?_ _) | (with_reducible refine Ext.setCell ?_ (by simp; try omega) _) | (with_reducible refine Ext.setRow ?_ (by simp; try omega) _))) hxw5
  have lw5 := xw5.size
  go_wp2_with fail
  refine (len_w g A4 5 1 90 3 _ _ (hW4.ext (by assumption))).mono ?_
  rintro e w6 ⟨rfl, hxw6⟩
  have xw6 : Ext w w6 := Ext.trans (by repeat (first | (with_reducible exact Ext.refl _) | (with_reducible assumption) | (with_reducible refine Ext.alloc ?_ _) | (with_reducible refine Ext.drew ?_) | (with_reducible refine Ext.drewN ?_ _) | (with_reducible refine Ext.setCell ?_ (by simp; try omega) _) | (with_reducible refine Ext.setRow ?_ (by simp; try omega) _))) hxw6
  have lw6 := xw6.size
  rw [show (dropT (3 - 5) ([] ++ [⟨1, 100, 1⟩] ++ [⟨2, 104, 3⟩])).length = 2 by decide]
  go_wp2_with fail
  first | refine fin_ret rfl (fun K hK => ?_) | refine fin_norm rfl (fun K hK => ?_)
  simp [results, Try.results7, go_sem, rsat]
  try go_simp
  refine hK _ ?_
  clear hK K
  exact ⟨rfl, (by repeat (first | (with_reducible exact Ext.refl _) | (with_reducible assumption) | (with_reducible refine Ext.alloc ?_ _) | (with_reducible refine Ext.drew ?_) | (with_reducible refine Ext.drewN ?_ _) | (with_reducible refine Ext.setCell ?_ (by simp; try omega) _) | (with_reducible refine Ext.setRow ?_ (by simp; try omega) _)))⟩
theorem pricedB_one (a : Int) : pricedB a 1 = decide (1 ≤ a ∧ a ≤ 1099511627776) := by
  unfold pricedB
  by_cases h : 1 ≤ a ∧ a ≤ 1099511627776
  · rw [decide_eq_true h, decide_eq_true ((priceI_iff _ _).2 (by omega))]
  · rw [decide_eq_false h, decide_eq_false (fun h1 => h (by have := (priceI_iff _ _).1 h1; omega))]
theorem movedB_eq (a b bps : Int) : movedB a b bps = decide ((1 ≤ a ∧ a ≤ 1099511627776) ∧ (1 ≤ b ∧ b ≤ 1099511627776) ∧ 0 ≤ bps ∧ bps ≤ 9999 ∧ a ≠ b ∧ a * bps ≤ absI a b * 10000) := by
  unfold movedB
  rw [pricedB_one, pricedB_one, ← Bool.decide_and, ← Bool.decide_and]
  simp only [and_assoc]
set_option maxHeartbeats 4000000 in
theorem rmoved_c (a b bps : Int) (ha : I64 a) (hb : I64 b) (hp : I64 bps) (w : World) : Calls Try.prog 12 #[.int .i64 a, .int .i64 b, .int .i64 bps] w fun e w' => e = .returned (.bool (movedB a b bps)) ∧ Ext w w' := by
  rw [movedB_eq]
  by_cases h : (1 ≤ a ∧ a ≤ 1099511627776) ∧ (1 ≤ b ∧ b ≤ 1099511627776) ∧ 0 ≤ bps ∧ bps ≤ 9999 ∧ a ≠ b
  · obtain ⟨h1, h2, h3, h4, h5⟩ := h
    have e5 : (a == b) = false := beq_eq_false_iff_ne.2 h5
    have hm0 : 0 ≤ a * bps := Int.mul_nonneg (by omega) (by omega)
    have hm1 : a * bps ≤ 1099511627776 * 9999 := Int.mul_le_mul (by omega) (by omega) (by omega) (by omega)
    have e9 : decide ((1 ≤ a ∧ a ≤ 1099511627776) ∧ (1 ≤ b ∧ b ≤ 1099511627776) ∧ 0 ≤ bps ∧ bps ≤ 9999 ∧ a ≠ b ∧ a * bps ≤ absI a b * 10000) = decide (a * bps ≤ absI a b * 10000) := by simp only [h1, h2, h3, h4, h5, ne_eq, not_false_iff, true_and]
    rw [e9]
    clear e9
    generalize hm : a * bps = m at hm0 hm1 ⊢
    unfold absI
    by_cases h6 : a < b
    · rw [if_pos h6]
      go_enter Try.func12, Try.ntmps12
      go_wp2_with fail
      all_goals first | (exfalso; omega) | skip
      first | refine fin_ret rfl (fun K hK => ?_) | refine fin_norm rfl (fun K hK => ?_)
      simp [results, Try.results12, go_sem, rsat]
      try go_simp
      refine hK _ ?_
      clear hK K
      exact ⟨rfl, (by repeat (first | (with_reducible exact Ext.refl _) | (with_reducible assumption) | (with_reducible refine Ext.alloc ?_ _) | (with_reducible refine Ext.drew ?_) | (with_reducible refine Ext.drewN ?_ _) | (with_reducible refine Ext.setCell ?_ (by simp; try omega) _) | (with_reducible refine Ext.setRow ?_ (by simp; try omega) _)))⟩
    · rw [if_neg h6]
      go_enter Try.func12, Try.ntmps12
      go_wp2_with fail
      all_goals first | (exfalso; omega) | skip
      first | refine fin_ret rfl (fun K hK => ?_) | refine fin_norm rfl (fun K hK => ?_)
      simp [results, Try.results12, go_sem, rsat]
      try go_simp
      refine hK _ ?_
      clear hK K
      exact ⟨rfl, (by repeat (first | (with_reducible exact Ext.refl _) | (with_reducible assumption) | (with_reducible refine Ext.alloc ?_ _) | (with_reducible refine Ext.drew ?_) | (with_reducible refine Ext.drewN ?_ _) | (with_reducible refine Ext.setCell ?_ (by simp; try omega) _) | (with_reducible refine Ext.setRow ?_ (by simp; try omega) _)))⟩
  · rw [decide_eq_false (fun h1 => h ⟨h1.1, h1.2.1, h1.2.2.1, h1.2.2.2.1, h1.2.2.2.2.1⟩)]
    by_cases h1 : a < 1
    ·
      go_enter Try.func12, Try.ntmps12
      go_wp2_with fail
      first | refine fin_ret rfl (fun K hK => ?_) | refine fin_norm rfl (fun K hK => ?_)
      simp [results, Try.results12, go_sem, rsat]
      try go_simp
      refine hK _ ?_
      clear hK K
      exact ⟨rfl, (by repeat (first | (with_reducible exact Ext.refl _) | (with_reducible assumption) | (with_reducible refine Ext.alloc ?_ _) | (with_reducible refine Ext.drew ?_) | (with_reducible refine Ext.drewN ?_ _) | (with_reducible refine Ext.setCell ?_ (by simp; try omega) _) | (with_reducible refine Ext.setRow ?_ (by simp; try omega) _)))⟩
    by_cases h2 : 1099511627776 < a
    ·
      go_enter Try.func12, Try.ntmps12
      go_wp2_with fail
      first | refine fin_ret rfl (fun K hK => ?_) | refine fin_norm rfl (fun K hK => ?_)
      simp [results, Try.results12, go_sem, rsat]
      try go_simp
      refine hK _ ?_
      clear hK K
      exact ⟨rfl, (by repeat (first | (with_reducible exact Ext.refl _) | (with_reducible assumption) | (with_reducible refine Ext.alloc ?_ _) | (with_reducible refine Ext.drew ?_) | (with_reducible refine Ext.drewN ?_ _) | (with_reducible refine Ext.setCell ?_ (by simp; try omega) _) | (with_reducible refine Ext.setRow ?_ (by simp; try omega) _)))⟩
    by_cases h3 : b < 1
    ·
      go_enter Try.func12, Try.ntmps12
      go_wp2_with fail
      first | refine fin_ret rfl (fun K hK => ?_) | refine fin_norm rfl (fun K hK => ?_)
      simp [results, Try.results12, go_sem, rsat]
      try go_simp
      refine hK _ ?_
      clear hK K
      exact ⟨rfl, (by repeat (first | (with_reducible exact Ext.refl _) | (with_reducible assumption) | (with_reducible refine Ext.alloc ?_ _) | (with_reducible refine Ext.drew ?_) | (with_reducible refine Ext.drewN ?_ _) | (with_reducible refine Ext.setCell ?_ (by simp; try omega) _) | (with_reducible refine Ext.setRow ?_ (by simp; try omega) _)))⟩
    by_cases h4 : 1099511627776 < b
    ·
      go_enter Try.func12, Try.ntmps12
      go_wp2_with fail
      first | refine fin_ret rfl (fun K hK => ?_) | refine fin_norm rfl (fun K hK => ?_)
      simp [results, Try.results12, go_sem, rsat]
      try go_simp
      refine hK _ ?_
      clear hK K
      exact ⟨rfl, (by repeat (first | (with_reducible exact Ext.refl _) | (with_reducible assumption) | (with_reducible refine Ext.alloc ?_ _) | (with_reducible refine Ext.drew ?_) | (with_reducible refine Ext.drewN ?_ _) | (with_reducible refine Ext.setCell ?_ (by simp; try omega) _) | (with_reducible refine Ext.setRow ?_ (by simp; try omega) _)))⟩
    by_cases h5 : bps < 0
    ·
      go_enter Try.func12, Try.ntmps12
      go_wp2_with fail
      first | refine fin_ret rfl (fun K hK => ?_) | refine fin_norm rfl (fun K hK => ?_)
      simp [results, Try.results12, go_sem, rsat]
      try go_simp
      refine hK _ ?_
      clear hK K
      exact ⟨rfl, (by repeat (first | (with_reducible exact Ext.refl _) | (with_reducible assumption) | (with_reducible refine Ext.alloc ?_ _) | (with_reducible refine Ext.drew ?_) | (with_reducible refine Ext.drewN ?_ _) | (with_reducible refine Ext.setCell ?_ (by simp; try omega) _) | (with_reducible refine Ext.setRow ?_ (by simp; try omega) _)))⟩
    by_cases h6 : 9999 < bps
    ·
      go_enter Try.func12, Try.ntmps12
      go_wp2_with fail
      first | refine fin_ret rfl (fun K hK => ?_) | refine fin_norm rfl (fun K hK => ?_)
      simp [results, Try.results12, go_sem, rsat]
      try go_simp
      refine hK _ ?_
      clear hK K
      exact ⟨rfl, (by repeat (first | (with_reducible exact Ext.refl _) | (with_reducible assumption) | (with_reducible refine Ext.alloc ?_ _) | (with_reducible refine Ext.drew ?_) | (with_reducible refine Ext.drewN ?_ _) | (with_reducible refine Ext.setCell ?_ (by simp; try omega) _) | (with_reducible refine Ext.setRow ?_ (by simp; try omega) _)))⟩
    obtain rfl : a = b := by omega
    go_enter Try.func12, Try.ntmps12
    go_wp2_with fail
    first | refine fin_ret rfl (fun K hK => ?_) | refine fin_norm rfl (fun K hK => ?_)
    simp [results, Try.results12, go_sem, rsat]
    try go_simp
    refine hK _ ?_
    clear hK K
    exact ⟨rfl, (by repeat (first | (with_reducible exact Ext.refl _) | (with_reducible assumption) | (with_reducible refine Ext.alloc ?_ _) | (with_reducible refine Ext.drew ?_) | (with_reducible refine Ext.drewN ?_ _) | (with_reducible refine Ext.setCell ?_ (by simp; try omega) _) | (with_reducible refine Ext.setRow ?_ (by simp; try omega) _)))⟩
theorem windowmoves_c (a b bps : Int) (ha : I64 a) (hb : I64 b) (hp : I64 bps) (w : World) : Calls Try.prog 4 #[.int .i64 a, .int .i64 b, .int .i64 bps] w fun e w' => e = .returned (.bool true) ∧ Ext w w' := by
  have C1 := moved_c a b bps ha hb hp
  have C2 := rmoved_c a b bps ha hb hp
  generalize movedB a b bps = m at C1 C2
  have em : (m == m) = true := by simp
  go_enter Try.func4, Try.ntmps4
  go_wp2_with fail
  refine (C1 _).mono ?_
  rintro e w1 ⟨rfl, hxw1⟩
  have xw1 : Ext w w1 := Ext.trans (by repeat (first | (with_reducible exact Ext.refl _) | (with_reducible assumption) | (with_reducible refine Ext.alloc ?_ _) | (with_reducible refine Ext.drew ?_) | (with_reducible refine Ext.drewN ?_ _) | (with_reducible refine Ext.setCell ?_ (by simp; try omega) _) | (with_reducible refine Ext.setRow ?_ (by simp; try omega) _))) hxw1
  have lw1 := xw1.size
  go_wp2_with fail
  refine (C2 _).mono ?_
  rintro e w2 ⟨rfl, hxw2⟩
  have xw2 : Ext w w2 := Ext.trans (by repeat (first | (with_reducible exact Ext.refl _) | (with_reducible assumption) | (with_reducible refine Ext.alloc ?_ _) | (with_reducible refine Ext.drew ?_) | (with_reducible refine Ext.drewN ?_ _) | (with_reducible refine Ext.setCell ?_ (by simp; try omega) _) | (with_reducible refine Ext.setRow ?_ (by simp; try omega) _))) hxw2
  have lw2 := xw2.size
  go_wp2_with fail
  refine (alive_c _).mono ?_
  rintro e w3 ⟨rfl, hxw3⟩
  have xw3 : Ext w w3 := Ext.trans (by repeat (first | (with_reducible exact Ext.refl _) | (with_reducible assumption) | (with_reducible refine Ext.alloc ?_ _) | (with_reducible refine Ext.drew ?_) | (with_reducible refine Ext.drewN ?_ _) | (with_reducible refine Ext.setCell ?_ (by simp; try omega) _) | (with_reducible refine Ext.setRow ?_ (by simp; try omega) _))) hxw3
  have lw3 := xw3.size
  go_wp2_with fail
  first | refine fin_ret rfl (fun K hK => ?_) | refine fin_norm rfl (fun K hK => ?_)
  simp [results, Try.results4, go_sem, rsat]
  try go_simp
  refine hK _ ?_
  clear hK K
  exact ⟨rfl, (by repeat (first | (with_reducible exact Ext.refl _) | (with_reducible assumption) | (with_reducible refine Ext.alloc ?_ _) | (with_reducible refine Ext.drew ?_) | (with_reducible refine Ext.drewN ?_ _) | (with_reducible refine Ext.setCell ?_ (by simp; try omega) _) | (with_reducible refine Ext.setRow ?_ (by simp; try omega) _)))⟩
theorem windownils_c (t p q : Int) (w : World) : Calls Try.prog 6 #[.int .i64 t, .int .i64 p, .int .i64 q] w fun e w' => e = .returned (.bool true) ∧ Ext w w' := by
  go_enter Try.func6, Try.ntmps6
  go_wp2_with fail
  refine (mean_nil t _).mono ?_
  rintro e w1 ⟨rfl, hxw1⟩
  have xw1 : Ext w w1 := Ext.trans (by repeat (first | (with_reducible exact Ext.refl _) | (with_reducible assumption) | (with_reducible refine Ext.alloc ?_ _) | (with_reducible refine Ext.drew ?_) | (with_reducible refine Ext.drewN ?_ _) | (with_reducible refine Ext.setCell ?_ (by simp; try omega) _) | (with_reducible refine Ext.setRow ?_ (by simp; try omega) _))) hxw1
  have lw1 := xw1.size
  go_wp2_with fail
  refine (roll_nil t 5 _).mono ?_
  rintro e w2 ⟨rfl, hxw2⟩
  have xw2 : Ext w w2 := Ext.trans (by repeat (first | (with_reducible exact Ext.refl _) | (with_reducible assumption) | (with_reducible refine Ext.alloc ?_ _) | (with_reducible refine Ext.drew ?_) | (with_reducible refine Ext.drewN ?_ _) | (with_reducible refine Ext.setCell ?_ (by simp; try omega) _) | (with_reducible refine Ext.setRow ?_ (by simp; try omega) _))) hxw2
  have lw2 := xw2.size
  go_wp2_with fail
  refine (add_nil t p q _).mono ?_
  rintro e w3 ⟨rfl, hxw3⟩
  have xw3 : Ext w w3 := Ext.trans (by repeat (first | (with_reducible exact Ext.refl _) | (with_reducible assumption) | (with_reducible refine Ext.alloc ?_ _) | (with_reducible refine Ext.drew ?_) | (with_reducible refine Ext.drewN ?_ _) | (with_reducible refine Ext.setCell ?_ (by simp; try omega) _) | (with_reducible refine Ext.setRow ?_ (by simp; try omega) _))) hxw3
  have lw3 := xw3.size
  go_wp2_with fail
  refine (reset_nil p _).mono ?_
  rintro e w4 ⟨rfl, hxw4⟩
  have xw4 : Ext w w4 := Ext.trans (by repeat (first | (with_reducible exact Ext.refl _) | (with_reducible assumption) | (with_reducible refine Ext.alloc ?_ _) | (with_reducible refine Ext.drew ?_) | (with_reducible refine Ext.drewN ?_ _) | (with_reducible refine Ext.setCell ?_ (by simp; try omega) _) | (with_reducible refine Ext.setRow ?_ (by simp; try omega) _))) hxw4
  have lw4 := xw4.size
  go_wp2_with fail
  refine (ref_nil _).mono ?_
  rintro e w5 ⟨rfl, hxw5⟩
  have xw5 : Ext w w5 := Ext.trans (by repeat (first | (with_reducible exact Ext.refl _) | (with_reducible assumption) | (with_reducible refine Ext.alloc ?_ _) | (with_reducible refine Ext.drew ?_) | (with_reducible refine Ext.drewN ?_ _) | (with_reducible refine Ext.setCell ?_ (by simp; try omega) _) | (with_reducible refine Ext.setRow ?_ (by simp; try omega) _))) hxw5
  have lw5 := xw5.size
  go_wp2_with fail
  refine (len_nil _).mono ?_
  rintro e w6 ⟨rfl, hxw6⟩
  have xw6 : Ext w w6 := Ext.trans (by repeat (first | (with_reducible exact Ext.refl _) | (with_reducible assumption) | (with_reducible refine Ext.alloc ?_ _) | (with_reducible refine Ext.drew ?_) | (with_reducible refine Ext.drewN ?_ _) | (with_reducible refine Ext.setCell ?_ (by simp; try omega) _) | (with_reducible refine Ext.setRow ?_ (by simp; try omega) _))) hxw6
  have lw6 := xw6.size
  go_wp2_with fail
  refine (alive_c _).mono ?_
  rintro e w7 ⟨rfl, hxw7⟩
  have xw7 : Ext w w7 := Ext.trans (by repeat (first | (with_reducible exact Ext.refl _) | (with_reducible assumption) | (with_reducible refine Ext.alloc ?_ _) | (with_reducible refine Ext.drew ?_) | (with_reducible refine Ext.drewN ?_ _) | (with_reducible refine Ext.setCell ?_ (by simp; try omega) _) | (with_reducible refine Ext.setRow ?_ (by simp; try omega) _))) hxw7
  have lw7 := xw7.size
  go_wp2_with fail
  first | refine fin_ret rfl (fun K hK => ?_) | refine fin_norm rfl (fun K hK => ?_)
  simp [results, Try.results6, go_sem, rsat]
  try go_simp
  refine hK _ ?_
  clear hK K
  exact ⟨rfl, (by repeat (first | (with_reducible exact Ext.refl _) | (with_reducible assumption) | (with_reducible refine Ext.alloc ?_ _) | (with_reducible refine Ext.drew ?_) | (with_reducible refine Ext.drewN ?_ _) | (with_reducible refine Ext.setCell ?_ (by simp; try omega) _) | (with_reducible refine Ext.setRow ?_ (by simp; try omega) _)))⟩
end Go.Proofs.Ytgjaiikfgejgoaa
