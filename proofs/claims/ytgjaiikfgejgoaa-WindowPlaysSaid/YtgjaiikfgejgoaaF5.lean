/- The walks of the reference of layer 2: Sub, Mul, Down, Up, fits, Lower, Upper, Notional, Price, Qty. No condition. -/
import Derived.Test.YtgjaiikfgejgoaaF4
import Derived.Test.YtgjaiikfgejgoaaF3
namespace Go.Proofs.Ytgjaiikfgejgoaa
open Go.RowKit
attribute [local go_sem] Later.cell QUpon_value QUpon_enter MUpon_value

theorem rem_sub {p g : Int} (_hp : 0 ≤ p) (hg : 1 ≤ g) : 0 ≤ p % g ∧ p % g < g ∧ p - p % g = p / g * g := by
  have h1 := Int.emod_nonneg p (b := g) (by omega)
  have h2 := Int.emod_lt_of_pos p (b := g) (by omega)
  have h3 := Int.mul_ediv_add_emod p g
  rw [Int.mul_comm] at h3
  omega
theorem rdown_c (p g : Int) (hp : I64 p) (hg : I64 g) (w : World) : Calls Try.prog 44 #[.int .i64 p, .int .i64 g] w fun e w' => e = .returned (.int .i64 (downI p g)) ∧ Ext w w' := by
  unfold downI
  unfold I64 at *
  by_cases h1 : p < 0
  · rw [if_pos (.inl h1)]
    go_enter Try.func44, Try.ntmps44
    go_wp2
    first | refine fin_ret rfl (fun K hK => ?_) | refine fin_norm rfl (fun K hK => ?_)
    simp [results, Try.results44, go_sem, rsat]
    try go_simp
    refine hK _ ?_
    clear hK K
    exact ⟨rfl, (by repeat (first | (with_reducible exact Ext.refl _) | (with_reducible assumption) | (with_reducible refine Ext.alloc ?_ _) | (with_reducible refine Ext.drew ?_) | (with_reducible refine Ext.drewN ?_ _) | (with_reducible refine Ext.setCell ?_ (by simp; try omega) _) | (with_reducible refine Ext.setRow ?_ (by simp; try omega) _)))⟩
  · by_cases h2 : g < 1
    · rw [if_pos (.inr h2)]
      go_enter Try.func44, Try.ntmps44
      go_wp2
      first | refine fin_ret rfl (fun K hK => ?_) | refine fin_norm rfl (fun K hK => ?_)
      simp [results, Try.results44, go_sem, rsat]
      try go_simp
      refine hK _ ?_
      clear hK K
      exact ⟨rfl, (by repeat (first | (with_reducible exact Ext.refl _) | (with_reducible assumption) | (with_reducible refine Ext.alloc ?_ _) | (with_reducible refine Ext.drew ?_) | (with_reducible refine Ext.drewN ?_ _) | (with_reducible refine Ext.setCell ?_ (by simp; try omega) _) | (with_reducible refine Ext.setRow ?_ (by simp; try omega) _)))⟩
    · rw [if_neg (by omega)]
      obtain ⟨b1, b2, b3⟩ := rem_sub (p := p) (g := g) (by omega) (by omega)
      obtain ⟨b4, b5, b6⟩ := downI_le (p := p) (g := g) (by omega) (by omega)
      have HB := Lib.hid b3
      clear b3
      go_enter Try.func44, Try.ntmps44
      go_wp2
      first | refine fin_ret rfl (fun K hK => ?_) | refine fin_norm rfl (fun K hK => ?_)
      simp [results, Try.results44, go_sem, rsat]
      try go_simp
      refine hK _ ?_
      clear hK K
      rw [HB.out]
      exact ⟨rfl, (by repeat (first | (with_reducible exact Ext.refl _) | (with_reducible assumption) | (with_reducible refine Ext.alloc ?_ _) | (with_reducible refine Ext.drew ?_) | (with_reducible refine Ext.drewN ?_ _) | (with_reducible refine Ext.setCell ?_ (by simp; try omega) _) | (with_reducible refine Ext.setRow ?_ (by simp; try omega) _)))⟩
theorem rprice_c (p g : Int) (hp : I64 p) (hg : I64 g) (w : World) : Calls Try.prog 38 #[.int .i64 p, .int .i64 g] w fun e w' => e = .returned (.int .i64 (priceI p g)) ∧ Ext w w' := by
  unfold priceI
  by_cases h1 : g < 1
  · rw [if_pos h1]
    go_enter Try.func38, Try.ntmps38
    go_wp2
    first | refine fin_ret rfl (fun K hK => ?_) | refine fin_norm rfl (fun K hK => ?_)
    simp [results, Try.results38, go_sem, rsat]
    try go_simp
    refine hK _ ?_
    clear hK K
    exact ⟨rfl, (by repeat (first | (with_reducible exact Ext.refl _) | (with_reducible assumption) | (with_reducible refine Ext.alloc ?_ _) | (with_reducible refine Ext.drew ?_) | (with_reducible refine Ext.drewN ?_ _) | (with_reducible refine Ext.setCell ?_ (by simp; try omega) _) | (with_reducible refine Ext.setRow ?_ (by simp; try omega) _)))⟩
  · rw [if_neg h1]
    by_cases h2 : p < 1
    · rw [if_pos (.inl h2)]
      go_enter Try.func38, Try.ntmps38
      go_wp2
      first | refine fin_ret rfl (fun K hK => ?_) | refine fin_norm rfl (fun K hK => ?_)
      simp [results, Try.results38, go_sem, rsat]
      try go_simp
      refine hK _ ?_
      clear hK K
      exact ⟨rfl, (by repeat (first | (with_reducible exact Ext.refl _) | (with_reducible assumption) | (with_reducible refine Ext.alloc ?_ _) | (with_reducible refine Ext.drew ?_) | (with_reducible refine Ext.drewN ?_ _) | (with_reducible refine Ext.setCell ?_ (by simp; try omega) _) | (with_reducible refine Ext.setRow ?_ (by simp; try omega) _)))⟩
    · by_cases h3 : 1099511627776 < p
      · rw [if_pos (.inr h3)]
        go_enter Try.func38, Try.ntmps38
        go_wp2
        first | refine fin_ret rfl (fun K hK => ?_) | refine fin_norm rfl (fun K hK => ?_)
        simp [results, Try.results38, go_sem, rsat]
        try go_simp
        refine hK _ ?_
        clear hK K
        exact ⟨rfl, (by repeat (first | (with_reducible exact Ext.refl _) | (with_reducible assumption) | (with_reducible refine Ext.alloc ?_ _) | (with_reducible refine Ext.drew ?_) | (with_reducible refine Ext.drewN ?_ _) | (with_reducible refine Ext.setCell ?_ (by simp; try omega) _) | (with_reducible refine Ext.setRow ?_ (by simp; try omega) _)))⟩
      · rw [if_neg (by omega)]
        obtain ⟨b1, b2, b3⟩ := rem_sub (p := p) (g := g) (by omega) (by omega)
        by_cases h4 : p % g = 0
        · rw [if_pos (by omega)]
          have e : (p % g == 0) = true := beq_iff_eq.2 h4
          have e2 : (p % g != 0) = false := by simp [h4]
          clear b3 h4
          go_enter Try.func38, Try.ntmps38
          go_wp2
          first | refine fin_ret rfl (fun K hK => ?_) | refine fin_norm rfl (fun K hK => ?_)
          simp [results, Try.results38, go_sem, rsat]
          try go_simp
          refine hK _ ?_
          clear hK K
          exact ⟨rfl, (by repeat (first | (with_reducible exact Ext.refl _) | (with_reducible assumption) | (with_reducible refine Ext.alloc ?_ _) | (with_reducible refine Ext.drew ?_) | (with_reducible refine Ext.drewN ?_ _) | (with_reducible refine Ext.setCell ?_ (by simp; try omega) _) | (with_reducible refine Ext.setRow ?_ (by simp; try omega) _)))⟩
        · rw [if_neg (by omega)]
          have e : (p % g == 0) = false := beq_eq_false_iff_ne.2 h4
          have e2 : (p % g != 0) = true := bne_iff_ne.2 h4
          clear b3 h4
          go_enter Try.func38, Try.ntmps38
          go_wp2
          first | refine fin_ret rfl (fun K hK => ?_) | refine fin_norm rfl (fun K hK => ?_)
          simp [results, Try.results38, go_sem, rsat]
          try go_simp
          refine hK _ ?_
          clear hK K
          exact ⟨rfl, (by repeat (first | (with_reducible exact Ext.refl _) | (with_reducible assumption) | (with_reducible refine Ext.alloc ?_ _) | (with_reducible refine Ext.drew ?_) | (with_reducible refine Ext.drewN ?_ _) | (with_reducible refine Ext.setCell ?_ (by simp; try omega) _) | (with_reducible refine Ext.setRow ?_ (by simp; try omega) _)))⟩
end Go.Proofs.Ytgjaiikfgejgoaa
