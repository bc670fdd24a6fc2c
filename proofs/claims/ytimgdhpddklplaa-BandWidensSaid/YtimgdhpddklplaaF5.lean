/- The walks of the reference of layer 2: Sub, Mul, Down, Up, fits, Lower, Upper, Notional, Price, Qty. No condition. -/
import Derived.Test.YtimgdhpddklplaaF4
import Derived.Test.YtimgdhpddklplaaF3
namespace Go.Proofs.Ytimgdhpddklplaa
open Go.RowKit
attribute [local go_sem] Later.cell QUpon_value QUpon_enter MUpon_value

theorem rem_sub {p g : Int} (_hp : 0 ≤ p) (hg : 1 ≤ g) : 0 ≤ p % g ∧ p % g < g ∧ p - p % g = p / g * g := by
  have h1 := Int.emod_nonneg p (b := g) (by omega)
  have h2 := Int.emod_lt_of_pos p (b := g) (by omega)
  have h3 := Int.mul_ediv_add_emod p g
  rw [Int.mul_comm] at h3
  omega
theorem rdown_c (p g : Int) (hp : I64 p) (hg : I64 g) (w : World) : Calls Try.prog 52 #[.int .i64 p, .int .i64 g] w fun e w' => e = .returned (.int .i64 (downI p g)) ∧ Ext w w' := by
  unfold downI
  unfold I64 at *
  by_cases h1 : p < 0
  · rw [if_pos (.inl h1)]
    go_enter Try.func52, Try.ntmps52
    go_wp2
    refine fin_ret rfl (fun K hK => ?_)
    simp [results, Try.results52, go_sem, rsat]
    try go_simp
    refine hK _ ?_
    clear hK K
    exact ⟨rfl, (by repeat (first | exact Ext.refl _ | assumption | refine Ext.alloc ?_ _ | refine Ext.drew ?_ | refine Ext.drewN ?_ _ | refine Ext.setCell ?_ (by simp; try omega) _ | refine Ext.setRow ?_ (by simp; try omega) _))⟩
  · by_cases h2 : g < 1
    · rw [if_pos (.inr h2)]
      go_enter Try.func52, Try.ntmps52
      go_wp2
      refine fin_ret rfl (fun K hK => ?_)
      simp [results, Try.results52, go_sem, rsat]
      try go_simp
      refine hK _ ?_
      clear hK K
      exact ⟨rfl, (by repeat (first | exact Ext.refl _ | assumption | refine Ext.alloc ?_ _ | refine Ext.drew ?_ | refine Ext.drewN ?_ _ | refine Ext.setCell ?_ (by simp; try omega) _ | refine Ext.setRow ?_ (by simp; try omega) _))⟩
    · rw [if_neg (by omega)]
      obtain ⟨b1, b2, b3⟩ := rem_sub (p := p) (g := g) (by omega) (by omega)
      obtain ⟨b4, b5, b6⟩ := downI_le (p := p) (g := g) (by omega) (by omega)
      have HB := Lib.hid b3
      clear b3
      go_enter Try.func52, Try.ntmps52
      go_wp2
      refine fin_ret rfl (fun K hK => ?_)
      simp [results, Try.results52, go_sem, rsat]
      try go_simp
      refine hK _ ?_
      clear hK K
      rw [HB.out]
      exact ⟨rfl, (by repeat (first | exact Ext.refl _ | assumption | refine Ext.alloc ?_ _ | refine Ext.drew ?_ | refine Ext.drewN ?_ _ | refine Ext.setCell ?_ (by simp; try omega) _ | refine Ext.setRow ?_ (by simp; try omega) _))⟩
set_option maxHeartbeats 400000 in
theorem rup_c (p g : Int) (hp : I64 p) (hg : I64 g) (w : World) : Calls Try.prog 51 #[.int .i64 p, .int .i64 g] w fun e w' => e = .returned (upI p g) ∧ Ext w w' := by
  have hp' := hp
  have hg' := hg
  unfold upI
  unfold I64 at hp hg
  by_cases h1 : p < 0
  · rw [if_pos (.inl h1), chk64_out]
    go_enter Try.func51, Try.ntmps51
    go_wp2
    refine fin_ret rfl (fun K hK => ?_)
    simp [results, Try.results51, go_sem, rsat]
    try go_simp
    refine hK _ ?_
    clear hK K
    exact ⟨rfl, (by repeat (first | exact Ext.refl _ | assumption | refine Ext.alloc ?_ _ | refine Ext.drew ?_ | refine Ext.drewN ?_ _ | refine Ext.setCell ?_ (by simp; try omega) _ | refine Ext.setRow ?_ (by simp; try omega) _))⟩
  · by_cases h2 : g < 1
    · rw [if_pos (.inr h2), chk64_out]
      go_enter Try.func51, Try.ntmps51
      go_wp2
      refine fin_ret rfl (fun K hK => ?_)
      simp [results, Try.results51, go_sem, rsat]
      try go_simp
      refine hK _ ?_
      clear hK K
      exact ⟨rfl, (by repeat (first | exact Ext.refl _ | assumption | refine Ext.alloc ?_ _ | refine Ext.drew ?_ | refine Ext.drewN ?_ _ | refine Ext.setCell ?_ (by simp; try omega) _ | refine Ext.setRow ?_ (by simp; try omega) _))⟩
    · rw [if_neg (by omega)]
      obtain ⟨b1, b2, b3⟩ := rem_sub (p := p) (g := g) (by omega) (by omega)
      obtain ⟨b4, b5, b6⟩ := downI_le (p := p) (g := g) (by omega) (by omega)
      have D := rfadd_c (p / g * g) g (by unfold I64; omega) hg'
      rw [← b3] at D b4 b5 b6 ⊢
      clear b3
      obtain ⟨y, c, hy⟩ : ∃ y c, chk64 (p - p % g + g) = .tuple #[.int .i64 y, .bool c] := ⟨_, _, rfl⟩
      rw [hy] at D ⊢
      have HD := Lib.hid D
      clear D hy
      by_cases h3 : p % g = 0
      · rw [if_pos (by omega), chk64_yes hp']
        have e : (p % g == 0) = true := beq_iff_eq.2 h3
        clear h3
        go_enter Try.func51, Try.ntmps51
        go_wp2
        refine fin_ret rfl (fun K hK => ?_)
        simp [results, Try.results51, go_sem, rsat]
        try go_simp
        refine hK _ ?_
        clear hK K
        exact ⟨rfl, (by repeat (first | exact Ext.refl _ | assumption | refine Ext.alloc ?_ _ | refine Ext.drew ?_ | refine Ext.drewN ?_ _ | refine Ext.setCell ?_ (by simp; try omega) _ | refine Ext.setRow ?_ (by simp; try omega) _))⟩
      · rw [if_neg (by omega)]
        have e : (p % g == 0) = false := beq_eq_false_iff_ne.2 h3
        clear h3
        go_enter Try.func51, Try.ntmps51
        go_wp2_with fail
        refine (HD.out _).mono ?_
        rintro e w1 ⟨rfl, hxw1⟩
        have xw1 : Ext w w1 := Ext.trans (by repeat (first | exact Ext.refl _ | assumption | refine Ext.alloc ?_ _ | refine Ext.drew ?_ | refine Ext.drewN ?_ _ | refine Ext.setCell ?_ (by simp; try omega) _ | refine Ext.setRow ?_ (by simp; try omega) _)) hxw1
        have lw1 := xw1.size
        go_wp2
        refine fin_ret rfl (fun K hK => ?_)
        simp [results, Try.results51, go_sem, rsat]
        try go_simp
        refine hK _ ?_
        clear hK K
        exact ⟨rfl, (by repeat (first | exact Ext.refl _ | assumption | refine Ext.alloc ?_ _ | refine Ext.drew ?_ | refine Ext.drewN ?_ _ | refine Ext.setCell ?_ (by simp; try omega) _ | refine Ext.setRow ?_ (by simp; try omega) _))⟩
set_option maxRecDepth 100000 in
theorem fits_c (r bps g : Int) (w : World) : Calls Try.prog 50 #[.int .i64 r, .int .i64 bps, .int .i64 g] w fun e w' => e = .returned (.bool (decide (arOk r bps g))) ∧ Ext w w' := by
  by_cases h1 : 1 ≤ r
  · by_cases h2 : r ≤ 1099511627776
    · by_cases h3 : 0 ≤ bps
      · by_cases h4 : bps ≤ 9999
        · by_cases h5 : 1 ≤ g
          · have e : decide (arOk r bps g) = decide (g ≤ 1099511627776) := by rw [decide_eq_decide]; unfold arOk; omega
            rw [e]
            clear e
            go_enter Try.func50, Try.ntmps50
            go_wp2
            refine fin_ret rfl (fun K hK => ?_)
            simp [results, Try.results50, go_sem, rsat]
            try go_simp
            refine hK _ ?_
            clear hK K
            exact ⟨rfl, (by repeat (first | exact Ext.refl _ | assumption | refine Ext.alloc ?_ _ | refine Ext.drew ?_ | refine Ext.drewN ?_ _ | refine Ext.setCell ?_ (by simp; try omega) _ | refine Ext.setRow ?_ (by simp; try omega) _))⟩
          · rw [decide_eq_false (by unfold arOk; omega)]
            go_enter Try.func50, Try.ntmps50
            go_wp2
            refine fin_ret rfl (fun K hK => ?_)
            simp [results, Try.results50, go_sem, rsat]
            try go_simp
            refine hK _ ?_
            clear hK K
            exact ⟨rfl, (by repeat (first | exact Ext.refl _ | assumption | refine Ext.alloc ?_ _ | refine Ext.drew ?_ | refine Ext.drewN ?_ _ | refine Ext.setCell ?_ (by simp; try omega) _ | refine Ext.setRow ?_ (by simp; try omega) _))⟩
        · rw [decide_eq_false (by unfold arOk; omega)]
          go_enter Try.func50, Try.ntmps50
          go_wp2
          refine fin_ret rfl (fun K hK => ?_)
          simp [results, Try.results50, go_sem, rsat]
          try go_simp
          refine hK _ ?_
          clear hK K
          exact ⟨rfl, (by repeat (first | exact Ext.refl _ | assumption | refine Ext.alloc ?_ _ | refine Ext.drew ?_ | refine Ext.drewN ?_ _ | refine Ext.setCell ?_ (by simp; try omega) _ | refine Ext.setRow ?_ (by simp; try omega) _))⟩
      · rw [decide_eq_false (by unfold arOk; omega)]
        go_enter Try.func50, Try.ntmps50
        go_wp2
        refine fin_ret rfl (fun K hK => ?_)
        simp [results, Try.results50, go_sem, rsat]
        try go_simp
        refine hK _ ?_
        clear hK K
        exact ⟨rfl, (by repeat (first | exact Ext.refl _ | assumption | refine Ext.alloc ?_ _ | refine Ext.drew ?_ | refine Ext.drewN ?_ _ | refine Ext.setCell ?_ (by simp; try omega) _ | refine Ext.setRow ?_ (by simp; try omega) _))⟩
    · rw [decide_eq_false (by unfold arOk; omega)]
      go_enter Try.func50, Try.ntmps50
      go_wp2
      refine fin_ret rfl (fun K hK => ?_)
      simp [results, Try.results50, go_sem, rsat]
      try go_simp
      refine hK _ ?_
      clear hK K
      exact ⟨rfl, (by repeat (first | exact Ext.refl _ | assumption | refine Ext.alloc ?_ _ | refine Ext.drew ?_ | refine Ext.drewN ?_ _ | refine Ext.setCell ?_ (by simp; try omega) _ | refine Ext.setRow ?_ (by simp; try omega) _))⟩
  · rw [decide_eq_false (by unfold arOk; omega)]
    go_enter Try.func50, Try.ntmps50
    go_wp2
    refine fin_ret rfl (fun K hK => ?_)
    simp [results, Try.results50, go_sem, rsat]
    try go_simp
    refine hK _ ?_
    clear hK K
    exact ⟨rfl, (by repeat (first | exact Ext.refl _ | assumption | refine Ext.alloc ?_ _ | refine Ext.drew ?_ | refine Ext.drewN ?_ _ | refine Ext.setCell ?_ (by simp; try omega) _ | refine Ext.setRow ?_ (by simp; try omega) _))⟩
theorem lo_two (n : Int) (h : 0 ≤ n) : (n + 9999) / 10000 = if 0 < n % 10000 then n / 10000 + 1 else n / 10000 := by
  split <;> omega
set_option maxRecDepth 100000 in
set_option maxHeartbeats 400000 in
theorem rlower_c (r bps g : Int) (hr : I64 r) (hb : I64 bps) (hg : I64 g) (w : World) : Calls Try.prog 43 #[.int .i64 r, .int .i64 bps, .int .i64 g] w fun e w' => e = .returned (lowT r bps g) ∧ Ext w w' := by
  unfold lowT
  by_cases h : arOk r bps g
  · rw [if_pos h]
    have C0 := fits_c r bps g
    rw [decide_eq_true h] at C0
    have HC0 := Lib.hid C0
    have hb1 := h.2.1.1
    have hb2 := h.2.1.2
    obtain ⟨h1, h2⟩ := loI_bd h
    have hr1 := h.1.1
    have hr2 := h.1.2
    obtain ⟨c1, c2, c3⟩ := mul_bd (p := 10000 - bps) hr1 hr2 (by omega) (by omega)
    have C2 := rup_c (loI r bps) g ⟨by omega, by omega⟩ hg
    rw [up_low h] at C2
    obtain ⟨z, hz⟩ : ∃ z, z = upN (loI r bps) g := ⟨_, rfl⟩
    rw [← hz] at C2 ⊢
    have e : loI r bps = if 0 < r * (10000 - bps) % 10000 then r * (10000 - bps) / 10000 + 1 else r * (10000 - bps) / 10000 := lo_two _ (by omega)
    rw [e] at C2
    clear C0 e hz h1 h2
    by_cases hm : 0 < r * (10000 - bps) % 10000
    · rw [if_pos hm] at C2
      have HC2 := Lib.hid C2
      clear C2
      go_enter Try.func43, Try.ntmps43
      go_wp2_with fail
      refine (HC0.out _).mono ?_
      rintro e w1 ⟨rfl, hxw1⟩
      have xw1 : Ext w w1 := Ext.trans (by repeat (first | exact Ext.refl _ | assumption | refine Ext.alloc ?_ _ | refine Ext.drew ?_ | refine Ext.drewN ?_ _ | refine Ext.setCell ?_ (by simp; try omega) _ | refine Ext.setRow ?_ (by simp; try omega) _)) hxw1
      have lw1 := xw1.size
      go_wp2_with fail
      refine (HC2.out _).mono ?_
      rintro e w2 ⟨rfl, hxw2⟩
      have xw2 : Ext w w2 := Ext.trans (by repeat (first | exact Ext.refl _ | assumption | refine Ext.alloc ?_ _ | refine Ext.drew ?_ | refine Ext.drewN ?_ _ | refine Ext.setCell ?_ (by simp; try omega) _ | refine Ext.setRow ?_ (by simp; try omega) _)) hxw2
      have lw2 := xw2.size
      go_wp2
      refine fin_ret rfl (fun K hK => ?_)
      simp [results, Try.results43, go_sem, rsat]
      try go_simp
      refine hK _ ?_
      clear hK K
      exact ⟨rfl, (by repeat (first | exact Ext.refl _ | assumption | refine Ext.alloc ?_ _ | refine Ext.drew ?_ | refine Ext.drewN ?_ _ | refine Ext.setCell ?_ (by simp; try omega) _ | refine Ext.setRow ?_ (by simp; try omega) _))⟩
    · rw [if_neg hm] at C2
      have HC2 := Lib.hid C2
      clear C2
      go_enter Try.func43, Try.ntmps43
      go_wp2_with fail
      refine (HC0.out _).mono ?_
      rintro e w1 ⟨rfl, hxw1⟩
      have xw1 : Ext w w1 := Ext.trans (by repeat (first | exact Ext.refl _ | assumption | refine Ext.alloc ?_ _ | refine Ext.drew ?_ | refine Ext.drewN ?_ _ | refine Ext.setCell ?_ (by simp; try omega) _ | refine Ext.setRow ?_ (by simp; try omega) _)) hxw1
      have lw1 := xw1.size
      go_wp2_with fail
      refine (HC2.out _).mono ?_
      rintro e w2 ⟨rfl, hxw2⟩
      have xw2 : Ext w w2 := Ext.trans (by repeat (first | exact Ext.refl _ | assumption | refine Ext.alloc ?_ _ | refine Ext.drew ?_ | refine Ext.drewN ?_ _ | refine Ext.setCell ?_ (by simp; try omega) _ | refine Ext.setRow ?_ (by simp; try omega) _)) hxw2
      have lw2 := xw2.size
      go_wp2
      refine fin_ret rfl (fun K hK => ?_)
      simp [results, Try.results43, go_sem, rsat]
      try go_simp
      refine hK _ ?_
      clear hK K
      exact ⟨rfl, (by repeat (first | exact Ext.refl _ | assumption | refine Ext.alloc ?_ _ | refine Ext.drew ?_ | refine Ext.drewN ?_ _ | refine Ext.setCell ?_ (by simp; try omega) _ | refine Ext.setRow ?_ (by simp; try omega) _))⟩
  · rw [if_neg h]
    have C0 := fits_c r bps g
    rw [decide_eq_false h] at C0
    have HC0 := Lib.hid C0
    clear C0
    go_enter Try.func43, Try.ntmps43
    go_wp2_with fail
    refine (HC0.out _).mono ?_
    rintro e w1 ⟨rfl, hxw1⟩
    have xw1 : Ext w w1 := Ext.trans (by repeat (first | exact Ext.refl _ | assumption | refine Ext.alloc ?_ _ | refine Ext.drew ?_ | refine Ext.drewN ?_ _ | refine Ext.setCell ?_ (by simp; try omega) _ | refine Ext.setRow ?_ (by simp; try omega) _)) hxw1
    have lw1 := xw1.size
    go_wp2
    refine fin_ret rfl (fun K hK => ?_)
    simp [results, Try.results43, go_sem, rsat]
    try go_simp
    refine hK _ ?_
    clear hK K
    exact ⟨rfl, (by repeat (first | exact Ext.refl _ | assumption | refine Ext.alloc ?_ _ | refine Ext.drew ?_ | refine Ext.drewN ?_ _ | refine Ext.setCell ?_ (by simp; try omega) _ | refine Ext.setRow ?_ (by simp; try omega) _))⟩
set_option maxRecDepth 100000 in
set_option maxHeartbeats 400000 in
theorem rupper_c (r bps g : Int) (hr : I64 r) (hb : I64 bps) (hg : I64 g) (w : World) : Calls Try.prog 44 #[.int .i64 r, .int .i64 bps, .int .i64 g] w fun e w' => e = .returned (uppT r bps g) ∧ Ext w w' := by
  unfold uppT
  by_cases h : arOk r bps g
  · rw [if_pos h]
    have C0 := fits_c r bps g
    rw [decide_eq_true h] at C0
    have HC0 := Lib.hid C0
    have hb1 := h.2.1.1
    have hb2 := h.2.1.2
    obtain ⟨h1, h2⟩ := hiI_bd h
    have hr1 := h.1.1
    have hr2 := h.1.2
    obtain ⟨c1, c2, c3⟩ := mul_bd (p := 10000 + bps) hr1 hr2 (by omega) (by omega)
    have C2 := rdown_c (hiI r bps) g ⟨by omega, by omega⟩ hg
    rw [down_hi h] at C2
    obtain ⟨z, hz⟩ : ∃ z, z = hiI r bps / g * g := ⟨_, rfl⟩
    rw [← hz] at C2 ⊢
    unfold hiI at C2
    have HC2 := Lib.hid C2
    clear C0 C2 hz h1 h2
    go_enter Try.func44, Try.ntmps44
    go_wp2_with fail
    refine (HC0.out _).mono ?_
    rintro e w1 ⟨rfl, hxw1⟩
    have xw1 : Ext w w1 := Ext.trans (by repeat (first | exact Ext.refl _ | assumption | refine Ext.alloc ?_ _ | refine Ext.drew ?_ | refine Ext.drewN ?_ _ | refine Ext.setCell ?_ (by simp; try omega) _ | refine Ext.setRow ?_ (by simp; try omega) _)) hxw1
    have lw1 := xw1.size
    go_wp2_with fail
    refine (HC2.out _).mono ?_
    rintro e w2 ⟨rfl, hxw2⟩
    have xw2 : Ext w w2 := Ext.trans (by repeat (first | exact Ext.refl _ | assumption | refine Ext.alloc ?_ _ | refine Ext.drew ?_ | refine Ext.drewN ?_ _ | refine Ext.setCell ?_ (by simp; try omega) _ | refine Ext.setRow ?_ (by simp; try omega) _)) hxw2
    have lw2 := xw2.size
    go_wp2
    refine fin_ret rfl (fun K hK => ?_)
    simp [results, Try.results44, go_sem, rsat]
    try go_simp
    refine hK _ ?_
    clear hK K
    exact ⟨rfl, (by repeat (first | exact Ext.refl _ | assumption | refine Ext.alloc ?_ _ | refine Ext.drew ?_ | refine Ext.drewN ?_ _ | refine Ext.setCell ?_ (by simp; try omega) _ | refine Ext.setRow ?_ (by simp; try omega) _))⟩
  · rw [if_neg h]
    have C0 := fits_c r bps g
    rw [decide_eq_false h] at C0
    have HC0 := Lib.hid C0
    clear C0
    go_enter Try.func44, Try.ntmps44
    go_wp2_with fail
    refine (HC0.out _).mono ?_
    rintro e w1 ⟨rfl, hxw1⟩
    have xw1 : Ext w w1 := Ext.trans (by repeat (first | exact Ext.refl _ | assumption | refine Ext.alloc ?_ _ | refine Ext.drew ?_ | refine Ext.drewN ?_ _ | refine Ext.setCell ?_ (by simp; try omega) _ | refine Ext.setRow ?_ (by simp; try omega) _)) hxw1
    have lw1 := xw1.size
    go_wp2
    refine fin_ret rfl (fun K hK => ?_)
    simp [results, Try.results44, go_sem, rsat]
    try go_simp
    refine hK _ ?_
    clear hK K
    exact ⟨rfl, (by repeat (first | exact Ext.refl _ | assumption | refine Ext.alloc ?_ _ | refine Ext.drew ?_ | refine Ext.drewN ?_ _ | refine Ext.setCell ?_ (by simp; try omega) _ | refine Ext.setRow ?_ (by simp; try omega) _))⟩
end Go.Proofs.Ytimgdhpddklplaa
