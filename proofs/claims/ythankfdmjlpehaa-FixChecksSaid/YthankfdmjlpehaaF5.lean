/- The walks of the reference of layer 2: Sub, Mul, Down, Up, fits, Lower, Upper, Notional, Price, Qty. No condition. -/
import Derived.Test.YthankfdmjlpehaaF4
import Derived.Test.YthankfdmjlpehaaF3
namespace Go.Proofs.Ythankfdmjlpehaa
open Go.RowKit
attribute [local go_sem] Later.cell QUpon_value QUpon_enter MUpon_value

set_option maxRecDepth 100000 in
set_option maxHeartbeats 800000 in
theorem rfsub_c (a b : Int) (ha : I64 a) (hb : I64 b) (w : World) : Calls Try.prog 25 #[.int .i64 a, .int .i64 b] w fun e w' => e = .returned (chk64 (a - b)) ∧ Ext w w' := by
  by_cases hsg : (a < 0) ↔ (b < 0)
  · have e1 := neg_beq a b hsg
    have hI : I64 (a - b) := by unfold I64 at *; omega
    rw [chk64_yes hI]
    clear hsg
    unfold I64 at hI
    go_enter Try.func25, Try.ntmps25
    go_wp2
    refine fin_ret rfl (fun K hK => ?_)
    simp [results, Try.results25, go_sem, rsat]
    try go_simp
    refine hK _ ?_
    clear hK K
    exact ⟨rfl, (by repeat (first | exact Ext.refl _ | assumption | refine Ext.alloc ?_ _ | refine Ext.drew ?_ | refine Ext.drewN ?_ _ | refine Ext.setCell ?_ (by simp; try omega) _))⟩
  · have e1 : (decide (a < 0) == decide (b < 0)) = false := by
      rw [beq_eq_false_iff_ne]
      intro h
      exact hsg (by simpa using h)
    have C := sum_c _ _ (U64.abs ha) (U64.abs hb)
    rw [Int.toNat_natCast, Int.toNat_natCast] at C
    obtain ⟨s, hs⟩ : ∃ s, s = a.natAbs + b.natAbs := ⟨_, rfl⟩
    rw [← hs] at C
    have e2 : a - b = if decide (a < 0) = true then -(s : Int) else (s : Int) := by
      unfold I64 at ha hb
      by_cases h : a < 0 <;> simp [h] <;> omega
    have hsl : s ≤ 18446744073709551616 := by unfold I64 at ha hb; omega
    have C2 := rhalves_c s (by omega)
    have HC := Lib.hid C
    clear C hs
    by_cases h0 : s = 18446744073709551616
    · subst h0
      rw [chk64_no (by rw [e2]; unfold I64; split <;> omega)]
      have HC2 := Lib.hid C2
      clear C2 e2 hsg
      go_enter Try.func25, Try.ntmps25
      go_wp2_with fail
      refine (rsize_c a ha _).mono ?_
      rintro e w1 ⟨rfl, hxw1⟩
      have xw1 : Ext w w1 := Ext.trans (by repeat (first | exact Ext.refl _ | assumption | refine Ext.alloc ?_ _ | refine Ext.drew ?_ | refine Ext.drewN ?_ _ | refine Ext.setCell ?_ (by simp; try omega) _)) hxw1
      go_wp2_with fail
      refine (rsize_c b hb _).mono ?_
      rintro e w2 ⟨rfl, hxw2⟩
      have xw2 : Ext w w2 := Ext.trans (by repeat (first | exact Ext.refl _ | assumption | refine Ext.alloc ?_ _ | refine Ext.drew ?_ | refine Ext.drewN ?_ _ | refine Ext.setCell ?_ (by simp; try omega) _)) hxw2
      go_wp2_with fail
      refine (HC.out _).mono ?_
      rintro e w3 ⟨rfl, hxw3⟩
      have xw3 : Ext w w3 := Ext.trans (by repeat (first | exact Ext.refl _ | assumption | refine Ext.alloc ?_ _ | refine Ext.drew ?_ | refine Ext.drewN ?_ _ | refine Ext.setCell ?_ (by simp; try omega) _)) hxw3
      go_wp2_with fail
      refine (HC2.out _).mono ?_
      rintro e w4 ⟨rfl, hxw4⟩
      have xw4 : Ext w w4 := Ext.trans (by repeat (first | exact Ext.refl _ | assumption | refine Ext.alloc ?_ _ | refine Ext.drew ?_ | refine Ext.drewN ?_ _ | refine Ext.setCell ?_ (by simp; try omega) _)) hxw4
      go_wp2
      refine fin_ret rfl (fun K hK => ?_)
      simp [results, Try.results25, go_sem, rsat]
      try go_simp
      refine hK _ ?_
      clear hK K
      exact ⟨rfl, (by repeat (first | exact Ext.refl _ | assumption | refine Ext.alloc ?_ _ | refine Ext.drew ?_ | refine Ext.drewN ?_ _ | refine Ext.setCell ?_ (by simp; try omega) _))⟩
    · have t1 : s / 18446744073709551616 = 0 := by omega
      have t2 : s % 18446744073709551616 = s := by omega
      rw [t1, t2] at C2
      have HC2 := Lib.hid C2
      have C3 := signed_c (s : Int) (decide (a < 0)) (U64.of_nat (by omega))
      rw [← e2] at C3
      obtain ⟨y, c, hy⟩ : ∃ y c, chk64 (a - b) = .tuple #[.int .i64 y, .bool c] := ⟨_, _, rfl⟩
      rw [hy] at C3 ⊢
      have HC3 := Lib.hid C3
      clear C2 C3 e2 hy t1 t2 hsg h0
      go_enter Try.func25, Try.ntmps25
      go_wp2_with fail
      refine (rsize_c a ha _).mono ?_
      rintro e w1 ⟨rfl, hxw1⟩
      have xw1 : Ext w w1 := Ext.trans (by repeat (first | exact Ext.refl _ | assumption | refine Ext.alloc ?_ _ | refine Ext.drew ?_ | refine Ext.drewN ?_ _ | refine Ext.setCell ?_ (by simp; try omega) _)) hxw1
      go_wp2_with fail
      refine (rsize_c b hb _).mono ?_
      rintro e w2 ⟨rfl, hxw2⟩
      have xw2 : Ext w w2 := Ext.trans (by repeat (first | exact Ext.refl _ | assumption | refine Ext.alloc ?_ _ | refine Ext.drew ?_ | refine Ext.drewN ?_ _ | refine Ext.setCell ?_ (by simp; try omega) _)) hxw2
      go_wp2_with fail
      refine (HC.out _).mono ?_
      rintro e w3 ⟨rfl, hxw3⟩
      have xw3 : Ext w w3 := Ext.trans (by repeat (first | exact Ext.refl _ | assumption | refine Ext.alloc ?_ _ | refine Ext.drew ?_ | refine Ext.drewN ?_ _ | refine Ext.setCell ?_ (by simp; try omega) _)) hxw3
      go_wp2_with fail
      refine (HC2.out _).mono ?_
      rintro e w4 ⟨rfl, hxw4⟩
      have xw4 : Ext w w4 := Ext.trans (by repeat (first | exact Ext.refl _ | assumption | refine Ext.alloc ?_ _ | refine Ext.drew ?_ | refine Ext.drewN ?_ _ | refine Ext.setCell ?_ (by simp; try omega) _)) hxw4
      go_wp2_with fail
      refine (HC3.out _).mono ?_
      rintro e w5 ⟨rfl, hxw5⟩
      have xw5 : Ext w w5 := Ext.trans (by repeat (first | exact Ext.refl _ | assumption | refine Ext.alloc ?_ _ | refine Ext.drew ?_ | refine Ext.drewN ?_ _ | refine Ext.setCell ?_ (by simp; try omega) _)) hxw5
      go_wp2
      refine fin_ret rfl (fun K hK => ?_)
      simp [results, Try.results25, go_sem, rsat]
      try go_simp
      refine hK _ ?_
      clear hK K
      exact ⟨rfl, (by repeat (first | exact Ext.refl _ | assumption | refine Ext.alloc ?_ _ | refine Ext.drew ?_ | refine Ext.drewN ?_ _ | refine Ext.setCell ?_ (by simp; try omega) _))⟩
set_option maxRecDepth 100000 in
set_option maxHeartbeats 800000 in
theorem rfmul_c (a b : Int) (ha : I64 a) (hb : I64 b) (w : World) : Calls Try.prog 26 #[.int .i64 a, .int .i64 b] w fun e w' => e = .returned (chk64 (a * b)) ∧ Ext w w' := by
  have C := rmul_c _ _ (U64.abs ha) (U64.abs hb)
  rw [Int.toNat_natCast, Int.toNat_natCast] at C
  obtain ⟨s, hs⟩ : ∃ s, s = a.natAbs * b.natAbs := ⟨_, rfl⟩
  have hp := mul_by s hs
  have hsl : s < 340282366920938463463374607431768211456 := hs ▸ mul_lt (by have := natAbs_lt ha; omega) (by have := natAbs_lt hb; omega)
  rw [← hs] at C
  have HC := Lib.hid C
  have C2 := rhalves_c s hsl
  have e2 : a * b = if (!(decide (a < 0) == decide (b < 0))) = true then -(s : Int) else (s : Int) := by
    rw [hp]
    by_cases h1 : a < 0 <;> by_cases h2 : b < 0 <;> simp [h1, h2]
  clear C hs hp
  by_cases h0 : 18446744073709551616 ≤ s
  · rw [chk64_no (by rw [e2]; unfold I64; split <;> omega)]
    obtain ⟨h, hh⟩ : ∃ h : Int, h = ((s / 18446744073709551616 : Nat) : Int) := ⟨_, rfl⟩
    have hpos : 0 < h := by omega
    rw [← hh] at C2
    have HC2 := Lib.hid C2
    clear C2 e2 hh
    go_enter Try.func26, Try.ntmps26
    go_wp2_with fail
    refine (rsize_c a ha _).mono ?_
    rintro e w1 ⟨rfl, hxw1⟩
    have xw1 : Ext w w1 := Ext.trans (by repeat (first | exact Ext.refl _ | assumption | refine Ext.alloc ?_ _ | refine Ext.drew ?_ | refine Ext.drewN ?_ _ | refine Ext.setCell ?_ (by simp; try omega) _)) hxw1
    go_wp2_with fail
    refine (rsize_c b hb _).mono ?_
    rintro e w2 ⟨rfl, hxw2⟩
    have xw2 : Ext w w2 := Ext.trans (by repeat (first | exact Ext.refl _ | assumption | refine Ext.alloc ?_ _ | refine Ext.drew ?_ | refine Ext.drewN ?_ _ | refine Ext.setCell ?_ (by simp; try omega) _)) hxw2
    go_wp2_with fail
    refine (HC.out _).mono ?_
    rintro e w3 ⟨rfl, hxw3⟩
    have xw3 : Ext w w3 := Ext.trans (by repeat (first | exact Ext.refl _ | assumption | refine Ext.alloc ?_ _ | refine Ext.drew ?_ | refine Ext.drewN ?_ _ | refine Ext.setCell ?_ (by simp; try omega) _)) hxw3
    go_wp2_with fail
    refine (HC2.out _).mono ?_
    rintro e w4 ⟨rfl, hxw4⟩
    have xw4 : Ext w w4 := Ext.trans (by repeat (first | exact Ext.refl _ | assumption | refine Ext.alloc ?_ _ | refine Ext.drew ?_ | refine Ext.drewN ?_ _ | refine Ext.setCell ?_ (by simp; try omega) _)) hxw4
    go_wp2
    refine fin_ret rfl (fun K hK => ?_)
    simp [results, Try.results26, go_sem, rsat]
    try go_simp
    refine hK _ ?_
    clear hK K
    exact ⟨rfl, (by repeat (first | exact Ext.refl _ | assumption | refine Ext.alloc ?_ _ | refine Ext.drew ?_ | refine Ext.drewN ?_ _ | refine Ext.setCell ?_ (by simp; try omega) _))⟩
  · have t1 : s / 18446744073709551616 = 0 := by omega
    have t2 : s % 18446744073709551616 = s := by omega
    rw [t1, t2] at C2
    have HC2 := Lib.hid C2
    have C3 := signed_c (s : Int) (!(decide (a < 0) == decide (b < 0))) (U64.of_nat (by omega))
    rw [← e2] at C3
    obtain ⟨y, c, hy⟩ : ∃ y c, chk64 (a * b) = .tuple #[.int .i64 y, .bool c] := ⟨_, _, rfl⟩
    rw [hy] at C3 ⊢
    have HC3 := Lib.hid C3
    clear C2 C3 e2 hy t1 t2 h0
    go_enter Try.func26, Try.ntmps26
    go_wp2_with fail
    refine (rsize_c a ha _).mono ?_
    rintro e w1 ⟨rfl, hxw1⟩
    have xw1 : Ext w w1 := Ext.trans (by repeat (first | exact Ext.refl _ | assumption | refine Ext.alloc ?_ _ | refine Ext.drew ?_ | refine Ext.drewN ?_ _ | refine Ext.setCell ?_ (by simp; try omega) _)) hxw1
    go_wp2_with fail
    refine (rsize_c b hb _).mono ?_
    rintro e w2 ⟨rfl, hxw2⟩
    have xw2 : Ext w w2 := Ext.trans (by repeat (first | exact Ext.refl _ | assumption | refine Ext.alloc ?_ _ | refine Ext.drew ?_ | refine Ext.drewN ?_ _ | refine Ext.setCell ?_ (by simp; try omega) _)) hxw2
    go_wp2_with fail
    refine (HC.out _).mono ?_
    rintro e w3 ⟨rfl, hxw3⟩
    have xw3 : Ext w w3 := Ext.trans (by repeat (first | exact Ext.refl _ | assumption | refine Ext.alloc ?_ _ | refine Ext.drew ?_ | refine Ext.drewN ?_ _ | refine Ext.setCell ?_ (by simp; try omega) _)) hxw3
    go_wp2_with fail
    refine (HC2.out _).mono ?_
    rintro e w4 ⟨rfl, hxw4⟩
    have xw4 : Ext w w4 := Ext.trans (by repeat (first | exact Ext.refl _ | assumption | refine Ext.alloc ?_ _ | refine Ext.drew ?_ | refine Ext.drewN ?_ _ | refine Ext.setCell ?_ (by simp; try omega) _)) hxw4
    go_wp2_with fail
    refine (HC3.out _).mono ?_
    rintro e w5 ⟨rfl, hxw5⟩
    have xw5 : Ext w w5 := Ext.trans (by repeat (first | exact Ext.refl _ | assumption | refine Ext.alloc ?_ _ | refine Ext.drew ?_ | refine Ext.drewN ?_ _ | refine Ext.setCell ?_ (by simp; try omega) _)) hxw5
    go_wp2
    refine fin_ret rfl (fun K hK => ?_)
    simp [results, Try.results26, go_sem, rsat]
    try go_simp
    refine hK _ ?_
    clear hK K
    exact ⟨rfl, (by repeat (first | exact Ext.refl _ | assumption | refine Ext.alloc ?_ _ | refine Ext.drew ?_ | refine Ext.drewN ?_ _ | refine Ext.setCell ?_ (by simp; try omega) _))⟩
theorem rem_sub {p g : Int} (_hp : 0 ≤ p) (hg : 1 ≤ g) : 0 ≤ p % g ∧ p % g < g ∧ p - p % g = p / g * g := by
  have h1 := Int.emod_nonneg p (b := g) (by omega)
  have h2 := Int.emod_lt_of_pos p (b := g) (by omega)
  have h3 := Int.mul_ediv_add_emod p g
  rw [Int.mul_comm] at h3
  omega
theorem rdown_c (p g : Int) (hp : I64 p) (hg : I64 g) (w : World) : Calls Try.prog 15 #[.int .i64 p, .int .i64 g] w fun e w' => e = .returned (.int .i64 (downI p g)) ∧ Ext w w' := by
  unfold downI
  unfold I64 at *
  by_cases h1 : p < 0
  · rw [if_pos (.inl h1)]
    go_enter Try.func15, Try.ntmps15
    go_wp2
    refine fin_ret rfl (fun K hK => ?_)
    simp [results, Try.results15, go_sem, rsat]
    try go_simp
    refine hK _ ?_
    clear hK K
    exact ⟨rfl, (by repeat (first | exact Ext.refl _ | assumption | refine Ext.alloc ?_ _ | refine Ext.drew ?_ | refine Ext.drewN ?_ _ | refine Ext.setCell ?_ (by simp; try omega) _))⟩
  · by_cases h2 : g < 1
    · rw [if_pos (.inr h2)]
      go_enter Try.func15, Try.ntmps15
      go_wp2
      refine fin_ret rfl (fun K hK => ?_)
      simp [results, Try.results15, go_sem, rsat]
      try go_simp
      refine hK _ ?_
      clear hK K
      exact ⟨rfl, (by repeat (first | exact Ext.refl _ | assumption | refine Ext.alloc ?_ _ | refine Ext.drew ?_ | refine Ext.drewN ?_ _ | refine Ext.setCell ?_ (by simp; try omega) _))⟩
    · rw [if_neg (by omega)]
      obtain ⟨b1, b2, b3⟩ := rem_sub (p := p) (g := g) (by omega) (by omega)
      obtain ⟨b4, b5, b6⟩ := downI_le (p := p) (g := g) (by omega) (by omega)
      have HB := Lib.hid b3
      clear b3
      go_enter Try.func15, Try.ntmps15
      go_wp2
      refine fin_ret rfl (fun K hK => ?_)
      simp [results, Try.results15, go_sem, rsat]
      try go_simp
      refine hK _ ?_
      clear hK K
      rw [HB.out]
      exact ⟨rfl, (by repeat (first | exact Ext.refl _ | assumption | refine Ext.alloc ?_ _ | refine Ext.drew ?_ | refine Ext.drewN ?_ _ | refine Ext.setCell ?_ (by simp; try omega) _))⟩
set_option maxHeartbeats 400000 in
theorem rup_c (p g : Int) (hp : I64 p) (hg : I64 g) (w : World) : Calls Try.prog 13 #[.int .i64 p, .int .i64 g] w fun e w' => e = .returned (upI p g) ∧ Ext w w' := by
  have hp' := hp
  have hg' := hg
  unfold upI
  unfold I64 at hp hg
  by_cases h1 : p < 0
  · rw [if_pos (.inl h1), chk64_out]
    go_enter Try.func13, Try.ntmps13
    go_wp2
    refine fin_ret rfl (fun K hK => ?_)
    simp [results, Try.results13, go_sem, rsat]
    try go_simp
    refine hK _ ?_
    clear hK K
    exact ⟨rfl, (by repeat (first | exact Ext.refl _ | assumption | refine Ext.alloc ?_ _ | refine Ext.drew ?_ | refine Ext.drewN ?_ _ | refine Ext.setCell ?_ (by simp; try omega) _))⟩
  · by_cases h2 : g < 1
    · rw [if_pos (.inr h2), chk64_out]
      go_enter Try.func13, Try.ntmps13
      go_wp2
      refine fin_ret rfl (fun K hK => ?_)
      simp [results, Try.results13, go_sem, rsat]
      try go_simp
      refine hK _ ?_
      clear hK K
      exact ⟨rfl, (by repeat (first | exact Ext.refl _ | assumption | refine Ext.alloc ?_ _ | refine Ext.drew ?_ | refine Ext.drewN ?_ _ | refine Ext.setCell ?_ (by simp; try omega) _))⟩
    · rw [if_neg (by omega)]
      obtain ⟨b1, b2, b3⟩ := rem_sub (p := p) (g := g) (by omega) (by omega)
      obtain ⟨b4, b5, b6⟩ := downI_le (p := p) (g := g) (by omega) (by omega)
      have D := rfadd_c (p / g * g) g (by unfold I64; omega) hg'
      rw [← b3] at D b4 b5 b6 ⊢
      clear b3
      obtain ⟨y, c, hy⟩ : ∃ y c, chk64 (p - p % g + g) = .tuple #[.int .i64 y, .bool c] := ⟨_, _, rfl⟩
      rw [hy] at D ⊢
      have HD := Lib.hid D
      clear D hy
      by_cases h3 : p % g = 0
      · rw [if_pos (by omega), chk64_yes hp']
        have e : (p % g == 0) = true := beq_iff_eq.2 h3
        clear h3
        go_enter Try.func13, Try.ntmps13
        go_wp2
        refine fin_ret rfl (fun K hK => ?_)
        simp [results, Try.results13, go_sem, rsat]
        try go_simp
        refine hK _ ?_
        clear hK K
        exact ⟨rfl, (by repeat (first | exact Ext.refl _ | assumption | refine Ext.alloc ?_ _ | refine Ext.drew ?_ | refine Ext.drewN ?_ _ | refine Ext.setCell ?_ (by simp; try omega) _))⟩
      · rw [if_neg (by omega)]
        have e : (p % g == 0) = false := beq_eq_false_iff_ne.2 h3
        clear h3
        go_enter Try.func13, Try.ntmps13
        go_wp2_with fail
        refine (HD.out _).mono ?_
        rintro e w1 ⟨rfl, hxw1⟩
        have xw1 : Ext w w1 := Ext.trans (by repeat (first | exact Ext.refl _ | assumption | refine Ext.alloc ?_ _ | refine Ext.drew ?_ | refine Ext.drewN ?_ _ | refine Ext.setCell ?_ (by simp; try omega) _)) hxw1
        go_wp2
        refine fin_ret rfl (fun K hK => ?_)
        simp [results, Try.results13, go_sem, rsat]
        try go_simp
        refine hK _ ?_
        clear hK K
        exact ⟨rfl, (by repeat (first | exact Ext.refl _ | assumption | refine Ext.alloc ?_ _ | refine Ext.drew ?_ | refine Ext.drewN ?_ _ | refine Ext.setCell ?_ (by simp; try omega) _))⟩
set_option maxRecDepth 100000 in
theorem fits_c (r bps g : Int) (w : World) : Calls Try.prog 43 #[.int .i64 r, .int .i64 bps, .int .i64 g] w fun e w' => e = .returned (.bool (decide (arOk r bps g))) ∧ Ext w w' := by
  by_cases h1 : 1 ≤ r
  · by_cases h2 : r ≤ 1099511627776
    · by_cases h3 : 0 ≤ bps
      · by_cases h4 : bps ≤ 9999
        · by_cases h5 : 1 ≤ g
          · have e : decide (arOk r bps g) = decide (g ≤ 1099511627776) := by rw [decide_eq_decide]; unfold arOk; omega
            rw [e]
            clear e
            go_enter Try.func43, Try.ntmps43
            go_wp2
            refine fin_ret rfl (fun K hK => ?_)
            simp [results, Try.results43, go_sem, rsat]
            try go_simp
            refine hK _ ?_
            clear hK K
            exact ⟨rfl, (by repeat (first | exact Ext.refl _ | assumption | refine Ext.alloc ?_ _ | refine Ext.drew ?_ | refine Ext.drewN ?_ _ | refine Ext.setCell ?_ (by simp; try omega) _))⟩
          · rw [decide_eq_false (by unfold arOk; omega)]
            go_enter Try.func43, Try.ntmps43
            go_wp2
            refine fin_ret rfl (fun K hK => ?_)
            simp [results, Try.results43, go_sem, rsat]
            try go_simp
            refine hK _ ?_
            clear hK K
            exact ⟨rfl, (by repeat (first | exact Ext.refl _ | assumption | refine Ext.alloc ?_ _ | refine Ext.drew ?_ | refine Ext.drewN ?_ _ | refine Ext.setCell ?_ (by simp; try omega) _))⟩
        · rw [decide_eq_false (by unfold arOk; omega)]
          go_enter Try.func43, Try.ntmps43
          go_wp2
          refine fin_ret rfl (fun K hK => ?_)
          simp [results, Try.results43, go_sem, rsat]
          try go_simp
          refine hK _ ?_
          clear hK K
          exact ⟨rfl, (by repeat (first | exact Ext.refl _ | assumption | refine Ext.alloc ?_ _ | refine Ext.drew ?_ | refine Ext.drewN ?_ _ | refine Ext.setCell ?_ (by simp; try omega) _))⟩
      · rw [decide_eq_false (by unfold arOk; omega)]
        go_enter Try.func43, Try.ntmps43
        go_wp2
        refine fin_ret rfl (fun K hK => ?_)
        simp [results, Try.results43, go_sem, rsat]
        try go_simp
        refine hK _ ?_
        clear hK K
        exact ⟨rfl, (by repeat (first | exact Ext.refl _ | assumption | refine Ext.alloc ?_ _ | refine Ext.drew ?_ | refine Ext.drewN ?_ _ | refine Ext.setCell ?_ (by simp; try omega) _))⟩
    · rw [decide_eq_false (by unfold arOk; omega)]
      go_enter Try.func43, Try.ntmps43
      go_wp2
      refine fin_ret rfl (fun K hK => ?_)
      simp [results, Try.results43, go_sem, rsat]
      try go_simp
      refine hK _ ?_
      clear hK K
      exact ⟨rfl, (by repeat (first | exact Ext.refl _ | assumption | refine Ext.alloc ?_ _ | refine Ext.drew ?_ | refine Ext.drewN ?_ _ | refine Ext.setCell ?_ (by simp; try omega) _))⟩
  · rw [decide_eq_false (by unfold arOk; omega)]
    go_enter Try.func43, Try.ntmps43
    go_wp2
    refine fin_ret rfl (fun K hK => ?_)
    simp [results, Try.results43, go_sem, rsat]
    try go_simp
    refine hK _ ?_
    clear hK K
    exact ⟨rfl, (by repeat (first | exact Ext.refl _ | assumption | refine Ext.alloc ?_ _ | refine Ext.drew ?_ | refine Ext.drewN ?_ _ | refine Ext.setCell ?_ (by simp; try omega) _))⟩
theorem lo_two (n : Int) (h : 0 ≤ n) : (n + 9999) / 10000 = if 0 < n % 10000 then n / 10000 + 1 else n / 10000 := by
  split <;> omega
set_option maxRecDepth 100000 in
set_option maxHeartbeats 400000 in
theorem rlower_c (r bps g : Int) (hr : I64 r) (hb : I64 bps) (hg : I64 g) (w : World) : Calls Try.prog 17 #[.int .i64 r, .int .i64 bps, .int .i64 g] w fun e w' => e = .returned (lowT r bps g) ∧ Ext w w' := by
  unfold lowT
  by_cases h : arOk r bps g
  · rw [if_pos h]
    have C0 := fits_c r bps g
    rw [decide_eq_true h] at C0
    have HC0 := Lib.hid C0
    have hb1 := h.2.1.1
    have hb2 := h.2.1.2
    obtain ⟨h1, h2⟩ := loI_bd h
    have hr1 := h.1.1
    have hr2 := h.1.2
    obtain ⟨c1, c2, c3⟩ := mul_bd (p := 10000 - bps) hr1 hr2 (by omega) (by omega)
    have C2 := rup_c (loI r bps) g ⟨by omega, by omega⟩ hg
    rw [up_low h] at C2
    obtain ⟨z, hz⟩ : ∃ z, z = upN (loI r bps) g := ⟨_, rfl⟩
    rw [← hz] at C2 ⊢
    have e : loI r bps = if 0 < r * (10000 - bps) % 10000 then r * (10000 - bps) / 10000 + 1 else r * (10000 - bps) / 10000 := lo_two _ (by omega)
    rw [e] at C2
    clear C0 e hz h1 h2
    by_cases hm : 0 < r * (10000 - bps) % 10000
    · rw [if_pos hm] at C2
      have HC2 := Lib.hid C2
      clear C2
      go_enter Try.func17, Try.ntmps17
      go_wp2_with fail
      refine (HC0.out _).mono ?_
      rintro e w1 ⟨rfl, hxw1⟩
      have xw1 : Ext w w1 := Ext.trans (by repeat (first | exact Ext.refl _ | assumption | refine Ext.alloc ?_ _ | refine Ext.drew ?_ | refine Ext.drewN ?_ _ | refine Ext.setCell ?_ (by simp; try omega) _)) hxw1
      go_wp2_with fail
      refine (HC2.out _).mono ?_
      rintro e w2 ⟨rfl, hxw2⟩
      have xw2 : Ext w w2 := Ext.trans (by repeat (first | exact Ext.refl _ | assumption | refine Ext.alloc ?_ _ | refine Ext.drew ?_ | refine Ext.drewN ?_ _ | refine Ext.setCell ?_ (by simp; try omega) _)) hxw2
      go_wp2
      refine fin_ret rfl (fun K hK => ?_)
      simp [results, Try.results17, go_sem, rsat]
      try go_simp
      refine hK _ ?_
      clear hK K
      exact ⟨rfl, (by repeat (first | exact Ext.refl _ | assumption | refine Ext.alloc ?_ _ | refine Ext.drew ?_ | refine Ext.drewN ?_ _ | refine Ext.setCell ?_ (by simp; try omega) _))⟩
    · rw [if_neg hm] at C2
      have HC2 := Lib.hid C2
      clear C2
      go_enter Try.func17, Try.ntmps17
      go_wp2_with fail
      refine (HC0.out _).mono ?_
      rintro e w1 ⟨rfl, hxw1⟩
      have xw1 : Ext w w1 := Ext.trans (by repeat (first | exact Ext.refl _ | assumption | refine Ext.alloc ?_ _ | refine Ext.drew ?_ | refine Ext.drewN ?_ _ | refine Ext.setCell ?_ (by simp; try omega) _)) hxw1
      go_wp2_with fail
      refine (HC2.out _).mono ?_
      rintro e w2 ⟨rfl, hxw2⟩
      have xw2 : Ext w w2 := Ext.trans (by repeat (first | exact Ext.refl _ | assumption | refine Ext.alloc ?_ _ | refine Ext.drew ?_ | refine Ext.drewN ?_ _ | refine Ext.setCell ?_ (by simp; try omega) _)) hxw2
      go_wp2
      refine fin_ret rfl (fun K hK => ?_)
      simp [results, Try.results17, go_sem, rsat]
      try go_simp
      refine hK _ ?_
      clear hK K
      exact ⟨rfl, (by repeat (first | exact Ext.refl _ | assumption | refine Ext.alloc ?_ _ | refine Ext.drew ?_ | refine Ext.drewN ?_ _ | refine Ext.setCell ?_ (by simp; try omega) _))⟩
  · rw [if_neg h]
    have C0 := fits_c r bps g
    rw [decide_eq_false h] at C0
    have HC0 := Lib.hid C0
    clear C0
    go_enter Try.func17, Try.ntmps17
    go_wp2_with fail
    refine (HC0.out _).mono ?_
    rintro e w1 ⟨rfl, hxw1⟩
    have xw1 : Ext w w1 := Ext.trans (by repeat (first | exact Ext.refl _ | assumption | refine Ext.alloc ?_ _ | refine Ext.drew ?_ | refine Ext.drewN ?_ _ | refine Ext.setCell ?_ (by simp; try omega) _)) hxw1
    go_wp2
    refine fin_ret rfl (fun K hK => ?_)
    simp [results, Try.results17, go_sem, rsat]
    try go_simp
    refine hK _ ?_
    clear hK K
    exact ⟨rfl, (by repeat (first | exact Ext.refl _ | assumption | refine Ext.alloc ?_ _ | refine Ext.drew ?_ | refine Ext.drewN ?_ _ | refine Ext.setCell ?_ (by simp; try omega) _))⟩
set_option maxRecDepth 100000 in
set_option maxHeartbeats 400000 in
theorem rupper_c (r bps g : Int) (hr : I64 r) (hb : I64 bps) (hg : I64 g) (w : World) : Calls Try.prog 19 #[.int .i64 r, .int .i64 bps, .int .i64 g] w fun e w' => e = .returned (uppT r bps g) ∧ Ext w w' := by
  unfold uppT
  by_cases h : arOk r bps g
  · rw [if_pos h]
    have C0 := fits_c r bps g
    rw [decide_eq_true h] at C0
    have HC0 := Lib.hid C0
    have hb1 := h.2.1.1
    have hb2 := h.2.1.2
    obtain ⟨h1, h2⟩ := hiI_bd h
    have hr1 := h.1.1
    have hr2 := h.1.2
    obtain ⟨c1, c2, c3⟩ := mul_bd (p := 10000 + bps) hr1 hr2 (by omega) (by omega)
    have C2 := rdown_c (hiI r bps) g ⟨by omega, by omega⟩ hg
    rw [down_hi h] at C2
    obtain ⟨z, hz⟩ : ∃ z, z = hiI r bps / g * g := ⟨_, rfl⟩
    rw [← hz] at C2 ⊢
    unfold hiI at C2
    have HC2 := Lib.hid C2
    clear C0 C2 hz h1 h2
    go_enter Try.func19, Try.ntmps19
    go_wp2_with fail
    refine (HC0.out _).mono ?_
    rintro e w1 ⟨rfl, hxw1⟩
    have xw1 : Ext w w1 := Ext.trans (by repeat (first | exact Ext.refl _ | assumption | refine Ext.alloc ?_ _ | refine Ext.drew ?_ | refine Ext.drewN ?_ _ | refine Ext.setCell ?_ (by simp; try omega) _)) hxw1
    go_wp2_with fail
    refine (HC2.out _).mono ?_
    rintro e w2 ⟨rfl, hxw2⟩
    have xw2 : Ext w w2 := Ext.trans (by repeat (first | exact Ext.refl _ | assumption | refine Ext.alloc ?_ _ | refine Ext.drew ?_ | refine Ext.drewN ?_ _ | refine Ext.setCell ?_ (by simp; try omega) _)) hxw2
    go_wp2
    refine fin_ret rfl (fun K hK => ?_)
    simp [results, Try.results19, go_sem, rsat]
    try go_simp
    refine hK _ ?_
    clear hK K
    exact ⟨rfl, (by repeat (first | exact Ext.refl _ | assumption | refine Ext.alloc ?_ _ | refine Ext.drew ?_ | refine Ext.drewN ?_ _ | refine Ext.setCell ?_ (by simp; try omega) _))⟩
  · rw [if_neg h]
    have C0 := fits_c r bps g
    rw [decide_eq_false h] at C0
    have HC0 := Lib.hid C0
    clear C0
    go_enter Try.func19, Try.ntmps19
    go_wp2_with fail
    refine (HC0.out _).mono ?_
    rintro e w1 ⟨rfl, hxw1⟩
    have xw1 : Ext w w1 := Ext.trans (by repeat (first | exact Ext.refl _ | assumption | refine Ext.alloc ?_ _ | refine Ext.drew ?_ | refine Ext.drewN ?_ _ | refine Ext.setCell ?_ (by simp; try omega) _)) hxw1
    go_wp2
    refine fin_ret rfl (fun K hK => ?_)
    simp [results, Try.results19, go_sem, rsat]
    try go_simp
    refine hK _ ?_
    clear hK K
    exact ⟨rfl, (by repeat (first | exact Ext.refl _ | assumption | refine Ext.alloc ?_ _ | refine Ext.drew ?_ | refine Ext.drewN ?_ _ | refine Ext.setCell ?_ (by simp; try omega) _))⟩
theorem rnotional_c (p q : Int) (hp : I64 p) (hq : I64 q) (w : World) : Calls Try.prog 28 #[.int .i64 p, .int .i64 q] w fun e w' => e = .returned (notI p q) ∧ Ext w w' := by
  unfold notI
  by_cases h1 : p < 0
  · rw [if_pos (.inl h1), chk64_out]
    go_enter Try.func28, Try.ntmps28
    go_wp2
    refine fin_ret rfl (fun K hK => ?_)
    simp [results, Try.results28, go_sem, rsat]
    try go_simp
    refine hK _ ?_
    clear hK K
    exact ⟨rfl, (by repeat (first | exact Ext.refl _ | assumption | refine Ext.alloc ?_ _ | refine Ext.drew ?_ | refine Ext.drewN ?_ _ | refine Ext.setCell ?_ (by simp; try omega) _))⟩
  · by_cases h2 : q < 0
    · rw [if_pos (.inr h2), chk64_out]
      go_enter Try.func28, Try.ntmps28
      go_wp2
      refine fin_ret rfl (fun K hK => ?_)
      simp [results, Try.results28, go_sem, rsat]
      try go_simp
      refine hK _ ?_
      clear hK K
      exact ⟨rfl, (by repeat (first | exact Ext.refl _ | assumption | refine Ext.alloc ?_ _ | refine Ext.drew ?_ | refine Ext.drewN ?_ _ | refine Ext.setCell ?_ (by simp; try omega) _))⟩
    · rw [if_neg (by omega)]
      have C := rfmul_c p q hp hq
      obtain ⟨y, c, hy⟩ := chk64_open (p * q)
      rw [hy] at C ⊢
      have HC := Lib.hid C
      clear C hy
      go_enter Try.func28, Try.ntmps28
      go_wp2_with fail
      refine (HC.out _).mono ?_
      rintro e w1 ⟨rfl, hxw1⟩
      have xw1 : Ext w w1 := Ext.trans (by repeat (first | exact Ext.refl _ | assumption | refine Ext.alloc ?_ _ | refine Ext.drew ?_ | refine Ext.drewN ?_ _ | refine Ext.setCell ?_ (by simp; try omega) _)) hxw1
      go_wp2
      refine fin_ret rfl (fun K hK => ?_)
      simp [results, Try.results28, go_sem, rsat]
      try go_simp
      refine hK _ ?_
      clear hK K
      exact ⟨rfl, (by repeat (first | exact Ext.refl _ | assumption | refine Ext.alloc ?_ _ | refine Ext.drew ?_ | refine Ext.drewN ?_ _ | refine Ext.setCell ?_ (by simp; try omega) _))⟩
theorem rprice_c (p g : Int) (hp : I64 p) (hg : I64 g) (w : World) : Calls Try.prog 29 #[.int .i64 p, .int .i64 g] w fun e w' => e = .returned (.int .i64 (priceI p g)) ∧ Ext w w' := by
  unfold priceI
  by_cases h1 : g < 1
  · rw [if_pos h1]
    go_enter Try.func29, Try.ntmps29
    go_wp2
    refine fin_ret rfl (fun K hK => ?_)
    simp [results, Try.results29, go_sem, rsat]
    try go_simp
    refine hK _ ?_
    clear hK K
    exact ⟨rfl, (by repeat (first | exact Ext.refl _ | assumption | refine Ext.alloc ?_ _ | refine Ext.drew ?_ | refine Ext.drewN ?_ _ | refine Ext.setCell ?_ (by simp; try omega) _))⟩
  · rw [if_neg h1]
    by_cases h2 : p < 1
    · rw [if_pos (.inl h2)]
      go_enter Try.func29, Try.ntmps29
      go_wp2
      refine fin_ret rfl (fun K hK => ?_)
      simp [results, Try.results29, go_sem, rsat]
      try go_simp
      refine hK _ ?_
      clear hK K
      exact ⟨rfl, (by repeat (first | exact Ext.refl _ | assumption | refine Ext.alloc ?_ _ | refine Ext.drew ?_ | refine Ext.drewN ?_ _ | refine Ext.setCell ?_ (by simp; try omega) _))⟩
    · by_cases h3 : 1099511627776 < p
      · rw [if_pos (.inr h3)]
        go_enter Try.func29, Try.ntmps29
        go_wp2
        refine fin_ret rfl (fun K hK => ?_)
        simp [results, Try.results29, go_sem, rsat]
        try go_simp
        refine hK _ ?_
        clear hK K
        exact ⟨rfl, (by repeat (first | exact Ext.refl _ | assumption | refine Ext.alloc ?_ _ | refine Ext.drew ?_ | refine Ext.drewN ?_ _ | refine Ext.setCell ?_ (by simp; try omega) _))⟩
      · rw [if_neg (by omega)]
        obtain ⟨b1, b2, b3⟩ := rem_sub (p := p) (g := g) (by omega) (by omega)
        by_cases h4 : p % g = 0
        · rw [if_pos (by omega)]
          have e : (p % g == 0) = true := beq_iff_eq.2 h4
          have e2 : (p % g != 0) = false := by simp [h4]
          clear b3 h4
          go_enter Try.func29, Try.ntmps29
          go_wp2
          refine fin_ret rfl (fun K hK => ?_)
          simp [results, Try.results29, go_sem, rsat]
          try go_simp
          refine hK _ ?_
          clear hK K
          exact ⟨rfl, (by repeat (first | exact Ext.refl _ | assumption | refine Ext.alloc ?_ _ | refine Ext.drew ?_ | refine Ext.drewN ?_ _ | refine Ext.setCell ?_ (by simp; try omega) _))⟩
        · rw [if_neg (by omega)]
          have e : (p % g == 0) = false := beq_eq_false_iff_ne.2 h4
          have e2 : (p % g != 0) = true := bne_iff_ne.2 h4
          clear b3 h4
          go_enter Try.func29, Try.ntmps29
          go_wp2
          refine fin_ret rfl (fun K hK => ?_)
          simp [results, Try.results29, go_sem, rsat]
          try go_simp
          refine hK _ ?_
          clear hK K
          exact ⟨rfl, (by repeat (first | exact Ext.refl _ | assumption | refine Ext.alloc ?_ _ | refine Ext.drew ?_ | refine Ext.drewN ?_ _ | refine Ext.setCell ?_ (by simp; try omega) _))⟩
theorem rqty_c (q : Int) (w : World) : Calls Try.prog 31 #[.int .i64 q] w fun e w' => e = .returned (.int .i64 (qtyI q)) ∧ Ext w w' := by
  unfold qtyI
  by_cases h1 : q < 1
  · rw [if_pos (.inl h1)]
    go_enter Try.func31, Try.ntmps31
    go_wp2
    refine fin_ret rfl (fun K hK => ?_)
    simp [results, Try.results31, go_sem, rsat]
    try go_simp
    refine hK _ ?_
    clear hK K
    exact ⟨rfl, (by repeat (first | exact Ext.refl _ | assumption | refine Ext.alloc ?_ _ | refine Ext.drew ?_ | refine Ext.drewN ?_ _ | refine Ext.setCell ?_ (by simp; try omega) _))⟩
  · by_cases h2 : 4294967296 < q
    · rw [if_pos (.inr h2)]
      go_enter Try.func31, Try.ntmps31
      go_wp2
      refine fin_ret rfl (fun K hK => ?_)
      simp [results, Try.results31, go_sem, rsat]
      try go_simp
      refine hK _ ?_
      clear hK K
      exact ⟨rfl, (by repeat (first | exact Ext.refl _ | assumption | refine Ext.alloc ?_ _ | refine Ext.drew ?_ | refine Ext.drewN ?_ _ | refine Ext.setCell ?_ (by simp; try omega) _))⟩
    · rw [if_neg (by omega)]
      go_enter Try.func31, Try.ntmps31
      go_wp2
      refine fin_ret rfl (fun K hK => ?_)
      simp [results, Try.results31, go_sem, rsat]
      try go_simp
      refine hK _ ?_
      clear hK K
      exact ⟨rfl, (by repeat (first | exact Ext.refl _ | assumption | refine Ext.alloc ?_ _ | refine Ext.drew ?_ | refine Ext.drewN ?_ _ | refine Ext.setCell ?_ (by simp; try omega) _))⟩
end Go.Proofs.Ythankfdmjlpehaa
