/- The walks of package fix: sign, size, Add, Sub, Down, Up. No condition. -/
import Derived.Test.YtimgdhpddklplaaFP
import Derived.Test.YtimgdhpddklplaaSl
import Derived.Test.YtimgdhpddklplaaProg
namespace Go.Proofs.Ytimgdhpddklplaa
open Go.RowKit

instance (x : Int) : Decidable (I64 x) := by unfold I64; infer_instance
/-- A result that is 0 where there is none. -/
def dv (c : Bool) (x : Int) : Int := if c then x else 0
def okI (x : Int) : Bool := decide (I64 x)
theorem okI_yes {x : Int} (h : I64 x) : okI x = true := decide_eq_true h
theorem okI_no {x : Int} (h : ¬ I64 x) : okI x = false := decide_eq_false h
/-- A checked number, and whether it is one. -/
def chk64 (x : Int) : Value := .tuple #[.int .i64 (dv (okI x) x), .bool (okI x)]
theorem chk64_yes {x : Int} (h : I64 x) : chk64 x = .tuple #[.int .i64 x, .bool true] := by unfold chk64 dv; rw [okI_yes h]; rfl
theorem chk64_no {x : Int} (h : ¬ I64 x) : chk64 x = .tuple #[.int .i64 0, .bool false] := by unfold chk64 dv; rw [okI_no h]; rfl

theorem add_yes (a b : Int) (ha : I64 a) (hb : I64 b) (h : I64 (a + b)) (w : World) : Calls Try.prog 55 #[.int .i64 a, .int .i64 b] w fun e w' => e = .returned (chk64 (a + b)) ∧ Ext w w' := by
  rw [chk64_yes h]
  have ho := add_ov ha hb
  rw [wrap64_in h] at ho
  have hn : ¬ (bits .and .i64 (bits .xor .i64 a (a + b)) (bits .xor .i64 b (a + b)) < 0) := fun x => ho.1 x h
  clear ho
  unfold I64 at *
  go_enter Try.func55, Try.ntmps55
  go_wp2
  refine fin_ret rfl (fun K hK => ?_)
  simp [results, Try.results55, go_sem, rsat]
  try go_simp
  refine hK _ ?_
  clear hK K
  exact ⟨rfl, (by repeat (first | exact Ext.refl _ | assumption | refine Ext.alloc ?_ _ | refine Ext.drew ?_ | refine Ext.drewN ?_ _ | refine Ext.setCell ?_ (by simp; try omega) _ | refine Ext.setRow ?_ (by simp; try omega) _))⟩
theorem add_no (a b : Int) (ha : I64 a) (hb : I64 b) (h : ¬ I64 (a + b)) (w : World) : Calls Try.prog 55 #[.int .i64 a, .int .i64 b] w fun e w' => e = .returned (chk64 (a + b)) ∧ Ext w w' := by
  rw [chk64_no h]
  have hn := (add_ov ha hb).2 h
  go_enter Try.func55, Try.ntmps55
  go_wp2
  refine fin_ret rfl (fun K hK => ?_)
  simp [results, Try.results55, go_sem, rsat]
  try go_simp
  refine hK _ ?_
  clear hK K
  exact ⟨rfl, (by repeat (first | exact Ext.refl _ | assumption | refine Ext.alloc ?_ _ | refine Ext.drew ?_ | refine Ext.drewN ?_ _ | refine Ext.setCell ?_ (by simp; try omega) _ | refine Ext.setRow ?_ (by simp; try omega) _))⟩
theorem fadd_c (a b : Int) (ha : I64 a) (hb : I64 b) (w : World) : Calls Try.prog 55 #[.int .i64 a, .int .i64 b] w fun e w' => e = .returned (chk64 (a + b)) ∧ Ext w w' := by
  by_cases h : I64 (a + b)
  · exact add_yes a b ha hb h w
  · exact add_no a b ha hb h w
/-- Down to the grid. -/
def downI (p g : Int) : Int := if p < 0 ∨ g < 1 then 0 else p / g * g
theorem downI_le {p g : Int} (hp : 0 ≤ p) (hg : 1 ≤ g) : 0 ≤ p / g * g ∧ p / g * g ≤ p ∧ p < p / g * g + g := by
  have h1 := Int.emod_nonneg p (b := g) (by omega)
  have h2 := Int.emod_lt_of_pos p (b := g) (by omega)
  have h3 := Int.mul_ediv_add_emod p g
  have h4 : 0 ≤ p / g := Int.ediv_nonneg hp (by omega)
  have h5 : 0 ≤ p / g * g := Int.mul_nonneg h4 (by omega)
  rw [Int.mul_comm] at h3
  omega
theorem div_le' {p g : Int} (hp : 0 ≤ p) (hg : 1 ≤ g) : 0 ≤ p / g ∧ p / g ≤ p := by
  have h4 : 0 ≤ p / g := Int.ediv_nonneg hp (by omega)
  obtain ⟨h1, h2, h3⟩ := downI_le hp hg
  have : p / g * 1 ≤ p / g * g := Int.mul_le_mul_of_nonneg_left hg h4
  omega
set_option maxHeartbeats 400000 in
theorem down_c (p g : Int) (hp : I64 p) (hg : I64 g) (w : World) : Calls Try.prog 47 #[.int .i64 p, .int .i64 g] w fun e w' => e = .returned (.int .i64 (downI p g)) ∧ Ext w w' := by
  unfold downI
  unfold I64 at *
  by_cases h1 : p < 0
  · rw [if_pos (.inl h1)]
    go_enter Try.func47, Try.ntmps47
    go_wp2
    refine fin_ret rfl (fun K hK => ?_)
    simp [results, Try.results47, go_sem, rsat]
    try go_simp
    refine hK _ ?_
    clear hK K
    exact ⟨rfl, (by repeat (first | exact Ext.refl _ | assumption | refine Ext.alloc ?_ _ | refine Ext.drew ?_ | refine Ext.drewN ?_ _ | refine Ext.setCell ?_ (by simp; try omega) _ | refine Ext.setRow ?_ (by simp; try omega) _))⟩
  · by_cases h2 : g < 1
    · rw [if_pos (.inr h2)]
      go_enter Try.func47, Try.ntmps47
      go_wp2
      refine fin_ret rfl (fun K hK => ?_)
      simp [results, Try.results47, go_sem, rsat]
      try go_simp
      refine hK _ ?_
      clear hK K
      exact ⟨rfl, (by repeat (first | exact Ext.refl _ | assumption | refine Ext.alloc ?_ _ | refine Ext.drew ?_ | refine Ext.drewN ?_ _ | refine Ext.setCell ?_ (by simp; try omega) _ | refine Ext.setRow ?_ (by simp; try omega) _))⟩
    · rw [if_neg (by omega)]
      obtain ⟨b1, b2, b3⟩ := downI_le (p := p) (g := g) (by omega) (by omega)
      obtain ⟨b4, b5⟩ := div_le' (p := p) (g := g) (by omega) (by omega)
      go_enter Try.func47, Try.ntmps47
      go_wp2
      refine fin_ret rfl (fun K hK => ?_)
      simp [results, Try.results47, go_sem, rsat]
      try go_simp
      refine hK _ ?_
      clear hK K
      exact ⟨rfl, (by repeat (first | exact Ext.refl _ | assumption | refine Ext.alloc ?_ _ | refine Ext.drew ?_ | refine Ext.drewN ?_ _ | refine Ext.setCell ?_ (by simp; try omega) _ | refine Ext.setRow ?_ (by simp; try omega) _))⟩
/-- Up to the grid: checked. -/
def upI (p g : Int) : Value := if p < 0 ∨ g < 1 then chk64 9223372036854775808 else if p / g * g = p then chk64 p else chk64 (p / g * g + g)
theorem chk64_out : chk64 9223372036854775808 = .tuple #[.int .i64 0, .bool false] := chk64_no (by unfold I64; omega)
set_option maxHeartbeats 400000 in
theorem up_c (p g : Int) (hp : I64 p) (hg : I64 g) (w : World) : Calls Try.prog 49 #[.int .i64 p, .int .i64 g] w fun e w' => e = .returned (upI p g) ∧ Ext w w' := by
  have hp' := hp
  have hg' := hg
  unfold upI
  unfold I64 at hp hg
  by_cases h1 : p < 0
  · rw [if_pos (.inl h1), chk64_out]
    go_enter Try.func49, Try.ntmps49
    go_wp2
    refine fin_ret rfl (fun K hK => ?_)
    simp [results, Try.results49, go_sem, rsat]
    try go_simp
    refine hK _ ?_
    clear hK K
    exact ⟨rfl, (by repeat (first | exact Ext.refl _ | assumption | refine Ext.alloc ?_ _ | refine Ext.drew ?_ | refine Ext.drewN ?_ _ | refine Ext.setCell ?_ (by simp; try omega) _ | refine Ext.setRow ?_ (by simp; try omega) _))⟩
  · by_cases h2 : g < 1
    · rw [if_pos (.inr h2), chk64_out]
      go_enter Try.func49, Try.ntmps49
      go_wp2
      refine fin_ret rfl (fun K hK => ?_)
      simp [results, Try.results49, go_sem, rsat]
      try go_simp
      refine hK _ ?_
      clear hK K
      exact ⟨rfl, (by repeat (first | exact Ext.refl _ | assumption | refine Ext.alloc ?_ _ | refine Ext.drew ?_ | refine Ext.drewN ?_ _ | refine Ext.setCell ?_ (by simp; try omega) _ | refine Ext.setRow ?_ (by simp; try omega) _))⟩
    · rw [if_neg (by omega)]
      obtain ⟨b1, b2, b3⟩ := downI_le (p := p) (g := g) (by omega) (by omega)
      have C := down_c p g hp' hg'
      unfold downI at C
      rw [if_neg (by omega)] at C
      have D := fadd_c (p / g * g) g (by unfold I64; omega) hg'
      obtain ⟨q, hq⟩ : ∃ q, q = p / g * g := ⟨_, rfl⟩
      rw [← hq] at C D b1 b2 b3 ⊢
      have HC := Lib.hid C
      have HD := Lib.hid D
      clear hq C D
      by_cases h3 : q = p
      · rw [if_pos h3, chk64_yes hp']
        have e : (q == p) = true := beq_iff_eq.2 h3
        clear h3
        go_enter Try.func49, Try.ntmps49
        go_wp2_with fail
        refine (HC.out _).mono ?_
        rintro e w1 ⟨rfl, hxw1⟩
        have xw1 : Ext w w1 := Ext.trans (by repeat (first | exact Ext.refl _ | assumption | refine Ext.alloc ?_ _ | refine Ext.drew ?_ | refine Ext.drewN ?_ _ | refine Ext.setCell ?_ (by simp; try omega) _ | refine Ext.setRow ?_ (by simp; try omega) _)) hxw1
        have lw1 := xw1.size
        go_wp2
        refine fin_ret rfl (fun K hK => ?_)
        simp [results, Try.results49, go_sem, rsat]
        try go_simp
        refine hK _ ?_
        clear hK K
        exact ⟨rfl, hxw1⟩
      · rw [if_neg h3]
        have e : (q == p) = false := beq_eq_false_iff_ne.2 h3
        clear h3
        unfold chk64 at HD ⊢
        generalize hd : dv (okI (q + g)) (q + g) = d at HD ⊢
        generalize hb : okI (q + g) = b at HD ⊢
        clear hd hb
        go_enter Try.func49, Try.ntmps49
        go_wp2_with fail
        refine (HC.out _).mono ?_
        rintro e w1 ⟨rfl, hxw1⟩
        have xw1 : Ext w w1 := Ext.trans (by repeat (first | exact Ext.refl _ | assumption | refine Ext.alloc ?_ _ | refine Ext.drew ?_ | refine Ext.drewN ?_ _ | refine Ext.setCell ?_ (by simp; try omega) _ | refine Ext.setRow ?_ (by simp; try omega) _)) hxw1
        have lw1 := xw1.size
        go_wp2_with fail
        refine (HD.out _).mono ?_
        rintro e w2 ⟨rfl, hxw2⟩
        have xw2 : Ext w w2 := Ext.trans (by repeat (first | exact Ext.refl _ | assumption | refine Ext.alloc ?_ _ | refine Ext.drew ?_ | refine Ext.drewN ?_ _ | refine Ext.setCell ?_ (by simp; try omega) _ | refine Ext.setRow ?_ (by simp; try omega) _)) hxw2
        have lw2 := xw2.size
        go_wp2
        refine fin_ret rfl (fun K hK => ?_)
        simp [results, Try.results49, go_sem, rsat]
        try go_simp
        refine hK _ ?_
        clear hK K
        exact ⟨rfl, hxw1.trans hxw2⟩
end Go.Proofs.Ytimgdhpddklplaa
