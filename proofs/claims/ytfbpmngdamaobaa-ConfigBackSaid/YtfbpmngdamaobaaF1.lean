/- The walks of package fix: sign, size, Add, Sub, Down, Up. No condition. -/
import Derived.Test.YtfbpmngdamaobaaFP
import Derived.Test.YtfbpmngdamaobaaSl
import Derived.Test.YtfbpmngdamaobaaProg
namespace Go.Proofs.Ytfbpmngdamaobaa
open Go.RowKit

instance (x : Int) : Decidable (I64 x) := by unfold I64; infer_instance
/-- A result that is 0 where there is none. -/
def dv (c : Bool) (x : Int) : Int := if c then x else 0
def okI (x : Int) : Bool := decide (I64 x)
theorem okI_yes {x : Int} (h : I64 x) : okI x = true := decide_eq_true h
theorem okI_no {x : Int} (h : ¬ I64 x) : okI x = false := decide_eq_false h
/-- A checked number, and whether it is one. -/
def chk64 (x : Int) : Value := .tuple #[.int .i64 (dv (okI x) x), .bool (okI x)]
theorem chk64_yes {x : Int} (h : I64 x) : chk64 x = .tuple #[.int .i64 x, .bool true] := by unfold chk64 dv; rw [okI_yes h]; rfl
theorem chk64_no {x : Int} (h : ¬ I64 x) : chk64 x = .tuple #[.int .i64 0, .bool false] := by unfold chk64 dv; rw [okI_no h]; rfl

/-- Down to the grid. -/
def downI (p g : Int) : Int := if p < 0 ∨ g < 1 then 0 else p / g * g
theorem downI_le {p g : Int} (hp : 0 ≤ p) (hg : 1 ≤ g) : 0 ≤ p / g * g ∧ p / g * g ≤ p ∧ p < p / g * g + g := by
  have h1 := Int.emod_nonneg p (b := g) (by omega)
  have h2 := Int.emod_lt_of_pos p (b := g) (by omega)
  have h3 := Int.mul_ediv_add_emod p g
  have h4 : 0 ≤ p / g := Int.ediv_nonneg hp (by omega)
  have h5 : 0 ≤ p / g * g := Int.mul_nonneg h4 (by omega)
  rw [Int.mul_comm] at h3
  omega
theorem div_le' {p g : Int} (hp : 0 ≤ p) (hg : 1 ≤ g) : 0 ≤ p / g ∧ p / g ≤ p := by
  have h4 : 0 ≤ p / g := Int.ediv_nonneg hp (by omega)
  obtain ⟨h1, h2, h3⟩ := downI_le hp hg
  have : p / g * 1 ≤ p / g * g := Int.mul_le_mul_of_nonneg_left hg h4
  omega
set_option maxHeartbeats 400000 in
theorem down_c (p g : Int) (hp : I64 p) (hg : I64 g) (w : World) : Calls Try.prog 62 #[.int .i64 p, .int .i64 g] w fun e w' => e = .returned (.int .i64 (downI p g)) ∧ Ext w w' := by
  unfold downI
  unfold I64 at *
  by_cases h1 : p < 0
  · rw [if_pos (.inl h1)]
    go_enter Try.func62, Try.ntmps62
    go_wp2
    first | refine fin_ret rfl (fun K hK => ?_) | refine fin_norm rfl (fun K hK => ?_)
    simp [results, Try.results62, go_sem, rsat]
    try go_simp
    refine hK _ ?_
    clear hK K
    exact ⟨rfl, (by repeat (first | (with_reducible exact Ext.refl _) | (with_reducible assumption) | (with_reducible refine Ext.alloc ?_ _) | (with_reducible refine Ext.drew ?_) | (with_reducible refine Ext.drewN ?_ _) | (with_reducible refine Ext.setCell ?_ (by simp; try omega) _) | (with_reducible refine Ext.setRow ?_ (by simp; try omega) _)))⟩
  · by_cases h2 : g < 1
    · rw [if_pos (.inr h2)]
      go_enter Try.func62, Try.ntmps62
      go_wp2
      first | refine fin_ret rfl (fun K hK => ?_) | refine fin_norm rfl (fun K hK => ?_)
      simp [results, Try.results62, go_sem, rsat]
      try go_simp
      refine hK _ ?_
      clear hK K
      exact ⟨rfl, (by repeat (first | (with_reducible exact Ext.refl _) | (with_reducible assumption) | (with_reducible refine Ext.alloc ?_ _) | (with_reducible refine Ext.drew ?_) | (with_reducible refine Ext.drewN ?_ _) | (with_reducible refine Ext.setCell ?_ (by simp; try omega) _) | (with_reducible refine Ext.setRow ?_ (by simp; try omega) _)))⟩
    · rw [if_neg (by omega)]
      obtain ⟨b1, b2, b3⟩ := downI_le (p := p) (g := g) (by omega) (by omega)
      obtain ⟨b4, b5⟩ := div_le' (p := p) (g := g) (by omega) (by omega)
      go_enter Try.func62, Try.ntmps62
      go_wp2
      first | refine fin_ret rfl (fun K hK => ?_) | refine fin_norm rfl (fun K hK => ?_)
      simp [results, Try.results62, go_sem, rsat]
      try go_simp
      refine hK _ ?_
      clear hK K
      exact ⟨rfl, (by repeat (first | (with_reducible exact Ext.refl _) | (with_reducible assumption) | (with_reducible refine Ext.alloc ?_ _) | (with_reducible refine Ext.drew ?_) | (with_reducible refine Ext.drewN ?_ _) | (with_reducible refine Ext.setCell ?_ (by simp; try omega) _) | (with_reducible refine Ext.setRow ?_ (by simp; try omega) _)))⟩
/-- Up to the grid: checked. -/
def upI (p g : Int) : Value := if p < 0 ∨ g < 1 then chk64 9223372036854775808 else if p / g * g = p then chk64 p else chk64 (p / g * g + g)
theorem chk64_out : chk64 9223372036854775808 = .tuple #[.int .i64 0, .bool false] := chk64_no (by unfold I64; omega)
end Go.Proofs.Ytfbpmngdamaobaa
