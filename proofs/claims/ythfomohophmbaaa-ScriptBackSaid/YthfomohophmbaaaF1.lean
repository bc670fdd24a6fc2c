/- The walks of package fix: sign, size, Add, Sub, Down, Up. No condition. -/
import Derived.Test.YthfomohophmbaaaFP
import Derived.Test.YthfomohophmbaaaSl
import Derived.Test.YthfomohophmbaaaProg
namespace Go.Proofs.Ythfomohophmbaaa
open Go.RowKit

instance (x : Int) : Decidable (I64 x) := by unfold I64; infer_instance
/-- A result that is 0 where there is none. -/
def dv (c : Bool) (x : Int) : Int := if c then x else 0
def okI (x : Int) : Bool := decide (I64 x)
theorem okI_yes {x : Int} (h : I64 x) : okI x = true := decide_eq_true h
theorem okI_no {x : Int} (h : ¬ I64 x) : okI x = false := decide_eq_false h
/-- A checked number, and whether it is one. -/
def chk64 (x : Int) : Value := .tuple #[.int .i64 (dv (okI x) x), .bool (okI x)]
theorem chk64_yes {x : Int} (h : I64 x) : chk64 x = .tuple #[.int .i64 x, .bool true] := by unfold chk64 dv; rw [okI_yes h]; rfl
theorem chk64_no {x : Int} (h : ¬ I64 x) : chk64 x = .tuple #[.int .i64 0, .bool false] := by unfold chk64 dv; rw [okI_no h]; rfl

theorem add_yes (a b : Int) (ha : I64 a) (hb : I64 b) (h : I64 (a + b)) (w : World) : Calls Try.prog 28 #[.int .i64 a, .int .i64 b] w fun e w' => e = .returned (chk64 (a + b)) ∧ Ext w w' := by
  rw [chk64_yes h]
  have ho := add_ov ha hb
  rw [wrap64_in h] at ho
  have hn : ¬ (bits .and .i64 (bits .xor .i64 a (a + b)) (bits .xor .i64 b (a + b)) < 0) := fun x => ho.1 x h
  clear ho
  unfold I64 at *
  go_enter Try.func28, Try.ntmps28
  go_wp2
  first | refine fin_ret rfl (fun K hK => ?_) | refine fin_norm rfl (fun K hK => ?_)
  simp [results, Try.results28, go_sem, rsat]
  try go_simp
  refine hK _ ?_
  clear hK K
  exact ⟨rfl, (by repeat (first | (with_reducible exact Ext.refl _) | (with_reducible assumption) | (with_reducible refine Ext.alloc ?_ _) | (with_reducible refine Ext.drew ?_) | (with_reducible refine Ext.drewN ?_ _) | (with_reducible refine Ext.setCell ?_ (by simp; try omega) _) | (with_reducible refine Ext.setRow ?_ (by simp; try omega) _)))⟩
theorem add_no (a b : Int) (ha : I64 a) (hb : I64 b) (h : ¬ I64 (a + b)) (w : World) : Calls Try.prog 28 #[.int .i64 a, .int .i64 b] w fun e w' => e = .returned (chk64 (a + b)) ∧ Ext w w' := by
  rw [chk64_no h]
  have hn := (add_ov ha hb).2 h
  go_enter Try.func28, Try.ntmps28
  go_wp2
  first | refine fin_ret rfl (fun K hK => ?_) | refine fin_norm rfl (fun K hK => ?_)
  simp [results, Try.results28, go_sem, rsat]
  try go_simp
  refine hK _ ?_
  clear hK K
  exact ⟨rfl, (by repeat (first | (with_reducible exact Ext.refl _) | (with_reducible assumption) | (with_reducible refine Ext.alloc ?_ _) | (with_reducible refine Ext.drew ?_) | (with_reducible refine Ext.drewN ?_ _) | (with_reducible refine Ext.setCell ?_ (by simp; try omega) _) | (with_reducible refine Ext.setRow ?_ (by simp; try omega) _)))⟩
theorem fadd_c (a b : Int) (ha : I64 a) (hb : I64 b) (w : World) : Calls Try.prog 28 #[.int .i64 a, .int .i64 b] w fun e w' => e = .returned (chk64 (a + b)) ∧ Ext w w' := by
  by_cases h : I64 (a + b)
  · exact add_yes a b ha hb h w
  · exact add_no a b ha hb h w
/-- Down to the grid. -/
def downI (p g : Int) : Int := if p < 0 ∨ g < 1 then 0 else p / g * g
theorem downI_le {p g : Int} (hp : 0 ≤ p) (hg : 1 ≤ g) : 0 ≤ p / g * g ∧ p / g * g ≤ p ∧ p < p / g * g + g := by
  have h1 := Int.emod_nonneg p (b := g) (by omega)
  have h2 := Int.emod_lt_of_pos p (b := g) (by omega)
  have h3 := Int.mul_ediv_add_emod p g
  have h4 : 0 ≤ p / g := Int.ediv_nonneg hp (by omega)
  have h5 : 0 ≤ p / g * g := Int.mul_nonneg h4 (by omega)
  rw [Int.mul_comm] at h3
  omega
theorem div_le' {p g : Int} (hp : 0 ≤ p) (hg : 1 ≤ g) : 0 ≤ p / g ∧ p / g ≤ p := by
  have h4 : 0 ≤ p / g := Int.ediv_nonneg hp (by omega)
  obtain ⟨h1, h2, h3⟩ := downI_le hp hg
  have : p / g * 1 ≤ p / g * g := Int.mul_le_mul_of_nonneg_left hg h4
  omega
/-- Up to the grid: checked. -/
def upI (p g : Int) : Value := if p < 0 ∨ g < 1 then chk64 9223372036854775808 else if p / g * g = p then chk64 p else chk64 (p / g * g + g)
theorem chk64_out : chk64 9223372036854775808 = .tuple #[.int .i64 0, .bool false] := chk64_no (by unfold I64; omega)
end Go.Proofs.Ythfomohophmbaaa
