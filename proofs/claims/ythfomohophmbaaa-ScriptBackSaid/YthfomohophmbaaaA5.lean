/- The walks of the reference of layer 1: Left, Right. -/
import Derived.Test.YthfomohophmbaaaA4
import Derived.Test.YthfomohophmbaaaW2
namespace Go.Proofs.Ythfomohophmbaaa
open Go.RowKit
attribute [local go_sem] Later.cell QUpon_value QUpon_enter MUpon_value
attribute [local go_sem ↓ high] loadVar_is storeVar_is
attribute [local go_sem high] zero_bits zeroCells_arr
attribute [local go_sem] run_loadBits run_storeBits isArr_arr cellsAt_alloc_at cellsAt_alloc_past cellsAt_drew

/-- The first k bits of f, the others 0. -/
def cutF (f : Nat → Bool) (k : Nat) : Nat → Bool := fun j => decide (j < k) && f j
theorem cut_step (f : Nat → Bool) (k : Nat) (b : Bool) (h : f k = b) : upd (cutF f k) k b = cutF f (k + 1) := by
  funext j
  unfold upd cutF
  by_cases hj : j = k
  · subst hj; simp [h]
  · rw [if_neg hj]
    congr 1
    rw [decide_eq_decide]; omega
theorem cut_skip (f : Nat → Bool) (k : Nat) (h : f k = false) : cutF f k = cutF f (k + 1) := by
  funext j
  unfold cutF
  by_cases hj : j = k
  · subst hj; simp [h]
  · congr 1
    rw [decide_eq_decide]; omega
theorem cut_start (f : Nat → Bool) : arr (fun _ => false) = arr (cutF f 0) := arr_ext (fun i _ => by simp [cutF])
theorem cut_end {f g : Nat → Bool} (h : ∀ j, j < 128 → f j = g j) : arr (cutF f 128) = arr g := arr_ext (fun i hi => by simp [cutF, hi, h i hi])
theorem shl_bit (a : Nat) (n : Nat) (hn : n < 128) (j : Nat) (hj : j < 128) : (shl a n).testBit j = (decide (n ≤ j) && a.testBit (j - n)) := by
  have e : (340282366920938463463374607431768211456 : Nat) = 2 ^ 128 := by decide
  unfold shl
  split
  · have : n = 0 := by omega
    subst this; simp
  · rw [e, Nat.testBit_mod_two_pow, Int.toNat_natCast, Nat.testBit_mul_two_pow]
    simp [hj]
theorem shr_bit (a : Nat) (n : Nat) (j : Nat) : (shr a n).testBit j = a.testBit (j + n) := by
  rw [shr_nat, Nat.testBit_div_two_pow]

def MvAt (a n : Nat) (f : Nat → Bool) (w : World) (i : Value) (wr : World) : Prop :=
  ∃ k : Nat, i = .int .i64 k ∧ k ≤ 128 ∧ Ext w wr ∧ At wr w.heap.size 78 (arr fun j => a.testBit j) ∧
    At wr (w.heap.size + 1) 78 (arr fun _ => false) ∧ At wr (w.heap.size + 2) 78 (arr (cutF f k))

theorem shl_big {a : Nat} {n : Int} (h : 128 ≤ n) : shl a n = 0 := by
  unfold shl
  rw [if_neg (by omega)]
  obtain ⟨k, hk⟩ : ∃ k : Nat, n.toNat = 128 + k := ⟨n.toNat - 128, by omega⟩
  rw [hk, Nat.pow_add]
  have e : (340282366920938463463374607431768211456 : Nat) = 2 ^ 128 := by decide
  rw [e, Nat.mul_left_comm, Nat.mul_mod_right]
theorem shr_big {a : Nat} (ha : a < 340282366920938463463374607431768211456) {n : Int} (h : 128 ≤ n) : shr a n = 0 := by
  unfold shr
  rw [if_neg (by omega)]
  refine Nat.div_eq_of_lt (Nat.lt_of_lt_of_le ha ?_)
  have e : (340282366920938463463374607431768211456 : Nat) = 2 ^ 128 := by decide
  rw [e]
  exact Nat.pow_le_pow_right (by decide) (by omega)

theorem bit_top {a i : Nat} (ha : a < 340282366920938463463374607431768211456) (hi : 128 ≤ i) : a.testBit i = false := by
  refine Nat.testBit_lt_two_pow (Nat.lt_of_lt_of_le ha ?_)
  have e : (340282366920938463463374607431768211456 : Nat) = 2 ^ 128 := by decide
  rw [e]
  exact Nat.pow_le_pow_right (by decide) hi

end Go.Proofs.Ythfomohophmbaaa
