/- The walks of the reference of layer 1: Len, not, Cmp, Halves, Add, Left, Right. -/
import Derived.Test.YthfomohophmbaaaA2
namespace Go.Proofs.Ythfomohophmbaaa
open Go.RowKit
attribute [local go_sem] Later.cell QUpon_value QUpon_enter MUpon_value
attribute [local go_sem ↓ high] loadVar_is storeVar_is
attribute [local go_sem high] zero_bits zeroCells_arr
attribute [local go_sem] run_loadBits run_storeBits isArr_arr

theorem mod_succ (n k : Nat) : n % 2 ^ (k + 1) = n % 2 ^ k + (n.testBit k).toNat * 2 ^ k := by
  rw [Nat.pow_succ, Nat.mod_mul, Nat.testBit_eq_decide_div_mod_eq]
  rcases Nat.mod_two_eq_zero_or_one (n / 2 ^ k) with h | h <;> simp [h]
theorem lenN_top (m k : Nat) (h : m < 2 ^ k) : lenN (m + 2 ^ k) = k + 1 := by
  have h2 : 0 < 2 ^ k := Nat.pow_pos (by decide)
  unfold lenN
  rw [if_neg (by omega)]
  congr 1
  rw [Nat.log2_eq_iff (by omega), Nat.pow_succ]
  omega
theorem len_step (n k : Nat) : lenN (n % 2 ^ (k + 1)) = if n.testBit k then k + 1 else lenN (n % 2 ^ k) := by
  rw [mod_succ]
  cases n.testBit k
  · simp
  · simp [lenN_top _ _ (Nat.mod_lt n (Nat.pow_pos (by decide) : 0 < 2 ^ k))]

def notF (f : Nat → Bool) (k : Nat) : Nat → Bool := fun j => if j < k then !f j else f j
theorem not_step (f : Nat → Bool) (k : Nat) : upd (notF f k) k (!f k) = notF f (k + 1) := by
  funext j
  unfold upd notF
  by_cases h : j = k
  · subst h; simp
  · rw [if_neg h]
    by_cases h2 : j < k
    · rw [if_pos h2, if_pos (by omega)]
    · rw [if_neg h2, if_neg (by omega)]
theorem notF_at (f : Nat → Bool) (k : Nat) : notF f k k = f k := by simp [notF]
theorem not_end (n : Nat) : arr (notF n.testBit 128) = arr (340282366920938463463374607431768211456 - 1 - n % 340282366920938463463374607431768211456).testBit := by
  refine arr_ext (fun i hi => ?_)
  have e : (340282366920938463463374607431768211456 : Nat) = 2 ^ 128 := by decide
  have h2 : n % 2 ^ 128 < 2 ^ 128 := Nat.mod_lt _ (by decide)
  rw [e, Nat.sub_sub, Nat.add_comm 1, Nat.testBit_two_pow_sub_succ h2, Nat.testBit_mod_two_pow]
  simp [notF, hi]

def NotAt (n : Nat) (w : World) (i : Value) (wr : World) : Prop :=
  ∃ k : Nat, i = .int .i64 k ∧ k ≤ 128 ∧ Ext w wr ∧ At wr w.heap.size 78 (arr (notF n.testBit k)) ∧ At wr (w.heap.size + 1) 78 (arr fun _ => false)
theorem not_start (n : Nat) : arr (fun j => n.testBit j) = arr (notF n.testBit 0) := arr_ext (fun i _ => by simp [notF])

theorem div_bit (n k : Nat) : n / 2 ^ k = 2 * (n / 2 ^ (k + 1)) + (n.testBit k).toNat := by
  have e : n / 2 ^ (k + 1) = n / 2 ^ k / 2 := by rw [Nat.pow_succ, Nat.div_div_eq_div_mul]
  rw [e, Nat.testBit_eq_decide_div_mod_eq]
  rcases Nat.mod_two_eq_zero_or_one (n / 2 ^ k) with h | h <;> simp [h] <;> omega
theorem lt_of_div {a b k : Nat} (h : b / 2 ^ k < a / 2 ^ k) : b < a := by
  refine Nat.lt_of_not_le fun h' => ?_
  have := Nat.div_le_div_right (c := 2 ^ k) h'
  omega
theorem cmpN_eq (a b : Nat) (h : a / 2 ^ 0 = b / 2 ^ 0) : cmpN a b = 0 := by
  simp at h
  subst h
  simp [cmpN]
theorem cmpN_top (a b k : Nat) (h : a / 2 ^ (k + 1) = b / 2 ^ (k + 1)) (h1 : a.testBit k = true) (h2 : b.testBit k = false) : cmpN a b = 1 := by
  have ea := div_bit a k
  have eb := div_bit b k
  rw [h1] at ea
  rw [h2] at eb
  have : b < a := lt_of_div (k := k) (by simp at ea eb; omega)
  unfold cmpN
  rw [if_neg (by omega), if_pos this]
theorem cmpN_bot (a b k : Nat) (h : a / 2 ^ (k + 1) = b / 2 ^ (k + 1)) (h1 : a.testBit k = false) (h2 : b.testBit k = true) : cmpN a b = -1 := by
  have ea := div_bit a k
  have eb := div_bit b k
  rw [h1] at ea
  rw [h2] at eb
  have : a < b := lt_of_div (k := k) (by simp at ea eb; omega)
  unfold cmpN
  rw [if_pos this]
theorem div_same (a b k : Nat) (h : a / 2 ^ (k + 1) = b / 2 ^ (k + 1)) (h1 : a.testBit k = b.testBit k) : a / 2 ^ k = b / 2 ^ k := by rw [div_bit a, div_bit b, h, h1]
theorem div_top (a : Nat) (h : a < 340282366920938463463374607431768211456) : a / 2 ^ 128 = 0 := Nat.div_eq_of_lt (by simpa using h)

def CmpAt (a b : Nat) (w : World) (i : Value) (wr : World) : Prop :=
  ∃ k : Nat, i = .int .i64 ((k : Int) - 1) ∧ k ≤ 128 ∧ Ext w wr ∧ At wr w.heap.size 78 (arr fun j => a.testBit j) ∧ At wr (w.heap.size + 1) 78 (arr fun j => b.testBit j) ∧ a / 2 ^ k = b / 2 ^ k

end Go.Proofs.Ythfomohophmbaaa
