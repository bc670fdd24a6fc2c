/- The walks of the reference of layer 1: Mul. -/
import Derived.Test.YthfomohophmbaaaA6
namespace Go.Proofs.Ythfomohophmbaaa
open Go.RowKit
attribute [local go_sem] Later.cell QUpon_value QUpon_enter MUpon_value
attribute [local go_sem ↓ high] loadVar_is storeVar_is
attribute [local go_sem high] zero_bits zeroCells_arr
attribute [local go_sem] run_loadBits run_storeBits isArr_arr cellsAt_alloc_at cellsAt_alloc_past cellsAt_drew ltn_2 ltn_3 ltn_4 ltn_5 setRow_new bitsOf cellsAt_later

theorem shl_lt (a : Nat) (n : Int) (ha : a < 340282366920938463463374607431768211456) : shl a n < 340282366920938463463374607431768211456 := by
  unfold shl
  split
  · exact ha
  · exact Nat.mod_lt _ (by decide)
def MulAt (a b : Nat) (w : World) (p : Nat) (i : Value) (wr : World) : Prop :=
  ∃ k c : Nat, i = .int .i64 k ∧ k ≤ 64 ∧ Hid (c = a * (b % 2 ^ k)) ∧ Ext w wr ∧ At wr w.heap.size 78 (arr fun _ => false) ∧ At wr (w.heap.size + 1) 78 (arr fun j => c.testBit j) ∧ At wr p 78 (arr fun j => a.testBit j)
theorem mul_step (a b k c : Nat) (ha : a < 18446744073709551616) (hb : b < 18446744073709551616) (hk : k < 64) (hc : Hid (c = a * (b % 2 ^ k))) (h1 : b.testBit k = true) :
    (c + shl a k) % 340282366920938463463374607431768211456 = a * (b % 2 ^ (k + 1)) := by
  have e := mod_succ b k
  rw [h1, Bool.toNat_true, Nat.one_mul] at e
  have e2 : a * (b % 2 ^ (k + 1)) = c + a * 2 ^ k := by rw [e, Nat.mul_add, hc.out]
  have l : a * (b % 2 ^ (k + 1)) < 340282366920938463463374607431768211456 := mul_lt ha (Nat.lt_of_le_of_lt (Nat.mod_le _ _) hb)
  have s : shl a k = a * 2 ^ k := by
    unfold shl
    split
    · have : k = 0 := by omega
      subst this; simp
    · rw [Int.toNat_natCast, Nat.mod_eq_of_lt (by omega)]
  rw [s, e2, Nat.mod_eq_of_lt (by omega)]

end Go.Proofs.Ythfomohophmbaaa
