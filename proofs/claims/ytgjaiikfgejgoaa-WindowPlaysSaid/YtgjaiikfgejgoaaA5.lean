/- The walks of the reference of layer 1: Left, Right. -/
import Derived.Test.YtgjaiikfgejgoaaA4
import Derived.Test.YtgjaiikfgejgoaaW2
namespace Go.Proofs.Ytgjaiikfgejgoaa
open Go.RowKit
attribute [local go_sem] Later.cell QUpon_value QUpon_enter MUpon_value
attribute [local go_sem ↓ high] loadVar_is storeVar_is
attribute [local go_sem high] zero_bits
attribute [local go_sem] run_loadBits run_storeBits isArr_arr cellsAt_alloc_at cellsAt_alloc_past cellsAt_drew

/-- The first k bits of f, the others 0. -/
def cutF (f : Nat → Bool) (k : Nat) : Nat → Bool := fun j => decide (j < k) && f j
theorem cut_step (f : Nat → Bool) (k : Nat) (b : Bool) (h : f k = b) : upd (cutF f k) k b = cutF f (k + 1) := by
  funext j
  unfold upd cutF
  by_cases hj : j = k
  · subst hj; simp [h]
  · rw [if_neg hj]
    congr 1
    rw [decide_eq_decide]; omega
theorem cut_skip (f : Nat → Bool) (k : Nat) (h : f k = false) : cutF f k = cutF f (k + 1) := by
  funext j
  unfold cutF
  by_cases hj : j = k
  · subst hj; simp [h]
  · congr 1
    rw [decide_eq_decide]; omega
theorem cut_start (f : Nat → Bool) : arr (fun _ => false) = arr (cutF f 0) := arr_ext (fun i _ => by simp [cutF])
theorem cut_end {f g : Nat → Bool} (h : ∀ j, j < 128 → f j = g j) : arr (cutF f 128) = arr g := arr_ext (fun i hi => by simp [cutF, hi, h i hi])
theorem shl_bit (a : Nat) (n : Nat) (hn : n < 128) (j : Nat) (hj : j < 128) : (shl a n).testBit j = (decide (n ≤ j) && a.testBit (j - n)) := by
  have e : (340282366920938463463374607431768211456 : Nat) = 2 ^ 128 := by decide
  unfold shl
  split
  · have : n = 0 := by omega
    subst this; simp
  · rw [e, Nat.testBit_mod_two_pow, Int.toNat_natCast, Nat.testBit_mul_two_pow]
    simp [hj]
theorem shr_bit (a : Nat) (n : Nat) (j : Nat) : (shr a n).testBit j = a.testBit (j + n) := by
  rw [shr_nat, Nat.testBit_div_two_pow]

def MvAt (a n : Nat) (f : Nat → Bool) (w : World) (i : Value) (wr : World) : Prop :=
  ∃ k : Nat, i = .int .i64 k ∧ k ≤ 128 ∧ Ext w wr ∧ At wr w.heap.size 72 (arr fun j => a.testBit j) ∧
    At wr (w.heap.size + 1) 72 (arr fun _ => false) ∧ At wr (w.heap.size + 2) 72 (arr (cutF f k))

theorem shl_big {a : Nat} {n : Int} (h : 128 ≤ n) : shl a n = 0 := by
  unfold shl
  rw [if_neg (by omega)]
  obtain ⟨k, hk⟩ : ∃ k : Nat, n.toNat = 128 + k := ⟨n.toNat - 128, by omega⟩
  rw [hk, Nat.pow_add]
  have e : (340282366920938463463374607431768211456 : Nat) = 2 ^ 128 := by decide
  rw [e, Nat.mul_left_comm, Nat.mul_mod_right]
theorem shr_big {a : Nat} (ha : a < 340282366920938463463374607431768211456) {n : Int} (h : 128 ≤ n) : shr a n = 0 := by
  unfold shr
  rw [if_neg (by omega)]
  refine Nat.div_eq_of_lt (Nat.lt_of_lt_of_le ha ?_)
  have e : (340282366920938463463374607431768211456 : Nat) = 2 ^ 128 := by decide
  rw [e]
  exact Nat.pow_le_pow_right (by decide) (by omega)

theorem bit_top {a i : Nat} (ha : a < 340282366920938463463374607431768211456) (hi : 128 ≤ i) : a.testBit i = false := by
  refine Nat.testBit_lt_two_pow (Nat.lt_of_lt_of_le ha ?_)
  have e : (340282366920938463463374607431768211456 : Nat) = 2 ^ 128 := by decide
  rw [e]
  exact Nat.pow_le_pow_right (by decide) hi

set_option maxRecDepth 100000 in
theorem rleft_c (a : Nat) (n : Int) (ha : a < 340282366920938463463374607431768211456) (w : World) : Calls Try.prog 48 #[bitsOf a, .int .i64 n] w fun e w' => e = .returned (bitsOf (shl a n)) ∧ Ext w w' := by
  unfold bitsOf
  go_enter Try.func48, Try.ntmps48
  by_cases h0 : n < 0
  · have e1 : ∀ A B C, cellsAt (((w.alloc (.cells A 72)).alloc (.cells B 72)).alloc (.cells C 72)) w.heap.size = A := fun A B C => cellsAt_at (t := 72) (At.alloc (At.alloc (At.new _ _ _) _) _)
    have e2 : ∀ A B C, cellsAt (((w.alloc (.cells A 72)).alloc (.cells B 72)).alloc (.cells C 72)) (w.heap.size + 1) = B := fun A B C => cellsAt_at (t := 72) (At.alloc (At.new' _ _ _ _ (by simp)) _)
    go_wp2
    clear e1 e2
    refine fin_bits (p := 4) (g := w.heap.size + 1) rfl rfl (At.setRow (cs := arr fun _ => false) (At.alloc (w := (w.alloc (.cells _ 72)).alloc (.cells _ 72)) (At.new' _ _ _ _ (by simp)) _) _) rfl ?_
    refine ⟨?_, Ext.setRow (by repeat (first | (with_reducible exact Ext.refl _) | (with_reducible assumption) | (with_reducible refine Ext.alloc ?_ _) | (with_reducible refine Ext.drew ?_) | (with_reducible refine Ext.drewN ?_ _) | (with_reducible refine Ext.setCell ?_ (by simp; try omega) _) | (with_reducible refine Ext.setRow ?_ (by simp; try omega) _))) (by omega) _⟩
    unfold shl
    rw [if_pos (by omega)]
  · go_wp2
    obtain ⟨m, rfl⟩ : ∃ m : Nat, n = m := ⟨n.toNat, by omega⟩
    go_loopw [6] (fun i wr => MvAt a m (fun j => decide (m < 128) && (shl a m).testBit j) w i wr) (fun i _ => 128 - (intOf i).toNat)
    case atStart => exact ⟨0, rfl, by omega, (by repeat (first | (with_reducible exact Ext.refl _) | (with_reducible assumption) | (with_reducible refine Ext.alloc ?_ _) | (with_reducible refine Ext.drew ?_) | (with_reducible refine Ext.drewN ?_ _) | (with_reducible refine Ext.setCell ?_ (by simp; try omega) _) | (with_reducible refine Ext.setRow ?_ (by simp; try omega) _))), (by repeat (first | (with_reducible exact At.new _ _ _) | ((with_reducible refine At.new' _ _ _ _ ?_); simp; done) | (with_reducible assumption) | (with_reducible refine At.drew ?_) | (with_reducible refine At.alloc ?_ _) | (with_reducible apply At.upd) | (with_reducible apply At.setRow) | (with_reducible refine At.rowFar ?_ (by first | (simp; done) | (simp; omega) | omega) _) | ((with_reducible refine At.far ?_ (by first | (simp; done) | (simp; omega) | omega) _)) | (with_reducible rfl) | (simp; done))), (by repeat (first | (with_reducible exact At.new _ _ _) | ((with_reducible refine At.new' _ _ _ _ ?_); simp; done) | (with_reducible assumption) | (with_reducible refine At.drew ?_) | (with_reducible refine At.alloc ?_ _) | (with_reducible apply At.upd) | (with_reducible apply At.setRow) | (with_reducible refine At.rowFar ?_ (by first | (simp; done) | (simp; omega) | omega) _) | ((with_reducible refine At.far ?_ (by first | (simp; done) | (simp; omega) | omega) _)) | (with_reducible rfl) | (simp; done))), cut_start _ ▸ (by repeat (first | (with_reducible exact At.new _ _ _) | ((with_reducible refine At.new' _ _ _ _ ?_); simp; done) | (with_reducible assumption) | (with_reducible refine At.drew ?_) | (with_reducible refine At.alloc ?_ _) | (with_reducible apply At.upd) | (with_reducible apply At.setRow) | (with_reducible refine At.rowFar ?_ (by first | (simp; done) | (simp; omega) | omega) _) | ((with_reducible refine At.far ?_ (by first | (simp; done) | (simp; omega) | omega) _)) | (with_reducible rfl) | (simp; done)))⟩
    case round =>
      obtain ⟨k, rfl, hk, hx, hA, hR, hO⟩ := hrel
      by_cases hk' : k < 128 ∧ m < 128
      · obtain ⟨hk', hm⟩ := hk'
        have hm' : (m : Int) < 128 := by omega
        have s := shl_bit a m hm k hk'
        by_cases hmk : m ≤ k
        · rw [decide_eq_true hmk, Bool.true_and] at s
          have c := hA.bit (k - m) (by omega)
          have c2 := hO.bit k hk'
          have f2 := hO.frozen k
          go_wp2
          go_roundw
          case rel => exact ⟨k + 1, by go_num, by omega, (by repeat (first | (with_reducible exact Ext.refl _) | (with_reducible assumption) | (with_reducible refine Ext.alloc ?_ _) | (with_reducible refine Ext.drew ?_) | (with_reducible refine Ext.drewN ?_ _) | (with_reducible refine Ext.setCell ?_ (by simp; try omega) _) | (with_reducible refine Ext.setRow ?_ (by simp; try omega) _))), At.far hA (by simp <;> omega) _, At.far hR (by simp <;> omega) _, cut_step (fun j => decide (m < 128) && (shl a m).testBit j) k _ (by rw [decide_eq_true hm, Bool.true_and, s]) ▸ At.setBit hO _ _⟩
          case measure => simp [intOf]; omega
        · rw [decide_eq_false hmk, Bool.false_and] at s
          go_wp2
          go_roundw
          case rel => exact ⟨k + 1, by go_num, by omega, (by repeat (first | (with_reducible exact Ext.refl _) | (with_reducible assumption) | (with_reducible refine Ext.alloc ?_ _) | (with_reducible refine Ext.drew ?_) | (with_reducible refine Ext.drewN ?_ _) | (with_reducible refine Ext.setCell ?_ (by simp; try omega) _) | (with_reducible refine Ext.setRow ?_ (by simp; try omega) _))), hA, hR, cut_skip (fun j => decide (m < 128) && (shl a m).testBit j) k (by rw [s, Bool.and_false]) ▸ hO⟩
          case measure => simp [intOf]; omega
      · have e1 := cellsAt_at hR
        have e2 := cellsAt_at hO
        have hor : ¬ ((k : Int) < 128 ∧ (m : Int) < 128) := by omega
        go_wp2
        all_goals
          refine fin_bits (p := 4) (g := w.heap.size + 1) rfl rfl (hR.setRow _) rfl ?_
          refine ⟨ret_eq (congrArg Value.agg ?_), hx.setRow (by omega) _⟩
          by_cases hm : m < 128
          · obtain rfl : k = 128 := by omega
            exact cut_end (fun j hj => by simp [hm])
          · have := shl_big (a := a) (n := m) (by omega)
            rw [this]
            exact arr_ext (fun i _ => by simp [cutF, hm])
end Go.Proofs.Ytgjaiikfgejgoaa
