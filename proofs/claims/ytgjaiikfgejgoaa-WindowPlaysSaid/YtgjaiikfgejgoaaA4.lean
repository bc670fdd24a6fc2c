/- The walks of the reference of layer 1: Halves, Add. -/
import Derived.Test.YtgjaiikfgejgoaaA3
namespace Go.Proofs.Ytgjaiikfgejgoaa
open Go.RowKit
attribute [local go_sem] Later.cell QUpon_value QUpon_enter MUpon_value
attribute [local go_sem ↓ high] loadVar_is storeVar_is
attribute [local go_sem high] zero_bits
attribute [local go_sem] run_loadBits run_storeBits isArr_arr

theorem pow_wrap (k : Nat) (hk : k < 64) : (2 : Nat) ^ k < 18446744073709551616 := by
  have e : (18446744073709551616 : Nat) = 2 ^ 64 := by decide
  rw [e]; exact Nat.pow_lt_pow_right (by decide) hk
/-- One bit more on the top. -/
theorem or_top (m k : Nat) (hk : k < 64) (hm : m < 2 ^ k) : bits BinOp.or IntKind.u64 (m : Int) (IntKind.u64.wrap (2 ^ k)) = ((m + 2 ^ k : Nat) : Int) := by
  have hp := pow_wrap k hk
  have e : IntKind.u64.wrap (2 ^ k) = ((2 ^ k : Nat) : Int) := by
    rw [IntKind.wrap_u64]
    have : ((2 : Int) ^ k) = ((2 ^ k : Nat) : Int) := by simp
    rw [this]; omega
  rw [e]
  have := or_join k (2 ^ k) m (by omega) hp (Nat.mod_self _) hm
  have c : bits BinOp.or IntKind.u64 (m : Int) ((2 ^ k : Nat) : Int) = bits BinOp.or IntKind.u64 ((2 ^ k : Nat) : Int) (m : Int) := by
    simp [bits, Nat.or_comm]
  rw [c, this, Nat.add_comm]

set_option maxRecDepth 100000 in
theorem rhalves_c (n : Nat) (hn : n < 340282366920938463463374607431768211456) (w : World) : Calls Try.prog 43 #[bitsOf n] w fun e w' => e = .returned (.tuple #[.int .u64 ((n / 18446744073709551616 : Nat) : Int), .int .u64 ((n % 18446744073709551616 : Nat) : Int)]) ∧ Ext w w' := by
  unfold bitsOf
  go_enter Try.func43, Try.ntmps43
  go_wp2
  go_loop [4, 5, 6] (fun h l i => ∃ k : Nat, i = .int .i64 k ∧ k ≤ 64 ∧ h = .int .u64 ((n / 18446744073709551616 % 2 ^ k : Nat) : Int) ∧ l = .int .u64 ((n % 2 ^ k : Nat) : Int)) (fun _ _ i => 64 - (intOf i).toNat)
  case atStart => exact ⟨0, rfl, by omega, by simp [Nat.mod_one], by simp [Nat.mod_one]⟩
  case round =>
    obtain ⟨k, rfl, hk, rfl, rfl⟩ := hrel
    by_cases hk' : k < 64
    · have c1 := arr_get n.testBit k (by omega)
      have c2 := arr_get n.testBit (k + 64) (by omega)
      have h2 : 0 < 2 ^ k := Nat.pow_pos (by decide)
      have eH := mod_succ (n / 18446744073709551616) k
      have eL := mod_succ n k
      have eT : (n / 18446744073709551616).testBit k = n.testBit (k + 64) := by
        have e : (18446744073709551616 : Nat) = 2 ^ 64 := by decide
        rw [e, Nat.testBit_div_two_pow]
      rw [eT] at eH
      obtain ⟨lo, hlo⟩ : ∃ x, x = n % 2 ^ k := ⟨_, rfl⟩
      obtain ⟨hi, hhi⟩ : ∃ x, x = n / 18446744073709551616 % 2 ^ k := ⟨_, rfl⟩
      have llo : lo < 2 ^ k := hlo ▸ Nat.mod_lt _ h2
      have lhi : hi < 2 ^ k := hhi ▸ Nat.mod_lt _ h2
      rw [← hlo] at eL ⊢
      rw [← hhi] at eH ⊢
      have EL := Lib.hid eL
      have EH := Lib.hid eH
      clear eL eH hlo hhi eT
      cases h1 : n.testBit k <;> cases h2 : n.testBit (k + 64) <;> rw [h1] at c1 <;> rw [h2] at c2
      all_goals
        go_wp2
        go_round
        case rel => exact ⟨k + 1, by go_num, by omega, by rw [EH.out, h2]; simp [or_top _ _ hk' lhi], by rw [EL.out, h1]; simp [or_top _ _ hk' llo]⟩
        case measure => simp [intOf]; omega
    · have : k = 64 := by omega
      subst this
      go_wp2
      first | refine fin_ret rfl (fun K hK => ?_) | refine fin_norm rfl (fun K hK => ?_)
      simp [results, Try.results43, go_sem, rsat]
      try go_simp
      refine hK _ ?_
      clear hK K
      have e : (n : Int) / 18446744073709551616 % 18446744073709551616 = (n : Int) / 18446744073709551616 := by omega
      rw [e]
      exact ⟨rfl, (by repeat (first | (with_reducible exact Ext.refl _) | (with_reducible assumption) | (with_reducible refine Ext.alloc ?_ _) | (with_reducible refine Ext.drew ?_) | (with_reducible refine Ext.drewN ?_ _) | (with_reducible refine Ext.setCell ?_ (by simp; try omega) _) | (with_reducible refine Ext.setRow ?_ (by simp; try omega) _)))⟩
/-- The bits of a number that lie below k. -/
def lowF (n k : Nat) : Nat → Bool := fun j => decide (j < k) && n.testBit j
theorem low_step (n k : Nat) (b : Bool) (h : n.testBit k = b) : upd (lowF n k) k b = lowF n (k + 1) := by
  funext j
  unfold upd lowF
  by_cases hj : j = k
  · subst hj; simp [h]
  · rw [if_neg hj]
    congr 1
    rw [decide_eq_decide]; omega
theorem low_start (n : Nat) : arr (fun _ => false) = arr (lowF n 0) := arr_ext (fun i _ => by simp [lowF])
theorem low_end (n : Nat) : arr (lowF n 128) = arr (n % 340282366920938463463374607431768211456).testBit := by
  refine arr_ext (fun i hi => ?_)
  have e : (340282366920938463463374607431768211456 : Nat) = 2 ^ 128 := by decide
  rw [e, Nat.testBit_mod_two_pow]
  rfl
theorem sum_bit (a b k : Nat) : (a + b).testBit k = (((a.testBit k).toNat + (b.testBit k).toNat + (decide (2 ^ k ≤ a % 2 ^ k + b % 2 ^ k)).toNat) % 2 == 1) ∧
    decide (2 ^ (k + 1) ≤ a % 2 ^ (k + 1) + b % 2 ^ (k + 1)) = decide (1 < (a.testBit k).toNat + (b.testBit k).toNat + (decide (2 ^ k ≤ a % 2 ^ k + b % 2 ^ k)).toNat) := by
  have h2 : 0 < 2 ^ k := Nat.pow_pos (by decide)
  have la := Nat.mod_lt a h2
  have lb := Nat.mod_lt b h2
  constructor
  · have e : (a + b) / 2 ^ k = a / 2 ^ k + b / 2 ^ k + (decide (2 ^ k ≤ a % 2 ^ k + b % 2 ^ k)).toNat := by
      have ha := Nat.div_add_mod a (2 ^ k)
      have hb := Nat.div_add_mod b (2 ^ k)
      have hab : a + b = (a % 2 ^ k + b % 2 ^ k) + 2 ^ k * (a / 2 ^ k + b / 2 ^ k) := by rw [Nat.mul_add]; omega
      rw [hab, Nat.add_mul_div_left _ _ h2]
      by_cases hc : 2 ^ k ≤ a % 2 ^ k + b % 2 ^ k
      · have : (a % 2 ^ k + b % 2 ^ k) / 2 ^ k = 1 := by
          rw [Nat.div_eq_iff h2]; omega
        rw [this, decide_eq_true hc, Bool.toNat_true]; omega
      · rw [Nat.div_eq_of_lt (by omega)]
        rw [decide_eq_false hc, Bool.toNat_false]; omega
    simp only [Nat.testBit_eq_decide_div_mod_eq, e]
    generalize a / 2 ^ k = x
    generalize b / 2 ^ k = y
    generalize (decide (2 ^ k ≤ a % 2 ^ k + b % 2 ^ k)).toNat = z
    rw [Bool.eq_iff_iff, decide_eq_true_eq, beq_iff_eq]
    rcases Nat.mod_two_eq_zero_or_one x with h | h <;> rcases Nat.mod_two_eq_zero_or_one y with h' | h' <;> simp only [h, h', Nat.reduceEqDiff, decide_true, decide_false, Bool.toNat_true, Bool.toNat_false, Nat.zero_ne_one] <;> omega
  · rw [mod_succ, mod_succ, Nat.pow_succ]
    generalize 2 ^ k = p at *
    generalize a % p = x at *
    generalize b % p = y at *
    rw [decide_eq_decide]
    by_cases hc : p ≤ x + y
    · rw [decide_eq_true hc]
      cases a.testBit k <;> cases b.testBit k <;> simp only [Bool.toNat_true, Bool.toNat_false] <;> omega
    · rw [decide_eq_false hc]
      cases a.testBit k <;> cases b.testBit k <;> simp only [Bool.toNat_true, Bool.toNat_false] <;> omega

def AddAt (a b : Nat) (w : World) (c i : Value) (wr : World) : Prop :=
  ∃ k : Nat, i = .int .i64 k ∧ k ≤ 128 ∧ c = .bool (decide (2 ^ k ≤ a % 2 ^ k + b % 2 ^ k)) ∧ Ext w wr ∧ At wr w.heap.size 72 (arr fun j => a.testBit j) ∧ At wr (w.heap.size + 1) 72 (arr fun j => b.testBit j) ∧
    At wr (w.heap.size + 2) 72 (arr fun _ => false) ∧ At wr (w.heap.size + 3) 72 (arr (lowF (a + b) k))

set_option maxRecDepth 100000 in
theorem radd_c (a b : Nat) (ha : a < 340282366920938463463374607431768211456) (hb : b < 340282366920938463463374607431768211456) (w : World) : Calls Try.prog 40 #[bitsOf a, bitsOf b] w fun e w' =>
    e = .returned (.tuple #[bitsOf ((a + b) % 340282366920938463463374607431768211456), .bool (decide (a + b < 340282366920938463463374607431768211456))]) ∧ Ext w w' := by
  unfold bitsOf
  go_enter Try.func40, Try.ntmps40
  go_wp2
  go_loopw [7, 8] (fun c i wr => AddAt a b w c i wr) (fun _ i _ => 128 - (intOf i).toNat)
  case atStart => exact ⟨0, rfl, by omega, by rw [Nat.pow_zero, Nat.mod_one, Nat.mod_one]; rfl, (by repeat (first | (with_reducible exact Ext.refl _) | (with_reducible assumption) | (with_reducible refine Ext.alloc ?_ _) | (with_reducible refine Ext.drew ?_) | (with_reducible refine Ext.drewN ?_ _) | (with_reducible refine Ext.setCell ?_ (by simp; try omega) _) | (with_reducible refine Ext.setRow ?_ (by simp; try omega) _))), (by repeat (first | (with_reducible exact At.new _ _ _) | ((with_reducible refine At.new' _ _ _ _ ?_); simp; done) | (with_reducible assumption) | (with_reducible refine At.drew ?_) | (with_reducible refine At.alloc ?_ _) | (with_reducible apply At.upd) | (with_reducible apply At.setRow) | (with_reducible refine At.rowFar ?_ (by first | (simp; done) | (simp; omega) | omega) _) | ((with_reducible refine At.far ?_ (by first | (simp; done) | (simp; omega) | omega) _)) | (with_reducible rfl) | (simp; done))), (by repeat (first | (with_reducible exact At.new _ _ _) | ((with_reducible refine At.new' _ _ _ _ ?_); simp; done) | (with_reducible assumption) | (with_reducible refine At.drew ?_) | (with_reducible refine At.alloc ?_ _) | (with_reducible apply At.upd) | (with_reducible apply At.setRow) | (with_reducible refine At.rowFar ?_ (by first | (simp; done) | (simp; omega) | omega) _) | ((with_reducible refine At.far ?_ (by first | (simp; done) | (simp; omega) | omega) _)) | (with_reducible rfl) | (simp; done))), (by repeat (first | (with_reducible exact At.new _ _ _) | ((with_reducible refine At.new' _ _ _ _ ?_); simp; done) | (with_reducible assumption) | (with_reducible refine At.drew ?_) | (with_reducible refine At.alloc ?_ _) | (with_reducible apply At.upd) | (with_reducible apply At.setRow) | (with_reducible refine At.rowFar ?_ (by first | (simp; done) | (simp; omega) | omega) _) | ((with_reducible refine At.far ?_ (by first | (simp; done) | (simp; omega) | omega) _)) | (with_reducible rfl) | (simp; done))), low_start (a + b) ▸ (by refine At.new' _ _ _ _ ?_; simp)⟩
  case round =>
    obtain ⟨k, rfl, hk, rfl, hx, hA, hB, hR, hO⟩ := hrel
    by_cases hk' : k < 128
    · have c1 := hA.bit k hk'
      have c2 := hB.bit k hk'
      have c3 := hO.bit k hk'
      have f3 := hO.frozen k
      obtain ⟨s1, s2⟩ := sum_bit a b k
      cases h1 : a.testBit k <;> cases h2 : b.testBit k <;> cases h3 : decide (2 ^ k ≤ a % 2 ^ k + b % 2 ^ k) <;> rw [h1] at c1 s1 s2 <;> rw [h2] at c2 s1 s2 <;> rw [h3] at s1 s2 <;> simp only [Bool.toNat_true, Bool.toNat_false, Nat.reduceAdd, Nat.reduceMod, Nat.reduceBEq, Nat.reduceLT, decide_true, decide_false, Nat.lt_irrefl] at s1 s2 <;> have S1 := Lib.hid s1 <;> have S2 := Lib.hid s2 <;> clear s1 s2 h1 h2 h3
      all_goals
        go_wp2
        go_roundw
        case rel => exact ⟨k + 1, by go_num, by omega, by rw [S2.out], (by repeat (first | (with_reducible exact Ext.refl _) | (with_reducible assumption) | (with_reducible refine Ext.alloc ?_ _) | (with_reducible refine Ext.drew ?_) | (with_reducible refine Ext.drewN ?_ _) | (with_reducible refine Ext.setCell ?_ (by simp; try omega) _) | (with_reducible refine Ext.setRow ?_ (by simp; try omega) _))), At.far hA (by simp <;> omega) _, At.far hB (by simp <;> omega) _, At.far hR (by simp <;> omega) _, low_step _ _ _ S1.out ▸ At.setBit hO _ _⟩
        case measure => simp [intOf]; omega
    · have : k = 128 := by omega
      subst this
      have e1 := cellsAt_at hR
      have e2 := cellsAt_at hO
      go_wp2
      refine fin_bits_tmp (p := 4) (q := 5) (g := w.heap.size + 2) rfl rfl (hR.setRow _) rfl ?_
      refine ⟨ret_eq ?_, hx.setRow (by omega) _⟩
      rw [low_end]
      have ea : a % 2 ^ 128 = a := Nat.mod_eq_of_lt (by simpa using ha)
      have eb : b % 2 ^ 128 = b := Nat.mod_eq_of_lt (by simpa using hb)
      rw [ea, eb]
      have ec : (!decide (340282366920938463463374607431768211456 ≤ a + b)) = decide (a + b < 340282366920938463463374607431768211456) := by
        rw [← decide_not]; exact decide_eq_decide.2 (by omega)
      rw [← ec]
      rfl
end Go.Proofs.Ytgjaiikfgejgoaa
