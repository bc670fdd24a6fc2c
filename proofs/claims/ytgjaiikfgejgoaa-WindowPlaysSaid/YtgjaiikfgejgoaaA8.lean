/- The walks of the reference of layer 1: Div. -/
import Derived.Test.YtgjaiikfgejgoaaA7
namespace Go.Proofs.Ytgjaiikfgejgoaa
open Go.RowKit
attribute [local go_sem] Later.cell QUpon_value QUpon_enter MUpon_value
attribute [local go_sem ↓ high] loadVar_is storeVar_is
attribute [local go_sem high] zero_bits
attribute [local go_sem] run_loadBits run_storeBits isArr_arr cellsAt_alloc_at cellsAt_alloc_past cellsAt_drew ltn_2 ltn_3 ltn_4 ltn_5 setRow_new bitsOf cellsAt_later cellsAt_setRow_far

/-- What is left, and the quotient's part, when the bits of a from k on have been gone through. -/
def leftN (a d k : Nat) : Nat := a / 2 ^ k % d
def quoN (a d k : Nat) : Nat := a / 2 ^ k / d * 2 ^ k
def RdAt (a d : Nat) (w : World) (p : Nat) (i : Value) (wr : World) : Prop :=
  ∃ k q l : Nat, i = .int .i64 ((k : Int) - 1) ∧ k ≤ 128 ∧ Hid (q = quoN a d k) ∧ Hid (l = leftN a d k) ∧ Ext w wr ∧ At wr w.heap.size 72 (arr fun j => a.testBit j) ∧
    At wr (w.heap.size + 1) 72 (arr fun _ => false) ∧ At wr (w.heap.size + 2) 72 (arr fun _ => false) ∧
    At wr (w.heap.size + 3) 72 (arr fun j => q.testBit j) ∧ At wr (w.heap.size + 4) 72 (arr fun j => l.testBit j) ∧ At wr p 72 (arr fun j => d.testBit j)

theorem left_step (a d k l : Nat) (hd : 0 < d) (hl : l = leftN a d (k + 1)) : leftN a d k = if 2 * l + (a.testBit k).toNat < d then 2 * l + (a.testBit k).toNat else 2 * l + (a.testBit k).toNat - d := by
  have e : (a.testBit k).toNat = a / 2 ^ k % 2 := by
    rw [Nat.testBit_eq_decide_div_mod_eq]
    rcases Nat.mod_two_eq_zero_or_one (a / 2 ^ k) with h | h <;> simp [h]
  rw [hl, e]
  exact (div_step a d k hd).1
theorem quo_step (a d k l q : Nat) (hd : 0 < d) (hl : l = leftN a d (k + 1)) (hq : q = quoN a d (k + 1)) : quoN a d k = q + (if 2 * l + (a.testBit k).toNat < d then 0 else 2 ^ k) := by
  have e : (a.testBit k).toNat = a / 2 ^ k % 2 := by
    rw [Nat.testBit_eq_decide_div_mod_eq]
    rcases Nat.mod_two_eq_zero_or_one (a / 2 ^ k) with h | h <;> simp [h]
  have s := (div_step a d k hd).2
  rw [hl, hq, e]
  unfold quoN leftN
  rw [s, Nat.pow_succ]
  split <;> grind
theorem shl1_bit (l : Nat) (b : Bool) (hl : l < 18446744073709551616) : arr (upd (shl l 1).testBit 0 b) = arr fun j => (2 * l + b.toNat).testBit j := by
  refine arr_ext (fun i _ => ?_)
  have s : shl l 1 = 2 * l := by
    unfold shl
    rw [if_neg (by decide)]
    have : (1 : Int).toNat = 1 := rfl
    rw [this]
    omega
  rw [s]
  unfold upd
  cases i with
  | zero => cases b <;> simp [Nat.testBit_zero] <;> omega
  | succ i =>
    rw [if_neg (by omega), Nat.testBit_succ, Nat.testBit_succ]
    congr 1
    cases b <;> simp <;> omega
theorem quo_bit (q k : Nat) (hq : q % 2 ^ (k + 1) = 0) : arr (upd q.testBit k true) = arr fun j => (q + 2 ^ k).testBit j := by
  refine arr_ext (fun i _ => ?_)
  have h2 : 0 < 2 ^ (k + 1) := Nat.pow_pos (by decide)
  obtain ⟨m, rfl⟩ : ∃ m, q = 2 ^ (k + 1) * m := ⟨q / 2 ^ (k + 1), by have := Nat.div_add_mod q (2 ^ (k + 1)); omega⟩
  have hlt : 2 ^ k < 2 ^ (k + 1) := Nat.pow_lt_pow_right (by decide) (by omega)
  rw [Nat.testBit_two_pow_mul_add _ hlt]
  unfold upd
  by_cases hi : i = k
  · subst hi
    simp [Nat.testBit_two_pow_self]
  · rw [if_neg hi, Nat.testBit_two_pow_mul]
    by_cases h : i < k + 1
    · have : i ≠ k := hi
      simp [h, Nat.testBit_two_pow, Ne.symm hi]
      omega
    · simp [h]
      omega
theorem left_lt (a d k l : Nat) (hd : 0 < d) (hl : l = leftN a d k) : l < d := hl ▸ Nat.mod_lt _ hd
theorem sub_back (a b : Nat) (ha : a < 340282366920938463463374607431768211456) (h : b ≤ a) : (a + 340282366920938463463374607431768211456 - b) % 340282366920938463463374607431768211456 = a - b := by omega

set_option maxRecDepth 100000 in
set_option maxHeartbeats 1600000 in
theorem rdiv_c (a : Nat) (d : Int) (ha : a < 340282366920938463463374607431768211456) (hd : U64 d) (h0 : 0 < d) (w : World) : Calls Try.prog 42 #[bitsOf a, .int .u64 d] w fun e w' => e = .returned (.tuple #[bitsOf (a / d.toNat), bitsOf (a % d.toNat)]) ∧ Ext w w' := by
  have hld := hd.lt
  unfold bitsOf
  go_enter Try.func42, Try.ntmps42
  go_wp2_with fail
  refine (of_c 0 d ⟨by decide, by decide⟩ hd _).mono ?_
  rintro e w1 ⟨rfl, hx1⟩
  have hA1 := At.ext (g := w.heap.size) (t := 72) (cs := arr fun j => a.testBit j) (by repeat (first | (with_reducible exact At.new _ _ _) | ((with_reducible refine At.new' _ _ _ _ ?_); simp; done) | (with_reducible assumption) | (with_reducible refine At.drew ?_) | (with_reducible refine At.alloc ?_ _) | (with_reducible apply At.upd) | (with_reducible apply At.setRow) | (with_reducible refine At.rowFar ?_ (by first | (simp; done) | (simp; omega) | omega) _) | ((with_reducible refine At.far ?_ (by first | (simp; done) | (simp; omega) | omega) _)) | (with_reducible rfl) | (simp; done))) hx1
  have hR1 := At.ext (g := w.heap.size + 1) (t := 72) (cs := arr fun _ => false) (by repeat (first | (with_reducible exact At.new _ _ _) | ((with_reducible refine At.new' _ _ _ _ ?_); simp; done) | (with_reducible assumption) | (with_reducible refine At.drew ?_) | (with_reducible refine At.alloc ?_ _) | (with_reducible apply At.upd) | (with_reducible apply At.setRow) | (with_reducible refine At.rowFar ?_ (by first | (simp; done) | (simp; omega) | omega) _) | ((with_reducible refine At.far ?_ (by first | (simp; done) | (simp; omega) | omega) _)) | (with_reducible rfl) | (simp; done))) hx1
  have hS1 := At.ext (g := w.heap.size + 2) (t := 72) (cs := arr fun _ => false) (by repeat (first | (with_reducible exact At.new _ _ _) | ((with_reducible refine At.new' _ _ _ _ ?_); simp; done) | (with_reducible assumption) | (with_reducible refine At.drew ?_) | (with_reducible refine At.alloc ?_ _) | (with_reducible apply At.upd) | (with_reducible apply At.setRow) | (with_reducible refine At.rowFar ?_ (by first | (simp; done) | (simp; omega) | omega) _) | ((with_reducible refine At.far ?_ (by first | (simp; done) | (simp; omega) | omega) _)) | (with_reducible rfl) | (simp; done))) hx1
  have hQ1 := At.ext (g := w.heap.size + 3) (t := 72) (cs := arr fun _ => false) (by repeat (first | (with_reducible exact At.new _ _ _) | ((with_reducible refine At.new' _ _ _ _ ?_); simp; done) | (with_reducible assumption) | (with_reducible refine At.drew ?_) | (with_reducible refine At.alloc ?_ _) | (with_reducible apply At.upd) | (with_reducible apply At.setRow) | (with_reducible refine At.rowFar ?_ (by first | (simp; done) | (simp; omega) | omega) _) | ((with_reducible refine At.far ?_ (by first | (simp; done) | (simp; omega) | omega) _)) | (with_reducible rfl) | (simp; done))) hx1
  have hL1 := At.ext (g := w.heap.size + 4) (t := 72) (cs := arr fun _ => false) (by repeat (first | (with_reducible exact At.new _ _ _) | ((with_reducible refine At.new' _ _ _ _ ?_); simp; done) | (with_reducible assumption) | (with_reducible refine At.drew ?_) | (with_reducible refine At.alloc ?_ _) | (with_reducible apply At.upd) | (with_reducible apply At.setRow) | (with_reducible refine At.rowFar ?_ (by first | (simp; done) | (simp; omega) | omega) _) | ((with_reducible refine At.far ?_ (by first | (simp; done) | (simp; omega) | omega) _)) | (with_reducible rfl) | (simp; done))) hx1
  have x1 : Ext w w1 := Ext.trans (by repeat (first | (with_reducible exact Ext.refl _) | (with_reducible assumption) | (with_reducible refine Ext.alloc ?_ _) | (with_reducible refine Ext.drew ?_) | (with_reducible refine Ext.drewN ?_ _) | (with_reducible refine Ext.setCell ?_ (by simp; try omega) _) | (with_reducible refine Ext.setRow ?_ (by simp; try omega) _))) hx1
  clear hx1
  have HS := Lib.hid hL1.lt
  have eX : X 0 d = d.toNat := by unfold X; simp
  rw [eX]
  clear eX
  have hn0 : 0 < d.toNat := by omega
  obtain ⟨n, hn⟩ : ∃ n, n = d.toNat := ⟨_, rfl⟩
  rw [← hn] at hld hn0 ⊢
  have HN := Lib.hid hn
  clear hn
  have hz : arr (fun j => (0 : Nat).testBit j) = arr fun _ => false := arr_ext (fun i _ => by simp)
  go_wp2
  go_loopw [9] (fun i wr => RdAt a n w w1.heap.size i wr) (fun i _ => (intOf i + 1).toNat)
  case atStart => exact ⟨128, 0, 0, rfl, by omega, Lib.hid (by unfold quoN; rw [div_top a ha]; simp), Lib.hid (by unfold leftN; rw [div_top a ha]; simp), (by repeat (first | (with_reducible exact Ext.refl _) | (with_reducible assumption) | (with_reducible refine Ext.alloc ?_ _) | (with_reducible refine Ext.drew ?_) | (with_reducible refine Ext.drewN ?_ _) | (with_reducible refine Ext.setCell ?_ (by simp; try omega) _) | (with_reducible refine Ext.setRow ?_ (by simp; try omega) _))), At.alloc hA1 _, At.alloc hR1 _, At.alloc hS1 _, by rw [hz]; exact At.alloc hQ1 _, by rw [hz]; exact At.alloc hL1 _, At.new _ _ _⟩
  case round =>
    obtain ⟨k, q, l, rfl, hk, hq, hl, hx, hA, hR, hS, hQ, hL, hD⟩ := hrel
    clear hA1 hR1 hS1 hQ1 hL1 x1
    have s0 := HS.out
    have s1 := hA.lt
    have s2 := hR.lt
    have s3 := hS.lt
    have s4 := hQ.lt
    have s5 := hL.lt
    have s6 := hD.lt
    have e1 := cellsAt_at hR
    have e2 := cellsAt_at hS
    have e3 := cellsAt_at hQ
    have e4 := cellsAt_at hL
    have e5 := cellsAt_at hD
    rcases k with _ | k
    · go_wp2
      have hL2 := hL.drew.rowFar (g := w.heap.size + 1) (by omega) (arr fun j => q.testBit j)
      have hS2 := hS.drew.rowFar (g := w.heap.size + 1) (by omega) (arr fun j => q.testBit j)
      have e7 := cellsAt_at hL2
      have e8 := cellsAt_at hS2
      go_region
      go_wp2
      refine fin_bits2 (p := 4) (q := 5) (g := w.heap.size + 1) (k := w.heap.size + 2) rfl rfl rfl ((hR.drew.setRow _).rowFar (by omega) _) (hS2.setRow _) rfl ?_
      refine ⟨ret_eq ?_, Ext.setRow (Ext.setRow hx.drew (by omega) _) (by omega) _⟩
      rw [hq.out, hl.out, HN.out]
      simp [quoN, leftN]
    · have eI : ((k + 1 : Nat) : Int) - 1 = (k : Int) := by omega
      rw [eI]
      clear eI
      have hk' : (k : Int) < 128 := by omega
      have hlN := left_lt _ _ _ _ hn0 hl.out
      go_wp2_with fail
      refine (rleft_c l 1 (by omega) _).mono ?_
      rintro e w2 ⟨rfl, hx2⟩
      obtain ⟨s, hs⟩ : ∃ s, s = shl l 1 := ⟨_, rfl⟩
      rw [← hs]
      have HSh := Lib.hid hs
      clear hs
      obtain ⟨bk, hbk⟩ : ∃ b, b = a.testBit k := ⟨_, rfl⟩
      have HB := Lib.hid hbk
      have hA2 := hA.ext hx2
      have hR2 := hR.ext hx2
      have hS2 := hS.ext hx2
      have hQ2 := hQ.ext hx2
      have hL2 := hL.ext hx2
      have hD2 := hD.ext hx2
      have x2 := hx.trans hx2
      clear hA hR hS hQ hL hD hx hx2 s1 s2 s3 s4 s5 s6 e1 e2 e3 e4 e5
      have e4 := cellsAt_at hL2
      have hA3 := hA2.rowFar (g := w.heap.size + 4) (by omega) (arr fun j => s.testBit j)
      have hL3 := hL2.setRow (arr fun j => s.testBit j)
      have c := hA3.bit k (by omega)
      have f := hL3.frozen 0
      have c0 := hL3.bit 0 (by omega)
      rw [← hbk] at c
      clear hbk
      obtain ⟨m, hm⟩ : ∃ m, m = 2 * l + bk.toNat := ⟨_, rfl⟩
      have hL4 := hL3.setBit 0 bk
      rw [HSh.out, shl1_bit l bk (by omega), ← hm, ← HSh.out] at hL4
      have hD4 := (hD2.rowFar (g := w.heap.size + 4) (by omega) (arr fun j => s.testBit j)).far (p := ⟨w.heap.size + 4, 0, none⟩) (by simp; omega) (.bool bk)
      have e6 := cellsAt_at hL4
      have e7 := cellsAt_at hD4
      have HM := Lib.hid hm
      clear hm
      go_wp2_with fail
      refine (rcmp_c m n (by have := HM.out; have := Bool.toNat_le bk; omega) (by omega) _).mono ?_
      rintro e w4 ⟨rfl, hx4⟩
      have hA5 := (hA3.far (p := ⟨w.heap.size + 4, 0, none⟩) (by simp) (.bool bk)).ext hx4
      have hR5 := ((hR2.rowFar (g := w.heap.size + 4) (by omega) (arr fun j => s.testBit j)).far (p := ⟨w.heap.size + 4, 0, none⟩) (by simp) (.bool bk)).ext hx4
      have hS5 := ((hS2.rowFar (g := w.heap.size + 4) (by omega) (arr fun j => s.testBit j)).far (p := ⟨w.heap.size + 4, 0, none⟩) (by simp) (.bool bk)).ext hx4
      have hQ5 := ((hQ2.rowFar (g := w.heap.size + 4) (by omega) (arr fun j => s.testBit j)).far (p := ⟨w.heap.size + 4, 0, none⟩) (by simp) (.bool bk)).ext hx4
      have hL5 := hL4.ext hx4
      have hD5 := hD4.ext hx4
      have x5 : Ext w w4 := Ext.trans (Ext.setCell (Ext.setRow x2 (by omega) _) (by simp; omega) _) hx4
      clear hA2 hR2 hS2 hQ2 hL2 hD2 hA3 hL3 hL4 hD4 c c0 f e4 e6 e7 hx4 x2
      have hls := left_step a n k l hn0 hl.out
      have hqs := quo_step a n k l q hn0 hl.out hq.out
      rw [← HB.out, ← HM.out] at hls hqs
      have hlm : m < 340282366920938463463374607431768211456 := by have := HM.out; have := Bool.toNat_le bk; omega
      have hq0 : q % 2 ^ (k + 1) = 0 := by rw [hq.out]; unfold quoN; exact Nat.mul_mod_left _ _
      have HQ0 := Lib.hid hq0
      have HLS := Lib.hid hls
      have HQS := Lib.hid hqs
      clear hls hqs hq0
      have e4 := cellsAt_at hL5
      have e5 := cellsAt_at hD5
      by_cases hge : n ≤ m
      · have hcm : 0 ≤ cmpN m n := (cmpN_ge m n).2 hge
        go_wp2_with fail
        refine (rsub_c m n hlm (by omega) _).mono ?_
        rintro e w6 ⟨rfl, hx6⟩
        rw [sub_back m n hlm hge]
        have hA6 := hA5.ext hx6
        have hR6 := hR5.ext hx6
        have hS6 := hS5.ext hx6
        have hQ6 := hQ5.ext hx6
        have hL6 := hL5.ext hx6
        have hD6 := hD5.ext hx6
        have x6 := x5.trans hx6
        clear hA5 hR5 hS5 hQ5 hL5 hD5 x5 hx6 e4 e5
        have e4 := cellsAt_at hL6
        obtain ⟨r, hr⟩ : ∃ r, r = m - n := ⟨_, rfl⟩
        rw [← hr]
        have HR := Lib.hid hr
        clear hr
        have hQ7 := hQ6.rowFar (g := w.heap.size + 4) (by omega) (arr fun j => r.testBit j)
        have c := hQ7.bit k (by omega)
        have f := hQ7.frozen k
        go_wp2
        go_roundw
        case rel =>
          refine ⟨k, q + 2 ^ k, r, by go_num, by omega, Lib.hid ?_, Lib.hid ?_, Ext.setCell (Ext.setRow x6 (by omega) _) (by simp; omega) _, ?_, ?_, ?_, ?_, ?_, ?_⟩
          · rw [HQS.out, if_neg (by omega)]
          · rw [HLS.out, if_neg (by omega), HR.out]
          · exact (hA6.rowFar (by omega) _).far (by simp <;> omega) _
          · exact (hR6.rowFar (by omega) _).far (by simp <;> omega) _
          · exact (hS6.rowFar (by omega) _).far (by simp <;> omega) _
          · rw [← quo_bit q k HQ0.out]; exact hQ7.setBit k true
          · exact (hL6.setRow _).far (by simp <;> omega) _
          · exact (hD6.rowFar (by omega) _).far (by simp; omega) _
        case measure => simp [intOf]
      · have hcm : ¬ 0 ≤ cmpN m n := fun h => hge ((cmpN_ge m n).1 h)
        go_wp2
        go_roundw
        case rel =>
          refine ⟨k, q, m, by go_num, by omega, Lib.hid ?_, Lib.hid ?_, x5, hA5, hR5, hS5, hQ5, hL5, hD5⟩
          · rw [HQS.out, if_pos (by omega)]; rfl
          · rw [HLS.out, if_pos (by omega)]
        case measure => simp [intOf]
end Go.Proofs.Ytgjaiikfgejgoaa
