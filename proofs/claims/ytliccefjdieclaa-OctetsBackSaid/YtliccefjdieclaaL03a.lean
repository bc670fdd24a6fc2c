/- Law OctetsApart. No condition. -/
import Derived.Test.YtliccefjdieclaaL03
namespace Go.Proofs.Ytliccefjdieclaa
open Go.RowKit
attribute [local go_sem] Later.cell QUpon_value QUpon_enter MUpon_value run_eql_slice_nil
theorem numB_pos (n : Nat) : 0 < (numB n).length := by
  by_cases h : n < 128
  · rw [numB_small h]; simp
  · rw [numB_big h]; simp
theorem numB_pre : ∀ a b : Nat, numB a = (numB b).take (numB a).length → a = b := by
  intro a
  induction a using Nat.strongRecOn with
  | ind a ih =>
    intro b h
    by_cases ha : a < 128
    · rw [numB_small ha] at h
      by_cases hb : b < 128
      · rw [numB_small hb] at h
        simp at h
        omega
      · rw [numB_big hb] at h
        simp at h
        omega
    · rw [numB_big ha] at h
      by_cases hb : b < 128
      · rw [numB_small hb] at h
        simp at h
        omega
      · rw [numB_big hb] at h
        simp only [List.length_cons, List.take_succ_cons, List.cons.injEq] at h
        have := ih (a / 128) (by omega) _ h.2
        omega
theorem valF_uintB (n : Nat) : ∀ k acc, valF acc (uintB n k) = acc * 256 ^ k + n % 256 ^ k := by
  intro k
  induction k with
  | zero => intro acc; simp [uintB, valF, Nat.mod_one]
  | succ k ih =>
    intro acc
    have h1 : valF acc (uintB n (k + 1)) = valF (acc * 256 + n / 256 ^ k % 256) (uintB n k) := rfl
    rw [h1, ih, Nat.mod_pow_succ, Nat.add_mul, Nat.pow_succ, Nat.mul_assoc, Nat.mul_comm 256, Nat.mul_comm (n / 256 ^ k % 256), Nat.add_assoc, Nat.add_comm (256 ^ k * _)]
theorem valN_uintB (n k : Nat) : valN (uintB n k) = n % 256 ^ k := by
  unfold valN
  rw [valF_uintB, Nat.zero_mul, Nat.zero_add]
theorem intB_inj {c d : Int} (hc : I64 c) (hd : I64 d) (h : intB c = intB d) : c = d := by
  have h1 : valN (intB c) = valN (intB d) := by rw [h]
  unfold intB at h1
  rw [valN_uintB, valN_uintB, Nat.mod_eq_of_lt (by have := turnN_lt hc; simpa using this), Nat.mod_eq_of_lt (by have := turnN_lt hd; simpa using this)] at h1
  rw [← back_turn c, ← back_turn d, h1]
theorem Own.parts {w0 w : World} {v : Value} {bs : List Int} (h : Own w0 w v bs) : ∃ A c, v = .slice A bs.length c ∧ Row w 5 1 A bs.length c (bc bs) := by
  obtain ⟨A, c, h1, h2, _⟩ := h
  exact ⟨A, c, h1, h2⟩
set_option maxHeartbeats 4000000 in
set_option maxRecDepth 100000 in
theorem apart_c (a b : Nat) (c d : Int) (ha : a < 18446744073709551616) (hb : b < 18446744073709551616) (hc : I64 c) (hd : I64 d) (w : World) :
    Calls Try.prog 3 #[.int .u64 a, .int .u64 b, .int .i64 c, .int .i64 d] w fun e w' => e = .returned (.bool true) ∧ Ext w w' := by
  have la := numB_len64 ha
  have lb := numB_len64 hb
  go_enter Try.func3, Try.ntmps3
  go_wp2_with fail
  obtain ⟨w0, hw0⟩ : ∃ w0 : World, w0 = (((w.alloc (.cells #[.slice none 0 0] 25)).alloc (.cells #[.slice none 0 0] 25)).alloc (.cells #[.slice none 0 0] 25)).alloc (.cells #[.slice none 0 0] 25) := ⟨_, rfl⟩
  have x0 : Ext w w0 := by rw [hw0]; exact (by repeat (first | (with_reducible exact Ext.refl _) | (with_reducible assumption) | (with_reducible refine Ext.alloc ?_ _) | (with_reducible refine Ext.drew ?_) | (with_reducible refine Ext.drewN ?_ _) | (with_reducible refine Ext.setCell ?_ (by simp; try omega) _) | (with_reducible refine Ext.setRow ?_ (by simp; try omega) _)))
  have h0 : At w0 w.heap.size 25 #[.slice none 0 0] := by rw [hw0]; exact (by repeat (first | (with_reducible exact At.new _ _ _) | ((with_reducible refine At.new' _ _ _ _ ?_); simp; done) | (with_reducible assumption) | (with_reducible refine At.drew ?_) | (with_reducible refine At.alloc ?_ _) | (with_reducible apply At.upd) | (with_reducible apply At.setRow) | (with_reducible refine At.rowFar ?_ (by first | (simp; done) | (simp; omega) | omega) _) | ((with_reducible refine At.far ?_ (by first | (simp; done) | (simp; omega) | omega) _)) | (with_reducible rfl) | (simp; done)))
  have h1 : At w0 (w.heap.size + 1) 25 #[.slice none 0 0] := by rw [hw0]; exact (by repeat (first | (with_reducible exact At.new _ _ _) | ((with_reducible refine At.new' _ _ _ _ ?_); simp; done) | (with_reducible assumption) | (with_reducible refine At.drew ?_) | (with_reducible refine At.alloc ?_ _) | (with_reducible apply At.upd) | (with_reducible apply At.setRow) | (with_reducible refine At.rowFar ?_ (by first | (simp; done) | (simp; omega) | omega) _) | ((with_reducible refine At.far ?_ (by first | (simp; done) | (simp; omega) | omega) _)) | (with_reducible rfl) | (simp; done)))
  have h2 : At w0 (w.heap.size + 1 + 1) 25 #[.slice none 0 0] := by rw [hw0]; exact (by repeat (first | (with_reducible exact At.new _ _ _) | ((with_reducible refine At.new' _ _ _ _ ?_); simp; done) | (with_reducible assumption) | (with_reducible refine At.drew ?_) | (with_reducible refine At.alloc ?_ _) | (with_reducible apply At.upd) | (with_reducible apply At.setRow) | (with_reducible refine At.rowFar ?_ (by first | (simp; done) | (simp; omega) | omega) _) | ((with_reducible refine At.far ?_ (by first | (simp; done) | (simp; omega) | omega) _)) | (with_reducible rfl) | (simp; done)))
  have h3 : At w0 (w.heap.size + 1 + 1 + 1) 25 #[.slice none 0 0] := by rw [hw0]; exact (by repeat (first | (with_reducible exact At.new _ _ _) | ((with_reducible refine At.new' _ _ _ _ ?_); simp; done) | (with_reducible assumption) | (with_reducible refine At.drew ?_) | (with_reducible refine At.alloc ?_ _) | (with_reducible apply At.upd) | (with_reducible apply At.setRow) | (with_reducible refine At.rowFar ?_ (by first | (simp; done) | (simp; omega) | omega) _) | ((with_reducible refine At.far ?_ (by first | (simp; done) | (simp; omega) | omega) _)) | (with_reducible rfl) | (simp; done)))
  rw [← hw0]
  clear hw0
  have s3 := h3.lt
  refine (num_c _ none [] a ha _ (Wr.new h0) (by decide)).mono ?_
  rintro e w1 ⟨rfl, A1, hP1⟩
  rw [List.nil_append] at hP1
  have x1 : Ext w w1 := hP1.ext0 x0 (Nat.le_refl _)
  have k1 := (Wr.new h1).chg hP1.chg (by simp [ablk]; try omega) (by simp [ablk])
  have k2 := (Wr.new h2).chg hP1.chg (by simp [ablk]; try omega) (by simp [ablk])
  have k3 := (Wr.new h3).chg hP1.chg (by simp [ablk]; try omega) (by simp [ablk])
  have s1 := hP1.chg.size
  clear h0 h1 h2 h3
  go_wp2_with fail
  refine (bytes_c _ A1 _ _ hP1.wr (by omega)).mono ?_
  rintro e w2 ⟨hx2, p, rfl, op⟩
  have x2 := x1.trans hx2
  have s2 := hx2.size
  go_wp2_with fail
  refine (num_c _ none [] b hb _ (k1.ext hx2) (by decide)).mono ?_
  rintro e w4 ⟨rfl, A2, hP2⟩
  rw [List.nil_append] at hP2
  have x4 : Ext w w4 := hP2.ext0 x2 (by omega)
  have op4 := op.chg hP2.chg (by simp [ablk]; omega)
  have j2 := (k2.ext hx2).chg hP2.chg (by simp [ablk]; try omega) (by simp [ablk])
  have j3 := (k3.ext hx2).chg hP2.chg (by simp [ablk]; try omega) (by simp [ablk])
  have s4 := hP2.chg.size
  clear k1 k2 k3 op
  go_wp2_with fail
  refine (bytes_c _ A2 _ _ hP2.wr (by omega)).mono ?_
  rintro e w5 ⟨hx5, q, rfl, oq⟩
  have x5 := x4.trans hx5
  have op5 := op4.ext hx5
  have s5 := hx5.size
  clear op4
  go_wp2_with fail
  refine (int_c _ none [] c hc _ (j2.ext hx5) (by decide)).mono ?_
  rintro e w6 ⟨rfl, A3, hP3⟩
  rw [List.nil_append] at hP3
  have x6 : Ext w w6 := hP3.ext0 x5 (by omega)
  have op6 := op5.chg hP3.chg (by simp [ablk]; omega)
  have oq6 := oq.chg hP3.chg (by simp [ablk]; omega)
  have i3 := (j3.ext hx5).chg hP3.chg (by simp [ablk]; try omega) (by simp [ablk])
  have s6 := hP3.chg.size
  have lc : (intB c).length = 8 := uintB_len _ _
  have ld : (intB d).length = 8 := uintB_len _ _
  clear j2 j3 op5 oq
  go_wp2_with fail
  refine (bytes_c _ A3 _ _ hP3.wr (by omega)).mono ?_
  rintro e w7 ⟨hx7, s, rfl, os⟩
  have x7 := x6.trans hx7
  have op7 := op6.ext hx7
  have oq7 := oq6.ext hx7
  have s7 := hx7.size
  clear op6 oq6
  go_wp2_with fail
  refine (int_c _ none [] d hd _ (i3.ext hx7) (by decide)).mono ?_
  rintro e w8 ⟨rfl, A4, hP4⟩
  rw [List.nil_append] at hP4
  have x8 : Ext w w8 := hP4.ext0 x7 (by omega)
  have op8 := op7.chg hP4.chg (by simp [ablk]; omega)
  have oq8 := oq7.chg hP4.chg (by simp [ablk]; omega)
  have os8 := os.chg hP4.chg (by simp [ablk]; omega)
  have s8 := hP4.chg.size
  clear i3 op7 oq7 os
  go_wp2_with fail
  refine (bytes_c _ A4 _ _ hP4.wr (by omega)).mono ?_
  rintro e w9 ⟨hx9, t, rfl, ot⟩
  have x9 := x8.trans hx9
  obtain ⟨Ap, cp, rfl, rp⟩ := (op8.ext hx9).parts
  obtain ⟨Aq, cq, rfl, rq⟩ := (oq8.ext hx9).parts
  obtain ⟨As, cs, rfl, rs⟩ := (os8.ext hx9).parts
  obtain ⟨At_, ct, rfl, rt⟩ := ot.parts
  have bp := numB_byt a
  have bq := numB_byt b
  have C2 := same_c As At_ (intB c).length (intB d).length cs ct (intB c) (intB d)
  have eI : decide (intB c = intB d) = decide (c = d) := by
    by_cases h : c = d
    · rw [decide_eq_true h, decide_eq_true (by rw [h])]
    · rw [decide_eq_false h, decide_eq_false (fun h1 => h (intB_inj hc hd h1))]
  rw [eI] at C2
  have ecd : ((c : Int) == d) = decide (c = d) := by by_cases h : c = d <;> simp [h]
  have eab : ((a : Int) == (b : Int)) = decide (a = b) := by
    by_cases h : a = b
    · simp [h]
    · have h1 : (a : Int) ≠ b := by omega
      simp [h, h1]
  have ed : (decide (c = d) == decide (c = d)) = true := by simp
  have ee : (decide (a = b) == decide (a = b)) = true := by simp
  by_cases hle : (numB a).length ≤ (numB b).length
  · have rq2 := rq.takeN hle
    rw [Nat.mul_one, show (bc (numB b)).take (numB a).length = bc ((numB b).take (numB a).length) from List.map_take.symm] at rq2
    have C1 := same_c Ap Aq (numB a).length (numB a).length cp cq (numB a) ((numB b).take (numB a).length)
    have eN : decide (numB a = (numB b).take (numB a).length) = decide (a = b) := by
      by_cases h : a = b
      · rw [decide_eq_true h, decide_eq_true (by subst h; simp)]
      · rw [decide_eq_false h, decide_eq_false (fun h1 => h (numB_pre a b h1))]
    rw [eN] at C1
    have hqc := rq.le
    have hqm := rq.max
    unfold maxLen at hqm
    have D1 := C1 w9 rp.src rq2.src bp (fun x hx => bq x (List.mem_of_mem_take hx))
    have emin : min (numB a).length (numB b).length = (numB a).length := by omega
    generalize decide (a = b) = ab at D1 eab ee
    generalize decide (c = d) = cd at C2 ecd ed
    go_wp2_with fail
    refine D1.mono ?_
    rintro e w10 ⟨rfl, hx10⟩
    go_wp2_with fail
    refine (C2 w10 (rs.ext hx10).src (rt.ext hx10).src (uintB_byt _ _) (uintB_byt _ _)).mono ?_
    rintro e w11 ⟨rfl, hx11⟩
    go_wp2_with fail
    refine (alive_c _).mono ?_
    rintro e w12 ⟨rfl, hx12⟩
    go_wp2_with fail
    first | refine fin_ret rfl (fun K hK => ?_) | refine fin_norm rfl (fun K hK => ?_)
    simp [results, Try.results3, go_sem, rsat]
    try go_simp
    refine hK _ ?_
    clear hK K
    exact ⟨rfl, ((x9.trans hx10).trans hx11).trans hx12⟩
  · have hab : decide (a = b) = false := decide_eq_false (fun h => hle (by rw [h]; exact Nat.le_refl _))
    rw [hab] at eab
    clear hab ee
    generalize decide (c = d) = cd at C2 ecd ed
    go_wp2_with fail
    refine (C2 w9 rs.src rt.src (uintB_byt _ _) (uintB_byt _ _)).mono ?_
    rintro e w11 ⟨rfl, hx11⟩
    go_wp2_with fail
    refine (alive_c _).mono ?_
    rintro e w12 ⟨rfl, hx12⟩
    go_wp2_with fail
    first | refine fin_ret rfl (fun K hK => ?_) | refine fin_norm rfl (fun K hK => ?_)
    simp [results, Try.results3, go_sem, rsat]
    try go_simp
    refine hK _ ?_
    clear hK K
    exact ⟨rfl, (x9.trans hx11).trans hx12⟩
theorem octetsapart_c (a b c d : Int) (ha : U64 a) (hb : U64 b) (hc : I64 c) (hd : I64 d) (w : World) :
    Calls Try.prog 3 #[.int .u64 a, .int .u64 b, .int .i64 c, .int .i64 d] w fun e w' => e = .returned (.bool true) ∧ Ext w w' := by
  have h := apart_c a.toNat b.toNat c d ha.lt hb.lt hc hd w
  rw [ha.cast, hb.cast] at h
  exact h
end Go.Proofs.Ytliccefjdieclaa
