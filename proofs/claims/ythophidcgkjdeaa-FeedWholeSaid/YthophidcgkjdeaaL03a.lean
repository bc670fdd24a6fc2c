/- Law OctetsApart. No condition. -/
import Derived.Test.YthophidcgkjdeaaL03
namespace Go.Proofs.Ythophidcgkjdeaa
open Go.RowKit
attribute [local go_sem] Later.cell QUpon_value QUpon_enter MUpon_value run_eql_slice_nil
theorem numB_pos (n : Nat) : 0 < (numB n).length := by
  by_cases h : n < 128
  · rw [numB_small h]; simp
  · rw [numB_big h]; simp
theorem numB_pre : ∀ a b : Nat, numB a = (numB b).take (numB a).length → a = b := by
  intro a
  induction a using Nat.strongRecOn with
  | ind a ih =>
    intro b h
    by_cases ha : a < 128
    · rw [numB_small ha] at h
      by_cases hb : b < 128
      · rw [numB_small hb] at h
        simp at h
        omega
      · rw [numB_big hb] at h
        simp at h
        omega
    · rw [numB_big ha] at h
      by_cases hb : b < 128
      · rw [numB_small hb] at h
        simp at h
        omega
      · rw [numB_big hb] at h
        simp only [List.length_cons, List.take_succ_cons, List.cons.injEq] at h
        have := ih (a / 128) (by omega) _ h.2
        omega
theorem valF_uintB (n : Nat) : ∀ k acc, valF acc (uintB n k) = acc * 256 ^ k + n % 256 ^ k := by
  intro k
  induction k with
  | zero => intro acc; simp [uintB, valF, Nat.mod_one]
  | succ k ih =>
    intro acc
    have h1 : valF acc (uintB n (k + 1)) = valF (acc * 256 + n / 256 ^ k % 256) (uintB n k) := rfl
    rw [h1, ih, Nat.mod_pow_succ, Nat.add_mul, Nat.pow_succ, Nat.mul_assoc, Nat.mul_comm 256, Nat.mul_comm (n / 256 ^ k % 256), Nat.add_assoc, Nat.add_comm (256 ^ k * _)]
theorem valN_uintB (n k : Nat) : valN (uintB n k) = n % 256 ^ k := by
  unfold valN
  rw [valF_uintB, Nat.zero_mul, Nat.zero_add]
theorem intB_inj {c d : Int} (hc : I64 c) (hd : I64 d) (h : intB c = intB d) : c = d := by
  have h1 : valN (intB c) = valN (intB d) := by rw [h]
  unfold intB at h1
  rw [valN_uintB, valN_uintB, Nat.mod_eq_of_lt (by have := turnN_lt hc; simpa using this), Nat.mod_eq_of_lt (by have := turnN_lt hd; simpa using this)] at h1
  rw [← back_turn c, ← back_turn d, h1]
theorem Own.parts {w0 w : World} {v : Value} {bs : List Int} (h : Own w0 w v bs) : ∃ A c, v = .slice A bs.length c ∧ Row w 5 1 A bs.length c (bc bs) := by
  obtain ⟨A, c, h1, h2, _⟩ := h
  exact ⟨A, c, h1, h2⟩
end Go.Proofs.Ythophidcgkjdeaa
