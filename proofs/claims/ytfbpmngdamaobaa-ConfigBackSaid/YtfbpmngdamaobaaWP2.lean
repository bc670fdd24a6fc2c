/- Plain facts on a division bit by bit. No condition but that numbers lie in their ranges. -/
import Derived.Test.YtfbpmngdamaobaaWP
namespace Go.Proofs.Ytfbpmngdamaobaa
open Go.RowKit

theorem div_step (N d k : Nat) (hd : 0 < d) : N / 2 ^ k % d = (if 2 * (N / 2 ^ (k + 1) % d) + N / 2 ^ k % 2 < d then 2 * (N / 2 ^ (k + 1) % d) + N / 2 ^ k % 2 else 2 * (N / 2 ^ (k + 1) % d) + N / 2 ^ k % 2 - d) ∧
    N / 2 ^ k / d = 2 * (N / 2 ^ (k + 1) / d) + (if 2 * (N / 2 ^ (k + 1) % d) + N / 2 ^ k % 2 < d then 0 else 1) := by
  have e : N / 2 ^ (k + 1) = N / 2 ^ k / 2 := by rw [Nat.pow_succ, Nat.div_div_eq_div_mul]
  rw [e]
  generalize N / 2 ^ k = M
  have h1 := Nat.div_add_mod (M / 2) d
  have h2 : M / 2 % d < d := Nat.mod_lt _ hd
  have hM : M = d * (2 * (M / 2 / d)) + (2 * (M / 2 % d) + M % 2) := by
    have : d * (2 * (M / 2 / d)) = 2 * (d * (M / 2 / d)) := by grind
    omega
  generalize M / 2 / d = q at *
  generalize M / 2 % d = r at *
  by_cases h : 2 * r + M % 2 < d
  · rw [if_pos h, if_pos h]
    have a1 : (d * (2 * q) + (2 * r + M % 2)) % d = 2 * r + M % 2 := by rw [Nat.mul_add_mod, Nat.mod_eq_of_lt h]
    have a2 : (d * (2 * q) + (2 * r + M % 2)) / d = 2 * q + 0 := by rw [Nat.mul_add_div hd, Nat.div_eq_of_lt h]
    rw [← hM] at a1 a2
    exact ⟨a1, a2⟩
  · rw [if_neg h, if_neg h]
    have hM2 : M = d * (2 * q + 1) + (2 * r + M % 2 - d) := by
      have : d * (2 * q + 1) = d * (2 * q) + d := by grind
      omega
    have h3 : 2 * r + M % 2 - d < d := by omega
    have a1 : (d * (2 * q + 1) + (2 * r + M % 2 - d)) % d = 2 * r + M % 2 - d := by rw [Nat.mul_add_mod, Nat.mod_eq_of_lt h3]
    have a2 : (d * (2 * q + 1) + (2 * r + M % 2 - d)) / d = 2 * q + 1 := by rw [Nat.mul_add_div hd, Nat.div_eq_of_lt h3]
    rw [← hM2] at a1 a2
    exact ⟨a1, a2⟩

theorem T_val (L n : Nat) (hL : L < 18446744073709551616) : bits BinOp.or IntKind.u64 (IntKind.u64.wrap ((L : Int) * 2)) (bits BinOp.and IntKind.u64 ((n % 18446744073709551616 : Nat) : Int) 1) = (((2 * L + n % 2) % 18446744073709551616 : Nat) : Int) := by
  rw [mask1 _ (Nat.mod_lt _ (by decide)), show (L : Int) * 2 = ((L * 2 : Nat) : Int) by omega, wrap_nat, or_join 1 _ _ (by decide) (Nat.mod_lt _ (by decide)) (by omega) (by omega)]
  congr 1
  omega

theorem or_one (Q k : Nat) (hk : k < 128) (hQ : Q < 340282366920938463463374607431768211456) (h0 : Q % 2 ^ (k + 1) = 0) :
    bits BinOp.or IntKind.u64 ((Q / 18446744073709551616 : Nat) : Int) ((2 ^ k % 340282366920938463463374607431768211456 / 18446744073709551616 : Nat) : Int) = (((Q + 2 ^ k) / 18446744073709551616 : Nat) : Int) ∧
    bits BinOp.or IntKind.u64 ((Q % 18446744073709551616 : Nat) : Int) ((2 ^ k % 340282366920938463463374607431768211456 % 18446744073709551616 : Nat) : Int) = (((Q + 2 ^ k) % 18446744073709551616 : Nat) : Int) ∧ Q + 2 ^ k < 340282366920938463463374607431768211456 := by
  have hp : (2 : Nat) ^ k < 340282366920938463463374607431768211456 := Nat.lt_of_lt_of_eq (Nat.pow_lt_pow_right (by decide) hk) (by decide)
  rw [Nat.mod_eq_of_lt hp]
  have hh : Q / 18446744073709551616 < 18446744073709551616 := by omega
  by_cases h64 : k < 64
  · have hp2 : (2 : Nat) ^ k < 18446744073709551616 := Nat.lt_of_lt_of_eq (Nat.pow_lt_pow_right (by decide) h64) (by decide)
    have hdvd : 2 ^ (k + 1) ∣ 18446744073709551616 := by
      have : (18446744073709551616 : Nat) = 2 ^ 64 := by decide
      rw [this]; exact Nat.pow_dvd_pow 2 (by omega)
    have hl0 : Q % 18446744073709551616 % 2 ^ (k + 1) = 0 := by rw [Nat.mod_mod_of_dvd _ hdvd]; exact h0
    have e1 : 2 ^ k / 18446744073709551616 = 0 := Nat.div_eq_of_lt hp2
    have e2 : 2 ^ k % 18446744073709551616 = 2 ^ k := Nat.mod_eq_of_lt hp2
    rw [e1, e2, or_join (k + 1) _ _ (by omega) (Nat.mod_lt _ (by decide)) hl0 (Nat.pow_lt_pow_right (by decide) (by omega)), or_join 0 _ 0 (by decide) hh (by simp [Nat.mod_one]) (by decide)]
    -- the low half does not overflow: it is a multiple of 2^(k+1), as 2^64 is
    have hlow : Q % 18446744073709551616 + 2 ^ k < 18446744073709551616 := by
      obtain ⟨c, hc⟩ := hdvd
      obtain ⟨e, he⟩ := Nat.dvd_of_mod_eq_zero hl0
      have hlt : Q % 18446744073709551616 < 18446744073709551616 := Nat.mod_lt _ (by decide)
      rw [he] at hlt ⊢
      rw [hc] at hlt ⊢
      have hec : e < c := Nat.lt_of_mul_lt_mul_left hlt
      have : 2 ^ (k + 1) * (e + 1) ≤ 2 ^ (k + 1) * c := Nat.mul_le_mul_left _ hec
      have hpk : (2 : Nat) ^ (k + 1) = 2 * 2 ^ k := by rw [Nat.pow_succ, Nat.mul_comm]
      have hpos : 0 < (2 : Nat) ^ k := Nat.two_pow_pos k
      rw [Nat.mul_add, Nat.mul_one] at this
      omega
    refine ⟨?_, ?_, ?_⟩
    · congr 1; omega
    · congr 1; omega
    · omega
  · have hk2 : (2 : Nat) ^ k = 2 ^ (k - 64) * 18446744073709551616 := by
      rw [show k = (k - 64) + 64 by omega, Nat.pow_add]; simp
    have hk3 : (2 : Nat) ^ (k + 1) = 2 ^ (k - 64 + 1) * 18446744073709551616 := by
      rw [show k + 1 = (k - 64 + 1) + 64 by omega, Nat.pow_add]
    rw [hk3] at h0
    have hq0 : Q % 18446744073709551616 = 0 := by
      have := Nat.dvd_of_mod_eq_zero h0
      exact Nat.mod_eq_zero_of_dvd (Nat.dvd_trans (Nat.dvd_mul_left _ _) this)
    have hqh : Q / 18446744073709551616 % 2 ^ (k - 64 + 1) = 0 := by
      obtain ⟨c, hc⟩ := Nat.dvd_of_mod_eq_zero h0
      rw [hc, show 2 ^ (k - 64 + 1) * 18446744073709551616 * c = 2 ^ (k - 64 + 1) * c * 18446744073709551616 by grind, Nat.mul_div_cancel _ (by decide), Nat.mul_mod_right]
    have hp64 : (2 : Nat) ^ (k - 64) < 2 ^ (k - 64 + 1) := Nat.pow_lt_pow_right (by decide) (by omega)
    rw [hk2, show 2 ^ (k - 64) * 18446744073709551616 / 18446744073709551616 = 2 ^ (k - 64) by omega, show 2 ^ (k - 64) * 18446744073709551616 % 18446744073709551616 = 0 by omega, hq0,
      or_join (k - 64 + 1) _ _ (by omega) hh hqh hp64, or_join 0 0 0 (by decide) (by decide) (by decide) (by decide)]
    have hhi : Q / 18446744073709551616 + 2 ^ (k - 64) < 18446744073709551616 := by
      have hdvd : 2 ^ (k - 64 + 1) ∣ 18446744073709551616 := by
        have : (18446744073709551616 : Nat) = 2 ^ 64 := by decide
        rw [this]; exact Nat.pow_dvd_pow 2 (by omega)
      obtain ⟨c, hc⟩ := hdvd
      obtain ⟨e, he⟩ := Nat.dvd_of_mod_eq_zero hqh
      rw [he] at hh ⊢
      rw [hc] at hh ⊢
      have hec : e < c := Nat.lt_of_mul_lt_mul_left hh
      have : 2 ^ (k - 64 + 1) * (e + 1) ≤ 2 ^ (k - 64 + 1) * c := Nat.mul_le_mul_left _ hec
      have hpk : (2 : Nat) ^ (k - 64 + 1) = 2 * 2 ^ (k - 64) := by rw [Nat.pow_succ, Nat.mul_comm]
      have hpos : 0 < (2 : Nat) ^ (k - 64) := Nat.two_pow_pos _
      rw [Nat.mul_add, Nat.mul_one] at this
      omega
    generalize (2 : Nat) ^ (k - 64) = y at *
    refine ⟨?_, ?_, ?_⟩
    · congr 1; omega
    · congr 1; omega
    · omega
theorem mul_lt {a b : Nat} (ha : a < 18446744073709551616) (hb : b < 18446744073709551616) : a * b < 340282366920938463463374607431768211456 := by
  have h1 : a * b ≤ 18446744073709551615 * b := Nat.mul_le_mul_right _ (by omega)
  omega
end Go.Proofs.Ytfbpmngdamaobaa
