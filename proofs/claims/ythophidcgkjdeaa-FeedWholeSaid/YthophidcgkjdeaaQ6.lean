/- Law OctetsBack, 1: what is put is read as it was; of less it is not. No condition. -/
import Derived.Test.YthophidcgkjdeaaQA
import Derived.Test.YthophidcgkjdeaaL03a
namespace Go.Proofs.Ythophidcgkjdeaa
open Go.RowKit
/-- The size with which a part is read. -/
def backZ (k z : Int) (xs : List Int) : Int := if k = 4 then (xs.length : Int) else z
def validP (k z : Int) : Prop := (1 ≤ k ∧ k ≤ 4) ∧ (k = 1 → 1 ≤ z ∧ z ≤ 8)
theorem uintR_put (n z : Nat) (rest : List Int) : uintR (uintB n z ++ rest) 0 z = (n % 256 ^ z, rest, 0) := by
  unfold uintR
  have hl := uintB_len n z
  rw [if_neg (by simp), if_neg (by rw [List.length_append]; omega), List.take_left' hl, List.drop_left' hl, valN_uintB]
theorem pow_step (i : Nat) : 128 ^ (i + 1) = 128 * 128 ^ i := by rw [Nat.pow_succ, Nat.mul_comm]
theorem num_small {n i : Nat} (h : n * 128 ^ i < 18446744073709551616) (hi : 9 ≤ i) : n < 2 ∧ (i = 9 ∨ n = 0) := by
  have h9 : (128 : Nat) ^ 9 ≤ 128 ^ i := Nat.pow_le_pow_right (by decide) hi
  have h1 : n * 128 ^ 9 ≤ n * 128 ^ i := Nat.mul_le_mul_left _ h9
  refine ⟨by omega, ?_⟩
  by_cases hi9 : i = 9
  · exact .inl hi9
  · right
    have h10 : (128 : Nat) ^ 10 ≤ 128 ^ i := Nat.pow_le_pow_right (by decide) (by omega)
    have h2 : n * 128 ^ 10 ≤ n * 128 ^ i := Nat.mul_le_mul_left _ h10
    omega
theorem num_div {n i : Nat} (h : n * 128 ^ i < 18446744073709551616) : n / 128 * 128 ^ (i + 1) < 18446744073709551616 ∧ n % 128 * 128 ^ i + n / 128 * 128 ^ (i + 1) = n * 128 ^ i := by
  have e : n % 128 * 128 ^ i + n / 128 * 128 ^ (i + 1) = n * 128 ^ i := by
    rw [pow_step, ← Nat.mul_assoc, Nat.mul_comm (n / 128) 128, ← Nat.add_mul, Nat.mod_add_div]
  exact ⟨by omega, e⟩
theorem numG_put : ∀ (k n i acc : Nat) (rest : List Int), i + k = 10 → n * 128 ^ i < 18446744073709551616 → (i = 0 ∨ 0 < n) → numG k i acc (numB n ++ rest) = (acc + n * 128 ^ i, rest, 0) := by
  intro k
  induction k with
  | zero =>
    intro n i acc rest hik hn h0
    have := num_small hn (by omega)
    omega
  | succ k ih =>
    intro n i acc rest hik hn h0
    by_cases hs : n < 128
    · rw [numB_small hs]
      have e : numG (k + 1) i acc ([(n : Int)] ++ rest) = if i = 9 ∧ 1 < (n : Int).toNat % 128 then (0, rest, 4) else if 128 ≤ (n : Int).toNat then numG k (i + 1) (acc + (n : Int).toNat % 128 * 128 ^ i) rest else if (n : Int).toNat % 128 = 0 ∧ 0 < i then (0, rest, 4) else (acc + (n : Int).toNat % 128 * 128 ^ i, rest, 0) := rfl
      rw [e, Int.toNat_natCast, Nat.mod_eq_of_lt hs]
      rw [if_neg (fun h => by have := num_small hn (by omega); omega), if_neg (by omega), if_neg (by omega)]
    · rw [numB_big hs]
      obtain ⟨b, hb⟩ : ∃ b : Nat, b = n % 128 + 128 := ⟨_, rfl⟩
      rw [← hb]
      have e : numG (k + 1) i acc ((b : Int) :: numB (n / 128) ++ rest) = if i = 9 ∧ 1 < (b : Int).toNat % 128 then (0, numB (n / 128) ++ rest, 4) else if 128 ≤ (b : Int).toNat then numG k (i + 1) (acc + (b : Int).toNat % 128 * 128 ^ i) (numB (n / 128) ++ rest) else if (b : Int).toNat % 128 = 0 ∧ 0 < i then (0, numB (n / 128) ++ rest, 4) else (acc + (b : Int).toNat % 128 * 128 ^ i, numB (n / 128) ++ rest, 0) := rfl
      obtain ⟨d1, d2⟩ := num_div hn
      have hi9 : i < 9 := by
        rcases Nat.lt_or_ge i 9 with h | h
        · exact h
        · have := num_small hn h; omega
      rw [e, Int.toNat_natCast, show b % 128 = n % 128 by omega, if_neg (by omega), if_pos (by omega), ih (n / 128) (i + 1) _ rest (by omega) d1 (by omega), Nat.add_assoc, d2]
theorem numG_less : ∀ (k n i acc : Nat) (ts : List Int), i + k = 10 → n * 128 ^ i < 18446744073709551616 → (i = 0 ∨ 0 < n) → ts.length < (numB n).length → ts = (numB n).take ts.length → (numG k i acc ts).2.2 = 3 := by
  intro k
  induction k with
  | zero =>
    intro n i acc ts hik hn h0
    have := num_small hn (by omega)
    omega
  | succ k ih =>
    intro n i acc ts hik hn h0 hl ht
    cases ts with
    | nil => rfl
    | cons t ts =>
      by_cases hs : n < 128
      · rw [numB_small hs] at hl
        simp at hl
      · rw [numB_big hs] at hl ht
        obtain ⟨b, hb⟩ : ∃ b : Nat, b = n % 128 + 128 := ⟨_, rfl⟩
        rw [← hb] at ht
        simp only [List.length_cons, List.take_succ_cons, List.cons.injEq] at hl ht
        obtain ⟨rfl, ht⟩ := ht
        have e : numG (k + 1) i acc ((b : Int) :: ts) = if i = 9 ∧ 1 < (b : Int).toNat % 128 then (0, ts, 4) else if 128 ≤ (b : Int).toNat then numG k (i + 1) (acc + (b : Int).toNat % 128 * 128 ^ i) ts else if (b : Int).toNat % 128 = 0 ∧ 0 < i then (0, ts, 4) else (acc + (b : Int).toNat % 128 * 128 ^ i, ts, 0) := rfl
        obtain ⟨d1, d2⟩ := num_div hn
        have hi9 : i < 9 := by
          rcases Nat.lt_or_ge i 9 with h | h
          · exact h
          · have := num_small hn h; omega
        rw [e, Int.toNat_natCast, show b % 128 = n % 128 by omega, if_neg (by omega), if_pos (by omega)]
        exact ih (n / 128) (i + 1) _ ts (by omega) d1 (by omega) (by omega) ht
theorem rawR_put (xs rest : List Int) : rawR (xs ++ rest) 0 xs.length = (xs, rest, 0) := by
  unfold rawR
  rw [if_neg (by simp), if_neg (by rw [List.length_append]; omega), List.take_left' rfl, List.drop_left' rfl]
def backNn (k z : Int) (n : Nat) : Nat := if k = 1 then n % 256 ^ z.toNat else if k = 3 then n else 0
def backSs (k s : Int) : Int := if k = 2 then s else 0
def backX (k : Int) (xs : List Int) : List Int := if k = 4 then xs else []
theorem got_back {k z s : Int} {n : Nat} {xs : List Int} (hv : validP k z) (hn : n < 18446744073709551616) (hs : I64 s) (rest : List Int) : gotR k (backZ k z xs) (formP k z n s xs ++ rest) 0 = (backNn k z n, backSs k s, backX k xs, rest, 0) := by
  obtain ⟨⟨k1, k4⟩, hz⟩ := hv
  obtain rfl | rfl | rfl | rfl : k = 1 ∨ k = 2 ∨ k = 3 ∨ k = 4 := by omega
  · have hz1 := hz rfl
    have e1 : formP 1 z n s xs = uintB n z.toNat := by unfold formP; rw [if_pos rfl, if_pos hz1]
    have e2 : backZ 1 z xs = z := if_neg (by decide)
    rw [e1, e2]
    unfold gotR
    rw [if_pos rfl, if_pos hz1, uintR_put]
    rfl
  · have e1 : formP 2 z n s xs = intB s := rfl
    rw [e1]
    unfold gotR intB
    rw [if_neg (by decide), if_pos rfl, uintR_put, Nat.mod_eq_of_lt (by have := turnN_lt hs; simpa using this), back_turn]
    rfl
  · have e1 : formP 3 z n s xs = numB n := rfl
    have e2 : numR (numB n ++ rest) 0 = (n, rest, 0) := by
      unfold numR
      rw [if_neg (by simp), numG_put 10 n 0 0 rest (by decide) (by simpa using hn) (.inl rfl)]
      simp
    rw [e1]
    unfold gotR
    rw [if_neg (by decide), if_neg (by decide), if_pos rfl, e2]
    rfl
  · have e1 : formP 4 z n s xs = xs := rfl
    have e2 : backZ 4 z xs = (xs.length : Int) := rfl
    rw [e1, e2]
    unfold gotR
    rw [if_neg (by decide), if_neg (by decide), if_neg (by decide), if_pos rfl, if_neg (by omega), Int.toNat_natCast, rawR_put]
    rfl
theorem got_less {k z s : Int} {n : Nat} {xs : List Int} (hv : validP k z) (hn : n < 18446744073709551616) (rs : List Int) (hl : rs.length < (formP k z n s xs).length) (ht : rs = (formP k z n s xs).take rs.length) : (gotR k (backZ k z xs) rs 0).2.2.2.2 = 3 := by
  obtain ⟨⟨k1, k4⟩, hz⟩ := hv
  obtain rfl | rfl | rfl | rfl : k = 1 ∨ k = 2 ∨ k = 3 ∨ k = 4 := by omega
  · have hz1 := hz rfl
    have e1 : formP 1 z n s xs = uintB n z.toNat := by unfold formP; rw [if_pos rfl, if_pos hz1]
    have e2 : backZ 1 z xs = z := if_neg (by decide)
    rw [e1, uintB_len] at hl
    rw [e2]
    have e3 : uintR rs 0 z.toNat = (0, rs, 3) := by unfold uintR; rw [if_neg (by simp), if_pos hl]
    unfold gotR
    rw [if_pos rfl, if_pos hz1, e3]
  · have e1 : formP 2 z n s xs = intB s := rfl
    rw [e1] at hl
    unfold intB at hl
    rw [uintB_len] at hl
    have e3 : uintR rs 0 8 = (0, rs, 3) := by unfold uintR; rw [if_neg (by simp), if_pos hl]
    unfold gotR
    rw [if_neg (by decide), if_pos rfl, e3]
  · have e1 : formP 3 z n s xs = numB n := rfl
    rw [e1] at hl ht
    have e2 : (numR rs 0).2.2 = 3 := by
      unfold numR
      rw [if_neg (by simp)]
      exact numG_less 10 n 0 0 rs (by decide) (by simpa using hn) (.inl rfl) hl ht
    unfold gotR
    rw [if_neg (by decide), if_neg (by decide), if_pos rfl]
    exact e2
  · have e1 : formP 4 z n s xs = xs := rfl
    have e2 : backZ 4 z xs = (xs.length : Int) := rfl
    rw [e1] at hl
    rw [e2]
    have e3 : rawR rs 0 xs.length = ([], rs, 3) := by unfold rawR; rw [if_neg (by simp), if_pos hl]
    unfold gotR
    rw [if_neg (by decide), if_neg (by decide), if_neg (by decide), if_pos rfl, if_neg (by omega), Int.toNat_natCast, e3]
/-- A step of reading what lacks its end. -/
def Lack (fs rs : List Int) (f : Int) : Prop := f = 3 ∨ (f = 0 ∧ rs.length < fs.length ∧ rs = fs.take rs.length)
theorem lack_step {k z s : Int} {n : Nat} {xs : List Int} (hv : validP k z) (hn : n < 18446744073709551616) (hs : I64 s) (rest rs : List Int) (f : Int) (h : Lack (formP k z n s xs ++ rest) rs f) : Lack rest (gotR k (backZ k z xs) rs f).2.2.2.1 (gotR k (backZ k z xs) rs f).2.2.2.2 := by
  rcases h with rfl | ⟨rfl, h1, h2⟩
  · rw [got_bad _ _ _ 3 (by decide)]
    exact .inl rfl
  · by_cases hl : rs.length < (formP k z n s xs).length
    · left
      refine got_less hv hn rs hl ?_
      rw [List.take_append_of_le_length (by omega)] at h2
      exact h2
    · right
      rw [List.take_append, List.take_of_length_le (by omega)] at h2
      rw [h2, got_back hv hn hs]
      refine ⟨rfl, ?_, ?_⟩
      · rw [List.length_take]
        rw [List.length_append] at h1
        omega
      · simp only [List.length_take]
        rw [Nat.min_eq_left (by rw [List.length_append] at h1; omega)]
theorem lack_end {rs : List Int} {f : Int} (h : Lack [] rs f) : f = 3 := by
  rcases h with h | ⟨_, h1, _⟩
  · exact h
  · simp at h1
end Go.Proofs.Ythophidcgkjdeaa
