/- What is read is what was put, and back (plain): numbers and their bytes. No condition. -/
import Derived.Test.YthophidcgkjdeaaPs6
import Derived.Test.YthophidcgkjdeaaQ6
namespace Go.Proofs.Ythophidcgkjdeaa
open Go.RowKit
def intR (bs : List Int) (f : Int) : Int × List Int × Int := (backN (uintR bs f 8).1, (uintR bs f 8).2)
/-! ### forth -/
theorem one_put (b : Int) (rest : List Int) : uintR (b :: rest) 0 1 = (b.toNat, rest, 0) := by
  unfold uintR
  rw [if_neg (by simp), if_neg (by simp)]
  show ((0 : Nat) * 256 + b.toNat, rest, (0 : Int)) = _
  simp
theorem numR_put {n : Nat} (h : n < 18446744073709551616) (rest : List Int) : numR (numB n ++ rest) 0 = (n, rest, 0) := by
  unfold numR
  rw [if_neg (by simp), numG_put 10 n 0 0 rest (by decide) (by simpa using h) (.inl rfl)]
  simp
theorem intR_put {s : Int} (h : I64 s) (rest : List Int) : (backN (uintR (intB s ++ rest) 0 8).1, (uintR (intB s ++ rest) 0 8).2) = (s, rest, 0) := by
  unfold intB
  rw [uintR_put, Nat.mod_eq_of_lt (by have := turnN_lt h; simpa using this), back_turn]
/-! ### of less -/
theorem Lack.cut {fs : List Int} {k : Nat} (h : k < fs.length) : Lack fs (fs.take k) 0 := .inr ⟨rfl, by rw [List.length_take]; omega, by rw [List.length_take, Nat.min_eq_left (by omega)]⟩
theorem lack_one {b : Int} {rest rs s : List Int} {f g : Int} {v : Nat} (h : Lack (b :: rest) rs f) (e : uintR rs f 1 = (v, s, g)) : Lack rest s g := by
  rcases h with rfl | ⟨rfl, h1, h2⟩
  · exact .inl (uintR_stays e (by decide))
  · cases rs with
    | nil =>
      have e' : uintR [] 0 1 = (0, [], 3) := rfl
      rw [e'] at e
      injection e with _ e; injection e with _ e
      exact .inl e.symm
    | cons r rs =>
      rw [one_put] at e
      injection e with _ e; injection e with e1 e2
      simp only [List.length_cons, List.take_succ_cons, List.cons.injEq] at h1 h2
      subst e1 e2
      exact .inr ⟨rfl, by omega, h2.2⟩
theorem lack_num {n : Nat} (hn : n < 18446744073709551616) {rest rs s : List Int} {f g : Int} {v : Nat} (h : Lack (numB n ++ rest) rs f) (e : numR rs f = (v, s, g)) : Lack rest s g := by
  have := lack_step (k := 3) (z := 0) (s := 0) (xs := []) ⟨⟨by decide, by decide⟩, fun h => absurd h (by decide)⟩ hn ⟨by decide, by decide⟩ rest rs f h
  have hg : gotR 3 (backZ 3 0 []) rs f = ((numR rs f).1, 0, [], (numR rs f).2.1, (numR rs f).2.2) := rfl
  rw [hg, e] at this
  exact this
theorem lack_int {x : Int} (hx : I64 x) {rest rs s : List Int} {f g v : Int} (h : Lack (intB x ++ rest) rs f) (e : (backN (uintR rs f 8).1, (uintR rs f 8).2) = (v, s, g)) : Lack rest s g := by
  have := lack_step (k := 2) (z := 0) (n := 0) (xs := []) ⟨⟨by decide, by decide⟩, fun h => absurd h (by decide)⟩ (by decide) hx rest rs f h
  have hg : gotR 2 (backZ 2 0 []) rs f = (0, backN (uintR rs f 8).1, [], (uintR rs f 8).2.1, (uintR rs f 8).2.2) := rfl
  injection e with _ e
  rw [hg, e] at this
  exact this
/-! ### back -/
theorem valF_acc : ∀ (l : List Int) (n : Nat), valF n l = n * 256 ^ l.length + valN l
  | [], n => by simp [valF, valN]
  | x :: l, n => by
    have h1 := valF_acc l (n * 256 + x.toNat)
    have h2 := valF_acc l (0 * 256 + x.toNat)
    show valF (n * 256 + x.toNat) l = n * 256 ^ (l.length + 1) + valF (0 * 256 + x.toNat) l
    rw [h1, h2, Nat.pow_succ, Nat.add_mul, Nat.zero_mul, Nat.zero_add, Nat.mul_assoc, Nat.mul_comm 256]
    omega
theorem uintB_high (a m j : Nat) : ∀ k, k ≤ j → uintB (a * 256 ^ j + m) k = uintB m k := by
  intro k
  induction k with
  | zero => intro _; rfl
  | succ i ih =>
    intro hk
    obtain ⟨t, rfl⟩ : ∃ t, j = t + 1 + i := ⟨j - 1 - i, by omega⟩
    have e : (a * 256 ^ (t + 1 + i) + m) / 256 ^ i % 256 = m / 256 ^ i % 256 := by
      rw [Nat.pow_add, ← Nat.mul_assoc, Nat.add_comm, Nat.add_mul_div_right _ _ (Nat.pow_pos (by decide)), Nat.pow_succ, ← Nat.mul_assoc, Nat.add_mul_mod_self_right]
    show (((a * 256 ^ (t + 1 + i) + m) / 256 ^ i % 256 : Nat) : Int) :: uintB (a * 256 ^ (t + 1 + i) + m) i = ((m / 256 ^ i % 256 : Nat) : Int) :: uintB m i
    rw [e, ih (by omega)]
theorem uintB_val : ∀ l : List Int, Byt l → uintB (valN l) l.length = l
  | [], _ => rfl
  | x :: l, h => by
    have hx := h x (by simp)
    have hl : Byt l := fun y hy => h y (by simp [hy])
    have e : valN (x :: l) = x.toNat * 256 ^ l.length + valN l := by
      show valF (0 * 256 + x.toNat) l = _
      rw [valF_acc, Nat.zero_mul, Nat.zero_add]
    have hv := valN_lt hl
    rw [e]
    show (((x.toNat * 256 ^ l.length + valN l) / 256 ^ l.length % 256 : Nat) : Int) :: uintB (x.toNat * 256 ^ l.length + valN l) l.length = x :: l
    rw [uintB_high _ _ _ _ (Nat.le_refl _), uintB_val l hl, Nat.add_comm, Nat.add_mul_div_right _ _ (Nat.pow_pos (by decide)), Nat.div_eq_of_lt hv, Nat.zero_add]
    congr 1
    omega
theorem uint_inv {s s' : List Int} {f : Int} {v z : Nat} (hs : Byt s) (e : uintR s f z = (v, s', 0)) : f = 0 ∧ s = uintB v z ++ s' ∧ v < 256 ^ z ∧ z ≤ s.length := by
  by_cases hf : f = 0
  · subst hf
    unfold uintR at e
    rw [if_neg (by simp)] at e
    by_cases hl : s.length < z
    · rw [if_pos hl] at e
      injection e with _ e; injection e with _ e; cases e
    · rw [if_neg hl] at e
      injection e with e1 e; injection e with e2 _
      have ht : (s.take z).length = z := by rw [List.length_take]; omega
      have hb : Byt (s.take z) := fun x hx => hs x (List.mem_of_mem_take hx)
      have := uintB_val _ hb
      rw [ht, e1] at this
      have hv := valN_lt hb
      rw [ht, e1] at hv
      refine ⟨rfl, ?_, hv, by omega⟩
      rw [this, ← e2, List.take_append_drop]
  · exact absurd (uintR_stays e hf).symm hf
theorem one_inv {s s' : List Int} {f : Int} {v : Nat} (hs : Byt s) (e : uintR s f 1 = (v, s', 0)) : f = 0 ∧ s = (v : Int) :: s' ∧ v < 256 := by
  obtain ⟨h1, h2, h3, _⟩ := uint_inv hs e
  refine ⟨h1, ?_, by simpa using h3⟩
  rw [h2]
  show ((v / 256 ^ 0 % 256 : Nat) : Int) :: ([] ++ s') = _
  rw [Nat.pow_zero, Nat.div_one, Nat.mod_eq_of_lt (by simpa using h3)]
  rfl
theorem int_inv {s s' : List Int} {f v : Int} (hs : Byt s) (e : (backN (uintR s f 8).1, (uintR s f 8).2) = (v, s', 0)) : f = 0 ∧ s = intB v ++ s' ∧ I64 v := by
  injection e with e1 e2
  obtain ⟨h1, h2, h3, _⟩ := uint_inv hs (v := (uintR s f 8).1) (s' := s') (z := 8) (Prod.ext rfl e2)
  have h4 := backN_I64 (n := (uintR s f 8).1) (by simpa using h3)
  refine ⟨h1, ?_, e1 ▸ h4⟩
  rw [← e1]
  unfold intB
  rw [turn_back]
  exact h2
theorem numG_inv : ∀ (k i acc : Nat) (bs rest : List Int) (m : Nat), i + k = 10 → Byt bs → numG k i acc bs = (m, rest, 0) → ∃ n, bs = numB n ++ rest ∧ m = acc + n * 128 ^ i ∧ (i = 0 ∨ 0 < n) ∧ (i = 9 → n ≤ 1)
  | 0, i, acc, bs, rest, m, _, _, e => by
    have e' : numG 0 i acc bs = (0, bs, 4) := rfl
    rw [e'] at e
    injection e with _ e; injection e with _ e; cases e
  | k + 1, i, acc, [], rest, m, _, _, e => by
    have e' : numG (k + 1) i acc [] = (0, [], 3) := rfl
    rw [e'] at e
    injection e with _ e; injection e with _ e; cases e
  | k + 1, i, acc, b :: bs, rest, m, hik, hb, e => by
    have hb0 := hb b (by simp)
    have hbs : Byt bs := fun x hx => hb x (by simp [hx])
    have e' : numG (k + 1) i acc (b :: bs) = if i = 9 ∧ 1 < b.toNat % 128 then (0, bs, 4) else if 128 ≤ b.toNat then numG k (i + 1) (acc + b.toNat % 128 * 128 ^ i) bs else if b.toNat % 128 = 0 ∧ 0 < i then (0, bs, 4) else (acc + b.toNat % 128 * 128 ^ i, bs, 0) := rfl
    rw [e'] at e
    by_cases h1 : i = 9 ∧ 1 < b.toNat % 128
    · rw [if_pos h1] at e
      injection e with _ e; injection e with _ e; cases e
    rw [if_neg h1] at e
    by_cases h2 : 128 ≤ b.toNat
    · rw [if_pos h2] at e
      obtain ⟨n, hn1, hn2, hn3, hn4⟩ := numG_inv k (i + 1) _ bs rest m (by omega) hbs e
      have hp : 0 < n := by omega
      have hbig : ¬ b.toNat % 128 + 128 * n < 128 := by omega
      refine ⟨b.toNat % 128 + 128 * n, ?_, ?_, .inr (by omega), fun h9 => ?_⟩
      · rw [numB_big hbig, show (b.toNat % 128 + 128 * n) / 128 = n by omega, show (((b.toNat % 128 + 128 * n) % 128 + 128 : Nat) : Int) = b by omega, hn1]
        rfl
      · rw [hn2, Nat.add_mul, Nat.pow_succ, Nat.mul_comm 128 n, Nat.mul_assoc, Nat.mul_comm 128, Nat.add_assoc]
      · subst h9
        obtain rfl : k = 0 := by omega
        have e'' : numG 0 (9 + 1) (acc + b.toNat % 128 * 128 ^ 9) bs = (0, bs, 4) := rfl
        rw [e''] at e
        injection e with _ e; injection e with _ e; cases e
    rw [if_neg h2] at e
    by_cases h3 : b.toNat % 128 = 0 ∧ 0 < i
    · rw [if_pos h3] at e
      injection e with _ e; injection e with _ e; cases e
    · rw [if_neg h3] at e
      injection e with e1 e; injection e with e2 _
      refine ⟨b.toNat, ?_, ?_, ?_, fun h9 => ?_⟩
      · rw [numB_small (by omega), show ((b.toNat : Nat) : Int) = b by omega, e2]
        rfl
      · rw [← e1, Nat.mod_eq_of_lt (by omega)]
      · omega
      · omega
theorem num_inv {s s' : List Int} {f : Int} {v : Nat} (hs : Byt s) (e : numR s f = (v, s', 0)) : f = 0 ∧ s = numB v ++ s' := by
  by_cases hf : f = 0
  · subst hf
    unfold numR at e
    rw [if_neg (by simp)] at e
    obtain ⟨n, h1, h2, _⟩ := numG_inv 10 0 0 s s' v (by decide) hs e
    rw [Nat.pow_zero, Nat.mul_one, Nat.zero_add] at h2
    subst h2
    exact ⟨rfl, h1⟩
  · exact absurd (numR_stays e hf).symm hf
end Go.Proofs.Ythophidcgkjdeaa
