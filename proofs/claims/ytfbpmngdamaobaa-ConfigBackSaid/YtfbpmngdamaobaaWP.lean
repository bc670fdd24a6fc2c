/- Plain facts on numbers of 64 and 128 bits, as the walks of package wide come to them. No condition but that numbers lie in their ranges. -/
import Derived.WalkKit
namespace Go.Proofs.Ytfbpmngdamaobaa
open Go.RowKit

def U64 (n : Int) : Prop := 0 ≤ n ∧ n < 18446744073709551616
theorem U64.nn {n : Int} (h : U64 n) : 0 ≤ n := h.1
theorem U64.lt {n : Int} (h : U64 n) : n.toNat < 18446744073709551616 := by have := h.1; have := h.2; omega
theorem U64.cast {n : Int} (h : U64 n) : ((n.toNat : Nat) : Int) = n := Int.toNat_of_nonneg h.1
theorem U64.of_nat {n : Nat} (h : n < 18446744073709551616) : U64 (n : Int) := ⟨by omega, by omega⟩
theorem U64.mod (n : Nat) : U64 ((n % 18446744073709551616 : Nat) : Int) := U64.of_nat (Nat.mod_lt _ (by decide))
theorem U64.div {n : Nat} (h : n < 340282366920938463463374607431768211456) : U64 ((n / 18446744073709551616 : Nat) : Int) := U64.of_nat (by omega)

/-- The number of two halves. -/
def X (a b : Int) : Nat := a.toNat * 18446744073709551616 + b.toNat
/-- A number as package wide has it. -/
def wide (n : Nat) : Value := .agg #[.int .u64 ((n / 18446744073709551616 : Nat) : Int), .int .u64 ((n % 18446744073709551616 : Nat) : Int)]

theorem X_lt {a b : Int} (ha : U64 a) (hb : U64 b) : X a b < 340282366920938463463374607431768211456 := by
  have := ha.lt; have := hb.lt; unfold X; omega
theorem X_div {a b : Int} (hb : U64 b) : X a b / 18446744073709551616 = a.toNat := by have := hb.lt; unfold X; omega
theorem X_mod {a b : Int} (hb : U64 b) : X a b % 18446744073709551616 = b.toNat := by have := hb.lt; unfold X; omega
theorem X_wide (n : Nat) : X ((n / 18446744073709551616 : Nat) : Int) ((n % 18446744073709551616 : Nat) : Int) = n := by unfold X; omega
theorem wide_X {a b : Int} (ha : U64 a) (hb : U64 b) : wide (X a b) = .agg #[.int .u64 a, .int .u64 b] := by
  unfold wide; rw [X_div hb, X_mod hb, ha.cast, hb.cast]
theorem wide_eq {n : Nat} {a b : Int} (h1 : ((n / 18446744073709551616 : Nat) : Int) = a) (h2 : ((n % 18446744073709551616 : Nat) : Int) = b) : Value.agg #[.int .u64 a, .int .u64 b] = wide n := by
  subst h1 h2; rfl

theorem wrap_nat (n : Nat) : IntKind.u64.wrap (n : Int) = ((n % 18446744073709551616 : Nat) : Int) := by rw [IntKind.wrap_u64]; omega

/-! ### Mul -/
theorem mask32 (a : Nat) (h : a < 18446744073709551616) : bits BinOp.and IntKind.u64 (a : Int) 4294967295 = ((a % 4294967296 : Nat) : Int) := by
  have := u64_and_nat a 4294967295 h (by decide)
  rw [show ((4294967295 : Nat) : Int) = 4294967295 from rfl] at this
  rw [this, show (4294967295 : Nat) = 2 ^ 32 - 1 from rfl, Nat.and_two_pow_sub_one_eq_mod]
theorem mask1 (a : Nat) (h : a < 18446744073709551616) : bits BinOp.and IntKind.u64 (a : Int) 1 = ((a % 2 : Nat) : Int) := by
  have := u64_and_nat a 1 h (by decide)
  rw [show ((1 : Nat) : Int) = 1 from rfl] at this
  rw [this, nat_mask1]
theorem or_join (k x y : Nat) (hk : k ≤ 64) (hx : x < 18446744073709551616) (h0 : x % 2 ^ k = 0) (hy : y < 2 ^ k) : bits BinOp.or IntKind.u64 (x : Int) (y : Int) = ((x + y : Nat) : Int) := by
  have hy' : y < 18446744073709551616 := Nat.lt_of_lt_of_le hy (Nat.pow_le_pow_right (n := 2) (by decide) hk)
  rw [u64_or_nat x y hx hy', nat_join k x y h0 hy]

theorem mul_parts (a1 a0 b1 b0 : Nat) (h1 : a1 < 4294967296) (h2 : a0 < 4294967296) (h3 : b1 < 4294967296) (h4 : b0 < 4294967296) :
    let least := a0 * b0
    let mid := a1 * b0 + least / 4294967296
    let other := a0 * b1 + mid % 4294967296
    least < 18446744073709551616 ∧ a1 * b0 < 18446744073709551616 ∧ mid < 18446744073709551616 ∧ a0 * b1 < 18446744073709551616 ∧ other < 18446744073709551616 ∧ a1 * b1 < 18446744073709551616 ∧
    a1 * b1 + mid / 4294967296 < 18446744073709551616 ∧ a1 * b1 + mid / 4294967296 + other / 4294967296 < 18446744073709551616 ∧
    (a1 * 4294967296 + a0) * (b1 * 4294967296 + b0) = (a1 * b1 + mid / 4294967296 + other / 4294967296) * 18446744073709551616 + (other * 4294967296 % 18446744073709551616 + least % 4294967296) := by
  have e : (a1 * 4294967296 + a0) * (b1 * 4294967296 + b0) = a1 * b1 * 18446744073709551616 + (a1 * b0 + a0 * b1) * 4294967296 + a0 * b0 := by grind
  have q1 : a0 * b0 ≤ 4294967295 * 4294967295 := Nat.mul_le_mul (by omega) (by omega)
  have q2 : a1 * b0 ≤ 4294967295 * 4294967295 := Nat.mul_le_mul (by omega) (by omega)
  have q3 : a0 * b1 ≤ 4294967295 * 4294967295 := Nat.mul_le_mul (by omega) (by omega)
  have q4 : a1 * b1 ≤ 4294967295 * 4294967295 := Nat.mul_le_mul (by omega) (by omega)
  rw [e]
  generalize a0 * b0 = p00 at *
  generalize a1 * b0 = p10 at *
  generalize a0 * b1 = p01 at *
  generalize a1 * b1 = p11 at *
  intro least mid other
  simp only [least, mid, other]
  clear least mid other
  have hhi : p11 + (p10 + p00 / 4294967296) / 4294967296 + (p01 + (p10 + p00 / 4294967296) % 4294967296) / 4294967296 < 18446744073709551616 := by omega
  refine ⟨by omega, by omega, by omega, by omega, by omega, by omega, by omega, hhi, by omega⟩

theorem mul_val (a b : Int) (ha : U64 a) (hb : U64 b) :
    let a1 := a / 4294967296
    let a0 := bits BinOp.and IntKind.u64 a 4294967295
    let b1 := b / 4294967296
    let b0 := bits BinOp.and IntKind.u64 b 4294967295
    let least := IntKind.u64.wrap (a0 * b0)
    let mid := IntKind.u64.wrap (IntKind.u64.wrap (a1 * b0) + least / 4294967296)
    let other := IntKind.u64.wrap (IntKind.u64.wrap (a0 * b1) + bits BinOp.and IntKind.u64 mid 4294967295)
    Value.agg #[.int .u64 (IntKind.u64.wrap (IntKind.u64.wrap (IntKind.u64.wrap (a1 * b1) + mid / 4294967296) + other / 4294967296)),
      .int .u64 (bits BinOp.or IntKind.u64 (IntKind.u64.wrap (other * 4294967296)) (bits BinOp.and IntKind.u64 least 4294967295))] = wide (a.toNat * b.toNat) := by
  obtain ⟨A, rfl⟩ := Int.eq_ofNat_of_zero_le ha.1
  obtain ⟨B, rfl⟩ := Int.eq_ofNat_of_zero_le hb.1
  have hA : A < 18446744073709551616 := by have := ha.2; omega
  have hB : B < 18446744073709551616 := by have := hb.2; omega
  have H := mul_parts (A / 4294967296) (A % 4294967296) (B / 4294967296) (B % 4294967296) (by omega) (by omega) (by omega) (by omega)
  rw [show A / 4294967296 * 4294967296 + A % 4294967296 = A by omega, show B / 4294967296 * 4294967296 + B % 4294967296 = B by omega] at H
  have d1 : ∀ n : Nat, (n : Int) / 4294967296 = ((n / 4294967296 : Nat) : Int) := fun n => by omega
  have m1 : ∀ n k : Nat, (n : Int) * (k : Int) = ((n * k : Nat) : Int) := fun n k => by simp
  have m2 : ∀ n : Nat, (n : Int) * 4294967296 = ((n * 4294967296 : Nat) : Int) := fun n => by omega
  have p1 : ∀ n k : Nat, (n : Int) + (k : Int) = ((n + k : Nat) : Int) := fun n k => by simp
  intro a1 a0 b1 b0 least mid other
  obtain ⟨h1, h2, h3, h4, h5, h6, h7, h8, h9⟩ := H
  have ea0 : a0 = ((A % 4294967296 : Nat) : Int) := mask32 A hA
  have eb0 : b0 = ((B % 4294967296 : Nat) : Int) := mask32 B hB
  have ea1 : a1 = ((A / 4294967296 : Nat) : Int) := d1 A
  have eb1 : b1 = ((B / 4294967296 : Nat) : Int) := d1 B
  clear_value a1 a0 b1 b0
  subst ea0 eb0 ea1 eb1
  have el : least = (((A % 4294967296) * (B % 4294967296) : Nat) : Int) := by simp only [least]; rw [m1, wrap_nat, Nat.mod_eq_of_lt h1]
  clear_value least
  subst el
  have em : mid = (((A / 4294967296) * (B % 4294967296) + (A % 4294967296) * (B % 4294967296) / 4294967296 : Nat) : Int) := by simp only [mid]; rw [m1, wrap_nat, Nat.mod_eq_of_lt h2, d1, p1, wrap_nat, Nat.mod_eq_of_lt h3]
  clear_value mid
  subst em
  have eo : other = (((A % 4294967296) * (B / 4294967296) + ((A / 4294967296) * (B % 4294967296) + (A % 4294967296) * (B % 4294967296) / 4294967296) % 4294967296 : Nat) : Int) := by simp only [other]; rw [m1, wrap_nat, Nat.mod_eq_of_lt h4, mask32 _ h3, p1, wrap_nat, Nat.mod_eq_of_lt h5]
  clear_value other
  subst eo
  generalize hO : (A % 4294967296) * (B / 4294967296) + ((A / 4294967296) * (B % 4294967296) + (A % 4294967296) * (B % 4294967296) / 4294967296) % 4294967296 = O at *
  generalize hM : (A / 4294967296) * (B % 4294967296) + (A % 4294967296) * (B % 4294967296) / 4294967296 = M at *
  generalize hL : (A % 4294967296) * (B % 4294967296) = L at *
  generalize hH : (A / 4294967296) * (B / 4294967296) = K at *
  refine wide_eq ?_ ?_
  · rw [d1, d1, m1, hH, wrap_nat, Nat.mod_eq_of_lt h6, p1, wrap_nat, Nat.mod_eq_of_lt h7, p1, wrap_nat, Nat.mod_eq_of_lt h8]
    simp only [Int.toNat_natCast]
    omega
  · rw [mask32 _ h1, m2, wrap_nat, or_join 32 _ _ (by decide) (Nat.mod_lt _ (by decide)) (by omega) (by omega)]
    simp only [Int.toNat_natCast]
    omega

theorem tup_wide {e1 e2 : Int} {b : Bool} {N : Nat} {p : Prop} [Decidable p] (h1 : e1 = ((N / 18446744073709551616 : Nat) : Int)) (h2 : e2 = ((N % 18446744073709551616 : Nat) : Int)) (h3 : b = true ↔ p) :
    Value.tuple #[.agg #[.int .u64 e1, .int .u64 e2], .bool b] = .tuple #[wide N, .bool (decide p)] := by
  have : b = decide p := by rw [Bool.eq_iff_iff]; simpa using h3
  subst h1 h2 this; rfl

/-! ### Left, Right -/
def shl (x : Nat) (n : Int) : Nat := if n ≤ 0 then x else x * 2 ^ n.toNat % 340282366920938463463374607431768211456
def shr (x : Nat) (n : Int) : Nat := if n ≤ 0 then x else x / 2 ^ n.toNat

theorem left_core (A B n : Nat) (hA : A < 18446744073709551616) (hB : B < 18446744073709551616) (hn : n < 64) :
    let p := 2 ^ n
    let q := 2 ^ (64 - n)
    B / q < 2 ^ n ∧ A * p % 18446744073709551616 % 2 ^ n = 0 ∧
    (A * 18446744073709551616 + B) * p % 340282366920938463463374607431768211456 = (A * p % 18446744073709551616 + B / q) * 18446744073709551616 + B * p % 18446744073709551616 ∧
    A * p % 18446744073709551616 + B / q < 18446744073709551616 := by
  intro p q
  have hpq : p * q = 18446744073709551616 := by
    show 2 ^ n * 2 ^ (64 - n) = _
    rw [← Nat.pow_add, show n + (64 - n) = 64 by omega]

  have hp0 : 0 < p := Nat.two_pow_pos n
  have hq0 : 0 < q := Nat.two_pow_pos _
  have h1 : B / q < p := by rw [Nat.div_lt_iff_lt_mul hq0, hpq]; exact hB
  have e1 : A * p % 18446744073709551616 = A % q * p := by rw [← hpq, Nat.mul_comm A p, Nat.mul_mod_mul_left, Nat.mul_comm]
  have e2 : B * p % 18446744073709551616 = B % q * p := by rw [← hpq, Nat.mul_comm B p, Nat.mul_mod_mul_left, Nat.mul_comm]
  have h2 : A % q * p % p = 0 := Nat.mul_mod_left _ _
  have hAq : A % q < q := Nat.mod_lt _ hq0
  have hBq : B % q < q := Nat.mod_lt _ hq0
  have h3 : A % q * p + p ≤ q * p := by rw [← Nat.succ_mul]; exact Nat.mul_le_mul_right _ hAq
  have h4 : B % q * p < q * p := (Nat.mul_lt_mul_right hp0).2 hBq
  rw [Nat.mul_comm q p, hpq] at h3 h4
  have eA : A * p = A / q * 18446744073709551616 + A % q * p := by
    have := Nat.div_add_mod A q
    calc A * p = (q * (A / q) + A % q) * p := by rw [this]
      _ = A / q * (p * q) + A % q * p := by grind
      _ = _ := by rw [hpq]
  have eB : B * p = B / q * 18446744073709551616 + B % q * p := by
    have := Nat.div_add_mod B q
    calc B * p = (q * (B / q) + B % q) * p := by rw [this]
      _ = B / q * (p * q) + B % q * p := by grind
      _ = _ := by rw [hpq]
  have eT : (A * 18446744073709551616 + B) * p = A * p * 18446744073709551616 + B * p := by grind
  rw [e1, e2, eT, eA, eB]
  generalize A / q = u at *
  generalize A % q * p = v at *
  generalize B / q = y at *
  generalize B % q * p = z at *
  refine ⟨h1, h2, by omega, by omega⟩

theorem left_val (a b n : Int) (ha : U64 a) (hb : U64 b) (h0 : 0 < n) (h1 : n < 64) :
    Value.agg #[.int .u64 (bits BinOp.or IntKind.u64 (IntKind.u64.wrap (a * 2 ^ n.toNat)) (b / 2 ^ (64 - n).toNat)), .int .u64 (IntKind.u64.wrap (b * 2 ^ n.toNat))] = wide (shl (X a b) n) := by
  obtain ⟨A, rfl⟩ := Int.eq_ofNat_of_zero_le ha.1
  obtain ⟨B, rfl⟩ := Int.eq_ofNat_of_zero_le hb.1
  obtain ⟨k, rfl⟩ := Int.eq_ofNat_of_zero_le (show 0 ≤ n by omega)
  have hA : A < 18446744073709551616 := by have := ha.2; omega
  have hB : B < 18446744073709551616 := by have := hb.2; omega
  have H := left_core A B k hA hB (by omega)
  obtain ⟨c1, c2, c3, c4⟩ := H
  have m : ∀ x : Nat, (x : Int) * 2 ^ (k : Int).toNat = ((x * 2 ^ k : Nat) : Int) := fun x => by simp
  have d : ((B : Nat) : Int) / 2 ^ (64 - (k : Int)).toNat = ((B / 2 ^ (64 - k) : Nat) : Int) := by
    rw [show (64 - (k : Int)).toNat = 64 - k by omega]; simp
  rw [m, m, d, wrap_nat, wrap_nat, or_join k _ _ (by omega) (Nat.mod_lt _ (by decide)) c2 c1]
  unfold shl X
  rw [if_neg (by omega)]
  simp only [Int.toNat_natCast]
  rw [c3]
  refine wide_eq ?_ ?_
  · omega
  · omega

theorem left_val2 (a b n : Int) (ha : U64 a) (hb : U64 b) (h0 : 64 ≤ n) (h1 : n < 128) :
    Value.agg #[.int .u64 (IntKind.u64.wrap (b * 2 ^ (n - 64).toNat)), .int .u64 0] = wide (shl (X a b) n) := by
  obtain ⟨A, rfl⟩ := Int.eq_ofNat_of_zero_le ha.1
  obtain ⟨B, rfl⟩ := Int.eq_ofNat_of_zero_le hb.1
  obtain ⟨k, rfl⟩ := Int.eq_ofNat_of_zero_le (show 0 ≤ n by omega)
  have m : (B : Int) * 2 ^ ((k : Int) - 64).toNat = ((B * 2 ^ (k - 64) : Nat) : Int) := by
    rw [show ((k : Int) - 64).toNat = k - 64 by omega]; simp
  rw [m, wrap_nat]
  unfold shl X
  rw [if_neg (by omega)]
  simp only [Int.toNat_natCast]
  have e : (A * 18446744073709551616 + B) * 2 ^ k = (A * 2 ^ (k - 64)) * 340282366920938463463374607431768211456 + B * 2 ^ (k - 64) * 18446744073709551616 := by
    have : (2 : Nat) ^ k = 2 ^ (k - 64) * 18446744073709551616 := by
      rw [show k = (k - 64) + 64 by omega, Nat.pow_add]; simp
    rw [this]; grind
  rw [e]
  generalize A * 2 ^ (k - 64) = u
  generalize B * 2 ^ (k - 64) = v
  exact wide_eq (by omega) (by omega)

theorem left_big (a b n : Int) (h : 128 ≤ n) : wide 0 = wide (shl (X a b) n) := by
  unfold shl
  rw [if_neg (by omega)]
  have : (2 : Nat) ^ n.toNat = 2 ^ (n.toNat - 128) * 340282366920938463463374607431768211456 := by
    rw [show n.toNat = (n.toNat - 128) + 128 by omega, Nat.pow_add]; simp
  rw [this, ← Nat.mul_assoc, Nat.mul_mod_left]
theorem left_le (a b n : Int) (h : n ≤ 0) : wide (X a b) = wide (shl (X a b) n) := by unfold shl; rw [if_pos h]
theorem right_le (a b n : Int) (h : n ≤ 0) : wide (X a b) = wide (shr (X a b) n) := by unfold shr; rw [if_pos h]
theorem right_big (a b n : Int) (ha : U64 a) (hb : U64 b) (h : 128 ≤ n) : wide 0 = wide (shr (X a b) n) := by
  unfold shr
  rw [if_neg (by omega), Nat.div_eq_of_lt]
  exact Nat.lt_of_lt_of_le (X_lt ha hb) (Nat.le_trans (by decide : _ ≤ 2 ^ 128) (Nat.pow_le_pow_right (by decide) (by omega)))

theorem right_val (a b n : Int) (ha : U64 a) (hb : U64 b) (h0 : 0 < n) (h1 : n < 64) :
    Value.agg #[.int .u64 (a / 2 ^ n.toNat), .int .u64 (bits BinOp.or IntKind.u64 (b / 2 ^ n.toNat) (IntKind.u64.wrap (a * 2 ^ (64 - n).toNat)))] = wide (shr (X a b) n) := by
  obtain ⟨A, rfl⟩ := Int.eq_ofNat_of_zero_le ha.1
  obtain ⟨B, rfl⟩ := Int.eq_ofNat_of_zero_le hb.1
  obtain ⟨k, rfl⟩ := Int.eq_ofNat_of_zero_le (show 0 ≤ n by omega)
  have hA : A < 18446744073709551616 := by have := ha.2; omega
  have hB : B < 18446744073709551616 := by have := hb.2; omega
  have d : ∀ x : Nat, ((x : Nat) : Int) / 2 ^ (k : Int).toNat = ((x / 2 ^ k : Nat) : Int) := fun x => by simp
  have m : (A : Int) * 2 ^ (64 - (k : Int)).toNat = ((A * 2 ^ (64 - k) : Nat) : Int) := by
    rw [show (64 - (k : Int)).toNat = 64 - k by omega]; simp
  have hpq : 2 ^ k * 2 ^ (64 - k) = 18446744073709551616 := by rw [← Nat.pow_add, show k + (64 - k) = 64 by omega]
  have hp0 : 0 < 2 ^ k := Nat.two_pow_pos k
  have hq0 : 0 < 2 ^ (64 - k) := Nat.two_pow_pos _
  have hy : B / 2 ^ k < 2 ^ (64 - k) := by rw [Nat.div_lt_iff_lt_mul hp0, Nat.mul_comm, hpq]; exact hB
  have hy' : B / 2 ^ k < 18446744073709551616 := Nat.lt_of_le_of_lt (Nat.div_le_self _ _) hB
  have e1 : A * 2 ^ (64 - k) % 18446744073709551616 = A % 2 ^ k * 2 ^ (64 - k) := by rw [← hpq, Nat.mul_mod_mul_right]
  have hx0 : A * 2 ^ (64 - k) % 18446744073709551616 % 2 ^ (64 - k) = 0 := by rw [e1]; exact Nat.mul_mod_left _ _
  have hor : bits BinOp.or IntKind.u64 ((B / 2 ^ k : Nat) : Int) ((A * 2 ^ (64 - k) % 18446744073709551616 : Nat) : Int) = ((A % 2 ^ k * 2 ^ (64 - k) + B / 2 ^ k : Nat) : Int) := by
    rw [u64_or_nat _ _ hy' (Nat.mod_lt _ (by decide)), Nat.or_comm, nat_join (64 - k) _ _ hx0 hy, e1]
  rw [d, d, m, wrap_nat, hor]
  unfold shr X
  rw [if_neg (by omega)]
  simp only [Int.toNat_natCast]
  have eA := Nat.div_add_mod A (2 ^ k)
  have hlt : A % 2 ^ k < 2 ^ k := Nat.mod_lt _ hp0
  have e : (A * 18446744073709551616 + B) / 2 ^ k = A / 2 ^ k * 18446744073709551616 + (A % 2 ^ k * 2 ^ (64 - k) + B / 2 ^ k) := by
    have : A * 18446744073709551616 + B = B + 2 ^ k * (A / 2 ^ k * 18446744073709551616 + A % 2 ^ k * 2 ^ (64 - k)) := by
      have h2 : A * 18446744073709551616 = (2 ^ k * (A / 2 ^ k) + A % 2 ^ k) * 18446744073709551616 := by rw [eA]
      rw [h2]
      have h3 : A % 2 ^ k * 18446744073709551616 = 2 ^ k * (A % 2 ^ k * 2 ^ (64 - k)) := by rw [← hpq]; grind
      grind
    rw [this, Nat.add_mul_div_left _ _ hp0]
    omega
  have hb2 : A % 2 ^ k * 2 ^ (64 - k) + B / 2 ^ k < 18446744073709551616 := by
    have : A % 2 ^ k * 2 ^ (64 - k) + 2 ^ (64 - k) ≤ 2 ^ k * 2 ^ (64 - k) := by rw [← Nat.succ_mul]; exact Nat.mul_le_mul_right _ hlt
    omega
  rw [e]
  clear e eA hor e1 hx0 hy hy' d m
  generalize A % 2 ^ k * 2 ^ (64 - k) + B / 2 ^ k = y at *
  have hu : A / 2 ^ k ≤ A := Nat.div_le_self _ _
  generalize A / 2 ^ k = u at *
  clear hlt
  exact wide_eq (by omega) (by omega)

theorem right_val2 (a b n : Int) (ha : U64 a) (hb : U64 b) (h0 : 64 ≤ n) (h1 : n < 128) :
    Value.agg #[.int .u64 0, .int .u64 (a / 2 ^ (n - 64).toNat)] = wide (shr (X a b) n) := by
  obtain ⟨A, rfl⟩ := Int.eq_ofNat_of_zero_le ha.1
  obtain ⟨B, rfl⟩ := Int.eq_ofNat_of_zero_le hb.1
  obtain ⟨k, rfl⟩ := Int.eq_ofNat_of_zero_le (show 0 ≤ n by omega)
  have hA : A < 18446744073709551616 := by have := ha.2; omega
  have hB : B < 18446744073709551616 := by have := hb.2; omega
  have d : (A : Int) / 2 ^ ((k : Int) - 64).toNat = ((A / 2 ^ (k - 64) : Nat) : Int) := by
    rw [show ((k : Int) - 64).toNat = k - 64 by omega]; simp
  rw [d]
  unfold shr X
  rw [if_neg (by omega)]
  simp only [Int.toNat_natCast]
  have e : (A * 18446744073709551616 + B) / 2 ^ k = A / 2 ^ (k - 64) := by
    have : (2 : Nat) ^ k = 18446744073709551616 * 2 ^ (k - 64) := by
      rw [show k = 64 + (k - 64) by omega, Nat.pow_add]; simp
    rw [this, ← Nat.div_div_eq_div_mul, show (A * 18446744073709551616 + B) / 18446744073709551616 = A by omega]
  have : A / 2 ^ (k - 64) ≤ A := Nat.div_le_self _ _
  rw [e]
  clear e d
  generalize A / 2 ^ (k - 64) = y at *
  exact wide_eq (by omega) (by omega)

/-! ### Cmp, Len -/
def cmpN (x y : Nat) : Int := if x < y then -1 else if y < x then 1 else 0
/-- How many bits a number has. -/
def lenN (x : Nat) : Nat := if x = 0 then 0 else Nat.log2 x + 1
theorem lenN_half (x : Nat) (h : x ≠ 0) : lenN x = lenN (x / 2) + 1 := by
  unfold lenN
  rw [if_neg h]
  by_cases h2 : x / 2 = 0
  · rw [if_pos h2]
    have : x = 1 := by omega
    subst this; rfl
  · rw [if_neg h2, Nat.log2_def x, if_pos (by omega)]
theorem lenN_le (x k : Nat) (h : x < 2 ^ k) : lenN x ≤ k := by
  unfold lenN
  split
  · omega
  · rename_i h0
    have := (Nat.log2_lt h0 (k := k)).2 h
    omega
theorem lenN_hi (a b : Nat) (ha : a ≠ 0) (hb : b < 18446744073709551616) : lenN (a * 18446744073709551616 + b) = 64 + lenN a := by
  have key : ∀ m n : Nat, n ≠ 0 → lenN (n / 2 ^ m) ≠ 0 → lenN n = m + lenN (n / 2 ^ m) := by
    intro m
    induction m with
    | zero => intro n _ _; simp
    | succ m ih =>
      intro n hn h
      rw [lenN_half n hn]
      have e : n / 2 ^ (m + 1) = n / 2 / 2 ^ m := by rw [Nat.pow_succ, Nat.mul_comm, Nat.div_div_eq_div_mul]
      rw [e] at h ⊢
      by_cases h2 : n / 2 = 0
      · rw [h2] at h; simp [lenN] at h
      · rw [ih _ h2 h]; omega
  have h := key 64 (a * 18446744073709551616 + b) (by omega)
  rw [show (a * 18446744073709551616 + b) / 2 ^ 64 = a by rw [show (2 : Nat) ^ 64 = 18446744073709551616 from rfl]; omega] at h
  exact h (by unfold lenN; rw [if_neg ha]; omega)
end Go.Proofs.Ytfbpmngdamaobaa
