/- Plain facts on int64's bits, for package fix. No condition. -/
import Derived.Laws.BitsLemmas
import Derived.Test.YtfbpmngdamaobaaWP
import Derived.WalkKit
namespace Go.Proofs.Ytfbpmngdamaobaa
open Go.RowKit

/-- An int64. -/
def I64 (x : Int) : Prop := -9223372036854775808 ≤ x ∧ x ≤ 9223372036854775807
theorem I64.lo {x : Int} (h : I64 x) : -9223372036854775808 ≤ x := h.1
theorem I64.hi {x : Int} (h : I64 x) : x ≤ 9223372036854775807 := h.2

theorem toInt_ofI64 {a : Int} (h : I64 a) : (BitVec.ofInt 64 a).toInt = a := by
  unfold I64 at h
  rw [BitVec.toInt_ofInt, Int.bmod_def]
  simp only [Nat.reducePow, Int.cast_ofNat_Int]
  split <;> omega
theorem wrap_toNat (x : BitVec 64) : IntKind.i64.wrap (x.toNat : Int) = x.toInt := by
  rw [IntKind.wrap_i64, BitVec.toInt_eq_toNat_cond]
  have := x.isLt
  simp only [Nat.reducePow, Int.cast_ofNat_Int] at *
  split <;> omega
theorem toInt_I64 (x : BitVec 64) : I64 x.toInt := by
  have h1 := BitVec.toInt_lt (x := x)
  have h2 := BitVec.le_toInt (x := x)
  unfold I64
  simp only [Nat.add_one_sub_one, Nat.reducePow, Int.cast_ofNat_Int, Nat.reduceSub, Int.reducePow] at h1 h2
  omega
theorem xor_i64 (a b : Int) : bits .xor .i64 a b = (BitVec.ofInt 64 a ^^^ BitVec.ofInt 64 b).toInt := wrap_toNat _
theorem and_i64 (a b : Int) : bits .and .i64 a b = (BitVec.ofInt 64 a &&& BitVec.ofInt 64 b).toInt := wrap_toNat _
theorem neg_msb {a : Int} (h : I64 a) : (BitVec.ofInt 64 a).msb = decide (a < 0) := by
  rw [BitVec.msb_eq_toInt, toInt_ofI64 h]
theorem xor_neg {a b : Int} (ha : I64 a) (hb : I64 b) : I64 (bits .xor .i64 a b) ∧ (bits .xor .i64 a b < 0 ↔ ¬ ((a < 0) ↔ (b < 0))) := by
  rw [xor_i64]
  refine ⟨toInt_I64 _, ?_⟩
  have h1 : decide ((BitVec.ofInt 64 a ^^^ BitVec.ofInt 64 b).toInt < 0) = (decide (a < 0) ^^ decide (b < 0)) := by
    rw [← BitVec.msb_eq_toInt, BitVec.msb_xor, neg_msb ha, neg_msb hb]
  by_cases h2 : a < 0 <;> by_cases h3 : b < 0 <;> simp [h2, h3] at h1 ⊢ <;> omega
theorem and_neg {a b : Int} (ha : I64 a) (hb : I64 b) : bits .and .i64 a b < 0 ↔ (a < 0 ∧ b < 0) := by
  rw [and_i64]
  have h1 : decide ((BitVec.ofInt 64 a &&& BitVec.ofInt 64 b).toInt < 0) = (decide (a < 0) && decide (b < 0)) := by
    rw [← BitVec.msb_eq_toInt, BitVec.msb_and, neg_msb ha, neg_msb hb]
  by_cases h2 : a < 0 <;> by_cases h3 : b < 0 <;> simp [h2, h3] at h1 ⊢ <;> omega
theorem xor_zero {a : Int} (ha : I64 a) : bits .xor .i64 a 0 = a := by
  rw [xor_i64]
  have : BitVec.ofInt 64 0 = 0#64 := rfl
  rw [this, BitVec.xor_zero, toInt_ofI64 ha]
theorem xor_ones {a : Int} (ha : I64 a) : bits .xor .i64 a (-1) = -1 - a := by
  rw [xor_i64]
  have : BitVec.ofInt 64 (-1) = BitVec.allOnes 64 := rfl
  rw [this, BitVec.xor_allOnes]
  have h := toInt_ofI64 ha
  rw [BitVec.toInt_not]
  have h2 : (BitVec.ofInt 64 a).toNat = a % 18446744073709551616 := by
    rw [BitVec.toNat_ofInt]; simp only [Nat.reducePow]; omega
  unfold I64 at ha
  rw [Int.bmod_def]
  simp only [Nat.reducePow, Int.cast_ofNat_Int]
  split <;> omega

theorem wrap64_I64 (n : Int) : I64 (wrap64 n) := by unfold wrap64 I64; omega
theorem wrap64_in {n : Int} (h : I64 n) : wrap64 n = n := by unfold wrap64; unfold I64 at h; omega
theorem add_ov {a b : Int} (ha : I64 a) (hb : I64 b) :
    (bits .and .i64 (bits .xor .i64 a (wrap64 (a + b))) (bits .xor .i64 b (wrap64 (a + b))) < 0) ↔ ¬ I64 (a + b) := by
  have hs := wrap64_I64 (a + b)
  obtain ⟨h1, h2⟩ := xor_neg ha hs
  obtain ⟨h3, h4⟩ := xor_neg hb hs
  rw [and_neg h1 h3, h2, h4]
  unfold wrap64
  unfold I64 at *
  omega
theorem sub_ov {a b : Int} (ha : I64 a) (hb : I64 b) :
    (bits .and .i64 (bits .xor .i64 a b) (bits .xor .i64 a (wrap64 (a - b))) < 0) ↔ ¬ I64 (a - b) := by
  have hs := wrap64_I64 (a - b)
  obtain ⟨h1, h2⟩ := xor_neg ha hb
  obtain ⟨h3, h4⟩ := xor_neg ha hs
  rw [and_neg h1 h3, h2, h4]
  unfold wrap64
  unfold I64 at *
  omega
/-- The sign: -1 below 0, else 0. -/
def sgn (a : Int) : Int := if a < 0 then -1 else 0
theorem shift63 {a : Int} (ha : I64 a) : a / 9223372036854775808 = sgn a := by
  unfold I64 at ha
  unfold sgn
  split <;> omega
theorem size_val {a : Int} (ha : I64 a) : IntKind.u64.wrap (wrap64 (bits .xor .i64 a (sgn a) - sgn a)) = (a.natAbs : Int) := by
  unfold sgn wrap64
  split
  · rw [xor_ones ha, IntKind.wrap_u64]
    unfold I64 at ha
    omega
  · rw [xor_zero ha, IntKind.wrap_u64]
    unfold I64 at ha
    omega
theorem U64.abs {a : Int} (ha : I64 a) : U64 (a.natAbs : Int) := by
  unfold I64 at ha
  exact ⟨by omega, by omega⟩
end Go.Proofs.Ytfbpmngdamaobaa
