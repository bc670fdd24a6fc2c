/- What a writer puts, 2 (octets): Uint, Raw, Int, Bytes. Condition: at most 10^9 bytes. -/
import Derived.Test.YtgjaiikfgejgoaaO2
namespace Go.Proofs.Ytgjaiikfgejgoaa
open Go.RowKit
attribute [local go_sem] Later.cell QUpon_value QUpon_enter MUpon_value run_eql_slice_nil
/-- The last k bytes of a number, the greatest ahead. -/
def uintB (n : Nat) : Nat → List Int
  | 0 => []
  | k + 1 => ((n / 256 ^ k % 256 : Nat) : Int) :: uintB n k
theorem uintB_byt (n k : Nat) : Byt (uintB n k) := by
  induction k with
  | zero => intro x hx; cases hx
  | succ k ih =>
    intro x hx
    rcases List.mem_cons.1 hx with h | h
    · omega
    · exact ih x h
theorem uintB_len (n k : Nat) : (uintB n k).length = k := by
  induction k with
  | zero => rfl
  | succ k ih => simp [uintB, ih]
theorem byte_of (n k : Nat) : IntKind.u8.wrap ((n : Int) / 2 ^ (8 * (k : Int)).toNat) = ((n / 256 ^ k % 256 : Nat) : Int) := by
  have e1 : (8 * (k : Int)).toNat = 8 * k := by omega
  have e2 : (2 : Int) ^ (8 * k) = ((256 ^ k : Nat) : Int) := by
    rw [show (256 : Nat) = 2 ^ 8 from rfl, ← Nat.pow_mul]
    simp
  rw [e1, e2, ← Int.natCast_ediv, u8_wrap]
/-- A signed number as one without a sign. -/
def turnN (s : Int) : Nat := if 0 ≤ s then (2 * s).toNat else (-2 * s - 1).toNat
theorem turnN_lt {s : Int} (h : I64 s) : turnN s < 18446744073709551616 := by
  obtain ⟨h1, h2⟩ := h
  unfold turnN
  split <;> omega
def intB (s : Int) : List Int := uintB (turnN s) 8
theorem xor_u64 (a b : Int) : bits .xor .u64 a b = IntKind.u64.wrap ((BitVec.ofInt 64 a ^^^ BitVec.ofInt 64 b).toNat : Int) := rfl
theorem turn_eq {s : Int} (h : I64 s) : bits .xor .u64 (IntKind.u64.wrap (wrap64 (s * 2))) (IntKind.u64.wrap (s / 9223372036854775808)) = (turnN s : Nat) := by
  have hs := h
  obtain ⟨h1, h2⟩ := h
  unfold turnN
  by_cases h0 : 0 ≤ s
  · have e1 : IntKind.u64.wrap (wrap64 (s * 2)) = 2 * s := by rw [IntKind.wrap_u64]; unfold wrap64; omega
    have e2 : IntKind.u64.wrap (s / 9223372036854775808) = 0 := by rw [IntKind.wrap_u64]; omega
    rw [e1, e2, if_pos h0, xor_u64, show BitVec.ofInt 64 0 = 0#64 from rfl, BitVec.xor_zero, IntKind.wrap_u64, BitVec.toNat_ofInt]
    simp only [Nat.reducePow]
    omega
  · have e1 : IntKind.u64.wrap (wrap64 (s * 2)) = 2 * s + 18446744073709551616 := by rw [IntKind.wrap_u64]; unfold wrap64; omega
    have e2 : IntKind.u64.wrap (s / 9223372036854775808) = 18446744073709551615 := by rw [IntKind.wrap_u64]; omega
    rw [e1, e2, if_neg h0, xor_u64, show BitVec.ofInt 64 18446744073709551615 = BitVec.allOnes 64 from rfl, BitVec.xor_allOnes, IntKind.wrap_u64, BitVec.toNat_not, BitVec.toNat_ofInt]
    simp only [Nat.reducePow]
    omega
end Go.Proofs.Ytgjaiikfgejgoaa
