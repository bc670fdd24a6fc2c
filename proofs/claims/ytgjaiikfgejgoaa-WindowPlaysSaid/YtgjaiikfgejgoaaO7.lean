/- What a reader reads, 3 (octets): Num. Condition: at most 10^9 bytes. -/
import Derived.Test.YtgjaiikfgejgoaaO6
import Derived.WalkMore
namespace Go.Proofs.Ytgjaiikfgejgoaa
open Go.RowKit
attribute [local go_sem] Later.cell QUpon_value QUpon_enter MUpon_value run_eql_slice_nil
/-- From group i on (k = 10 - i are left), acc has been gathered. -/
def numG : Nat → Nat → Nat → List Int → Nat × List Int × Int
  | 0, _, _, bs => (0, bs, 4)
  | _ + 1, _, _, [] => (0, [], 3)
  | k + 1, i, acc, b :: bs =>
    if i = 9 ∧ 1 < b.toNat % 128 then (0, bs, 4)
    else if 128 ≤ b.toNat then numG k (i + 1) (acc + b.toNat % 128 * 128 ^ i) bs
    else if b.toNat % 128 = 0 ∧ 0 < i then (0, bs, 4)
    else (acc + b.toNat % 128 * 128 ^ i, bs, 0)
def numR (bs : List Int) (f : Int) : Nat × List Int × Int := if f ≠ 0 then (0, bs, f) else numG 10 0 0 bs
theorem andnot128 : ∀ x : Fin 256, bits BinOp.andNot IntKind.u8 ((x.val : Nat) : Int) 128 = ((x.val % 128 : Nat) : Int) := by decide +kernel
theorem andnot_more {x : Int} (h : 0 ≤ x ∧ x < 256) : bits BinOp.andNot IntKind.u8 x 128 = ((x.toNat % 128 : Nat) : Int) := by
  have h1 := andnot128 ⟨x.toNat, by omega⟩
  simp only at h1
  rw [← h1]
  congr 1
  omega
theorem shl7 {c i : Nat} (hc : c < 128) (hi : i ≤ 9) (h9 : i = 9 → c ≤ 1) : IntKind.u64.wrap ((c : Int) * 2 ^ (7 * (i : Int)).toNat) = ((c * 128 ^ i : Nat) : Int) := by
  rw [IntKind.wrap_u64, show (7 * (i : Int)).toNat = 7 * i by omega]
  obtain rfl | rfl | rfl | rfl | rfl | rfl | rfl | rfl | rfl | rfl : i = 0 ∨ i = 1 ∨ i = 2 ∨ i = 3 ∨ i = 4 ∨ i = 5 ∨ i = 6 ∨ i = 7 ∨ i = 8 ∨ i = 9 := by omega
  all_goals simp only [Nat.reduceMul, Int.reducePow, Nat.reducePow]
  all_goals omega
theorem or_grp {acc c i : Nat} (hacc : acc < 128 ^ i) (hc : c < 128) (hi : i ≤ 9) (h9 : i = 9 → c ≤ 1) : bits BinOp.or IntKind.u64 (acc : Int) ((c * 128 ^ i : Nat) : Int) = ((acc + c * 128 ^ i : Nat) : Int) := by
  have hp : 128 ^ i = 2 ^ (7 * i) := by rw [Nat.pow_mul]
  have hb : c * 128 ^ i < 18446744073709551616 := by
    obtain rfl | rfl | rfl | rfl | rfl | rfl | rfl | rfl | rfl | rfl : i = 0 ∨ i = 1 ∨ i = 2 ∨ i = 3 ∨ i = 4 ∨ i = 5 ∨ i = 6 ∨ i = 7 ∨ i = 8 ∨ i = 9 := by omega
    all_goals simp only [Nat.reducePow]
    all_goals omega
  have hj := or_join (7 * i) (c * 128 ^ i) acc (by omega) hb (by rw [hp]; exact Nat.mul_mod_left _ _) (by rw [← hp]; exact hacc)
  have hcomm : bits BinOp.or IntKind.u64 (acc : Int) ((c * 128 ^ i : Nat) : Int) = bits BinOp.or IntKind.u64 ((c * 128 ^ i : Nat) : Int) (acc : Int) := by simp [bits, Nat.or_comm]
  rw [hcomm, hj, Nat.add_comm]
theorem acc_lt {acc c i : Nat} (hacc : acc < 128 ^ i) (hc : c < 128) : acc + c * 128 ^ i < 128 ^ (i + 1) := by
  have : c * 128 ^ i ≤ 127 * 128 ^ i := Nat.mul_le_mul_right _ (by omega)
  rw [Nat.pow_succ]
  omega
end Go.Proofs.Ytgjaiikfgejgoaa
