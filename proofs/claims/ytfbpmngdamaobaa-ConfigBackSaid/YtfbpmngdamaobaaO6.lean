/- What a reader reads, 2 (octets): Uint, Int, Raw. Condition: at most 10^9 bytes. -/
import Derived.Test.YtfbpmngdamaobaaOB
namespace Go.Proofs.Ytfbpmngdamaobaa
open Go.RowKit
attribute [local go_sem] Later.cell QUpon_value QUpon_enter MUpon_value run_eql_slice_nil
def valF (n : Nat) (l : List Int) : Nat := l.foldl (fun n b => n * 256 + b.toNat) n
def valN (l : List Int) : Nat := valF 0 l
theorem valF_app (n : Nat) (l : List Int) (x : Int) : valF n (l ++ [x]) = valF n l * 256 + x.toNat := by
  simp [valF]
theorem valN_lt {l : List Int} (h : Byt l) : valN l < 256 ^ l.length := by
  unfold valN
  have : ∀ (l : List Int), Byt l → ∀ (n k : Nat), n < 256 ^ k → valF n l < 256 ^ (k + l.length) := by
    intro l
    induction l with
    | nil => intro _ n k h; exact h
    | cons x l ih =>
      intro hb n k hn
      have hx := hb x (by simp)
      have h1 : n * 256 + x.toNat < 256 ^ (k + 1) := by rw [Nat.pow_succ]; omega
      have h2 := ih (fun y hy => hb y (by simp [hy])) _ _ h1
      rw [show k + (x :: l).length = k + 1 + l.length by simp; omega]
      exact h2
  have h1 := this l h 0 0 (by decide)
  rwa [Nat.zero_add] at h1
theorem or_byte (m : Nat) (x : Int) (hm : m < 72057594037927936) (hx : 0 ≤ x ∧ x < 256) : bits BinOp.or IntKind.u64 ((m : Int) * 256) x = (m : Int) * 256 + x := by
  have h := or_join 8 (m * 256) x.toNat (by decide) (by omega) (by omega) (by omega)
  rw [show ((x.toNat : Nat) : Int) = x by omega, show ((m * 256 : Nat) : Int) = (m : Int) * 256 by omega] at h
  rw [h]
  omega
def uintR (bs : List Int) (f : Int) (size : Nat) : Nat × List Int × Int := if f ≠ 0 then (0, bs, f) else if bs.length < size then (0, bs, 3) else (valN (bs.take size), bs.drop size, 0)
/-- A number without a sign as a signed one. -/
def backN (n : Nat) : Int := if n % 2 = 0 then ((n / 2 : Nat) : Int) else -((n / 2 : Nat) : Int) - 1
theorem back_turn (s : Int) : backN (turnN s) = s := by
  unfold backN turnN
  split
  · rw [if_pos (by omega)]; omega
  · rw [if_neg (by omega)]; omega
theorem backN_I64 {n : Nat} (h : n < 18446744073709551616) : I64 (backN n) := by
  unfold backN
  split <;> exact ⟨by omega, by omega⟩
theorem turn_back (n : Nat) : turnN (backN n) = n := by
  unfold backN turnN
  split
  · rw [if_pos (by omega)]; omega
  · rw [if_neg (by omega)]; omega
theorem and_one (n : Nat) (h : n < 18446744073709551616) : bits BinOp.and IntKind.u64 (n : Int) 1 = ((n % 2 : Nat) : Int) := by
  have e : bits BinOp.and IntKind.u64 (n : Int) 1 = IntKind.u64.wrap ((BitVec.ofInt 64 (n : Int) &&& BitVec.ofInt 64 1).toNat : Int) := rfl
  rw [e, IntKind.wrap_u64, BitVec.toNat_and, BitVec.toNat_ofInt, BitVec.toNat_ofInt]
  simp only [Nat.reducePow]
  rw [show ((n : Int) % (18446744073709551616 : Nat)).toNat = n by omega, show ((1 : Int) % (18446744073709551616 : Nat)).toNat = 1 by omega, Nat.and_one_is_mod]
  omega
theorem back_eq (n : Nat) (h : n < 18446744073709551616) : bits BinOp.xor IntKind.i64 (IntKind.i64.wrap ((n : Int) / 2)) (wrap64 (-(IntKind.i64.wrap ((n % 2 : Nat) : Int)))) = backN n := by
  unfold backN
  rw [IntWalk.i64_left, IntWalk.i64_left, wrap64_in (n := (n : Int) / 2) ⟨by omega, by omega⟩, wrap64_in (n := ((n % 2 : Nat) : Int)) ⟨by omega, by omega⟩, wrap64_in ⟨by omega, by omega⟩]
  split
  · rename_i h0
    rw [h0, show -((0 : Nat) : Int) = 0 from rfl, xor_zero ⟨by omega, by omega⟩]
    omega
  · rename_i h0
    rw [show n % 2 = 1 by omega, show -((1 : Nat) : Int) = -1 from rfl, xor_ones ⟨by omega, by omega⟩]
    omega
theorem back_eq2 (n : Nat) (h : n < 18446744073709551616) : bits BinOp.xor IntKind.i64 ((n : Int) / 2) (-((n : Int) % 2)) = backN n := by
  unfold backN
  split
  · rename_i h0
    rw [show -((n : Int) % 2) = 0 by omega, xor_zero ⟨by omega, by omega⟩]
    omega
  · rename_i h0
    rw [show -((n : Int) % 2) = -1 by omega, xor_ones ⟨by omega, by omega⟩]
    omega
theorem valN8 {bs : List Int} (h : Byt bs) : valN (bs.take 8) < 18446744073709551616 := by
  refine Nat.lt_of_lt_of_le (valN_lt (fun x hx => h x (List.mem_of_mem_take hx))) ?_
  rw [List.length_take, show (18446744073709551616 : Nat) = 256 ^ 8 from rfl]
  exact Nat.pow_le_pow_right (by decide) (by omega)
theorem uintR_lt {bs : List Int} (h : Byt bs) (f : Int) : (uintR bs f 8).1 < 18446744073709551616 := by
  unfold uintR
  split
  · show 0 < 18446744073709551616; omega
  · split
    · show 0 < 18446744073709551616; omega
    · exact valN8 h
/-- Raw: so many bytes, or what is wrong. -/
def rawR (bs : List Int) (f : Int) (n : Nat) : List Int × List Int × Int := if f ≠ 0 then ([], bs, f) else if bs.length < n then ([], bs, 3) else (bs.take n, bs.drop n, 0)
end Go.Proofs.Ytfbpmngdamaobaa
