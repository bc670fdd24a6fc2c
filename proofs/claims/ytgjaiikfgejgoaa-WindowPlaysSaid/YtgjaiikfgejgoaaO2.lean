/- What a writer puts (octets). Condition: at most 10^9 bytes. -/
import Derived.Test.YtgjaiikfgejgoaaO1
namespace Go.Proofs.Ytgjaiikfgejgoaa
open Go.RowKit
attribute [local go_sem] Later.cell QUpon_value QUpon_enter MUpon_value run_eql_slice_nil
/-- The bytes of a Num. -/
def numB (n : Nat) : List Int := if h : n < 128 then [(n : Int)] else ((n % 128 + 128 : Nat) : Int) :: numB (n / 128)
termination_by n
theorem numB_small {n : Nat} (h : n < 128) : numB n = [(n : Int)] := by
  rw [numB]; simp [h]
theorem numB_big {n : Nat} (h : ¬ n < 128) : numB n = ((n % 128 + 128 : Nat) : Int) :: numB (n / 128) := by
  rw [numB]; simp [h]
theorem numB_byt (n : Nat) : Byt (numB n) := by
  induction n using Nat.strongRecOn with
  | ind n ih =>
    by_cases h : n < 128
    · rw [numB_small h]
      intro x hx
      simp at hx
      omega
    · rw [numB_big h]
      intro x hx
      rcases List.mem_cons.1 hx with h1 | h1
      · omega
      · exact ih (n / 128) (by omega) x h1
theorem numB_len (k : Nat) : ∀ n, n < 128 ^ k → 0 < k → (numB n).length ≤ k := by
  induction k with
  | zero => intro n _ h; omega
  | succ k ih =>
    intro n hn _
    by_cases h : n < 128
    · rw [numB_small h]; simp
    · rw [numB_big h]
      rw [Nat.pow_succ] at hn
      have hk : 0 < k := by
        rcases Nat.eq_zero_or_pos k with h1 | h1
        · subst h1; simp at hn; omega
        · exact h1
      have := ih (n / 128) (by omega) hk
      simp; omega
theorem numB_len64 {n : Nat} (h : n < 18446744073709551616) : (numB n).length ≤ 10 := numB_len 10 n (by omega) (by decide)
theorem or128 : ∀ x : Fin 256, bits BinOp.or IntKind.u8 ((x.val : Nat) : Int) 128 = ((x.val % 128 + 128 : Nat) : Int) := by decide +kernel
theorem u8_wrap (m : Nat) : IntKind.u8.wrap (m : Int) = ((m % 256 : Nat) : Int) := by
  simp [IntKind.wrap, IntKind.bits, IntKind.signed]
theorem or_more (m : Nat) : bits BinOp.or IntKind.u8 (IntKind.u8.wrap (m : Int)) 128 = ((m % 128 + 128 : Nat) : Int) := by
  rw [u8_wrap]
  have h := or128 ⟨m % 256, by omega⟩
  simp only at h
  rw [h]
  omega
end Go.Proofs.Ytgjaiikfgejgoaa
