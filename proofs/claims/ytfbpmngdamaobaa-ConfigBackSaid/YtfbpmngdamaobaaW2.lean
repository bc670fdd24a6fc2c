/- The walks of package wide: length, Len. -/
import Derived.Test.YtfbpmngdamaobaaW1
import Derived.Test.YtfbpmngdamaobaaWP2
import Derived.LoopTactic
import Derived.WalkMore
namespace Go.Proofs.Ytfbpmngdamaobaa
open Go.RowKit
attribute [local go_sem] Later.cell QUpon_value QUpon_enter MUpon_value


theorem lenN_lt (x : Nat) (h : x < 18446744073709551616) : lenN x ≤ 64 := lenN_le x 64 (by simpa using h)
theorem half_wrap (m : Nat) : (m : Int) / 2 = ((m / 2 : Nat) : Int) := by omega

/-! ### Div -/
theorem wide_open (n : Nat) : ∃ oh ol : Int, wide n = .agg #[.int .u64 oh, .int .u64 ol] ∧ Hid (oh = ((n / 18446744073709551616 : Nat) : Int) ∧ ol = ((n % 18446744073709551616 : Nat) : Int)) := ⟨_, _, rfl, ⟨rfl, rfl⟩⟩
/-- Where the division stands when j bits are left. -/
def DivNums (N d j : Nat) (lv qh ql : Int) : Prop :=
  j ≤ 128 ∧ lv = ((N / 2 ^ j % d : Nat) : Int) ∧ qh = ((N / 2 ^ j / d * 2 ^ j / 18446744073709551616 : Nat) : Int) ∧ ql = ((N / 2 ^ j / d * 2 ^ j % 18446744073709551616 : Nat) : Int)
theorem div_start (N d : Nat) (hN : N < 340282366920938463463374607431768211456) : DivNums N d (lenN N) 0 0 0 := by
  have h : N / 2 ^ lenN N = 0 := by
    refine Nat.div_eq_of_lt ?_
    unfold lenN
    split
    · omega
    · exact Nat.lt_log2_self
  refine ⟨lenN_le _ 128 (by simpa using hN), ?_, ?_, ?_⟩ <;> rw [h] <;> simp
theorem div_end (N d : Nat) (lv qh ql : Int) (h : DivNums N d 0 lv qh ql) : Value.tuple #[.agg #[.int .u64 qh, .int .u64 ql], .int .u64 lv, .bool true] = .tuple #[wide (N / d), .int .u64 ((N % d : Nat) : Int), .bool true] := by
  obtain ⟨_, rfl, rfl, rfl⟩ := h
  simp [wide]
/-- A bit that is 0. -/
theorem div_no (N d k n : Nat) (lv qh ql oh ol : Int) (hd0 : 0 < d) (hd : d < 18446744073709551616) (h : DivNums N d (k + 1) lv qh ql) (ho : oh = ((n / 18446744073709551616 : Nat) : Int) ∧ ol = ((n % 18446744073709551616 : Nat) : Int)) (hn : n = N / 2 ^ k)
    (ht : (lv / 9223372036854775808 == 1) = false) (hlt : bits BinOp.or IntKind.u64 (IntKind.u64.wrap (lv * 2)) (bits BinOp.and IntKind.u64 ol 1) < (d : Int)) :
    DivNums N d k (bits BinOp.or IntKind.u64 (IntKind.u64.wrap (lv * 2)) (bits BinOp.and IntKind.u64 ol 1)) qh ql := by
  obtain ⟨h1, rfl, rfl, rfl⟩ := h
  obtain ⟨_, rfl⟩ := ho
  have hl : N / 2 ^ (k + 1) % d < d := Nat.mod_lt _ hd0
  obtain ⟨s1, s2⟩ := div_step N d k hd0
  subst hn
  rw [T_val _ _ (by omega)] at hlt ⊢
  have hT : (2 * (N / 2 ^ (k + 1) % d) + N / 2 ^ k % 2) % 18446744073709551616 = 2 * (N / 2 ^ (k + 1) % d) + N / 2 ^ k % 2 := by
    have : ¬ (((N / 2 ^ (k + 1) % d : Nat) : Int) / 9223372036854775808 = 1) := by simpa using ht
    refine Nat.mod_eq_of_lt ?_
    omega
  rw [hT] at hlt ⊢
  rw [if_pos (by omega)] at s1 s2
  have hp : N / 2 ^ (k + 1) / d * 2 ^ (k + 1) = N / 2 ^ k / d * 2 ^ k := by rw [s2, Nat.pow_succ]; grind
  exact ⟨by omega, by rw [s1], by rw [hp], by rw [hp]⟩
/-- A bit that is 1. -/
theorem div_yes (N d k n : Nat) (lv qh ql oh ol ph pl : Int) (hN : N < 340282366920938463463374607431768211456) (hd0 : 0 < d) (hd : d < 18446744073709551616) (h : DivNums N d (k + 1) lv qh ql) (ho : oh = ((n / 18446744073709551616 : Nat) : Int) ∧ ol = ((n % 18446744073709551616 : Nat) : Int)) (hn : n = N / 2 ^ k)
    (hp : ph = ((2 ^ k % 340282366920938463463374607431768211456 / 18446744073709551616 : Nat) : Int) ∧ pl = ((2 ^ k % 340282366920938463463374607431768211456 % 18446744073709551616 : Nat) : Int))
    (ht : (lv / 9223372036854775808 == 1) = true ∨ (d : Int) ≤ bits BinOp.or IntKind.u64 (IntKind.u64.wrap (lv * 2)) (bits BinOp.and IntKind.u64 ol 1)) :
    DivNums N d k (IntKind.u64.wrap (bits BinOp.or IntKind.u64 (IntKind.u64.wrap (lv * 2)) (bits BinOp.and IntKind.u64 ol 1) - (d : Int))) (bits BinOp.or IntKind.u64 qh ph) (bits BinOp.or IntKind.u64 ql pl) := by
  obtain ⟨h1, rfl, rfl, rfl⟩ := h
  obtain ⟨_, rfl⟩ := ho
  obtain ⟨rfl, rfl⟩ := hp
  have hl : N / 2 ^ (k + 1) % d < d := Nat.mod_lt _ hd0
  obtain ⟨s1, s2⟩ := div_step N d k hd0
  subst hn
  rw [T_val _ _ (by omega)] at ht ⊢
  have hge : ¬ (2 * (N / 2 ^ (k + 1) % d) + N / 2 ^ k % 2 < d) := by
    rcases ht with ht | ht
    · have : ((N / 2 ^ (k + 1) % d : Nat) : Int) / 9223372036854775808 = 1 := by simpa using ht
      omega
    · have := Nat.mod_le (2 * (N / 2 ^ (k + 1) % d) + N / 2 ^ k % 2) 18446744073709551616
      omega
  rw [if_neg hge] at s1 s2
  have hQ : N / 2 ^ k / d * 2 ^ k = N / 2 ^ (k + 1) / d * 2 ^ (k + 1) + 2 ^ k := by rw [s2, Nat.pow_succ]; grind
  have hQlt : N / 2 ^ (k + 1) / d * 2 ^ (k + 1) < 340282366920938463463374607431768211456 := by
    refine Nat.lt_of_le_of_lt ?_ hN
    exact Nat.le_trans (Nat.mul_le_mul_right _ (Nat.div_le_self _ _)) (Nat.div_mul_le_self _ _)
  obtain ⟨o1, o2, _⟩ := or_one (N / 2 ^ (k + 1) / d * 2 ^ (k + 1)) k (by omega) hQlt (Nat.mul_mod_left _ _)
  rw [o1, o2, ← hQ]
  refine ⟨by omega, ?_, rfl, rfl⟩
  rw [IntKind.wrap_u64, s1]
  omega

theorem shr_nat (x k : Nat) : shr x (k : Int) = x / 2 ^ k := by
  unfold shr
  split
  · have : k = 0 := by omega
    subst this; simp
  · simp
theorem shl_one (k : Nat) : shl (X 0 1) (k : Int) = 2 ^ k % 340282366920938463463374607431768211456 := by
  have : X 0 1 = 1 := rfl
  rw [this]
  unfold shl
  split
  · have : k = 0 := by omega
    subst this; rfl
  · simp
theorem div_no' (N k : Nat) (d lv qh ql oh ol : Int) (hd0 : 0 < d.toNat) (hd : U64 d) (HD : Hid (((d.toNat : Nat) : Int) = d)) (h : DivNums N d.toNat (k + 1) lv qh ql) (ho : oh = ((shr N k / 18446744073709551616 : Nat) : Int) ∧ ol = ((shr N k % 18446744073709551616 : Nat) : Int))
    (ht : ¬ lv / 9223372036854775808 = 1) (hlt : bits BinOp.or IntKind.u64 (IntKind.u64.wrap (lv * 2)) (bits BinOp.and IntKind.u64 ol 1) < d) :
    DivNums N d.toNat k (bits BinOp.or IntKind.u64 (IntKind.u64.wrap (lv * 2)) (bits BinOp.and IntKind.u64 ol 1)) qh ql :=
  div_no N d.toNat k _ lv qh ql oh ol hd0 hd.lt h ho (shr_nat N k) (by simpa using ht) (by rw [HD.out]; exact hlt)
theorem div_yes' (N k : Nat) (d lv qh ql oh ol ph pl : Int) (hN : N < 340282366920938463463374607431768211456) (hd0 : 0 < d.toNat) (hd : U64 d) (HD : Hid (((d.toNat : Nat) : Int) = d)) (h : DivNums N d.toNat (k + 1) lv qh ql) (ho : oh = ((shr N k / 18446744073709551616 : Nat) : Int) ∧ ol = ((shr N k % 18446744073709551616 : Nat) : Int))
    (hp : ph = ((shl (X 0 1) k / 18446744073709551616 : Nat) : Int) ∧ pl = ((shl (X 0 1) k % 18446744073709551616 : Nat) : Int))
    (ht : lv / 9223372036854775808 = 1 ∨ d ≤ bits BinOp.or IntKind.u64 (IntKind.u64.wrap (lv * 2)) (bits BinOp.and IntKind.u64 ol 1)) :
    DivNums N d.toNat k (IntKind.u64.wrap (bits BinOp.or IntKind.u64 (IntKind.u64.wrap (lv * 2)) (bits BinOp.and IntKind.u64 ol 1) - d)) (bits BinOp.or IntKind.u64 qh ph) (bits BinOp.or IntKind.u64 ql pl) := by
  have := div_yes N d.toNat k _ lv qh ql oh ol ph pl hN hd0 hd.lt h ho (shr_nat N k) (by rw [← shl_one]; exact hp) (by rw [HD.out]; exact ht.imp (fun h => by simpa using h) id)
  rwa [HD.out] at this

end Go.Proofs.Ytfbpmngdamaobaa
