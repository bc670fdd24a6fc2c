/- The walks of package wide: length, Len. -/
import Derived.Test.YtgjaiikfgejgoaaW1
import Derived.Test.YtgjaiikfgejgoaaWP2
import Derived.LoopTactic
import Derived.WalkMore
namespace Go.Proofs.Ytgjaiikfgejgoaa
open Go.RowKit
attribute [local go_sem] Later.cell QUpon_value QUpon_enter MUpon_value

theorem field_hi (x y : Value) (w : World) : (Instr.field 53 (.agg #[x, y]) 0).run Try.prog w = .ok x w := by kernel_rfl
theorem field_lo (x y : Value) (w : World) : (Instr.field 53 (.agg #[x, y]) 1).run Try.prog w = .ok y w := by kernel_rfl
attribute [local go_sem] field_hi field_lo
theorem lenN_lt (x : Nat) (h : x < 18446744073709551616) : lenN x ≤ 64 := lenN_le x 64 (by simpa using h)
theorem half_wrap (m : Nat) : (m : Int) / 2 = ((m / 2 : Nat) : Int) := by omega

theorem length_c (n : Int) (hn : U64 n) (w : World) : Calls Try.prog 46 #[.int .u64 n] w fun e w' => e = .returned (.int .i64 (lenN n.toNat : Nat)) ∧ w = w' := by
  obtain ⟨N, rfl⟩ := Int.eq_ofNat_of_zero_le hn.1
  have hN : N < 18446744073709551616 := by have := hn.2; omega
  have HL64 := lenN_lt N hN
  clear hn
  have HN := Lib.hid hN
  clear hN
  go_enter Try.func46, Try.ntmps46
  go_wp2
  go_loop [0, 2] (fun a b => ∃ m k : Nat, a = .int .u64 m ∧ b = .int .i64 k ∧ k + lenN m = lenN N) (fun a _ => (intOf a).toNat)
  case atStart => exact ⟨N, 0, rfl, rfl, by omega⟩
  case round =>
    obtain ⟨m, k, rfl, rfl, hk⟩ := hrel
    by_cases hm : m = 0
    · subst hm
      have h0 : (((0 : Nat) : Int) != 0) = false := by decide
      have hk' : k = lenN N := by have : lenN 0 = 0 := rfl; omega
      have HK := Lib.hid hk'
      clear hk hk'
      go_wp2
      go_ret
      exact ⟨by rw [← HK.out]; rfl, rfl⟩
    · have h0 : ((m : Int) != 0) = true := by simp; omega
      have hl := lenN_half m hm
      have HK := Lib.hid (show k + 1 + lenN (m / 2) = lenN N by omega)
      have hk1 : (k : Int) + 1 ≤ 64 := by omega
      have HM := Lib.hid hm
      clear hk hl hm
      go_wp2
      go_round
      case rel => exact ⟨m / 2, k + 1, by rw [half_wrap], by go_num, HK.out⟩
      case measure =>
        have := HM.out
        simp [intOf]; omega
theorem len_c (a b : Int) (ha : U64 a) (hb : U64 b) (w : World) : Calls Try.prog 35 #[.agg #[.int .u64 a, .int .u64 b]] w fun e w' => e = .returned (.int .i64 (lenN (X a b) : Nat)) ∧ Ext w w' := by
  by_cases h : a = 0
  · have h0 : (a != 0) = false := by simp [h]
    have hL : lenN (X a b) = lenN b.toNat := by subst h; simp [X]
    have HL := Lib.hid hL
    clear h hL
    go_enter Try.func35, Try.ntmps35
    go_wp2_with (go_at_call 46; refine (length_c _ hb _).mono ?_; rintro e w1 ⟨rfl, rfl⟩)
    first | refine fin_ret rfl (fun K hK => ?_) | refine fin_norm rfl (fun K hK => ?_)
    simp [results, Try.results35, go_sem, rsat]
    try go_simp
    refine hK _ ?_
    clear hK K
    exact ⟨by rw [HL.out], (by repeat (first | (with_reducible exact Ext.refl _) | (with_reducible assumption) | (with_reducible refine Ext.alloc ?_ _) | (with_reducible refine Ext.drew ?_) | (with_reducible refine Ext.drewN ?_ _) | (with_reducible refine Ext.setCell ?_ (by simp; try omega) _) | (with_reducible refine Ext.setRow ?_ (by simp; try omega) _)))⟩
  · have h0 : (a != 0) = true := by simpa using h
    have hL : lenN (X a b) = 64 + lenN a.toNat := by
      have := ha.cast
      unfold X
      exact lenN_hi a.toNat b.toNat (by omega) hb.lt
    have h64 := lenN_lt a.toNat ha.lt
    have HL := Lib.hid hL
    clear h hL
    go_enter Try.func35, Try.ntmps35
    go_wp2_with (go_at_call 46; refine (length_c _ ha _).mono ?_; rintro e w1 ⟨rfl, rfl⟩)
    first | refine fin_ret rfl (fun K hK => ?_) | refine fin_norm rfl (fun K hK => ?_)
    simp [results, Try.results35, go_sem, rsat]
    try go_simp
    refine hK _ ?_
    clear hK K
    exact ⟨by rw [HL.out]; congr 1, (by repeat (first | (with_reducible exact Ext.refl _) | (with_reducible assumption) | (with_reducible refine Ext.alloc ?_ _) | (with_reducible refine Ext.drew ?_) | (with_reducible refine Ext.drewN ?_ _) | (with_reducible refine Ext.setCell ?_ (by simp; try omega) _) | (with_reducible refine Ext.setRow ?_ (by simp; try omega) _)))⟩
/-! ### Div -/
theorem wide_open (n : Nat) : ∃ oh ol : Int, wide n = .agg #[.int .u64 oh, .int .u64 ol] ∧ Hid (oh = ((n / 18446744073709551616 : Nat) : Int) ∧ ol = ((n % 18446744073709551616 : Nat) : Int)) := ⟨_, _, rfl, ⟨rfl, rfl⟩⟩
/-- Where the division stands when j bits are left. -/
def DivNums (N d j : Nat) (lv qh ql : Int) : Prop :=
  j ≤ 128 ∧ lv = ((N / 2 ^ j % d : Nat) : Int) ∧ qh = ((N / 2 ^ j / d * 2 ^ j / 18446744073709551616 : Nat) : Int) ∧ ql = ((N / 2 ^ j / d * 2 ^ j % 18446744073709551616 : Nat) : Int)
def DivAt (N d : Nat) (a b : Int) (w : World) (l n : Value) (wr : World) : Prop :=
  ∃ (j : Nat) (lv qh ql : Int), n = .int .i64 ((j : Int) - 1) ∧ l = .int .u64 lv ∧ Ext w wr ∧ At wr w.heap.size 53 #[.int .u64 a, .int .u64 b] ∧
    At wr (w.heap.size + 1) 53 #[.int .u64 qh, .int .u64 ql] ∧ DivNums N d j lv qh ql

theorem div_start (N d : Nat) (hN : N < 340282366920938463463374607431768211456) : DivNums N d (lenN N) 0 0 0 := by
  have h : N / 2 ^ lenN N = 0 := by
    refine Nat.div_eq_of_lt ?_
    unfold lenN
    split
    · omega
    · exact Nat.lt_log2_self
  refine ⟨lenN_le _ 128 (by simpa using hN), ?_, ?_, ?_⟩ <;> rw [h] <;> simp
theorem div_end (N d : Nat) (lv qh ql : Int) (h : DivNums N d 0 lv qh ql) : Value.tuple #[.agg #[.int .u64 qh, .int .u64 ql], .int .u64 lv, .bool true] = .tuple #[wide (N / d), .int .u64 ((N % d : Nat) : Int), .bool true] := by
  obtain ⟨_, rfl, rfl, rfl⟩ := h
  simp [wide]
/-- A bit that is 0. -/
theorem div_no (N d k n : Nat) (lv qh ql oh ol : Int) (hd0 : 0 < d) (hd : d < 18446744073709551616) (h : DivNums N d (k + 1) lv qh ql) (ho : oh = ((n / 18446744073709551616 : Nat) : Int) ∧ ol = ((n % 18446744073709551616 : Nat) : Int)) (hn : n = N / 2 ^ k)
    (ht : (lv / 9223372036854775808 == 1) = false) (hlt : bits BinOp.or IntKind.u64 (IntKind.u64.wrap (lv * 2)) (bits BinOp.and IntKind.u64 ol 1) < (d : Int)) :
    DivNums N d k (bits BinOp.or IntKind.u64 (IntKind.u64.wrap (lv * 2)) (bits BinOp.and IntKind.u64 ol 1)) qh ql := by
  obtain ⟨h1, rfl, rfl, rfl⟩ := h
  obtain ⟨_, rfl⟩ := ho
  have hl : N / 2 ^ (k + 1) % d < d := Nat.mod_lt _ hd0
  obtain ⟨s1, s2⟩ := div_step N d k hd0
  subst hn
  rw [T_val _ _ (by omega)] at hlt ⊢
  have hT : (2 * (N / 2 ^ (k + 1) % d) + N / 2 ^ k % 2) % 18446744073709551616 = 2 * (N / 2 ^ (k + 1) % d) + N / 2 ^ k % 2 := by
    have : ¬ (((N / 2 ^ (k + 1) % d : Nat) : Int) / 9223372036854775808 = 1) := by simpa using ht
    refine Nat.mod_eq_of_lt ?_
    omega
  rw [hT] at hlt ⊢
  rw [if_pos (by omega)] at s1 s2
  have hp : N / 2 ^ (k + 1) / d * 2 ^ (k + 1) = N / 2 ^ k / d * 2 ^ k := by rw [s2, Nat.pow_succ]; grind
  exact ⟨by omega, by rw [s1], by rw [hp], by rw [hp]⟩
/-- A bit that is 1. -/
theorem div_yes (N d k n : Nat) (lv qh ql oh ol ph pl : Int) (hN : N < 340282366920938463463374607431768211456) (hd0 : 0 < d) (hd : d < 18446744073709551616) (h : DivNums N d (k + 1) lv qh ql) (ho : oh = ((n / 18446744073709551616 : Nat) : Int) ∧ ol = ((n % 18446744073709551616 : Nat) : Int)) (hn : n = N / 2 ^ k)
    (hp : ph = ((2 ^ k % 340282366920938463463374607431768211456 / 18446744073709551616 : Nat) : Int) ∧ pl = ((2 ^ k % 340282366920938463463374607431768211456 % 18446744073709551616 : Nat) : Int))
    (ht : (lv / 9223372036854775808 == 1) = true ∨ (d : Int) ≤ bits BinOp.or IntKind.u64 (IntKind.u64.wrap (lv * 2)) (bits BinOp.and IntKind.u64 ol 1)) :
    DivNums N d k (IntKind.u64.wrap (bits BinOp.or IntKind.u64 (IntKind.u64.wrap (lv * 2)) (bits BinOp.and IntKind.u64 ol 1) - (d : Int))) (bits BinOp.or IntKind.u64 qh ph) (bits BinOp.or IntKind.u64 ql pl) := by
  obtain ⟨h1, rfl, rfl, rfl⟩ := h
  obtain ⟨_, rfl⟩ := ho
  obtain ⟨rfl, rfl⟩ := hp
  have hl : N / 2 ^ (k + 1) % d < d := Nat.mod_lt _ hd0
  obtain ⟨s1, s2⟩ := div_step N d k hd0
  subst hn
  rw [T_val _ _ (by omega)] at ht ⊢
  have hge : ¬ (2 * (N / 2 ^ (k + 1) % d) + N / 2 ^ k % 2 < d) := by
    rcases ht with ht | ht
    · have : ((N / 2 ^ (k + 1) % d : Nat) : Int) / 9223372036854775808 = 1 := by simpa using ht
      omega
    · have := Nat.mod_le (2 * (N / 2 ^ (k + 1) % d) + N / 2 ^ k % 2) 18446744073709551616
      omega
  rw [if_neg hge] at s1 s2
  have hQ : N / 2 ^ k / d * 2 ^ k = N / 2 ^ (k + 1) / d * 2 ^ (k + 1) + 2 ^ k := by rw [s2, Nat.pow_succ]; grind
  have hQlt : N / 2 ^ (k + 1) / d * 2 ^ (k + 1) < 340282366920938463463374607431768211456 := by
    refine Nat.lt_of_le_of_lt ?_ hN
    exact Nat.le_trans (Nat.mul_le_mul_right _ (Nat.div_le_self _ _)) (Nat.div_mul_le_self _ _)
  obtain ⟨o1, o2, _⟩ := or_one (N / 2 ^ (k + 1) / d * 2 ^ (k + 1)) k (by omega) hQlt (Nat.mul_mod_left _ _)
  rw [o1, o2, ← hQ]
  refine ⟨by omega, ?_, rfl, rfl⟩
  rw [IntKind.wrap_u64, s1]
  omega

theorem shr_nat (x k : Nat) : shr x (k : Int) = x / 2 ^ k := by
  unfold shr
  split
  · have : k = 0 := by omega
    subst this; simp
  · simp
theorem shl_one (k : Nat) : shl (X 0 1) (k : Int) = 2 ^ k % 340282366920938463463374607431768211456 := by
  have : X 0 1 = 1 := rfl
  rw [this]
  unfold shl
  split
  · have : k = 0 := by omega
    subst this; rfl
  · simp
theorem div_no' (N k : Nat) (d lv qh ql oh ol : Int) (hd0 : 0 < d.toNat) (hd : U64 d) (HD : Hid (((d.toNat : Nat) : Int) = d)) (h : DivNums N d.toNat (k + 1) lv qh ql) (ho : oh = ((shr N k / 18446744073709551616 : Nat) : Int) ∧ ol = ((shr N k % 18446744073709551616 : Nat) : Int))
    (ht : ¬ lv / 9223372036854775808 = 1) (hlt : bits BinOp.or IntKind.u64 (IntKind.u64.wrap (lv * 2)) (bits BinOp.and IntKind.u64 ol 1) < d) :
    DivNums N d.toNat k (bits BinOp.or IntKind.u64 (IntKind.u64.wrap (lv * 2)) (bits BinOp.and IntKind.u64 ol 1)) qh ql :=
  div_no N d.toNat k _ lv qh ql oh ol hd0 hd.lt h ho (shr_nat N k) (by simpa using ht) (by rw [HD.out]; exact hlt)
theorem div_yes' (N k : Nat) (d lv qh ql oh ol ph pl : Int) (hN : N < 340282366920938463463374607431768211456) (hd0 : 0 < d.toNat) (hd : U64 d) (HD : Hid (((d.toNat : Nat) : Int) = d)) (h : DivNums N d.toNat (k + 1) lv qh ql) (ho : oh = ((shr N k / 18446744073709551616 : Nat) : Int) ∧ ol = ((shr N k % 18446744073709551616 : Nat) : Int))
    (hp : ph = ((shl (X 0 1) k / 18446744073709551616 : Nat) : Int) ∧ pl = ((shl (X 0 1) k % 18446744073709551616 : Nat) : Int))
    (ht : lv / 9223372036854775808 = 1 ∨ d ≤ bits BinOp.or IntKind.u64 (IntKind.u64.wrap (lv * 2)) (bits BinOp.and IntKind.u64 ol 1)) :
    DivNums N d.toNat k (IntKind.u64.wrap (bits BinOp.or IntKind.u64 (IntKind.u64.wrap (lv * 2)) (bits BinOp.and IntKind.u64 ol 1) - d)) (bits BinOp.or IntKind.u64 qh ph) (bits BinOp.or IntKind.u64 ql pl) := by
  have := div_yes N d.toNat k _ lv qh ql oh ol ph pl hN hd0 hd.lt h ho (shr_nat N k) (by rw [← shl_one]; exact hp) (by rw [HD.out]; exact ht.imp (fun h => by simpa using h) id)
  rwa [HD.out] at this

set_option maxRecDepth 100000 in
theorem div_walk (a b d : Int) (ha : U64 a) (hb : U64 b) (hd : U64 d) (h0 : (d == 0) = false) (w : World) : Calls Try.prog 25 #[.agg #[.int .u64 a, .int .u64 b], .int .u64 d] w fun e w' =>
    e = .returned (.tuple #[wide (X a b / d.toNat), .int .u64 ((X a b % d.toNat : Nat) : Int), .bool true]) ∧ Ext w w' := by
  have hl : lenN (X a b) ≤ 128 := lenN_le _ 128 (X_lt ha hb)
  have hdc := hd.cast
  have hd0 : 0 < d.toNat := by
    have : ¬ d = 0 := by simpa using h0
    have := hd.nn
    omega
  have HD := Lib.hid hdc
  clear hdc
  go_enter Try.func25, Try.ntmps25
  go_wp2_with fail
  go_step3
  go_wp2_with fail
  go_step3
  go_wp2_with (go_at_call 35; refine (len_c _ _ ha hb _).mono ?_; rintro e w1 ⟨rfl, hxw1⟩)
  have xw1 : Ext w w1 := Ext.trans (by repeat (first | (with_reducible exact Ext.refl _) | (with_reducible assumption) | (with_reducible refine Ext.alloc ?_ _) | (with_reducible refine Ext.drew ?_) | (with_reducible refine Ext.drewN ?_ _) | (with_reducible refine Ext.setCell ?_ (by simp; try omega) _) | (with_reducible refine Ext.setRow ?_ (by simp; try omega) _))) hxw1
  obtain ⟨hcw1, hfw1⟩ := hxw1.facts
  have hsw1 := hxw1.size
  try simp only [World.size_drew, World.size_alloc, World.size_setCell] at hsw1 hcw1 hfw1
  have hlw1_0 : w.heap.size < w1.heap.size := by omega
  have hlw1_1 : w.heap.size + 1 < w1.heap.size := by omega
  go_loopw [5, 7] (fun l n wr => DivAt (X a b) d.toNat a b w l n wr) (fun _ n _ => (intOf n + 1).toNat)
  case atStart => exact ⟨lenN (X a b), 0, 0, 0, rfl, rfl, xw1, At.ext (by repeat (first | (with_reducible exact At.new _ _ _) | ((with_reducible refine At.new' _ _ _ _ ?_); simp; done) | (with_reducible assumption) | (with_reducible refine At.drew ?_) | (with_reducible refine At.alloc ?_ _) | (with_reducible apply At.upd) | (with_reducible apply At.setRow) | (with_reducible refine At.rowFar ?_ (by first | (simp; done) | (simp; omega) | omega) _) | ((with_reducible refine At.far ?_ (by first | (simp; done) | (simp; omega) | omega) _)) | (with_reducible rfl) | (simp; done))) hxw1, At.ext (by repeat (first | (with_reducible exact At.new _ _ _) | ((with_reducible refine At.new' _ _ _ _ ?_); simp; done) | (with_reducible assumption) | (with_reducible refine At.drew ?_) | (with_reducible refine At.alloc ?_ _) | (with_reducible apply At.upd) | (with_reducible apply At.setRow) | (with_reducible refine At.rowFar ?_ (by first | (simp; done) | (simp; omega) | omega) _) | ((with_reducible refine At.far ?_ (by first | (simp; done) | (simp; omega) | omega) _)) | (with_reducible rfl) | (simp; done))) hxw1, div_start _ _ (X_lt ha hb)⟩
  case round =>
    obtain ⟨j, lv, qh, ql, rfl, rfl, hx, hA, hQ, hN⟩ := hrel
    clear hcw1 hfw1 hxw1 xw1 hsw1 hlw1_0 hlw1_1
    have c_hA_0 := hA.cell 0
    have f_hA_0 := hA.frozen 0
    simp only [List.getElem?_toArray, List.getElem?_cons_zero, List.getElem?_cons_succ] at c_hA_0
    have c_hA_1 := hA.cell 1
    have f_hA_1 := hA.frozen 1
    simp only [List.getElem?_toArray, List.getElem?_cons_zero, List.getElem?_cons_succ] at c_hA_1
    have s_hA := hA.lt
    have c_hQ_0 := hQ.cell 0
    have f_hQ_0 := hQ.frozen 0
    simp only [List.getElem?_toArray, List.getElem?_cons_zero, List.getElem?_cons_succ] at c_hQ_0
    have c_hQ_1 := hQ.cell 1
    have f_hQ_1 := hQ.frozen 1
    simp only [List.getElem?_toArray, List.getElem?_cons_zero, List.getElem?_cons_succ] at c_hQ_1
    have s_hQ := hQ.lt
    rcases j with _ | k
    · have e1 : ((0 : Nat) : Int) - 1 = -1 := rfl
      rw [e1]
      go_wp2
      rw [Exit.noGoto_ret]
      first | refine fin_ret rfl (fun K hK => ?_) | refine fin_norm rfl (fun K hK => ?_)
      simp [results, Try.results25, go_sem, rsat]
      try go_simp
      refine hK _ ?_
      clear hK K
      exact ⟨ret_eq (div_end _ _ _ _ _ hN), (by repeat (first | (with_reducible exact Ext.refl _) | (with_reducible assumption) | (with_reducible refine Ext.alloc ?_ _) | (with_reducible refine Ext.drew ?_) | (with_reducible refine Ext.drewN ?_ _) | (with_reducible refine Ext.setCell ?_ (by simp; try omega) _) | (with_reducible refine Ext.setRow ?_ (by simp; try omega) _)))⟩
    · have e1 : ((k + 1 : Nat) : Int) - 1 = (k : Int) := by omega
      have hk : (k : Int) < 128 := by have := hN.1; omega
      rw [e1]
      go_wp2_with fail
      refine (right_c _ _ _ ha hb _).mono ?_
      rintro e w2 ⟨rfl, hxw2⟩
      obtain ⟨oh, ol, ho, HO⟩ := wide_open (shr (X a b) k)
      rw [ho]
      have hA2 := hA.ext hxw2
      have hQ2 := hQ.ext hxw2
      have hx2 := hx.trans hxw2
      clear hA hQ hx c_hA_0 c_hA_1 c_hQ_0 c_hQ_1 f_hA_0 f_hA_1 f_hQ_0 f_hQ_1 s_hA s_hQ hxw2 ho e1
      have c_hA2_0 := hA2.cell 0
      have f_hA2_0 := hA2.frozen 0
      simp only [List.getElem?_toArray, List.getElem?_cons_zero, List.getElem?_cons_succ] at c_hA2_0
      have c_hA2_1 := hA2.cell 1
      have f_hA2_1 := hA2.frozen 1
      simp only [List.getElem?_toArray, List.getElem?_cons_zero, List.getElem?_cons_succ] at c_hA2_1
      have s_hA2 := hA2.lt
      have c_hQ2_0 := hQ2.cell 0
      have f_hQ2_0 := hQ2.frozen 0
      simp only [List.getElem?_toArray, List.getElem?_cons_zero, List.getElem?_cons_succ] at c_hQ2_0
      have c_hQ2_1 := hQ2.cell 1
      have f_hQ2_1 := hQ2.frozen 1
      simp only [List.getElem?_toArray, List.getElem?_cons_zero, List.getElem?_cons_succ] at c_hQ2_1
      have s_hQ2 := hQ2.lt
      go_wp2_with fail
      ·
        refine (left_c 0 1 _ ⟨by decide, by decide⟩ ⟨by decide, by decide⟩ _).mono ?_
        rintro e w3 ⟨rfl, hxw3⟩
        obtain ⟨ph, pl, hp, HP⟩ := wide_open (shl (X 0 1) k)
        rw [hp]
        have hA3 := hA2.ext hxw3
        have hQ3 := hQ2.ext hxw3
        have hx3 := hx2.trans hxw3
        clear c_hA2_0 c_hA2_1 c_hQ2_0 c_hQ2_1 f_hA2_0 f_hA2_1 f_hQ2_0 f_hQ2_1 s_hA2 s_hQ2 hxw3 hp hA2 hQ2 hx2
        have c_hA3_0 := hA3.cell 0
        have f_hA3_0 := hA3.frozen 0
        simp only [List.getElem?_toArray, List.getElem?_cons_zero, List.getElem?_cons_succ] at c_hA3_0
        have c_hA3_1 := hA3.cell 1
        have f_hA3_1 := hA3.frozen 1
        simp only [List.getElem?_toArray, List.getElem?_cons_zero, List.getElem?_cons_succ] at c_hA3_1
        have s_hA3 := hA3.lt
        have c_hQ3_0 := hQ3.cell 0
        have f_hQ3_0 := hQ3.frozen 0
        simp only [List.getElem?_toArray, List.getElem?_cons_zero, List.getElem?_cons_succ] at c_hQ3_0
        have c_hQ3_1 := hQ3.cell 1
        have f_hQ3_1 := hQ3.frozen 1
        simp only [List.getElem?_toArray, List.getElem?_cons_zero, List.getElem?_cons_succ] at c_hQ3_1
        have s_hQ3 := hQ3.lt
        go_wp2
        go_roundw
        case rel =>
          refine ⟨k, _, _, _, rfl, rfl, (by repeat (first | (with_reducible exact Ext.refl _) | (with_reducible assumption) | (with_reducible refine Ext.alloc ?_ _) | (with_reducible refine Ext.drew ?_) | (with_reducible refine Ext.drewN ?_ _) | (with_reducible refine Ext.setCell ?_ (by simp; try omega) _) | (with_reducible refine Ext.setRow ?_ (by simp; try omega) _))), ?_, ?_, div_yes' _ _ _ _ _ _ _ _ _ _ (X_lt ha hb) hd0 hd HD hN HO.out HP.out (by first | exact .inl (by assumption) | (rcases ‹_ ∨ _› with hh | hh; exact .inl (by simpa using hh); exact .inr hh))⟩
          · refine At.alloc (At.far (At.far hA3 ?_ _) ?_ _) _ <;> simp
          · exact At.alloc (At.set (At.set hQ3 0 _) 1 _) _
        case measure => simp [intOf]
      · go_roundw
        case rel =>
          refine ⟨k, _, _, _, rfl, rfl, hx2, hA2, hQ2, div_no' _ _ _ _ _ _ _ _ hd0 hd HD hN HO.out (by assumption) (‹_ ∧ _›).2⟩
        case measure => simp [intOf]
      ·
        refine (left_c 0 1 _ ⟨by decide, by decide⟩ ⟨by decide, by decide⟩ _).mono ?_
        rintro e w3 ⟨rfl, hxw3⟩
        obtain ⟨ph, pl, hp, HP⟩ := wide_open (shl (X 0 1) k)
        rw [hp]
        have hA3 := hA2.ext hxw3
        have hQ3 := hQ2.ext hxw3
        have hx3 := hx2.trans hxw3
        clear c_hA2_0 c_hA2_1 c_hQ2_0 c_hQ2_1 f_hA2_0 f_hA2_1 f_hQ2_0 f_hQ2_1 s_hA2 s_hQ2 hxw3 hp hA2 hQ2 hx2
        have c_hA3_0 := hA3.cell 0
        have f_hA3_0 := hA3.frozen 0
        simp only [List.getElem?_toArray, List.getElem?_cons_zero, List.getElem?_cons_succ] at c_hA3_0
        have c_hA3_1 := hA3.cell 1
        have f_hA3_1 := hA3.frozen 1
        simp only [List.getElem?_toArray, List.getElem?_cons_zero, List.getElem?_cons_succ] at c_hA3_1
        have s_hA3 := hA3.lt
        have c_hQ3_0 := hQ3.cell 0
        have f_hQ3_0 := hQ3.frozen 0
        simp only [List.getElem?_toArray, List.getElem?_cons_zero, List.getElem?_cons_succ] at c_hQ3_0
        have c_hQ3_1 := hQ3.cell 1
        have f_hQ3_1 := hQ3.frozen 1
        simp only [List.getElem?_toArray, List.getElem?_cons_zero, List.getElem?_cons_succ] at c_hQ3_1
        have s_hQ3 := hQ3.lt
        go_wp2
        go_roundw
        case rel =>
          refine ⟨k, _, _, _, rfl, rfl, (by repeat (first | (with_reducible exact Ext.refl _) | (with_reducible assumption) | (with_reducible refine Ext.alloc ?_ _) | (with_reducible refine Ext.drew ?_) | (with_reducible refine Ext.drewN ?_ _) | (with_reducible refine Ext.setCell ?_ (by simp; try omega) _) | (with_reducible refine Ext.setRow ?_ (by simp; try omega) _))), ?_, ?_, div_yes' _ _ _ _ _ _ _ _ _ _ (X_lt ha hb) hd0 hd HD hN HO.out HP.out (by first | exact .inl (by assumption) | (rcases ‹_ ∨ _› with hh | hh; exact .inl (by simpa using hh); exact .inr hh))⟩
          · refine At.alloc (At.far (At.far hA3 ?_ _) ?_ _) _ <;> simp
          · exact At.alloc (At.set (At.set hQ3 0 _) 1 _) _
        case measure => simp [intOf]
theorem div_none (a b : Int) (w : World) : Calls Try.prog 25 #[.agg #[.int .u64 a, .int .u64 b], .int .u64 0] w fun e w' =>
    e = .returned (.tuple #[wide 0, .int .u64 0, .bool false]) ∧ Ext w w' := by
  go_enter Try.func25, Try.ntmps25
  go_wp2_with fail
  go_step3
  go_wp2
  rw [Exit.noGoto_ret]
  first | refine fin_ret rfl (fun K hK => ?_) | refine fin_norm rfl (fun K hK => ?_)
  simp [results, Try.results25, go_sem, rsat]
  try go_simp
  refine hK _ ?_
  clear hK K
  exact ⟨rfl, (by repeat (first | (with_reducible exact Ext.refl _) | (with_reducible assumption) | (with_reducible refine Ext.alloc ?_ _) | (with_reducible refine Ext.drew ?_) | (with_reducible refine Ext.drewN ?_ _) | (with_reducible refine Ext.setCell ?_ (by simp; try omega) _) | (with_reducible refine Ext.setRow ?_ (by simp; try omega) _)))⟩
theorem div_c (a b d : Int) (ha : U64 a) (hb : U64 b) (hd : U64 d) (h0 : 0 < d) (w : World) : Calls Try.prog 25 #[.agg #[.int .u64 a, .int .u64 b], .int .u64 d] w fun e w' =>
    e = .returned (.tuple #[wide (X a b / d.toNat), .int .u64 ((X a b % d.toNat : Nat) : Int), .bool true]) ∧ Ext w w' :=
  div_walk a b d ha hb hd (by simp; omega) w
end Go.Proofs.Ytgjaiikfgejgoaa
