/- The walks of the reference of layer 2: size, signed, sum, Add, Sub, Mul. No condition. -/
import Derived.Test.YthfomohophmbaaaF1
import Derived.Test.YthfomohophmbaaaA7
namespace Go.Proofs.Ythfomohophmbaaa
open Go.RowKit
attribute [local go_sem] Later.cell QUpon_value QUpon_enter MUpon_value
attribute [local go_sem ↓ high] loadVar_is storeVar_is
attribute [local go_sem high] zero_bits zeroCells_arr
attribute [local go_sem] run_loadBits run_storeBits isArr_arr cellsAt_alloc_at cellsAt_alloc_past cellsAt_drew ltn_2 ltn_3 ltn_4 ltn_5 setRow_new setRow_past bitsOf cellsAt_later cellsAt_setRow_far

theorem rsize_c (a : Int) (ha : I64 a) (w : World) : Calls Try.prog 47 #[.int .i64 a] w fun e w' => e = .returned (.int .u64 (a.natAbs : Int)) ∧ Ext w w' := by
  unfold I64 at ha
  by_cases h : a < 0
  · have e : (a.natAbs : Int) = -(a + 1) + 1 := by omega
    rw [e]
    clear e
    go_enter Try.func47, Try.ntmps47
    go_wp2
    first | refine fin_ret rfl (fun K hK => ?_) | refine fin_norm rfl (fun K hK => ?_)
    simp [results, Try.results47, go_sem, rsat]
    try go_simp
    refine hK _ ?_
    clear hK K
    exact ⟨rfl, (by repeat (first | (with_reducible exact Ext.refl _) | (with_reducible assumption) | (with_reducible refine Ext.alloc ?_ _) | (with_reducible refine Ext.drew ?_) | (with_reducible refine Ext.drewN ?_ _) | (with_reducible refine Ext.setCell ?_ (by simp; try omega) _) | (with_reducible refine Ext.setRow ?_ (by simp; try omega) _)))⟩
  · have e : (a.natAbs : Int) = a := by omega
    rw [e]
    clear e
    go_enter Try.func47, Try.ntmps47
    go_wp2
    first | refine fin_ret rfl (fun K hK => ?_) | refine fin_norm rfl (fun K hK => ?_)
    simp [results, Try.results47, go_sem, rsat]
    try go_simp
    refine hK _ ?_
    clear hK K
    exact ⟨rfl, (by repeat (first | (with_reducible exact Ext.refl _) | (with_reducible assumption) | (with_reducible refine Ext.alloc ?_ _) | (with_reducible refine Ext.drew ?_) | (with_reducible refine Ext.drewN ?_ _) | (with_reducible refine Ext.setCell ?_ (by simp; try omega) _) | (with_reducible refine Ext.setRow ?_ (by simp; try omega) _)))⟩
theorem signed_c (n : Int) (m : Bool) (hn : U64 n) (w : World) : Calls Try.prog 48 #[.int .u64 n, .bool m] w fun e w' => e = .returned (chk64 (if m = true then -n else n)) ∧ Ext w w' := by
  unfold U64 at hn
  cases m
  · simp only [Bool.false_eq_true, if_false]
    by_cases h : 9223372036854775808 ≤ n
    · rw [chk64_no (by unfold I64; omega)]
      go_enter Try.func48, Try.ntmps48
      go_wp2
      first | refine fin_ret rfl (fun K hK => ?_) | refine fin_norm rfl (fun K hK => ?_)
      simp [results, Try.results48, go_sem, rsat]
      try go_simp
      refine hK _ ?_
      clear hK K
      exact ⟨rfl, (by repeat (first | (with_reducible exact Ext.refl _) | (with_reducible assumption) | (with_reducible refine Ext.alloc ?_ _) | (with_reducible refine Ext.drew ?_) | (with_reducible refine Ext.drewN ?_ _) | (with_reducible refine Ext.setCell ?_ (by simp; try omega) _) | (with_reducible refine Ext.setRow ?_ (by simp; try omega) _)))⟩
    · rw [chk64_yes (by unfold I64; omega)]
      go_enter Try.func48, Try.ntmps48
      go_wp2
      first | refine fin_ret rfl (fun K hK => ?_) | refine fin_norm rfl (fun K hK => ?_)
      simp [results, Try.results48, go_sem, rsat]
      try go_simp
      refine hK _ ?_
      clear hK K
      exact ⟨rfl, (by repeat (first | (with_reducible exact Ext.refl _) | (with_reducible assumption) | (with_reducible refine Ext.alloc ?_ _) | (with_reducible refine Ext.drew ?_) | (with_reducible refine Ext.drewN ?_ _) | (with_reducible refine Ext.setCell ?_ (by simp; try omega) _) | (with_reducible refine Ext.setRow ?_ (by simp; try omega) _)))⟩
  · simp only [if_true]
    by_cases h0 : n = 9223372036854775808
    · subst h0
      rw [chk64_yes (by unfold I64; omega)]
      go_enter Try.func48, Try.ntmps48
      go_wp2
      first | refine fin_ret rfl (fun K hK => ?_) | refine fin_norm rfl (fun K hK => ?_)
      simp [results, Try.results48, go_sem, rsat]
      try go_simp
      refine hK _ ?_
      clear hK K
      exact ⟨rfl, (by repeat (first | (with_reducible exact Ext.refl _) | (with_reducible assumption) | (with_reducible refine Ext.alloc ?_ _) | (with_reducible refine Ext.drew ?_) | (with_reducible refine Ext.drewN ?_ _) | (with_reducible refine Ext.setCell ?_ (by simp; try omega) _) | (with_reducible refine Ext.setRow ?_ (by simp; try omega) _)))⟩
    · have e : (n == 9223372036854775808) = false := beq_eq_false_iff_ne.2 h0
      by_cases h : 9223372036854775808 ≤ n
      · rw [chk64_no (by unfold I64; omega)]
        clear h0
        go_enter Try.func48, Try.ntmps48
        go_wp2
        first | refine fin_ret rfl (fun K hK => ?_) | refine fin_norm rfl (fun K hK => ?_)
        simp [results, Try.results48, go_sem, rsat]
        try go_simp
        refine hK _ ?_
        clear hK K
        exact ⟨rfl, (by repeat (first | (with_reducible exact Ext.refl _) | (with_reducible assumption) | (with_reducible refine Ext.alloc ?_ _) | (with_reducible refine Ext.drew ?_) | (with_reducible refine Ext.drewN ?_ _) | (with_reducible refine Ext.setCell ?_ (by simp; try omega) _) | (with_reducible refine Ext.setRow ?_ (by simp; try omega) _)))⟩
      · rw [chk64_yes (by unfold I64; omega)]
        clear h0
        go_enter Try.func48, Try.ntmps48
        go_wp2
        first | refine fin_ret rfl (fun K hK => ?_) | refine fin_norm rfl (fun K hK => ?_)
        simp [results, Try.results48, go_sem, rsat]
        try go_simp
        refine hK _ ?_
        clear hK K
        exact ⟨rfl, (by repeat (first | (with_reducible exact Ext.refl _) | (with_reducible assumption) | (with_reducible refine Ext.alloc ?_ _) | (with_reducible refine Ext.drew ?_) | (with_reducible refine Ext.drewN ?_ _) | (with_reducible refine Ext.setCell ?_ (by simp; try omega) _) | (with_reducible refine Ext.setRow ?_ (by simp; try omega) _)))⟩
theorem X_lo (a : Int) : X 0 a = a.toNat := by unfold X; simp
set_option maxRecDepth 100000 in
theorem sum_c (a b : Int) (ha : U64 a) (hb : U64 b) (w : World) : Calls Try.prog 46 #[.int .u64 a, .int .u64 b] w fun e w' => e = .returned (bitsOf (a.toNat + b.toNat)) ∧ Ext w w' := by
  have hla := ha.lt
  have hlb := hb.lt
  have C1 := of_c 0 a ⟨by decide, by decide⟩ ha
  have C2 := of_c 0 b ⟨by decide, by decide⟩ hb
  rw [X_lo] at C1 C2
  obtain ⟨m, hm⟩ : ∃ m, m = a.toNat := ⟨_, rfl⟩
  obtain ⟨n, hn⟩ : ∃ m, m = b.toNat := ⟨_, rfl⟩
  rw [← hm] at C1 hla
  rw [← hn] at C2 hlb
  rw [← hm, ← hn]
  clear hm hn
  have C3 := radd_c m n (by omega) (by omega)
  rw [Nat.mod_eq_of_lt (by omega)] at C3
  have HC1 := Lib.hid C1
  have HC2 := Lib.hid C2
  have HC3 := Lib.hid C3
  clear C1 C2 C3
  obtain ⟨s, hs⟩ : ∃ s, s = m + n := ⟨_, rfl⟩
  rw [← hs] at HC3 ⊢
  clear hs
  unfold bitsOf
  go_enter Try.func46, Try.ntmps46
  go_wp2_with fail
  refine (HC1.out _).mono ?_
  rintro e w1 ⟨rfl, hxw1⟩
  have xw1 : Ext w w1 := Ext.trans (by repeat (first | (with_reducible exact Ext.refl _) | (with_reducible assumption) | (with_reducible refine Ext.alloc ?_ _) | (with_reducible refine Ext.drew ?_) | (with_reducible refine Ext.drewN ?_ _) | (with_reducible refine Ext.setCell ?_ (by simp; try omega) _) | (with_reducible refine Ext.setRow ?_ (by simp; try omega) _))) hxw1
  have lw1 := xw1.size
  have R_w1 := At.ext (g := w.heap.size) (t := 78) (cs := arr fun _ => false) (by repeat (first | (with_reducible exact At.new _ _ _) | ((with_reducible refine At.new' _ _ _ _ ?_); simp; done) | (with_reducible assumption) | (with_reducible refine At.drew ?_) | (with_reducible refine At.alloc ?_ _) | (with_reducible apply At.upd) | (with_reducible apply At.setRow) | (with_reducible refine At.rowFar ?_ (by first | (simp; done) | (simp; omega) | omega) _) | ((with_reducible refine At.far ?_ (by first | (simp; done) | (simp; omega) | omega) _)) | (with_reducible rfl) | (simp; done))) hxw1
  clear hxw1
  have s_R_w1 := R_w1.lt
  have e_R_w1 := cellsAt_at R_w1
  go_wp2_with fail
  refine (HC2.out _).mono ?_
  rintro e w2 ⟨rfl, hxw2⟩
  have xw2 : Ext w w2 := Ext.trans (by repeat (first | (with_reducible exact Ext.refl _) | (with_reducible assumption) | (with_reducible refine Ext.alloc ?_ _) | (with_reducible refine Ext.drew ?_) | (with_reducible refine Ext.drewN ?_ _) | (with_reducible refine Ext.setCell ?_ (by simp; try omega) _) | (with_reducible refine Ext.setRow ?_ (by simp; try omega) _))) hxw2
  have lw2 := xw2.size
  have R_w2 := At.ext (g := w.heap.size) (t := 78) (cs := arr fun _ => false) (by repeat (first | (with_reducible exact At.new _ _ _) | ((with_reducible refine At.new' _ _ _ _ ?_); simp; done) | (with_reducible assumption) | (with_reducible refine At.drew ?_) | (with_reducible refine At.alloc ?_ _) | (with_reducible apply At.upd) | (with_reducible apply At.setRow) | (with_reducible refine At.rowFar ?_ (by first | (simp; done) | (simp; omega) | omega) _) | ((with_reducible refine At.far ?_ (by first | (simp; done) | (simp; omega) | omega) _)) | (with_reducible rfl) | (simp; done))) hxw2
  clear R_w1 s_R_w1 e_R_w1 hxw2 xw1
  have s_R_w2 := R_w2.lt
  have e_R_w2 := cellsAt_at R_w2
  go_wp2_with fail
  refine (HC3.out _).mono ?_
  rintro e w3 ⟨rfl, hxw3⟩
  have xw3 : Ext w w3 := Ext.trans (by repeat (first | (with_reducible exact Ext.refl _) | (with_reducible assumption) | (with_reducible refine Ext.alloc ?_ _) | (with_reducible refine Ext.drew ?_) | (with_reducible refine Ext.drewN ?_ _) | (with_reducible refine Ext.setCell ?_ (by simp; try omega) _) | (with_reducible refine Ext.setRow ?_ (by simp; try omega) _))) hxw3
  have lw3 := xw3.size
  have R_w3 := At.ext (g := w.heap.size) (t := 78) (cs := arr fun _ => false) (by repeat (first | (with_reducible exact At.new _ _ _) | ((with_reducible refine At.new' _ _ _ _ ?_); simp; done) | (with_reducible assumption) | (with_reducible refine At.drew ?_) | (with_reducible refine At.alloc ?_ _) | (with_reducible apply At.upd) | (with_reducible apply At.setRow) | (with_reducible refine At.rowFar ?_ (by first | (simp; done) | (simp; omega) | omega) _) | ((with_reducible refine At.far ?_ (by first | (simp; done) | (simp; omega) | omega) _)) | (with_reducible rfl) | (simp; done))) hxw3
  clear R_w2 s_R_w2 e_R_w2 hxw3 xw2
  have s_R_w3 := R_w3.lt
  have e_R_w3 := cellsAt_at R_w3
  go_wp2
  refine fin_bits (p := 4) (g := w.heap.size) rfl rfl ((R_w3.setRow _).alloc _) rfl ?_
  exact ⟨rfl, Ext.alloc (Ext.setRow xw3 (Nat.le_refl _) _) _⟩
theorem halves_small (s : Nat) (hs : s < 340282366920938463463374607431768211456) (w : World) : Calls Try.prog 45 #[bitsOf s] w fun e w' => e = .returned (.tuple #[.int .u64 ((s / 18446744073709551616 : Nat) : Int), .int .u64 ((s % 18446744073709551616 : Nat) : Int)]) ∧ Ext w w' := rhalves_c s hs w
/-- A number of 65 bits and a sign. -/
theorem neg_beq (a b : Int) (h : (a < 0) ↔ (b < 0)) : (decide (a < 0) == decide (b < 0)) = true := by simp [h]
set_option maxRecDepth 100000 in
set_option maxHeartbeats 800000 in
theorem rfadd_c (a b : Int) (ha : I64 a) (hb : I64 b) (w : World) : Calls Try.prog 29 #[.int .i64 a, .int .i64 b] w fun e w' => e = .returned (chk64 (a + b)) ∧ Ext w w' := by
  by_cases hsg : (a < 0) ↔ (b < 0)
  · have e1 := neg_beq a b hsg
    have C := sum_c _ _ (U64.abs ha) (U64.abs hb)
    rw [Int.toNat_natCast, Int.toNat_natCast] at C
    obtain ⟨s, hs⟩ : ∃ s, s = a.natAbs + b.natAbs := ⟨_, rfl⟩
    rw [← hs] at C
    have e2 : a + b = if decide (a < 0) = true then -(s : Int) else (s : Int) := by
      unfold I64 at ha hb
      by_cases h : a < 0 <;> simp [h] <;> omega
    have hsl : s ≤ 18446744073709551616 := by unfold I64 at ha hb; omega
    have C2 := rhalves_c s (by omega)
    have HC := Lib.hid C
    clear C hs
    by_cases h0 : s = 18446744073709551616
    · subst h0
      rw [chk64_no (by rw [e2]; unfold I64; split <;> omega)]
      have HC2 := Lib.hid C2
      clear C2 e2 hsg
      go_enter Try.func29, Try.ntmps29
      go_wp2_with fail
      refine (rsize_c a ha _).mono ?_
      rintro e w1 ⟨rfl, hxw1⟩
      have xw1 : Ext w w1 := Ext.trans (by repeat (first | (with_reducible exact Ext.refl _) | (with_reducible assumption) | (with_reducible refine Ext.alloc ?_ _) | (with_reducible refine Ext.drew ?_) | (with_reducible refine Ext.drewN ?_ _) | (with_reducible refine Ext.setCell ?_ (by simp; try omega) _) | (with_reducible refine Ext.setRow ?_ (by simp; try omega) _))) hxw1
      have lw1 := xw1.size
      go_wp2_with fail
      refine (rsize_c b hb _).mono ?_
      rintro e w2 ⟨rfl, hxw2⟩
      have xw2 : Ext w w2 := Ext.trans (by repeat (first | (with_reducible exact Ext.refl _) | (with_reducible assumption) | (with_reducible refine Ext.alloc ?_ _) | (with_reducible refine Ext.drew ?_) | (with_reducible refine Ext.drewN ?_ _) | (with_reducible refine Ext.setCell ?_ (by simp; try omega) _) | (with_reducible refine Ext.setRow ?_ (by simp; try omega) _))) hxw2
      have lw2 := xw2.size
      go_wp2_with fail
      refine (HC.out _).mono ?_
      rintro e w3 ⟨rfl, hxw3⟩
      have xw3 : Ext w w3 := Ext.trans (by repeat (first | (with_reducible exact Ext.refl _) | (with_reducible assumption) | (with_reducible refine Ext.alloc ?_ _) | (with_reducible refine Ext.drew ?_) | (with_reducible refine Ext.drewN ?_ _) | (with_reducible refine Ext.setCell ?_ (by simp; try omega) _) | (with_reducible refine Ext.setRow ?_ (by simp; try omega) _))) hxw3
      have lw3 := xw3.size
      go_wp2_with fail
      refine (HC2.out _).mono ?_
      rintro e w4 ⟨rfl, hxw4⟩
      have xw4 : Ext w w4 := Ext.trans (by repeat (first | (with_reducible exact Ext.refl _) | (with_reducible assumption) | (with_reducible refine Ext.alloc ?_ _) | (with_reducible refine Ext.drew ?_) | (with_reducible refine Ext.drewN ?_ _) | (with_reducible refine Ext.setCell ?_ (by simp; try omega) _) | (with_reducible refine Ext.setRow ?_ (by simp; try omega) _))) hxw4
      have lw4 := xw4.size
      go_wp2
      first | refine fin_ret rfl (fun K hK => ?_) | refine fin_norm rfl (fun K hK => ?_)
      simp [results, Try.results29, go_sem, rsat]
      try go_simp
      refine hK _ ?_
      clear hK K
      exact ⟨rfl, (by repeat (first | (with_reducible exact Ext.refl _) | (with_reducible assumption) | (with_reducible refine Ext.alloc ?_ _) | (with_reducible refine Ext.drew ?_) | (with_reducible refine Ext.drewN ?_ _) | (with_reducible refine Ext.setCell ?_ (by simp; try omega) _) | (with_reducible refine Ext.setRow ?_ (by simp; try omega) _)))⟩
    · have t1 : s / 18446744073709551616 = 0 := by omega
      have t2 : s % 18446744073709551616 = s := by omega
      rw [t1, t2] at C2
      have HC2 := Lib.hid C2
      have C3 := signed_c (s : Int) (decide (a < 0)) (U64.of_nat (by omega))
      rw [← e2] at C3
      obtain ⟨y, c, hy⟩ : ∃ y c, chk64 (a + b) = .tuple #[.int .i64 y, .bool c] := ⟨_, _, rfl⟩
      rw [hy] at C3 ⊢
      have HC3 := Lib.hid C3
      clear C2 C3 e2 hy t1 t2 hsg h0
      go_enter Try.func29, Try.ntmps29
      go_wp2_with fail
      refine (rsize_c a ha _).mono ?_
      rintro e w1 ⟨rfl, hxw1⟩
      have xw1 : Ext w w1 := Ext.trans (by repeat (first | (with_reducible exact Ext.refl _) | (with_reducible assumption) | (with_reducible refine Ext.alloc ?_ _) | (with_reducible refine Ext.drew ?_) | (with_reducible refine Ext.drewN ?_ _) | (with_reducible refine Ext.setCell ?_ (by simp; try omega) _) | (with_reducible refine Ext.setRow ?_ (by simp; try omega) _))) hxw1
      have lw1 := xw1.size
      go_wp2_with fail
      refine (rsize_c b hb _).mono ?_
      rintro e w2 ⟨rfl, hxw2⟩
      have xw2 : Ext w w2 := Ext.trans (by repeat (first | (with_reducible exact Ext.refl _) | (with_reducible assumption) | (with_reducible refine Ext.alloc ?_ _) | (with_reducible refine Ext.drew ?_) | (with_reducible refine Ext.drewN ?_ _) | (with_reducible refine Ext.setCell ?_ (by simp; try omega) _) | (with_reducible refine Ext.setRow ?_ (by simp; try omega) _))) hxw2
      have lw2 := xw2.size
      go_wp2_with fail
      refine (HC.out _).mono ?_
      rintro e w3 ⟨rfl, hxw3⟩
      have xw3 : Ext w w3 := Ext.trans (by repeat (first | (with_reducible exact Ext.refl _) | (with_reducible assumption) | (with_reducible refine Ext.alloc ?_ _) | (with_reducible refine Ext.drew ?_) | (with_reducible refine Ext.drewN ?_ _) | (with_reducible refine Ext.setCell ?_ (by simp; try omega) _) | (with_reducible refine Ext.setRow ?_ (by simp; try omega) _))) hxw3
      have lw3 := xw3.size
      go_wp2_with fail
      refine (HC2.out _).mono ?_
      rintro e w4 ⟨rfl, hxw4⟩
      have xw4 : Ext w w4 := Ext.trans (by repeat (first | (with_reducible exact Ext.refl _) | (with_reducible assumption) | (with_reducible refine Ext.alloc ?_ _) | (with_reducible refine Ext.drew ?_) | (with_reducible refine Ext.drewN ?_ _) | (with_reducible refine Ext.setCell ?_ (by simp; try omega) _) | (with_reducible refine Ext.setRow ?_ (by simp; try omega) _))) hxw4
      have lw4 := xw4.size
      go_wp2_with fail
      refine (HC3.out _).mono ?_
      rintro e w5 ⟨rfl, hxw5⟩
      have xw5 : Ext w w5 := Ext.trans (by repeat (first | (with_reducible exact Ext.refl _) | (with_reducible assumption) | (with_reducible refine Ext.alloc ?_ _) | (with_reducible refine Ext.drew ?_) | (with_reducible refine Ext.drewN ?_ _) | (with_reducible refine Ext.setCell ?_ (by simp; try omega) _) | (with_reducible refine Ext.setRow ?_ (by simp; try omega) _))) hxw5
      have lw5 := xw5.size
      go_wp2
      first | refine fin_ret rfl (fun K hK => ?_) | refine fin_norm rfl (fun K hK => ?_)
      simp [results, Try.results29, go_sem, rsat]
      try go_simp
      refine hK _ ?_
      clear hK K
      exact ⟨rfl, (by repeat (first | (with_reducible exact Ext.refl _) | (with_reducible assumption) | (with_reducible refine Ext.alloc ?_ _) | (with_reducible refine Ext.drew ?_) | (with_reducible refine Ext.drewN ?_ _) | (with_reducible refine Ext.setCell ?_ (by simp; try omega) _) | (with_reducible refine Ext.setRow ?_ (by simp; try omega) _)))⟩
  · have e1 : (decide (a < 0) == decide (b < 0)) = false := by
      rw [beq_eq_false_iff_ne]
      intro h
      exact hsg (by simpa using h)
    have hI : I64 (a + b) := by unfold I64 at *; omega
    rw [chk64_yes hI]
    clear hsg
    unfold I64 at hI
    go_enter Try.func29, Try.ntmps29
    go_wp2
    first | refine fin_ret rfl (fun K hK => ?_) | refine fin_norm rfl (fun K hK => ?_)
    simp [results, Try.results29, go_sem, rsat]
    try go_simp
    refine hK _ ?_
    clear hK K
    exact ⟨rfl, (by repeat (first | (with_reducible exact Ext.refl _) | (with_reducible assumption) | (with_reducible refine Ext.alloc ?_ _) | (with_reducible refine Ext.drew ?_) | (with_reducible refine Ext.drewN ?_ _) | (with_reducible refine Ext.setCell ?_ (by simp; try omega) _) | (with_reducible refine Ext.setRow ?_ (by simp; try omega) _)))⟩
end Go.Proofs.Ythfomohophmbaaa
