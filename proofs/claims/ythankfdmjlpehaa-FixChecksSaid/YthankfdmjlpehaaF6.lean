/- The walk of MulDiv of the reference of layer 2. No condition. -/
import Derived.Test.YthankfdmjlpehaaF5
import Derived.Test.YthankfdmjlpehaaA8
namespace Go.Proofs.Ythankfdmjlpehaa
open Go.RowKit
attribute [local go_sem] Later.cell QUpon_value QUpon_enter MUpon_value
attribute [local go_sem ↓ high] loadVar_is storeVar_is
attribute [local go_sem high] zero_bits
attribute [local go_sem] run_loadBits run_storeBits isArr_arr cellsAt_alloc_at cellsAt_alloc_past cellsAt_drew ltn_2 ltn_3 ltn_4 ltn_5 setRow_new setRow_past bitsOf cellsAt_later cellsAt_setRow_far

theorem lenN_pos (r : Nat) : 0 < lenN r ↔ 0 < r := by
  unfold lenN
  split <;> omega
theorem halves_fit (s : Nat) (h : s < 18446744073709551616) : ((s / 18446744073709551616 : Nat) : Int) = 0 ∧ ((s % 18446744073709551616 : Nat) : Int) = s := by omega

set_option maxRecDepth 100000 in
set_option maxHeartbeats 800000 in
theorem rmd_none (a b d : Int) (up : Bool) (ha : I64 a) (hb : I64 b) (hd : I64 d) (h : a < 0 ∨ b < 0 ∨ d < 1) (w : World) : Calls Try.prog 10 #[.int .i64 a, .int .i64 b, .int .i64 d, .bool up] w fun e w' => e = .returned (mdI a b d up) ∧ Ext w w' := by
  unfold mdI
  rw [if_pos h, chk64_out]
  by_cases h1 : a < 0
  ·
    go_enter Try.func10, Try.ntmps10
    go_wp2
    refine fin_ret rfl (fun K hK => ?_)
    simp [results, Try.results10, go_sem, rsat]
    try go_simp
    refine hK _ ?_
    clear hK K
    exact ⟨rfl, (by repeat (first | exact Ext.refl _ | assumption | refine Ext.alloc ?_ _ | refine Ext.drew ?_ | refine Ext.drewN ?_ _ | refine Ext.setCell ?_ (by simp; try omega) _))⟩
  · by_cases h2 : b < 0
    ·
      go_enter Try.func10, Try.ntmps10
      go_wp2
      refine fin_ret rfl (fun K hK => ?_)
      simp [results, Try.results10, go_sem, rsat]
      try go_simp
      refine hK _ ?_
      clear hK K
      exact ⟨rfl, (by repeat (first | exact Ext.refl _ | assumption | refine Ext.alloc ?_ _ | refine Ext.drew ?_ | refine Ext.drewN ?_ _ | refine Ext.setCell ?_ (by simp; try omega) _))⟩
    · have h3 : d < 1 := by omega
      clear h
      go_enter Try.func10, Try.ntmps10
      go_wp2
      refine fin_ret rfl (fun K hK => ?_)
      simp [results, Try.results10, go_sem, rsat]
      try go_simp
      refine hK _ ?_
      clear hK K
      exact ⟨rfl, (by repeat (first | exact Ext.refl _ | assumption | refine Ext.alloc ?_ _ | refine Ext.drew ?_ | refine Ext.drewN ?_ _ | refine Ext.setCell ?_ (by simp; try omega) _))⟩
/-- What follows the last number s: its halves, and whether it is an int64. -/
theorem tail_two (s : Nat) (hs : s < 340282366920938463463374607431768211456) : ∃ h l : Int, (∀ w, Calls Try.prog 40 #[bitsOf s] w fun e w' => e = .returned (.tuple #[.int .u64 h, .int .u64 l]) ∧ Ext w w') ∧ 0 ≤ h ∧
    ((0 < h ∧ chk64 (s : Int) = .tuple #[.int .i64 0, .bool false]) ∨ (h = 0 ∧ ∃ y c, chk64 (s : Int) = .tuple #[.int .i64 y, .bool c] ∧ ∀ w, Calls Try.prog 41 #[.int .u64 l, .bool false] w fun e w' => e = .returned (.tuple #[.int .i64 y, .bool c]) ∧ Ext w w')) := by
  refine ⟨_, _, rhalves_c s hs, by omega, ?_⟩
  by_cases h : 18446744073709551616 ≤ s
  · exact .inl ⟨by omega, chk64_no (by unfold I64; omega)⟩
  · refine .inr ⟨by omega, _, _, rfl, ?_⟩
    have := signed_c ((s % 18446744073709551616 : Nat) : Int) false (U64.mod s)
    simp only [Bool.false_eq_true, if_false] at this
    rw [(halves_fit s (by omega)).2] at this ⊢
    exact this

set_option maxRecDepth 100000 in
set_option maxHeartbeats 1600000 in
theorem rmd_plain (a b d : Int) (up : Bool) (ha : I64 a) (hb : I64 b) (hd : I64 d) (h1 : 0 ≤ a) (h2 : 0 ≤ b) (h3 : 1 ≤ d) (h : ¬ (up = true ∧ 0 < a.toNat * b.toNat % d.toNat)) (w : World) :
    Calls Try.prog 10 #[.int .i64 a, .int .i64 b, .int .i64 d, .bool up] w fun e w' => e = .returned (mdI a b d up) ∧ Ext w w' := by
  unfold mdI mdQ
  rw [if_neg (by omega), if_neg h, Nat.add_zero]
  unfold I64 at ha hb hd
  have ua : U64 a := ⟨h1, by omega⟩
  have ub : U64 b := ⟨h2, by omega⟩
  have ud : U64 d := ⟨by omega, by omega⟩
  obtain ⟨n, hn⟩ : ∃ n, n = a.toNat * b.toNat := ⟨_, rfl⟩
  have hnl : n < 340282366920938463463374607431768211456 := hn ▸ mul_lt ua.lt ub.lt
  have C1 := rmul_c a b ua ub
  have C2 := rdiv_c n d hnl ud (by omega)
  rw [← hn] at C1 h ⊢
  obtain ⟨q, hq⟩ : ∃ q, q = n / d.toNat := ⟨_, rfl⟩
  obtain ⟨r, hr⟩ : ∃ r, r = n % d.toNat := ⟨_, rfl⟩
  have hql : q < 340282366920938463463374607431768211456 := by rw [hq]; exact Nat.lt_of_le_of_lt (Nat.div_le_self _ _) hnl
  have hrl : r < 340282366920938463463374607431768211456 := by rw [hr]; exact Nat.lt_of_le_of_lt (Nat.mod_le _ _) hnl
  rw [← hq, ← hr] at C2
  rw [← hq]
  rw [← hr] at h
  have HC1 := Lib.hid C1
  have HC2 := Lib.hid C2
  obtain ⟨hh, hl, C3, hh0, hT⟩ := tail_two q hql
  have HC3 := Lib.hid C3
  clear C1 C2 C3 hn hq hr
  have hup : up = false ∨ (up = true ∧ lenN r = 0) := by
    rcases up with _ | _
    · exact .inl rfl
    · right; have := lenN_pos r; simp at h; exact ⟨rfl, by omega⟩
  clear h
  rcases hup with rfl | ⟨rfl, h0⟩
  · rcases hT with ⟨hp, hc⟩ | ⟨rfl, y, c, hc, C4⟩
    · rw [hc]
      clear hc
      go_enter Try.func10, Try.ntmps10
      go_wp2_with fail
      refine (HC1.out _).mono ?_
      rintro e w1 ⟨rfl, hxw1⟩
      have xw1 : Ext w w1 := Ext.trans (by repeat (first | exact Ext.refl _ | assumption | refine Ext.alloc ?_ _ | refine Ext.drew ?_ | refine Ext.drewN ?_ _ | refine Ext.setCell ?_ (by simp; try omega) _)) hxw1
      go_wp2_with fail
      refine (HC2.out _).mono ?_
      rintro e w2 ⟨rfl, hxw2⟩
      have xw2 : Ext w w2 := Ext.trans (by repeat (first | exact Ext.refl _ | assumption | refine Ext.alloc ?_ _ | refine Ext.drew ?_ | refine Ext.drewN ?_ _ | refine Ext.setCell ?_ (by simp; try omega) _)) hxw2
      go_wp2_with fail
      refine (HC3.out _).mono ?_
      rintro e w3 ⟨rfl, hxw3⟩
      have xw3 : Ext w w3 := Ext.trans (by repeat (first | exact Ext.refl _ | assumption | refine Ext.alloc ?_ _ | refine Ext.drew ?_ | refine Ext.drewN ?_ _ | refine Ext.setCell ?_ (by simp; try omega) _)) hxw3
      go_wp2
      refine fin_ret rfl (fun K hK => ?_)
      simp [results, Try.results10, go_sem, rsat]
      try go_simp
      refine hK _ ?_
      clear hK K
      exact ⟨rfl, (by repeat (first | exact Ext.refl _ | assumption | refine Ext.alloc ?_ _ | refine Ext.drew ?_ | refine Ext.drewN ?_ _ | refine Ext.setCell ?_ (by simp; try omega) _))⟩
    · rw [hc]
      have HC4 := Lib.hid C4
      clear hc C4
      go_enter Try.func10, Try.ntmps10
      go_wp2_with fail
      refine (HC1.out _).mono ?_
      rintro e w1 ⟨rfl, hxw1⟩
      have xw1 : Ext w w1 := Ext.trans (by repeat (first | exact Ext.refl _ | assumption | refine Ext.alloc ?_ _ | refine Ext.drew ?_ | refine Ext.drewN ?_ _ | refine Ext.setCell ?_ (by simp; try omega) _)) hxw1
      go_wp2_with fail
      refine (HC2.out _).mono ?_
      rintro e w2 ⟨rfl, hxw2⟩
      have xw2 : Ext w w2 := Ext.trans (by repeat (first | exact Ext.refl _ | assumption | refine Ext.alloc ?_ _ | refine Ext.drew ?_ | refine Ext.drewN ?_ _ | refine Ext.setCell ?_ (by simp; try omega) _)) hxw2
      go_wp2_with fail
      refine (HC3.out _).mono ?_
      rintro e w3 ⟨rfl, hxw3⟩
      have xw3 : Ext w w3 := Ext.trans (by repeat (first | exact Ext.refl _ | assumption | refine Ext.alloc ?_ _ | refine Ext.drew ?_ | refine Ext.drewN ?_ _ | refine Ext.setCell ?_ (by simp; try omega) _)) hxw3
      go_wp2_with fail
      refine (HC4.out _).mono ?_
      rintro e w4 ⟨rfl, hxw4⟩
      have xw4 : Ext w w4 := Ext.trans (by repeat (first | exact Ext.refl _ | assumption | refine Ext.alloc ?_ _ | refine Ext.drew ?_ | refine Ext.drewN ?_ _ | refine Ext.setCell ?_ (by simp; try omega) _)) hxw4
      go_wp2
      refine fin_ret rfl (fun K hK => ?_)
      simp [results, Try.results10, go_sem, rsat]
      try go_simp
      refine hK _ ?_
      clear hK K
      exact ⟨rfl, (by repeat (first | exact Ext.refl _ | assumption | refine Ext.alloc ?_ _ | refine Ext.drew ?_ | refine Ext.drewN ?_ _ | refine Ext.setCell ?_ (by simp; try omega) _))⟩
  · have C5 := rlen_c r hrl
    rw [h0] at C5
    have HC5 := Lib.hid C5
    clear C5 h0
    rcases hT with ⟨hp, hc⟩ | ⟨rfl, y, c, hc, C4⟩
    · rw [hc]
      clear hc
      go_enter Try.func10, Try.ntmps10
      go_wp2_with fail
      refine (HC1.out _).mono ?_
      rintro e w1 ⟨rfl, hxw1⟩
      have xw1 : Ext w w1 := Ext.trans (by repeat (first | exact Ext.refl _ | assumption | refine Ext.alloc ?_ _ | refine Ext.drew ?_ | refine Ext.drewN ?_ _ | refine Ext.setCell ?_ (by simp; try omega) _)) hxw1
      go_wp2_with fail
      refine (HC2.out _).mono ?_
      rintro e w2 ⟨rfl, hxw2⟩
      have xw2 : Ext w w2 := Ext.trans (by repeat (first | exact Ext.refl _ | assumption | refine Ext.alloc ?_ _ | refine Ext.drew ?_ | refine Ext.drewN ?_ _ | refine Ext.setCell ?_ (by simp; try omega) _)) hxw2
      go_wp2_with fail
      refine (HC5.out _).mono ?_
      rintro e w3 ⟨rfl, hxw3⟩
      have xw3 : Ext w w3 := Ext.trans (by repeat (first | exact Ext.refl _ | assumption | refine Ext.alloc ?_ _ | refine Ext.drew ?_ | refine Ext.drewN ?_ _ | refine Ext.setCell ?_ (by simp; try omega) _)) hxw3
      have Q_w3 := At.ext (g := w2.heap.size) (t := 45) (cs := arr fun j => q.testBit j) (by repeat (first | (with_reducible exact At.new _ _ _) | ((with_reducible refine At.new' _ _ _ _ ?_); simp; done) | (with_reducible assumption) | (with_reducible refine At.drew ?_) | (with_reducible refine At.alloc ?_ _))) hxw3
      clear hxw3
      have s_Q_w3 := Q_w3.lt
      have e_Q_w3 := cellsAt_at Q_w3
      go_wp2_with fail
      refine (HC3.out _).mono ?_
      rintro e w4 ⟨rfl, hxw4⟩
      have xw4 : Ext w w4 := Ext.trans (by repeat (first | exact Ext.refl _ | assumption | refine Ext.alloc ?_ _ | refine Ext.drew ?_ | refine Ext.drewN ?_ _ | refine Ext.setCell ?_ (by simp; try omega) _)) hxw4
      go_wp2
      refine fin_ret rfl (fun K hK => ?_)
      simp [results, Try.results10, go_sem, rsat]
      try go_simp
      refine hK _ ?_
      clear hK K
      exact ⟨rfl, (by repeat (first | exact Ext.refl _ | assumption | refine Ext.alloc ?_ _ | refine Ext.drew ?_ | refine Ext.drewN ?_ _ | refine Ext.setCell ?_ (by simp; try omega) _))⟩
    · rw [hc]
      have HC4 := Lib.hid C4
      clear hc C4
      go_enter Try.func10, Try.ntmps10
      go_wp2_with fail
      refine (HC1.out _).mono ?_
      rintro e w1 ⟨rfl, hxw1⟩
      have xw1 : Ext w w1 := Ext.trans (by repeat (first | exact Ext.refl _ | assumption | refine Ext.alloc ?_ _ | refine Ext.drew ?_ | refine Ext.drewN ?_ _ | refine Ext.setCell ?_ (by simp; try omega) _)) hxw1
      go_wp2_with fail
      refine (HC2.out _).mono ?_
      rintro e w2 ⟨rfl, hxw2⟩
      have xw2 : Ext w w2 := Ext.trans (by repeat (first | exact Ext.refl _ | assumption | refine Ext.alloc ?_ _ | refine Ext.drew ?_ | refine Ext.drewN ?_ _ | refine Ext.setCell ?_ (by simp; try omega) _)) hxw2
      go_wp2_with fail
      refine (HC5.out _).mono ?_
      rintro e w3 ⟨rfl, hxw3⟩
      have xw3 : Ext w w3 := Ext.trans (by repeat (first | exact Ext.refl _ | assumption | refine Ext.alloc ?_ _ | refine Ext.drew ?_ | refine Ext.drewN ?_ _ | refine Ext.setCell ?_ (by simp; try omega) _)) hxw3
      have Q_w3 := At.ext (g := w2.heap.size) (t := 45) (cs := arr fun j => q.testBit j) (by repeat (first | (with_reducible exact At.new _ _ _) | ((with_reducible refine At.new' _ _ _ _ ?_); simp; done) | (with_reducible assumption) | (with_reducible refine At.drew ?_) | (with_reducible refine At.alloc ?_ _))) hxw3
      clear hxw3
      have s_Q_w3 := Q_w3.lt
      have e_Q_w3 := cellsAt_at Q_w3
      go_wp2_with fail
      refine (HC3.out _).mono ?_
      rintro e w4 ⟨rfl, hxw4⟩
      have xw4 : Ext w w4 := Ext.trans (by repeat (first | exact Ext.refl _ | assumption | refine Ext.alloc ?_ _ | refine Ext.drew ?_ | refine Ext.drewN ?_ _ | refine Ext.setCell ?_ (by simp; try omega) _)) hxw4
      go_wp2_with fail
      refine (HC4.out _).mono ?_
      rintro e w5 ⟨rfl, hxw5⟩
      have xw5 : Ext w w5 := Ext.trans (by repeat (first | exact Ext.refl _ | assumption | refine Ext.alloc ?_ _ | refine Ext.drew ?_ | refine Ext.drewN ?_ _ | refine Ext.setCell ?_ (by simp; try omega) _)) hxw5
      go_wp2
      refine fin_ret rfl (fun K hK => ?_)
      simp [results, Try.results10, go_sem, rsat]
      try go_simp
      refine hK _ ?_
      clear hK K
      exact ⟨rfl, (by repeat (first | exact Ext.refl _ | assumption | refine Ext.alloc ?_ _ | refine Ext.drew ?_ | refine Ext.drewN ?_ _ | refine Ext.setCell ?_ (by simp; try omega) _))⟩
set_option maxRecDepth 100000 in
set_option maxHeartbeats 1600000 in
theorem rmd_up (a b d : Int) (ha : I64 a) (hb : I64 b) (hd : I64 d) (h1 : 0 ≤ a) (h2 : 0 ≤ b) (h3 : 1 ≤ d) (h : 0 < a.toNat * b.toNat % d.toNat) (w : World) :
    Calls Try.prog 10 #[.int .i64 a, .int .i64 b, .int .i64 d, .bool true] w fun e w' => e = .returned (mdI a b d true) ∧ Ext w w' := by
  unfold mdI mdQ
  rw [if_neg (by omega), if_pos ⟨rfl, h⟩]
  unfold I64 at ha hb hd
  have ua : U64 a := ⟨h1, by omega⟩
  have ub : U64 b := ⟨h2, by omega⟩
  have ud : U64 d := ⟨by omega, by omega⟩
  obtain ⟨n, hn⟩ : ∃ n, n = a.toNat * b.toNat := ⟨_, rfl⟩
  have hnl2 : n ≤ 85070591730234615847396907784232501249 := by
    rw [hn]
    have e1 : a.toNat * b.toNat ≤ 9223372036854775807 * b.toNat := Nat.mul_le_mul_right _ (by omega)
    have e2 : b.toNat ≤ 9223372036854775807 := by omega
    omega
  have hnl : n < 340282366920938463463374607431768211456 := by omega
  have C1 := rmul_c a b ua ub
  have C2 := rdiv_c n d hnl ud (by omega)
  rw [← hn] at C1 h ⊢
  obtain ⟨q, hq⟩ : ∃ q, q = n / d.toNat := ⟨_, rfl⟩
  obtain ⟨r, hr⟩ : ∃ r, r = n % d.toNat := ⟨_, rfl⟩
  have hql : q ≤ n := by rw [hq]; exact Nat.div_le_self _ _
  have hrl : r ≤ n := by rw [hr]; exact Nat.mod_le _ _
  rw [← hq, ← hr] at C2
  rw [← hq]
  rw [← hr] at h
  obtain ⟨s, hs⟩ : ∃ s, s = q + 1 := ⟨_, rfl⟩
  have C6 := of_c 0 1 ⟨by decide, by decide⟩ ⟨by decide, by decide⟩
  have eX : X 0 1 = 1 := rfl
  rw [eX] at C6
  have C7 := radd_c q 1 (by omega) (by decide)
  rw [Nat.mod_eq_of_lt (by omega), ← hs] at C7
  have C5 := rlen_c r (by omega)
  obtain ⟨k, hk⟩ : ∃ k, k = lenN r := ⟨_, rfl⟩
  have hk0 : 0 < k := by rw [hk]; exact (lenN_pos r).2 h
  rw [← hk] at C5
  rw [← hs]
  obtain ⟨hh, hl, C3, hh0, hT⟩ := tail_two s (by omega)
  have HC1 := Lib.hid C1
  have HC2 := Lib.hid C2
  have HC3 := Lib.hid C3
  have HC5 := Lib.hid C5
  have HC6 := Lib.hid C6
  have HC7 := Lib.hid C7
  clear C1 C2 C3 C5 C6 C7 eX hn hq hr hs hk h
  rcases hT with ⟨hp, hc⟩ | ⟨rfl, y, c, hc, C4⟩
  · rw [hc]
    clear hc
    go_enter Try.func10, Try.ntmps10
    go_wp2_with fail
    refine (HC1.out _).mono ?_
    rintro e w1 ⟨rfl, hxw1⟩
    have xw1 : Ext w w1 := Ext.trans (by repeat (first | exact Ext.refl _ | assumption | refine Ext.alloc ?_ _ | refine Ext.drew ?_ | refine Ext.drewN ?_ _ | refine Ext.setCell ?_ (by simp; try omega) _)) hxw1
    go_wp2_with fail
    refine (HC2.out _).mono ?_
    rintro e w2 ⟨rfl, hxw2⟩
    have xw2 : Ext w w2 := Ext.trans (by repeat (first | exact Ext.refl _ | assumption | refine Ext.alloc ?_ _ | refine Ext.drew ?_ | refine Ext.drewN ?_ _ | refine Ext.setCell ?_ (by simp; try omega) _)) hxw2
    go_wp2_with fail
    refine (HC5.out _).mono ?_
    rintro e w3 ⟨rfl, hxw3⟩
    have xw3 : Ext w w3 := Ext.trans (by repeat (first | exact Ext.refl _ | assumption | refine Ext.alloc ?_ _ | refine Ext.drew ?_ | refine Ext.drewN ?_ _ | refine Ext.setCell ?_ (by simp; try omega) _)) hxw3
    have lw := xw2.size
    have Q_w3 := At.ext (g := w2.heap.size) (t := 45) (cs := arr fun j => q.testBit j) (by repeat (first | (with_reducible exact At.new _ _ _) | ((with_reducible refine At.new' _ _ _ _ ?_); simp; done) | (with_reducible assumption) | (with_reducible refine At.drew ?_) | (with_reducible refine At.alloc ?_ _))) hxw3
    clear hxw3
    have s_Q_w3 := Q_w3.lt
    have e_Q_w3 := cellsAt_at Q_w3
    go_wp2_with fail
    refine wp_region_x 6 [1, 1, 1, 0, 0, 0] (by kernel_rfl) (by kernel_rfl) (by kernel_rfl) ?_
    simp only [List.take_succ_cons, List.take_zero, List.drop_succ_cons, List.drop_zero]
    refine hl_quiet (fun K hK => ?_)
    go_simp
    refine hK _ ?_
    clear hK K
    refine hl_quiet (fun K hK => ?_)
    go_simp
    first
      | (refine hK _ ?_; clear hK K)
      | (apply Exists.intro; refine ⟨fun x => ?_, hK _ ?_⟩
         · (exact HC6.out _)
         clear hK K)
    refine hl_quiet (fun K hK => ?_)
    go_simp
    first
      | (refine hK _ ?_; clear hK K)
      | (apply Exists.intro; refine ⟨fun x => ?_, hK _ ?_⟩
         · (exact HC7.out _)
         clear hK K)
    refine hl_pure (fun K hK => ?_)
    go_simp
    refine hK _ ?_
    clear hK K
    refine hl_pure (fun K hK => ?_)
    go_simp
    refine hK _ ?_
    clear hK K
    refine hl_pure (fun K hK => ?_)
    go_simp
    refine hK _ ?_
    clear hK K
    refine hl_nil ?_
    intro w4 hxw4 K hK
    have xw4 : Ext w w4 := Ext.trans (by repeat (first | exact Ext.refl _ | assumption | refine Ext.alloc ?_ _ | refine Ext.drew ?_ | refine Ext.drewN ?_ _ | refine Ext.setCell ?_ (by simp; try omega) _)) hxw4
    obtain ⟨hcw4, hfw4⟩ := hxw4.facts
    have hsw4 := hxw4.size
    try simp only [World.size_drew, World.size_alloc, World.size_setCell] at hsw4 hcw4 hfw4
    have Q_w4 := Q_w3.ext hxw4
    have e_Q_w4 := cellsAt_at Q_w4
    have s_Q_w4 := Q_w4.lt
    have e_S_w4 := cellsAt_at (Q_w4.setRow (arr fun j => s.testBit j))
    go_wp2_with fail
    refine (HC3.out _).mono ?_
    rintro e w5 ⟨rfl, hxw5⟩
    go_wp2
    refine fin_ret rfl (fun K hK => ?_)
    simp [results, Try.results10, go_sem, rsat]
    try go_simp
    refine hK _ ?_
    clear hK K
    exact ⟨rfl, Ext.trans (Ext.setRow xw4 (by omega) _) hxw5⟩
  · rw [hc]
    have HC4 := Lib.hid C4
    clear hc C4
    go_enter Try.func10, Try.ntmps10
    go_wp2_with fail
    refine (HC1.out _).mono ?_
    rintro e w1 ⟨rfl, hxw1⟩
    have xw1 : Ext w w1 := Ext.trans (by repeat (first | exact Ext.refl _ | assumption | refine Ext.alloc ?_ _ | refine Ext.drew ?_ | refine Ext.drewN ?_ _ | refine Ext.setCell ?_ (by simp; try omega) _)) hxw1
    go_wp2_with fail
    refine (HC2.out _).mono ?_
    rintro e w2 ⟨rfl, hxw2⟩
    have xw2 : Ext w w2 := Ext.trans (by repeat (first | exact Ext.refl _ | assumption | refine Ext.alloc ?_ _ | refine Ext.drew ?_ | refine Ext.drewN ?_ _ | refine Ext.setCell ?_ (by simp; try omega) _)) hxw2
    go_wp2_with fail
    refine (HC5.out _).mono ?_
    rintro e w3 ⟨rfl, hxw3⟩
    have xw3 : Ext w w3 := Ext.trans (by repeat (first | exact Ext.refl _ | assumption | refine Ext.alloc ?_ _ | refine Ext.drew ?_ | refine Ext.drewN ?_ _ | refine Ext.setCell ?_ (by simp; try omega) _)) hxw3
    have lw := xw2.size
    have Q_w3 := At.ext (g := w2.heap.size) (t := 45) (cs := arr fun j => q.testBit j) (by repeat (first | (with_reducible exact At.new _ _ _) | ((with_reducible refine At.new' _ _ _ _ ?_); simp; done) | (with_reducible assumption) | (with_reducible refine At.drew ?_) | (with_reducible refine At.alloc ?_ _))) hxw3
    clear hxw3
    have s_Q_w3 := Q_w3.lt
    have e_Q_w3 := cellsAt_at Q_w3
    go_wp2_with fail
    refine wp_region_x 6 [1, 1, 1, 0, 0, 0] (by kernel_rfl) (by kernel_rfl) (by kernel_rfl) ?_
    simp only [List.take_succ_cons, List.take_zero, List.drop_succ_cons, List.drop_zero]
    refine hl_quiet (fun K hK => ?_)
    go_simp
    refine hK _ ?_
    clear hK K
    refine hl_quiet (fun K hK => ?_)
    go_simp
    first
      | (refine hK _ ?_; clear hK K)
      | (apply Exists.intro; refine ⟨fun x => ?_, hK _ ?_⟩
         · (exact HC6.out _)
         clear hK K)
    refine hl_quiet (fun K hK => ?_)
    go_simp
    first
      | (refine hK _ ?_; clear hK K)
      | (apply Exists.intro; refine ⟨fun x => ?_, hK _ ?_⟩
         · (exact HC7.out _)
         clear hK K)
    refine hl_pure (fun K hK => ?_)
    go_simp
    refine hK _ ?_
    clear hK K
    refine hl_pure (fun K hK => ?_)
    go_simp
    refine hK _ ?_
    clear hK K
    refine hl_pure (fun K hK => ?_)
    go_simp
    refine hK _ ?_
    clear hK K
    refine hl_nil ?_
    intro w4 hxw4 K hK
    have xw4 : Ext w w4 := Ext.trans (by repeat (first | exact Ext.refl _ | assumption | refine Ext.alloc ?_ _ | refine Ext.drew ?_ | refine Ext.drewN ?_ _ | refine Ext.setCell ?_ (by simp; try omega) _)) hxw4
    obtain ⟨hcw4, hfw4⟩ := hxw4.facts
    have hsw4 := hxw4.size
    try simp only [World.size_drew, World.size_alloc, World.size_setCell] at hsw4 hcw4 hfw4
    have Q_w4 := Q_w3.ext hxw4
    have e_Q_w4 := cellsAt_at Q_w4
    have s_Q_w4 := Q_w4.lt
    have e_S_w4 := cellsAt_at (Q_w4.setRow (arr fun j => s.testBit j))
    go_wp2_with fail
    refine (HC3.out _).mono ?_
    rintro e w5 ⟨rfl, hxw5⟩
    go_wp2_with fail
    refine (HC4.out _).mono ?_
    rintro e w6 ⟨rfl, hxw6⟩
    go_wp2
    refine fin_ret rfl (fun K hK => ?_)
    simp [results, Try.results10, go_sem, rsat]
    try go_simp
    refine hK _ ?_
    clear hK K
    exact ⟨rfl, (Ext.trans (Ext.setRow xw4 (by omega) _) hxw5).trans hxw6⟩
theorem rmd_c (a b d : Int) (up : Bool) (ha : I64 a) (hb : I64 b) (hd : I64 d) (w : World) : Calls Try.prog 10 #[.int .i64 a, .int .i64 b, .int .i64 d, .bool up] w fun e w' => e = .returned (mdI a b d up) ∧ Ext w w' := by
  by_cases h : a < 0 ∨ b < 0 ∨ d < 1
  · exact rmd_none a b d up ha hb hd h w
  · by_cases h2 : up = true ∧ 0 < a.toNat * b.toNat % d.toNat
    · obtain ⟨rfl, h3⟩ := h2
      exact rmd_up a b d ha hb hd (by omega) (by omega) (by omega) h3 w
    · exact rmd_plain a b d up ha hb hd (by omega) (by omega) (by omega) h2 w
end Go.Proofs.Ythankfdmjlpehaa
