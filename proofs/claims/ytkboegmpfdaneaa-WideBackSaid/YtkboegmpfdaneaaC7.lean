/- The walk of law WideBack. -/
import Derived.Test.YtkboegmpfdaneaaC6
namespace Go.Proofs.Ytkboegmpfdaneaa
open Go.RowKit
attribute [local go_sem] Later.cell QUpon_value QUpon_enter MUpon_value

theorem back_prod {a b : Int} (ha : U64 a) (hb : U64 b) (h0 : 0 < b) : a.toNat * b.toNat / b.toNat = a.toNat ∧ a.toNat * b.toNat % b.toNat = 0 := by
  have : 0 < b.toNat := by omega
  exact ⟨Nat.mul_div_cancel _ this, Nat.mul_mod_left _ _⟩
theorem back_sum {N b qh ql : Nat} (hN : N < 340282366920938463463374607431768211456) (hb : 0 < b) (hbl : b < 18446744073709551616) (h : N / b = qh * 18446744073709551616 + ql) (hl : ql < 18446744073709551616) :
    qh * b < 18446744073709551616 ∧ ql * b + N % b < 340282366920938463463374607431768211456 ∧ ql * b + N % b + qh * b * 18446744073709551616 = N := by
  have e := Nat.div_add_mod N b
  rw [h] at e
  have e1 : b * (qh * 18446744073709551616 + ql) = qh * b * 18446744073709551616 + ql * b := by
    rw [Nat.mul_add, Nat.mul_comm b ql, Nat.mul_comm b (qh * _), Nat.mul_assoc, Nat.mul_comm 18446744073709551616 b, ← Nat.mul_assoc]
  rw [e1] at e
  generalize qh * b = x at *
  generalize ql * b = y at *
  omega

/-- A sum of two numbers that are told by their halves. -/
theorem add_wide (m n s : Nat) (hm : m < 340282366920938463463374607431768211456) (hn : n < 340282366920938463463374607431768211456) (hs : m + n = s) (hl : s < 340282366920938463463374607431768211456) (w : World) :
    Calls Try.prog 25 #[wide m, wide n] w fun e w' => e = .returned (.tuple #[wide s, .bool true]) ∧ Ext w w' := by
  refine (add_c _ _ _ _ (U64.div hm) (U64.mod m) (U64.div hn) (U64.mod n) w).mono ?_
  rintro e w' ⟨rfl, hx⟩
  refine ⟨?_, hx⟩
  rw [X_wide, X_wide, hs, Nat.mod_eq_of_lt hl, decide_eq_true hl]
theorem add_to (m n s : Nat) (v : Value) (hm : m < 340282366920938463463374607431768211456) (hn : n < 340282366920938463463374607431768211456) (hs : m + n = s) (hl : s < 340282366920938463463374607431768211456) (hv : wide s = v) (w : World) :
    Calls Try.prog 25 #[wide m, wide n] w fun e w' => e = .returned (.tuple #[v, .bool true]) ∧ Ext w w' := hv ▸ add_wide m n s hm hn hs hl w
theorem left_wide (m s : Nat) (hm : m < 18446744073709551616) (hs : m * 18446744073709551616 = s) (w : World) :
    Calls Try.prog 14 #[wide m, .int .i64 64] w fun e w' => e = .returned (wide s) ∧ Ext w w' := by
  refine (left_c _ _ 64 (U64.div (by omega)) (U64.mod m) w).mono ?_
  rintro e w' ⟨rfl, hx⟩
  refine ⟨?_, hx⟩
  have e1 : shl m 64 = s := by
    unfold shl
    rw [if_neg (by decide), ← hs]
    have : (2 : Nat) ^ (64 : Int).toNat = 18446744073709551616 := by decide
    rw [this]; omega
  rw [X_wide, e1]
theorem wide_lo (r : Nat) (h : r < 18446744073709551616) : wide r = .agg #[.int .u64 0, .int .u64 r] := by
  unfold wide
  rw [Nat.div_eq_of_lt h, Nat.mod_eq_of_lt h]; rfl
set_option maxRecDepth 100000 in
set_option maxHeartbeats 1600000 in
theorem wideback_zero (a c : Int) (w : World) : Calls Try.prog 7 #[.int .u64 a, .int .u64 0, .int .u64 c] w fun e w' => e = .returned (.bool true) ∧ Ext w w' := by
  go_enter Try.func7, Try.ntmps7
  go_wp2_with fail
  refine (alive_c _).mono ?_
  rintro e w1 ⟨rfl, hxw1⟩
  go_wp2
  refine fin_ret rfl (fun K hK => ?_)
  simp [results, Try.results7, go_sem, rsat]
  try go_simp
  refine hK _ ?_
  clear hK K
  exact ⟨rfl, hxw1⟩

set_option maxRecDepth 100000 in
set_option maxHeartbeats 1600000 in
theorem wideback_pos (a b c : Int) (ha : U64 a) (hb : U64 b) (hc : U64 c) (h0 : 0 < b) (w : World) : Calls Try.prog 7 #[.int .u64 a, .int .u64 b, .int .u64 c] w fun e w' => e = .returned (.bool true) ∧ Ext w w' := by
  have hb0 : (b == 0) = false := by simp; omega
  have hN := X_lt ha hc
  have hM := mul_lt ha.lt hb.lt
  obtain ⟨p1, p2⟩ := back_prod ha hb h0
  have D1 := div_c ((a.toNat * b.toNat / 18446744073709551616 : Nat) : Int) ((a.toNat * b.toNat % 18446744073709551616 : Nat) : Int) b (U64.div hM) (U64.mod _) hb h0
  rw [X_wide, p1, p2] at D1
  have ea : wide a.toNat = .agg #[.int .u64 0, .int .u64 a] := by
    have := wide_X (a := 0) (b := a) ⟨by decide, by decide⟩ ha
    rw [← this]; unfold X; simp
  rw [ea] at D1
  have D2 := div_c a c b ha hc hb h0
  obtain ⟨qh, ql, hq, hQ⟩ := wide_open (X a c / b.toNat)
  rw [hq] at D2
  have bl := hb.lt
  have hQl : X a c / b.toNat < 340282366920938463463374607431768211456 := Nat.lt_of_le_of_lt (Nat.div_le_self _ _) hN
  have uqh : U64 qh := hQ.out.1 ▸ U64.div hQl
  have uql : U64 ql := hQ.out.2 ▸ U64.mod _
  have hdiv : X a c / b.toNat = qh.toNat * 18446744073709551616 + ql.toNat := by
    have h1 := hQ.out.1
    have h2 := hQ.out.2
    generalize X a c / b.toNat = z at *
    omega
  obtain ⟨s1, s2, s3⟩ := back_sum hN (by omega) bl hdiv uql.lt
  obtain ⟨r, hr⟩ : ∃ r, r = X a c % b.toNat := ⟨_, rfl⟩
  rw [← hr] at D2 s2 s3
  have hrb : r < b.toNat := by rw [hr]; exact Nat.mod_lt _ (by omega)
  have HD1 := Lib.hid D1
  have HD2 := Lib.hid D2
  have HS := Lib.hid s3
  clear D1 D2 p1 p2 ea hq hr s3 hdiv
  go_enter Try.func7, Try.ntmps7
  go_wp2_with fail
  refine (mul_c a b ha hb _).mono ?_
  rintro e w1 ⟨rfl, hxw1⟩
  go_wp2_with fail
  refine (HD1.out _).mono ?_
  rintro e w2 ⟨rfl, hxw2⟩
  go_wp2_with fail
  refine (HD2.out _).mono ?_
  rintro e w3 ⟨rfl, hxw3⟩
  have x2 := hxw1.trans hxw2
  clear hxw1 hxw2
  have Q_w3 := At.ext (g := w2.heap.size) (t := 25) (cs := #[.int .u64 0, .int .u64 a]) (by repeat (first | (with_reducible exact At.new _ _ _) | ((with_reducible refine At.new' _ _ _ _ ?_); simp; done) | (with_reducible assumption) | (with_reducible refine At.drew ?_) | (with_reducible refine At.alloc ?_ _))) hxw3
  have V_w3 := At.ext (g := w2.heap.size + 1) (t := 25) (cs := #[.int .u64 a, .int .u64 c]) (by repeat (first | (with_reducible exact At.new _ _ _) | ((with_reducible refine At.new' _ _ _ _ ?_); simp; done) | (with_reducible assumption) | (with_reducible refine At.drew ?_) | (with_reducible refine At.alloc ?_ _))) hxw3
  have xw3 : Ext w w3 := Ext.trans (by repeat (first | exact Ext.refl _ | assumption | refine Ext.alloc ?_ _ | refine Ext.drew ?_ | refine Ext.drewN ?_ _ | refine Ext.setCell ?_ (by simp; try omega) _)) hxw3
  clear hxw3
  have s_Q_w3 := Q_w3.lt
  have c_Q_w3_0 := Q_w3.cell 0
  have f_Q_w3_0 := Q_w3.frozen 0
  have c_Q_w3_1 := Q_w3.cell 1
  have f_Q_w3_1 := Q_w3.frozen 1
  simp only [List.getElem?_toArray, List.getElem?_cons_zero, List.getElem?_cons_succ] at c_Q_w3_0 c_Q_w3_1
  have s_V_w3 := V_w3.lt
  have c_V_w3_0 := V_w3.cell 0
  have f_V_w3_0 := V_w3.frozen 0
  have c_V_w3_1 := V_w3.cell 1
  have f_V_w3_1 := V_w3.frozen 1
  simp only [List.getElem?_toArray, List.getElem?_cons_zero, List.getElem?_cons_succ] at c_V_w3_0 c_V_w3_1
  have l2 := x2.size
  go_wp2_with fail
  refine (mul_c ql b uql hb _).mono ?_
  rintro e w4 ⟨rfl, hxw4⟩
  have y4 : Ext w w4 := Ext.trans (by repeat (first | exact Ext.refl _ | assumption | refine Ext.alloc ?_ _ | refine Ext.drew ?_ | refine Ext.drewN ?_ _ | refine Ext.setCell ?_ (by simp; try omega) _)) hxw4
  have hQ4 : At w4 w2.heap.size 25 #[.int .u64 qh, .int .u64 ql] := ((Q_w3.set 0 (.int .u64 qh)).set 1 (.int .u64 ql)).ext hxw4
  have hV4 : At w4 (w2.heap.size + 1) 25 #[.int .u64 a, .int .u64 c] := ((V_w3.far (p := ⟨w2.heap.size, 0, none⟩) (by simp) (.int .u64 qh)).far (p := ⟨w2.heap.size, 1, none⟩) (by simp) (.int .u64 ql)).ext hxw4
  clear hxw4
  go_wp2_with fail
  rw [← wide_lo r (by omega)]
  refine (add_wide _ r _ (by omega) (by omega) rfl s2 _).mono ?_
  rintro e w5 ⟨rfl, hxw5⟩
  have QQ_w5 := At.ext (g := w2.heap.size) (t := 25) (cs := #[.int .u64 qh, .int .u64 ql]) (by repeat (first | (with_reducible exact At.new _ _ _) | ((with_reducible refine At.new' _ _ _ _ ?_); simp; done) | (with_reducible assumption) | (with_reducible refine At.drew ?_) | (with_reducible refine At.alloc ?_ _))) hxw5
  have VV_w5 := At.ext (g := w2.heap.size + 1) (t := 25) (cs := #[.int .u64 a, .int .u64 c]) (by repeat (first | (with_reducible exact At.new _ _ _) | ((with_reducible refine At.new' _ _ _ _ ?_); simp; done) | (with_reducible assumption) | (with_reducible refine At.drew ?_) | (with_reducible refine At.alloc ?_ _))) hxw5
  have xw5 : Ext w w5 := Ext.trans (by repeat (first | exact Ext.refl _ | assumption | refine Ext.alloc ?_ _ | refine Ext.drew ?_ | refine Ext.drewN ?_ _ | refine Ext.setCell ?_ (by simp; try omega) _)) hxw5
  clear Q_w3 s_Q_w3 c_Q_w3_0 f_Q_w3_0 c_Q_w3_1 f_Q_w3_1 V_w3 s_V_w3 c_V_w3_0 f_V_w3_0 c_V_w3_1 f_V_w3_1 hxw5 xw3
  have s_QQ_w5 := QQ_w5.lt
  have c_QQ_w5_0 := QQ_w5.cell 0
  have f_QQ_w5_0 := QQ_w5.frozen 0
  have c_QQ_w5_1 := QQ_w5.cell 1
  have f_QQ_w5_1 := QQ_w5.frozen 1
  simp only [List.getElem?_toArray, List.getElem?_cons_zero, List.getElem?_cons_succ] at c_QQ_w5_0 c_QQ_w5_1
  have s_VV_w5 := VV_w5.lt
  have c_VV_w5_0 := VV_w5.cell 0
  have f_VV_w5_0 := VV_w5.frozen 0
  have c_VV_w5_1 := VV_w5.cell 1
  have f_VV_w5_1 := VV_w5.frozen 1
  simp only [List.getElem?_toArray, List.getElem?_cons_zero, List.getElem?_cons_succ] at c_VV_w5_0 c_VV_w5_1
  clear hQ4 hV4
  obtain ⟨xh, xl, hx, hX⟩ := wide_open (ql.toNat * b.toNat + r)
  rw [hx]
  have HX := Lib.hid hx
  clear hx
  go_wp2_with fail
  refine gen_world (fun w6 => Ext w w6 ∧ At w6 (w2.heap.size) 25 (#[.int .u64 qh, .int .u64 ql]) ∧ At w6 (w2.heap.size + 1) 25 (#[.int .u64 a, .int .u64 c]) ∧ At w6 (w5.heap.size) 25 (#[.int .u64 xh, .int .u64 xl])) ⟨(by repeat (first | exact Ext.refl _ | assumption | refine Ext.alloc ?_ _ | refine Ext.drew ?_ | refine Ext.drewN ?_ _ | refine Ext.setCell ?_ (by simp; try omega) _)), (by repeat (first | (with_reducible exact At.new _ _ _) | ((with_reducible refine At.new' _ _ _ _ ?_); simp; done) | (with_reducible assumption) | (with_reducible refine At.drew ?_) | (with_reducible refine At.alloc ?_ _))), (by repeat (first | (with_reducible exact At.new _ _ _) | ((with_reducible refine At.new' _ _ _ _ ?_); simp; done) | (with_reducible assumption) | (with_reducible refine At.drew ?_) | (with_reducible refine At.alloc ?_ _))), (by repeat (first | (with_reducible exact At.new _ _ _) | ((with_reducible refine At.new' _ _ _ _ ?_); simp; done) | (with_reducible assumption) | (with_reducible refine At.drew ?_) | (with_reducible refine At.alloc ?_ _)))⟩ (fun w6 hFw6 => ?_)
  obtain ⟨xw6, QQ_w6, VV_w6, XX_w6⟩ := hFw6
  clear QQ_w5 s_QQ_w5 c_QQ_w5_0 f_QQ_w5_0 c_QQ_w5_1 f_QQ_w5_1 VV_w5 s_VV_w5 c_VV_w5_0 f_VV_w5_0 c_VV_w5_1 f_VV_w5_1 xw5
  have s_QQ_w6 := QQ_w6.lt
  have c_QQ_w6_0 := QQ_w6.cell 0
  have f_QQ_w6_0 := QQ_w6.frozen 0
  have c_QQ_w6_1 := QQ_w6.cell 1
  have f_QQ_w6_1 := QQ_w6.frozen 1
  simp only [List.getElem?_toArray, List.getElem?_cons_zero, List.getElem?_cons_succ] at c_QQ_w6_0 c_QQ_w6_1
  have s_VV_w6 := VV_w6.lt
  have c_VV_w6_0 := VV_w6.cell 0
  have f_VV_w6_0 := VV_w6.frozen 0
  have c_VV_w6_1 := VV_w6.cell 1
  have f_VV_w6_1 := VV_w6.frozen 1
  simp only [List.getElem?_toArray, List.getElem?_cons_zero, List.getElem?_cons_succ] at c_VV_w6_0 c_VV_w6_1
  have s_XX_w6 := XX_w6.lt
  have c_XX_w6_0 := XX_w6.cell 0
  have f_XX_w6_0 := XX_w6.frozen 0
  have c_XX_w6_1 := XX_w6.cell 1
  have f_XX_w6_1 := XX_w6.frozen 1
  simp only [List.getElem?_toArray, List.getElem?_cons_zero, List.getElem?_cons_succ] at c_XX_w6_0 c_XX_w6_1
  refine wp_region_m 11 [1, 0, 1, 0, 1, 1, 1, 0, 0, 0, 2] 10 (Made w6 25 #[.int .u64 0, .int .u64 0]) _ (by kernel_rfl) (by kernel_rfl) rfl (by omega) rfl Made.ext ?_
  simp only [List.take_succ_cons, List.take_zero, List.drop_succ_cons, List.drop_zero]
  refine hl_quiet (fun K hK => ?_)
  go_simp
  refine hK _ ?_
  clear hK K
  refine hl_pure (fun K hK => ?_)
  go_simp
  refine hK _ ?_
  clear hK K
  refine hl_quiet (fun K hK => ?_)
  go_simp
  refine hK _ ?_
  clear hK K
  refine hl_pure (fun K hK => ?_)
  go_simp
  refine hK _ ?_
  clear hK K
  refine hl_quiet (fun K hK => ?_)
  go_simp
  first
    | (refine hK _ ?_; clear hK K)
    | (apply Exists.intro; refine ⟨fun x => ?_, hK _ ?_⟩
       · (exact mul_c qh b uqh hb _)
       clear hK K)
  refine hl_quiet (fun K hK => ?_)
  go_simp
  first
    | (refine hK _ ?_; clear hK K)
    | (apply Exists.intro; refine ⟨fun x => ?_, hK _ ?_⟩
       · (exact left_wide _ _ s1 rfl _)
       clear hK K)
  refine hl_quiet (fun K hK => ?_)
  go_simp
  first
    | (refine hK _ ?_; clear hK K)
    | (apply Exists.intro; refine ⟨fun x => ?_, hK _ ?_⟩
       · ((rw [← HX.out]; exact add_to _ _ _ _ (by omega) (by omega) HS.out hN (wide_X ha hc) _))
       clear hK K)
  refine hl_pure (fun K hK => ?_)
  go_simp
  refine hK _ ?_
  clear hK K
  refine hl_pure (fun K hK => ?_)
  go_simp
  refine hK _ ?_
  clear hK K
  refine hl_pure (fun K hK => ?_)
  go_simp
  refine hK _ ?_
  clear hK K
  refine hl_make rfl (fun x => by go_simp; exact Later.made x _ _) ?_
  refine hl_nil ?_
  intro uw7 w7 hxw7 huw7 K hK
  obtain ⟨gw7, rfl, hgw7, hAw7⟩ := huw7
  have xw7 : Ext w w7 := Ext.trans (by repeat (first | exact Ext.refl _ | assumption | refine Ext.alloc ?_ _ | refine Ext.drew ?_ | refine Ext.drewN ?_ _ | refine Ext.setCell ?_ (by simp; try omega) _)) hxw7
  obtain ⟨hcw7, hfw7⟩ := hxw7.facts
  have hsw7 := hxw7.size
  try simp only [World.size_drew, World.size_alloc, World.size_setCell] at hsw7 hcw7 hfw7
  have hrb2 : (r : Int) < b := by omega
  have v1 := hAw7.cell 0
  have v2 := hAw7.cell 1
  have v3 := hAw7.frozen 0
  have v4 := hAw7.frozen 1
  have v5 := hAw7.lt
  have VV_w7 := VV_w6.ext hxw7
  have z1 := VV_w7.cell 0
  have z2 := VV_w7.cell 1
  have zz : w2.heap.size + 1 ≠ gw7 := by omega
  simp only [List.getElem?_toArray, List.getElem?_cons_zero, List.getElem?_cons_succ] at v1 v2 z1 z2
  go_wp2_with fail
  refine (alive_c _).mono ?_
  rintro e w8 ⟨rfl, hxw8⟩
  go_wp2
  refine fin_ret rfl (fun K hK => ?_)
  simp [results, Try.results7, go_sem, rsat]
  try go_simp
  refine hK _ ?_
  clear hK K
  have lw : w.heap.size ≤ gw7 := Nat.le_trans xw6.size hgw7
  exact ⟨rfl, Ext.trans (by repeat (first | exact Ext.refl _ | assumption | refine Ext.alloc ?_ _ | refine Ext.drew ?_ | refine Ext.drewN ?_ _ | refine Ext.setCell ?_ (by simp; try omega) _)) hxw8⟩
theorem wideback_c (a b c : Int) (ha : U64 a) (hb : U64 b) (hc : U64 c) (w : World) : Calls Try.prog 7 #[.int .u64 a, .int .u64 b, .int .u64 c] w fun e w' => e = .returned (.bool true) ∧ Ext w w' := by
  by_cases h : b = 0
  · subst h; exact wideback_zero a c w
  · exact wideback_pos a b c ha hb hc (by have := hb.nn; omega) w
end Go.Proofs.Ytkboegmpfdaneaa
