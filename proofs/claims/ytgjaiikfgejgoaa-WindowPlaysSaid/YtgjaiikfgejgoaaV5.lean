/- Windows: Mean, Roll. Condition: the window has at most 1000 trades. -/
import Derived.Test.YtgjaiikfgejgoaaV4
namespace Go.Proofs.Ytgjaiikfgejgoaa
open Go.RowKit
attribute [local go_sem] Later.cell QUpon_value QUpon_enter MUpon_value
theorem drop_len (c : Int) (l : List Tr) : (dropT c l).length ≤ l.length := by
  induction l with
  | nil => exact Nat.le_refl _
  | cons x l ih =>
    unfold dropT
    split
    · exact Nat.le_succ_of_le ih
    · exact Nat.le_refl _
theorem qtyN_pos {x : Tr} {l : List Tr} (h : x.Ok) : 0 < qtyN (x :: l) := by
  have := h.q0
  simp only [qtyN]
  omega
theorem worth_qty {l : List Tr} (h : ∀ x ∈ l, x.Ok) : worthN l ≤ 1099511627776 * qtyN l := by
  induction l with
  | nil => simp [worthN]
  | cons x l ih =>
    have h1 := ih (fun y hy => h y (by simp [hy]))
    have h2 := (h x (by simp)).p1
    have h3 : x.w ≤ 1099511627776 * x.q.toNat := Nat.mul_le_mul_right _ (by omega)
    simp only [worthN, qtyN]
    omega
theorem mean_lt {l : List Tr} (h : ∀ x ∈ l, x.Ok) : worthN l / qtyN l ≤ 1099511627776 := by
  refine Nat.div_le_of_le_mul ?_
  rw [Nat.mul_comm]
  exact worth_qty h
def meanV (grid : Int) (l : List Tr) : Int := max (downI ((worthN l / qtyN l : Nat) : Int) grid) grid
def meanR (grid : Int) (l : List Tr) : Value := match l with
  | [] => .tuple #[.int .i64 0, .bool false]
  | x :: l => .tuple #[.int .i64 (meanV grid (x :: l)), .bool true]
theorem wlo_small {n : Nat} (h : n < 9223372036854775808) : IntKind.i64.wrap (wlo n) = (n : Nat) := by
  unfold wlo
  rw [IntWalk.i64_left, wrap64_in ⟨by omega, by omega⟩]
  omega
theorem max_int (a b : Int) : (if a < b then b else a) = max a b := by omega
set_option maxHeartbeats 4000000 in
set_option maxRecDepth 100000 in
theorem mean_c (g : Nat) (A : Option Addr) (span grid ref last : Int) (l : List Tr) (t : Int) (ht : I64 t) (hsp : 1 ≤ span ∧ span ≤ 1099511627776) (hgr : 1 ≤ grid ∧ grid ≤ 1099511627776) (w : World) (hW : Win w g A span grid ref last l) (hn : l.length ≤ 1000) :
    Calls Try.prog 10 #[.pointer (some ⟨g, 0, none⟩), .int .i64 t] w fun e w' =>
      (comesB last t = false ∧ e = .returned (.tuple #[.int .i64 0, .bool false]) ∧ Ext w w') ∨
      (comesB last t = true ∧ e = .returned (meanR grid (dropT (t - span) l)) ∧ ∃ A', ablk A' = ablk A ∧ Win w' g A' span grid ref t (dropT (t - span) l) ∧ Chg w w' [g]) := by
  have hW0 := hW
  obtain ⟨hok, halt, c, hA, hR⟩ := hW0
  have C1 := comes_c g span grid ref last _ _ _ t w hA
  cases hc : comesB last t
  · refine Calls.mono (R := fun e w' => e = .returned (.tuple #[.int .i64 0, .bool false]) ∧ Ext w w') ?_ (fun e w' h => .inl ⟨rfl, h⟩)
    rw [hc] at C1
    clear hA hR hW
    go_enter Try.func10, Try.ntmps10
    go_wp2_with fail
    refine (C1).mono ?_
    rintro e w1 ⟨rfl, hxw1⟩
    have xw1 : Ext w w1 := Ext.trans (by repeat (first | (with_reducible exact Ext.refl _) | (with_reducible assumption) | (with_reducible refine Ext.alloc ?_ _) | (with_reducible refine Ext.drew ?_) | (with_reducible refine Ext.drewN ?_ _) | (with_reducible refine Ext.setCell ?_ (by simp; try omega) _) | (with_reducible refine Ext.setRow ?_ (by simp; try omega) _))) hxw1
    have lw1 := xw1.size
    go_wp2_with fail
    first | refine fin_ret rfl (fun K hK => ?_) | refine fin_norm rfl (fun K hK => ?_)
    simp [results, Try.results10, go_sem, rsat]
    try go_simp
    refine hK _ ?_
    clear hK K
    exact ⟨rfl, (by repeat (first | (with_reducible exact Ext.refl _) | (with_reducible assumption) | (with_reducible refine Ext.alloc ?_ _) | (with_reducible refine Ext.drew ?_) | (with_reducible refine Ext.drewN ?_ _) | (with_reducible refine Ext.setCell ?_ (by simp; try omega) _) | (with_reducible refine Ext.setRow ?_ (by simp; try omega) _)))⟩
  · refine Calls.mono (R := fun e w' => e = .returned (meanR grid (dropT (t - span) l)) ∧ ∃ A', ablk A' = ablk A ∧ Win w' g A' span grid ref t (dropT (t - span) l) ∧ Chg w w' [g]) ?_ (fun e w' h => .inr ⟨rfl, h⟩)
    rw [hc] at C1
    have hc' := of_decide_eq_true hc
    clear hc
    have sg := hA.lt
    have hgA : g ∉ ablk A := fun h => (halt g h).2 rfl
    go_enter Try.func10, Try.ntmps10
    go_wp2_with fail
    refine (C1).mono ?_
    rintro e w1 ⟨rfl, hxw1⟩
    have xw1 : Ext w w1 := Ext.trans (by repeat (first | (with_reducible exact Ext.refl _) | (with_reducible assumption) | (with_reducible refine Ext.alloc ?_ _) | (with_reducible refine Ext.drew ?_) | (with_reducible refine Ext.drewN ?_ _) | (with_reducible refine Ext.setCell ?_ (by simp; try omega) _) | (with_reducible refine Ext.setRow ?_ (by simp; try omega) _))) hxw1
    have lw1 := xw1.size
    have hA1 := hA.ext xw1
    have hR1 := hR.ext xw1
    have hC1 := Chg.of_ext xw1 [g]
    have sg1 := hA1.lt
    have b3 : w1.cell? ⟨g, 3, none⟩ = some (.int .i64 last) := hA1.cell 3
    have f3 := hA1.frozen 3
    go_wp2_with fail
    have hW1 : Win (w1.setCell ⟨g, 3, none⟩ (.int .i64 t)) g A span grid ref t l := ⟨hok, fun k hk => ⟨by have := (halt k hk).1; simp; omega, (halt k hk).2⟩, c, hA1.set 3 _, hR1.set hgA _⟩
    have hC2 : Chg w (w1.setCell ⟨g, 3, none⟩ (.int .i64 t)) [g] := (by repeat (first | (with_reducible exact Chg.refl _ _) | (with_reducible assumption) | (with_reducible refine Chg.alloc ?_ _) | (with_reducible refine Chg.drew ?_) | (with_reducible refine Chg.drewN ?_ _) | (with_reducible refine Chg.set ?_ (by simp; try omega) _) | (with_reducible refine Chg.setRow ?_ (by simp; try omega) _)))
    clear hA hR hA1 hR1 hC1 b3 f3 hW xw1
    refine (leave_c g A span grid ref t l t ⟨by omega, by omega⟩ _ hW1 hn).mono ?_
    rintro e w2 ⟨rfl, A2, hb2, hW2, hC3⟩
    have hC4 : Chg w w2 [g] := hC2.trans hC3
    have hl2 := drop_len (t - span) l
    clear hC2 hC3 hW1
    obtain ⟨hok2, halt2, c2, hA2, hR2⟩ := hW2
    have sg2 := hA2.lt
    have hgA2 : g ∉ ablk A2 := fun h => (halt2 g h).2 rfl
    rcases hd : dropT (t - span) l with _ | ⟨x, r⟩
    · rw [hd] at hok2 hA2 hR2 hl2
      have b4 : w2.cell? ⟨g, 4, none⟩ = some (.slice A2 0 c2) := hA2.cell 4
      go_wp2_with fail
      first | refine fin_ret rfl (fun K hK => ?_) | refine fin_norm rfl (fun K hK => ?_)
      simp [results, Try.results10, go_sem, rsat]
      try go_simp
      refine hK _ ?_
      clear hK K
      rw [hd]
      exact ⟨rfl, A2, hb2, ⟨hok2, halt2, c2, hA2, hR2⟩, hC4⟩
    · rw [hd] at hok2 hA2 hR2 hl2
      have hq0 := qtyN_pos (l := r) (hok2 x (by simp))
      have hq1 := ql_lt hok2 (Nat.le_trans hl2 hn)
      have hmn := mean_lt hok2
      have hwl : worthN (x :: r) < 340282366920938463463374607431768211456 := wl_lt (hok2 x (by simp)) (fun y hy => hok2 y (by simp [hy])) (Nat.le_of_succ_le (Nat.le_trans hl2 hn))
      have b4 : w2.cell? ⟨g, 4, none⟩ = some (.slice A2 (r.length + 1) c2) := hA2.cell 4
      obtain ⟨M, hM⟩ : ∃ M, M = worthN (x :: r) / qtyN (x :: r) := ⟨_, rfl⟩
      obtain ⟨Q, hQ⟩ : ∃ Q : Int, Q = ((qtyN (x :: r) : Nat) : Int) := ⟨_, rfl⟩
      have C5 := div_v (worthN (x :: r)) Q hwl ⟨by omega, by omega⟩ (by omega)
      rw [show Q.toNat = qtyN (x :: r) by omega, ← hM] at C5
      rw [← hM] at hmn
      have C6 := down_c (M : Int) grid ⟨by omega, by omega⟩ ⟨by omega, by omega⟩
      have hd0 := downI_le (p := (M : Int)) (g := grid) (by omega) hgr.1
      have hdV : downI (M : Int) grid = (M : Int) / grid * grid := if_neg (by omega)
      have hmV : meanV grid (x :: r) = max (downI (M : Int) grid) grid := by rw [hM]; rfl
      have b5 : w2.cell? ⟨g, 5, none⟩ = some (.int .u64 (whi (worthN (x :: r)))) := hA2.cell 5
      have b6 : w2.cell? ⟨g, 6, none⟩ = some (.int .u64 (wlo (worthN (x :: r)))) := hA2.cell 6
      have b7 : w2.cell? ⟨g, 7, none⟩ = some (.int .i64 Q) := by rw [hQ]; exact hA2.cell 7
      have eQ : IntKind.u64.wrap Q = Q := wrapU ⟨by omega, by omega⟩
      have eM := wlo_small (n := M) (by omega)
      generalize downI (M : Int) grid = D at C6 hmV hdV
      have hD0 : 0 ≤ D ∧ D ≤ 1099511627776 := by omega
      clear hdV hd0
      have HM := Lib.hid hM
      have HQ := Lib.hid hQ
      have Hq := Lib.hid hq0
      clear hM hQ hq0 hq1
      go_wp2_with fail
      refine gen_world (fun W => W = w2) rfl (fun w3 hF => ?_)
      subst hF
      refine wp_region_m 15 [0, 0, 0, 1, 0, 0, 0, 1, 0, 1, 0, 0, 0, 0, 2] 14 (Made w3 53 #[.int .u64 0, .int .u64 0]) _ (by kernel_rfl) (by kernel_rfl) rfl (by omega) rfl Made.ext ?_
      simp only [List.take_succ_cons, List.take_zero, List.drop_succ_cons, List.drop_zero]
      refine hl_pure (fun K hK => ?_)
      go_simp
      refine hK _ ?_
      clear hK K
      refine hl_pure (fun K hK => ?_)
      go_simp
      refine hK _ ?_
      clear hK K
      refine hl_pure (fun K hK => ?_)
      go_simp
      refine hK _ ?_
      clear hK K
      refine hl_quiet (fun K hK => ?_)
      go_simp
      refine hK _ ?_
      clear hK K
      refine hl_pure (fun K hK => ?_)
      go_simp
      refine hK _ ?_
      clear hK K
      refine hl_pure (fun K hK => ?_)
      go_simp
      refine hK _ ?_
      clear hK K
      refine hl_pure (fun K hK => ?_)
      go_simp
      refine hK _ ?_
      clear hK K
      refine hl_quiet (fun K hK => ?_)
      go_simp
      refine hK _ ?_
      clear hK K
      refine hl_pure (fun K hK => ?_)
      go_simp
      refine hK _ ?_
      clear hK K
      refine hl_quiet (fun K hK => ?_)
      go_simp
      first
        | (refine hK _ ?_; clear hK K)
        | (apply Exists.intro; refine ⟨fun x => ?_, hK _ ?_⟩
           · (exact C5 _)
           clear hK K)
      refine hl_pure (fun K hK => ?_)
      go_simp
      refine hK _ ?_
      clear hK K
      refine hl_pure (fun K hK => ?_)
      go_simp
      refine hK _ ?_
      clear hK K
      refine hl_pure (fun K hK => ?_)
      go_simp
      refine hK _ ?_
      clear hK K
      refine hl_pure (fun K hK => ?_)
      go_simp
      refine hK _ ?_
      clear hK K
      refine hl_make rfl (fun x => by go_simp; exact Later.made x _ _) ?_
      refine hl_nil ?_
      intro uw4 w4 hx4 hu4 K hK
      obtain ⟨g4, rfl, hg4, hA4⟩ := hu4
      have hA5 := hA2.ext hx4
      have hC5 := hC4.extR hx4
      have hR5 := hR2.ext hx4
      have hs4 := hx4.size
      have sg4 := hA4.lt
      have v0 : w4.cell? ⟨g4, 0, none⟩ = some (.int .u64 0) := hA4.cell 0
      have v1 : w4.cell? ⟨g4, 1, none⟩ = some (.int .u64 0) := hA4.cell 1
      have v2 := hA4.frozen 0
      have v3 := hA4.frozen 1
      have hg4' : w.heap.size ≤ g4 := by have := hC4.size; omega
      have ng : g ≠ g4 := by omega
      have ng' : g4 ≠ g := by omega
      go_wp2_with fail
      refine gen_world (fun W => Chg w W [g] ∧ g4 < W.heap.size ∧ At W g 55 (winCells span grid ref t (.slice A2 (r.length + 1) c2) (worthN (x :: r)) (qtyN (x :: r) : Nat)) ∧ At W g4 53 #[.int .u64 (whi M), .int .u64 (wlo M)] ∧ Row W 59 4 A2 (r.length + 1) c2 (trCells (x :: r))) ⟨(by repeat (first | (with_reducible exact Chg.refl _ _) | (with_reducible assumption) | (with_reducible refine Chg.alloc ?_ _) | (with_reducible refine Chg.drew ?_) | (with_reducible refine Chg.drewN ?_ _) | (with_reducible refine Chg.set ?_ (by simp; try omega) _) | (with_reducible refine Chg.setRow ?_ (by simp; try omega) _))), by simpa using sg4, (hA5.far (by simp; omega) _).far (by simp; omega) _, (hA4.set 0 _).set 1 _, (hR5.set (by intro h; have := (halt2 _ h).1; simp at this; omega) _).set (by intro h; have := (halt2 _ h).1; simp at this; omega) _⟩ (fun w6 hF => ?_)
      obtain ⟨hC6, hs6, hA6, hM6, hR6⟩ := hF
      have d1 : w6.cell? ⟨g4, 1, none⟩ = some (.int .u64 (wlo M)) := hM6.cell 1
      have d2 : w6.cell? ⟨g, 1, none⟩ = some (.int .i64 grid) := hA6.cell 1
      have sg6 := hA6.lt
      clear hA2 hR2 hA4 hA5 hR5 hC5 v0 v1 v2 v3 b4 b5 b6 b7
      refine wp_region_x 15 [0, 1, 0, 0, 0, 0, 1, 1, 0, 0, 0, 1, 0, 0, 0] (by kernel_rfl) (by kernel_rfl) (by kernel_rfl) ?_
      simp only [List.take_succ_cons, List.take_zero, List.drop_succ_cons, List.drop_zero]
      refine hl_pure (fun K hK => ?_)
      go_simp
      refine hK _ ?_
      clear hK K
      refine hl_quiet (fun K hK => ?_)
      go_simp
      refine hK _ ?_
      clear hK K
      refine hl_pure (fun K hK => ?_)
      go_simp
      refine hK _ ?_
      clear hK K
      refine hl_pure (fun K hK => ?_)
      go_simp
      refine hK _ ?_
      clear hK K
      refine hl_pure (fun K hK => ?_)
      go_simp
      refine hK _ ?_
      clear hK K
      refine hl_pure (fun K hK => ?_)
      go_simp
      refine hK _ ?_
      clear hK K
      refine hl_quiet (fun K hK => ?_)
      go_simp
      refine hK _ ?_
      clear hK K
      refine hl_quiet (fun K hK => ?_)
      go_simp
      first
        | (refine hK _ ?_; clear hK K)
        | (apply Exists.intro; refine ⟨fun x => ?_, hK _ ?_⟩
           · (exact C6 _)
           clear hK K)
      refine hl_pure (fun K hK => ?_)
      go_simp
      refine hK _ ?_
      clear hK K
      refine hl_pure (fun K hK => ?_)
      go_simp
      refine hK _ ?_
      clear hK K
      refine hl_pure (fun K hK => ?_)
      go_simp
      refine hK _ ?_
      clear hK K
      refine hl_quiet (fun K hK => ?_)
      go_simp
      refine hK _ ?_
      clear hK K
      refine hl_pure (fun K hK => ?_)
      go_simp
      refine hK _ ?_
      clear hK K
      refine hl_pure (fun K hK => ?_)
      go_simp
      refine hK _ ?_
      clear hK K
      refine hl_pure (fun K hK => ?_)
      go_simp
      refine hK _ ?_
      clear hK K
      refine hl_nil ?_
      intro w7 hx7 K7 hK7
      go_wp2_with fail
      all_goals
        first | refine fin_ret rfl (fun K hK => ?_) | refine fin_norm rfl (fun K hK => ?_)
        simp [results, Try.results10, go_sem, rsat]
        try go_simp
        refine hK _ ?_
        clear hK K
        refine ⟨?_, A2, hb2, ⟨hok2, fun k hk => ⟨by have := (halt2 k hk).1; have := hx7.size; have := hC6.size; omega, (halt2 k hk).2⟩, c2, hA6.ext hx7, hR6.ext hx7⟩, hC6.extR hx7⟩
        simp only [meanR]
        rw [hmV]
        congr 5
        omega
end Go.Proofs.Ytgjaiikfgejgoaa
