/- Windows by the document (layer 19): New, ticks, Add, Reset. Condition: at most 1000 trades. -/
import Derived.Test.YtgjaiikfgejgoaaV8
import Derived.Test.YtgjaiikfgejgoaaRp
import Derived.Test.YtgjaiikfgejgoaaF5
import Derived.Test.YtgjaiikfgejgoaaA7
import Derived.Test.YtgjaiikfgejgoaaA8
/- Windows by the document (layer 19): New, ticks, Add, Reset. Condition: at most 1000 trades. -/
namespace Go.Proofs.Ytgjaiikfgejgoaa
open Go.RowKit
attribute [local go_sem] Later.cell QUpon_value QUpon_enter MUpon_value Same.cell
def rwc (l : List Tr) : List Value := l.flatMap fun x => [.int .i64 x.t, .int .i64 x.p, .int .i64 x.q]
/-- The document's window. -/
structure RWin (w : World) (g : Nat) (A : Option Addr) (span grid ref last : Int) (l : List Tr) : Prop where
  alt : ∀ k ∈ ablk A, k < w.heap.size ∧ k ≠ g
  ex : ∃ c, At w g 43 #[.int .i64 span, .int .i64 grid, .int .i64 ref, .int .i64 last, .slice A l.length c] ∧ Row w 70 3 A l.length c (rwc l)
theorem RWin.ext {w w' : World} {g : Nat} {A : Option Addr} {span grid ref last : Int} {l : List Tr} (h : RWin w g A span grid ref last l) (hx : Ext w w') : RWin w' g A span grid ref last l :=
  ⟨fun k hk => ⟨Nat.lt_of_lt_of_le (h.alt k hk).1 hx.size, (h.alt k hk).2⟩, let ⟨c, hA, hR⟩ := h.ex; ⟨c, hA.ext hx, hR.ext hx⟩⟩
theorem RWin.chg {w w' : World} {g : Nat} {A : Option Addr} {span grid ref last : Int} {l : List Tr} {m : List Nat} (h : RWin w g A span grid ref last l) (hx : Chg w w' m) (hg : g ∉ m) (hA : ∀ k ∈ ablk A, k ∉ m) : RWin w' g A span grid ref last l :=
  ⟨fun k hk => ⟨Nat.lt_of_lt_of_le (h.alt k hk).1 hx.size, (h.alt k hk).2⟩, let ⟨c, hA1, hR⟩ := h.ex; ⟨c, hx.at hA1 hg, hR.chg hx hA⟩⟩
theorem trdInfo : (Try.prog.info? 70).map (fun i => (i.zero, i.size, i.bytes)) = some (some (.agg #[.int .i64 0, .int .i64 0, .int .i64 0]), 3, 24) := by kernel_rfl
theorem rpriced_c (p g : Int) (hp : I64 p) (hg : I64 g) (w : World) : Calls Try.prog 27 #[.int .i64 p, .int .i64 g] w fun e w' => e = .returned (.bool (pricedB p g)) ∧ Ext w w' := by
  have C := rprice_c p g hp hg
  unfold pricedB
  by_cases h : priceI p g = 0
  · rw [decide_eq_true h]
    rw [h] at C
    go_enter Try.func27, Try.ntmps27
    go_wp2_with fail
    refine (C _).mono ?_
    rintro e w1 ⟨rfl, hxw1⟩
    have xw1 : Ext w w1 := Ext.trans (by repeat (first | (with_reducible exact Ext.refl _) | (with_reducible assumption) | (with_reducible refine Ext.alloc ?_ _) | (with_reducible refine Ext.drew ?_) | (with_reducible refine Ext.drewN ?_ _) | (with_reducible refine Ext.setCell ?_ (by simp; try omega) _) | (with_reducible refine Ext.setRow ?_ (by simp; try omega) _))) hxw1
    have lw1 := xw1.size
    go_wp2_with fail
    first | refine fin_ret rfl (fun K hK => ?_) | refine fin_norm rfl (fun K hK => ?_)
    simp [results, Try.results27, go_sem, rsat]
    try go_simp
    refine hK _ ?_
    clear hK K
    exact ⟨rfl, (by repeat (first | (with_reducible exact Ext.refl _) | (with_reducible assumption) | (with_reducible refine Ext.alloc ?_ _) | (with_reducible refine Ext.drew ?_) | (with_reducible refine Ext.drewN ?_ _) | (with_reducible refine Ext.setCell ?_ (by simp; try omega) _) | (with_reducible refine Ext.setRow ?_ (by simp; try omega) _)))⟩
  · rw [decide_eq_false h]
    have hb : (priceI p g == 0) = false := beq_eq_false_iff_ne.2 h
    generalize priceI p g = n at C hb
    clear h
    go_enter Try.func27, Try.ntmps27
    go_wp2_with fail
    refine (C _).mono ?_
    rintro e w1 ⟨rfl, hxw1⟩
    have xw1 : Ext w w1 := Ext.trans (by repeat (first | (with_reducible exact Ext.refl _) | (with_reducible assumption) | (with_reducible refine Ext.alloc ?_ _) | (with_reducible refine Ext.drew ?_) | (with_reducible refine Ext.drewN ?_ _) | (with_reducible refine Ext.setCell ?_ (by simp; try omega) _) | (with_reducible refine Ext.setRow ?_ (by simp; try omega) _))) hxw1
    have lw1 := xw1.size
    go_wp2_with fail
    first | refine fin_ret rfl (fun K hK => ?_) | refine fin_norm rfl (fun K hK => ?_)
    simp [results, Try.results27, go_sem, rsat]
    try go_simp
    refine hK _ ?_
    clear hK K
    exact ⟨rfl, (by repeat (first | (with_reducible exact Ext.refl _) | (with_reducible assumption) | (with_reducible refine Ext.alloc ?_ _) | (with_reducible refine Ext.drew ?_) | (with_reducible refine Ext.drewN ?_ _) | (with_reducible refine Ext.setCell ?_ (by simp; try omega) _) | (with_reducible refine Ext.setRow ?_ (by simp; try omega) _)))⟩
theorem rnew_no (span grid ref : Int) (hs : I64 span) (hg : I64 grid) (hr : I64 ref) (w : World) (hb : newB span grid ref = false) :
    Calls Try.prog 13 #[.int .i64 span, .int .i64 grid, .int .i64 ref] w fun e w' => e = .returned (.tuple #[.pointer none, .int .i64 9]) ∧ Ext w w' := by
  have C := rpriced_c ref grid hr hg
  by_cases h1 : span < 1
  · clear hb
    go_enter Try.func13, Try.ntmps13
    go_wp2_with fail
    first | refine fin_ret rfl (fun K hK => ?_) | refine fin_norm rfl (fun K hK => ?_)
    simp [results, Try.results13, go_sem, rsat]
    try go_simp
    refine hK _ ?_
    clear hK K
    exact ⟨rfl, (by repeat (first | (with_reducible exact Ext.refl _) | (with_reducible assumption) | (with_reducible refine Ext.alloc ?_ _) | (with_reducible refine Ext.drew ?_) | (with_reducible refine Ext.drewN ?_ _) | (with_reducible refine Ext.setCell ?_ (by simp; try omega) _) | (with_reducible refine Ext.setRow ?_ (by simp; try omega) _)))⟩
  by_cases h2 : 1099511627776 < span
  · clear hb
    go_enter Try.func13, Try.ntmps13
    go_wp2_with fail
    first | refine fin_ret rfl (fun K hK => ?_) | refine fin_norm rfl (fun K hK => ?_)
    simp [results, Try.results13, go_sem, rsat]
    try go_simp
    refine hK _ ?_
    clear hK K
    exact ⟨rfl, (by repeat (first | (with_reducible exact Ext.refl _) | (with_reducible assumption) | (with_reducible refine Ext.alloc ?_ _) | (with_reducible refine Ext.drew ?_) | (with_reducible refine Ext.drewN ?_ _) | (with_reducible refine Ext.setCell ?_ (by simp; try omega) _) | (with_reducible refine Ext.setRow ?_ (by simp; try omega) _)))⟩
  by_cases h3 : grid < 1
  · clear hb
    go_enter Try.func13, Try.ntmps13
    go_wp2_with fail
    first | refine fin_ret rfl (fun K hK => ?_) | refine fin_norm rfl (fun K hK => ?_)
    simp [results, Try.results13, go_sem, rsat]
    try go_simp
    refine hK _ ?_
    clear hK K
    exact ⟨rfl, (by repeat (first | (with_reducible exact Ext.refl _) | (with_reducible assumption) | (with_reducible refine Ext.alloc ?_ _) | (with_reducible refine Ext.drew ?_) | (with_reducible refine Ext.drewN ?_ _) | (with_reducible refine Ext.setCell ?_ (by simp; try omega) _) | (with_reducible refine Ext.setRow ?_ (by simp; try omega) _)))⟩
  by_cases h4 : 1099511627776 < grid
  · clear hb
    go_enter Try.func13, Try.ntmps13
    go_wp2_with fail
    first | refine fin_ret rfl (fun K hK => ?_) | refine fin_norm rfl (fun K hK => ?_)
    simp [results, Try.results13, go_sem, rsat]
    try go_simp
    refine hK _ ?_
    clear hK K
    exact ⟨rfl, (by repeat (first | (with_reducible exact Ext.refl _) | (with_reducible assumption) | (with_reducible refine Ext.alloc ?_ _) | (with_reducible refine Ext.drew ?_) | (with_reducible refine Ext.drewN ?_ _) | (with_reducible refine Ext.setCell ?_ (by simp; try omega) _) | (with_reducible refine Ext.setRow ?_ (by simp; try omega) _)))⟩
  unfold newB at hb
  rw [decide_eq_true (⟨by omega, by omega, by omega⟩ : 1 ≤ span ∧ span ≤ 1099511627776 ∧ grid ≤ 1099511627776), Bool.true_and] at hb
  rw [hb] at C
  clear hb
  go_enter Try.func13, Try.ntmps13
  go_wp2_with fail
  refine (C _).mono ?_
  rintro e w1 ⟨rfl, hxw1⟩
  have xw1 : Ext w w1 := Ext.trans (by repeat (first | (with_reducible exact Ext.refl _) | (with_reducible assumption) | (with_reducible refine Ext.alloc ?_ _) | (with_reducible refine Ext.drew ?_) | (with_reducible refine Ext.drewN ?_ _) | (with_reducible refine Ext.setCell ?_ (by simp; try omega) _) | (with_reducible refine Ext.setRow ?_ (by simp; try omega) _))) hxw1
  have lw1 := xw1.size
  go_wp2_with fail
  first | refine fin_ret rfl (fun K hK => ?_) | refine fin_norm rfl (fun K hK => ?_)
  simp [results, Try.results13, go_sem, rsat]
  try go_simp
  refine hK _ ?_
  clear hK K
  exact ⟨rfl, (by repeat (first | (with_reducible exact Ext.refl _) | (with_reducible assumption) | (with_reducible refine Ext.alloc ?_ _) | (with_reducible refine Ext.drew ?_) | (with_reducible refine Ext.drewN ?_ _) | (with_reducible refine Ext.setCell ?_ (by simp; try omega) _) | (with_reducible refine Ext.setRow ?_ (by simp; try omega) _)))⟩
theorem newB_parts {span grid ref : Int} (hb : newB span grid ref = true) : (1 ≤ span ∧ span ≤ 1099511627776) ∧ (1 ≤ grid ∧ grid ≤ 1099511627776) ∧ pricedB ref grid = true := by
  unfold newB at hb
  rw [Bool.and_eq_true, decide_eq_true_eq] at hb
  have h2 := hb.2
  unfold pricedB at h2
  have := ((priceI_iff _ _).1 (of_decide_eq_true h2)).1
  exact ⟨⟨hb.1.1, hb.1.2.1⟩, ⟨this, hb.1.2.2⟩, hb.2⟩
theorem rnew_yes (span grid ref : Int) (hs : I64 span) (hg : I64 grid) (hr : I64 ref) (w : World) (hb : newB span grid ref = true) :
    Calls Try.prog 13 #[.int .i64 span, .int .i64 grid, .int .i64 ref] w fun e w' => Ext w w' ∧ ∃ g, w.heap.size ≤ g ∧ e = .returned (.tuple #[.pointer (some ⟨g, 0, none⟩), .int .i64 0]) ∧ RWin w' g none span grid ref 0 [] := by
  have C := rpriced_c ref grid hr hg
  obtain ⟨⟨h1, h2⟩, ⟨h3, h4⟩, h5⟩ := newB_parts hb
  rw [h5] at C
  have n1 : ¬ span < 1 := by omega
  have n2 : ¬ 1099511627776 < span := by omega
  have n3 : ¬ grid < 1 := by omega
  have n4 : ¬ 1099511627776 < grid := by omega
  clear hb h5
  go_enter Try.func13, Try.ntmps13
  go_wp2_with fail
  refine (C _).mono ?_
  rintro e w1 ⟨rfl, hxw1⟩
  have xw1 : Ext w w1 := Ext.trans (by repeat (first | (with_reducible exact Ext.refl _) | (with_reducible assumption) | (with_reducible refine Ext.alloc ?_ _) | (with_reducible refine Ext.drew ?_) | (with_reducible refine Ext.drewN ?_ _) | (with_reducible refine Ext.setCell ?_ (by simp; try omega) _) | (with_reducible refine Ext.setRow ?_ (by simp; try omega) _))) hxw1
  have lw1 := xw1.size
  go_wp2_with fail
  first | refine fin_ret rfl (fun K hK => ?_) | refine fin_norm rfl (fun K hK => ?_)
  simp [results, Try.results13, go_sem, rsat]
  try go_simp
  refine hK _ ?_
  clear hK K
  refine ⟨(by repeat (first | (with_reducible exact Ext.refl _) | (with_reducible assumption) | (with_reducible refine Ext.alloc ?_ _) | (with_reducible refine Ext.drew ?_) | (with_reducible refine Ext.drewN ?_ _) | (with_reducible refine Ext.setCell ?_ (by simp; try omega) _) | (with_reducible refine Ext.setRow ?_ (by simp; try omega) _))), w1.heap.size, by omega, rfl, ⟨by simp [ablk], 0, ?_, Row.nil _ _ _ _⟩⟩
  exact At.new _ _ _
theorem rticks_c (g : Nat) (A : Option Addr) (span grid ref last : Int) (l : List Tr) (t : Int) (w : World) (h : RWin w g A span grid ref last l) :
    Calls Try.prog 39 #[.pointer (some ⟨g, 0, none⟩), .int .i64 t] w fun e w' => e = .returned (.bool (comesB last t)) ∧ Ext w w' := by
  obtain ⟨_, c, hA, _⟩ := h
  have c3 : w.cell? ⟨g, 3, none⟩ = some (.int .i64 last) := hA.cell 3
  clear hA
  unfold comesB
  by_cases h1 : t < 0
  · rw [decide_eq_false (by omega)]
    go_enter Try.func39, Try.ntmps39
    go_wp2_with fail
    first | refine fin_ret rfl (fun K hK => ?_) | refine fin_norm rfl (fun K hK => ?_)
    simp [results, Try.results39, go_sem, rsat]
    try go_simp
    refine hK _ ?_
    clear hK K
    refine ⟨?_, (by repeat (first | (with_reducible exact Ext.refl _) | (with_reducible assumption) | (with_reducible refine Ext.alloc ?_ _) | (with_reducible refine Ext.drew ?_) | (with_reducible refine Ext.drewN ?_ _) | (with_reducible refine Ext.setCell ?_ (by simp; try omega) _) | (with_reducible refine Ext.setRow ?_ (by simp; try omega) _)))⟩
    first | rfl | (simp; omega)
  by_cases h2 : 1152921504606846976 < t
  · rw [decide_eq_false (by omega)]
    go_enter Try.func39, Try.ntmps39
    go_wp2_with fail
    first | refine fin_ret rfl (fun K hK => ?_) | refine fin_norm rfl (fun K hK => ?_)
    simp [results, Try.results39, go_sem, rsat]
    try go_simp
    refine hK _ ?_
    clear hK K
    refine ⟨?_, (by repeat (first | (with_reducible exact Ext.refl _) | (with_reducible assumption) | (with_reducible refine Ext.alloc ?_ _) | (with_reducible refine Ext.drew ?_) | (with_reducible refine Ext.drewN ?_ _) | (with_reducible refine Ext.setCell ?_ (by simp; try omega) _) | (with_reducible refine Ext.setRow ?_ (by simp; try omega) _)))⟩
    first | rfl | (simp; omega)
  by_cases h3 : t < last
  · rw [decide_eq_false (by omega)]
    go_enter Try.func39, Try.ntmps39
    go_wp2_with fail
    first | refine fin_ret rfl (fun K hK => ?_) | refine fin_norm rfl (fun K hK => ?_)
    simp [results, Try.results39, go_sem, rsat]
    try go_simp
    refine hK _ ?_
    clear hK K
    refine ⟨?_, (by repeat (first | (with_reducible exact Ext.refl _) | (with_reducible assumption) | (with_reducible refine Ext.alloc ?_ _) | (with_reducible refine Ext.drew ?_) | (with_reducible refine Ext.drewN ?_ _) | (with_reducible refine Ext.setCell ?_ (by simp; try omega) _) | (with_reducible refine Ext.setRow ?_ (by simp; try omega) _)))⟩
    first | rfl | (simp; omega)
  rw [decide_eq_true (by omega)]
  go_enter Try.func39, Try.ntmps39
  go_wp2_with fail
  first | refine fin_ret rfl (fun K hK => ?_) | refine fin_norm rfl (fun K hK => ?_)
  simp [results, Try.results39, go_sem, rsat]
  try go_simp
  refine hK _ ?_
  clear hK K
  refine ⟨?_, (by repeat (first | (with_reducible exact Ext.refl _) | (with_reducible assumption) | (with_reducible refine Ext.alloc ?_ _) | (with_reducible refine Ext.drew ?_) | (with_reducible refine Ext.drewN ?_ _) | (with_reducible refine Ext.setCell ?_ (by simp; try omega) _) | (with_reducible refine Ext.setRow ?_ (by simp; try omega) _)))⟩
  first | rfl | (simp; omega)
theorem rreset_c (g : Nat) (A : Option Addr) (span grid ref last : Int) (l : List Tr) (r : Int) (hr : I64 r) (hg : I64 grid) (w : World) (hW : RWin w g A span grid ref last l) :
    Calls Try.prog 31 #[.pointer (some ⟨g, 0, none⟩), .int .i64 r] w fun e w' =>
      (pricedB r grid = false ∧ e = .returned (.int .i64 9) ∧ Ext w w') ∨
      (pricedB r grid = true ∧ e = .returned (.int .i64 0) ∧ RWin w' g none span grid r last [] ∧ Chg w w' [g]) := by
  obtain ⟨_, c, hA, _⟩ := hW
  have C1 := rpriced_c r grid hr hg
  have c1 : w.cell? ⟨g, 1, none⟩ = some (.int .i64 grid) := hA.cell 1
  cases hb : pricedB r grid
  · refine Calls.mono (R := fun e w' => e = .returned (.int .i64 9) ∧ Ext w w') ?_ (fun e w' h => .inl ⟨rfl, h⟩)
    rw [hb] at C1
    clear hb
    go_enter Try.func31, Try.ntmps31
    go_wp2_with fail
    refine (C1 _).mono ?_
    rintro e w1 ⟨rfl, hxw1⟩
    have xw1 : Ext w w1 := Ext.trans (by repeat (first | (with_reducible exact Ext.refl _) | (with_reducible assumption) | (with_reducible refine Ext.alloc ?_ _) | (with_reducible refine Ext.drew ?_) | (with_reducible refine Ext.drewN ?_ _) | (with_reducible refine Ext.setCell ?_ (by simp; try omega) _) | (with_reducible refine Ext.setRow ?_ (by simp; try omega) _))) hxw1
    have lw1 := xw1.size
    go_wp2_with fail
    first | refine fin_ret rfl (fun K hK => ?_) | refine fin_norm rfl (fun K hK => ?_)
    simp [results, Try.results31, go_sem, rsat]
    try go_simp
    refine hK _ ?_
    clear hK K
    exact ⟨rfl, (by repeat (first | (with_reducible exact Ext.refl _) | (with_reducible assumption) | (with_reducible refine Ext.alloc ?_ _) | (with_reducible refine Ext.drew ?_) | (with_reducible refine Ext.drewN ?_ _) | (with_reducible refine Ext.setCell ?_ (by simp; try omega) _) | (with_reducible refine Ext.setRow ?_ (by simp; try omega) _)))⟩
  · refine Calls.mono (R := fun e w' => e = .returned (.int .i64 0) ∧ RWin w' g none span grid r last [] ∧ Chg w w' [g]) ?_ (fun e w' h => .inr ⟨rfl, h⟩)
    rw [hb] at C1
    clear hb
    go_enter Try.func31, Try.ntmps31
    go_wp2_with fail
    refine (C1 _).mono ?_
    rintro e w1 ⟨rfl, hxw1⟩
    have xw1 : Ext w w1 := Ext.trans (by repeat (first | (with_reducible exact Ext.refl _) | (with_reducible assumption) | (with_reducible refine Ext.alloc ?_ _) | (with_reducible refine Ext.drew ?_) | (with_reducible refine Ext.drewN ?_ _) | (with_reducible refine Ext.setCell ?_ (by simp; try omega) _) | (with_reducible refine Ext.setRow ?_ (by simp; try omega) _))) hxw1
    have lw1 := xw1.size
    have hA1 := hA.ext xw1
    have f2 := hA1.frozen 2
    have f4 := hA1.frozen 4
    have sg := hA1.lt
    have d2 : w1.cell? ⟨g, 2, none⟩ = some (.int .i64 ref) := hA1.cell 2
    have d4 : w1.cell? ⟨g, 4, none⟩ = some (.slice A l.length c) := hA1.cell 4
    go_wp2_with fail
    first | refine fin_ret rfl (fun K hK => ?_) | refine fin_norm rfl (fun K hK => ?_)
    simp [results, Try.results31, go_sem, rsat]
    try go_simp
    refine hK _ ?_
    clear hK K
    exact ⟨rfl, ⟨by simp [ablk], 0, (hA1.set 2 _).set 4 _, Row.nil _ _ _ _⟩, ((Chg.of_ext xw1 _).set (.inl (by simp)) _).set (.inl (by simp)) _⟩
theorem rwc_app (l : List Tr) (x : Tr) : rwc (l ++ [x]) = rwc l ++ [.int .i64 x.t, .int .i64 x.p, .int .i64 x.q] := by unfold rwc; rw [List.flatMap_append]; simp
end Go.Proofs.Ytgjaiikfgejgoaa
/- Windows by the document (layer 19): Add. Condition: less than 1000 trades. -/
namespace Go.Proofs.Ytgjaiikfgejgoaa
open Go.RowKit
attribute [local go_sem] Later.cell QUpon_value QUpon_enter MUpon_value Same.cell
theorem rwc_len (l : List Tr) : (rwc l).length = l.length * 3 := by
  induction l with
  | nil => rfl
  | cons x l ih => simp only [rwc, List.flatMap_cons, List.length_append, List.length_cons, List.length_nil] at ih ⊢; omega
theorem rwc_one (l : List Tr) : (rwc l).all (·.oneCell') = true := by
  induction l with
  | nil => rfl
  | cons x l ih => simp only [rwc, List.flatMap_cons, List.all_append] at ih ⊢; rw [ih]; rfl
set_option maxHeartbeats 2000000 in
theorem rwadd_no (g : Nat) (A : Option Addr) (span grid ref last : Int) (l : List Tr) (t p q : Int) (w : World) (hW : RWin w g A span grid ref last l) (hb : addB last t p q = false) :
    Calls Try.prog 28 #[.pointer (some ⟨g, 0, none⟩), .int .i64 t, .int .i64 p, .int .i64 q] w fun e w' => e = .returned (.int .i64 9) ∧ Ext w w' := by
  have C1 := rticks_c g A span grid ref last l t w hW
  unfold addB at hb
  rw [pricedB_one] at hb
  cases b1 : comesB last t
  · rw [b1] at C1
    clear hb b1 hW
    go_enter Try.func28, Try.ntmps28
    go_wp2_with fail
    refine (C1).mono ?_
    rintro e w1 ⟨rfl, hxw1⟩
    have xw1 : Ext w w1 := Ext.trans (by repeat (first | (with_reducible exact Ext.refl _) | (with_reducible assumption) | (with_reducible refine Ext.alloc ?_ _) | (with_reducible refine Ext.drew ?_) | (with_reducible refine Ext.drewN ?_ _) | (with_reducible refine Ext.setCell ?_ (by simp; try omega) _) | (with_reducible refine Ext.setRow ?_ (by simp; try omega) _))) hxw1
    have lw1 := xw1.size
    go_wp2_with fail
    first | refine fin_ret rfl (fun K hK => ?_) | refine fin_norm rfl (fun K hK => ?_)
    simp [results, Try.results28, go_sem, rsat]
    try go_simp
    refine hK _ ?_
    clear hK K
    exact ⟨rfl, (by repeat (first | (with_reducible exact Ext.refl _) | (with_reducible assumption) | (with_reducible refine Ext.alloc ?_ _) | (with_reducible refine Ext.drew ?_) | (with_reducible refine Ext.drewN ?_ _) | (with_reducible refine Ext.setCell ?_ (by simp; try omega) _) | (with_reducible refine Ext.setRow ?_ (by simp; try omega) _)))⟩
  rw [b1] at C1 hb
  rw [Bool.true_and] at hb
  clear b1 hW
  by_cases h1 : p < 1
  · clear hb
    go_enter Try.func28, Try.ntmps28
    go_wp2_with fail
    refine (C1).mono ?_
    rintro e w1 ⟨rfl, hxw1⟩
    have xw1 : Ext w w1 := Ext.trans (by repeat (first | (with_reducible exact Ext.refl _) | (with_reducible assumption) | (with_reducible refine Ext.alloc ?_ _) | (with_reducible refine Ext.drew ?_) | (with_reducible refine Ext.drewN ?_ _) | (with_reducible refine Ext.setCell ?_ (by simp; try omega) _) | (with_reducible refine Ext.setRow ?_ (by simp; try omega) _))) hxw1
    have lw1 := xw1.size
    go_wp2_with fail
    first | refine fin_ret rfl (fun K hK => ?_) | refine fin_norm rfl (fun K hK => ?_)
    simp [results, Try.results28, go_sem, rsat]
    try go_simp
    refine hK _ ?_
    clear hK K
    exact ⟨rfl, (by repeat (first | (with_reducible exact Ext.refl _) | (with_reducible assumption) | (with_reducible refine Ext.alloc ?_ _) | (with_reducible refine Ext.drew ?_) | (with_reducible refine Ext.drewN ?_ _) | (with_reducible refine Ext.setCell ?_ (by simp; try omega) _) | (with_reducible refine Ext.setRow ?_ (by simp; try omega) _)))⟩
  by_cases h2 : 1099511627776 < p
  · clear hb
    go_enter Try.func28, Try.ntmps28
    go_wp2_with fail
    refine (C1).mono ?_
    rintro e w1 ⟨rfl, hxw1⟩
    have xw1 : Ext w w1 := Ext.trans (by repeat (first | (with_reducible exact Ext.refl _) | (with_reducible assumption) | (with_reducible refine Ext.alloc ?_ _) | (with_reducible refine Ext.drew ?_) | (with_reducible refine Ext.drewN ?_ _) | (with_reducible refine Ext.setCell ?_ (by simp; try omega) _) | (with_reducible refine Ext.setRow ?_ (by simp; try omega) _))) hxw1
    have lw1 := xw1.size
    go_wp2_with fail
    first | refine fin_ret rfl (fun K hK => ?_) | refine fin_norm rfl (fun K hK => ?_)
    simp [results, Try.results28, go_sem, rsat]
    try go_simp
    refine hK _ ?_
    clear hK K
    exact ⟨rfl, (by repeat (first | (with_reducible exact Ext.refl _) | (with_reducible assumption) | (with_reducible refine Ext.alloc ?_ _) | (with_reducible refine Ext.drew ?_) | (with_reducible refine Ext.drewN ?_ _) | (with_reducible refine Ext.setCell ?_ (by simp; try omega) _) | (with_reducible refine Ext.setRow ?_ (by simp; try omega) _)))⟩
  rw [decide_eq_true (⟨by omega, by omega⟩ : 1 ≤ p ∧ p ≤ 1099511627776), Bool.true_and, decide_eq_false_iff_not, qtyI_iff] at hb
  by_cases h3 : q < 1
  · clear hb
    go_enter Try.func28, Try.ntmps28
    go_wp2_with fail
    refine (C1).mono ?_
    rintro e w1 ⟨rfl, hxw1⟩
    have xw1 : Ext w w1 := Ext.trans (by repeat (first | (with_reducible exact Ext.refl _) | (with_reducible assumption) | (with_reducible refine Ext.alloc ?_ _) | (with_reducible refine Ext.drew ?_) | (with_reducible refine Ext.drewN ?_ _) | (with_reducible refine Ext.setCell ?_ (by simp; try omega) _) | (with_reducible refine Ext.setRow ?_ (by simp; try omega) _))) hxw1
    have lw1 := xw1.size
    go_wp2_with fail
    first | refine fin_ret rfl (fun K hK => ?_) | refine fin_norm rfl (fun K hK => ?_)
    simp [results, Try.results28, go_sem, rsat]
    try go_simp
    refine hK _ ?_
    clear hK K
    exact ⟨rfl, (by repeat (first | (with_reducible exact Ext.refl _) | (with_reducible assumption) | (with_reducible refine Ext.alloc ?_ _) | (with_reducible refine Ext.drew ?_) | (with_reducible refine Ext.drewN ?_ _) | (with_reducible refine Ext.setCell ?_ (by simp; try omega) _) | (with_reducible refine Ext.setRow ?_ (by simp; try omega) _)))⟩
  have h4 : 4294967296 < q := by omega
  clear hb
  go_enter Try.func28, Try.ntmps28
  go_wp2_with fail
  refine (C1).mono ?_
  rintro e w1 ⟨rfl, hxw1⟩
  have xw1 : Ext w w1 := Ext.trans (by repeat (first | (with_reducible exact Ext.refl _) | (with_reducible assumption) | (with_reducible refine Ext.alloc ?_ _) | (with_reducible refine Ext.drew ?_) | (with_reducible refine Ext.drewN ?_ _) | (with_reducible refine Ext.setCell ?_ (by simp; try omega) _) | (with_reducible refine Ext.setRow ?_ (by simp; try omega) _))) hxw1
  have lw1 := xw1.size
  go_wp2_with fail
  first | refine fin_ret rfl (fun K hK => ?_) | refine fin_norm rfl (fun K hK => ?_)
  simp [results, Try.results28, go_sem, rsat]
  try go_simp
  refine hK _ ?_
  clear hK K
  exact ⟨rfl, (by repeat (first | (with_reducible exact Ext.refl _) | (with_reducible assumption) | (with_reducible refine Ext.alloc ?_ _) | (with_reducible refine Ext.drew ?_) | (with_reducible refine Ext.drewN ?_ _) | (with_reducible refine Ext.setCell ?_ (by simp; try omega) _) | (with_reducible refine Ext.setRow ?_ (by simp; try omega) _)))⟩
set_option maxHeartbeats 4000000 in
theorem rwadd_yes (g : Nat) (A : Option Addr) (span grid ref last : Int) (l : List Tr) (t p q : Int) (w : World) (hW : RWin w g A span grid ref last l) (hn : l.length < 1000) (hb : addB last t p q = true) :
    Calls Try.prog 28 #[.pointer (some ⟨g, 0, none⟩), .int .i64 t, .int .i64 p, .int .i64 q] w fun e w' => e = .returned (.int .i64 0) ∧ ∃ A', RWin w' g A' span grid ref t (l ++ [⟨t, p, q⟩]) ∧ Chg w w' [g] ∧ ∀ k ∈ ablk A', w.heap.size ≤ k := by
  have C1 := rticks_c g A span grid ref last l t w hW
  obtain ⟨hO, _⟩ := addB_ok hb
  obtain ⟨⟨b1, b2⟩, b3⟩ : (comesB last t = true ∧ pricedB p 1 = true) ∧ qtyI q = 0 := by
    unfold addB at hb
    simpa only [Bool.and_eq_true, decide_eq_true_eq] using hb
  rw [b1] at C1
  obtain ⟨p0, p1⟩ := priced1 b2
  obtain ⟨q0, q1⟩ := (qtyI_iff q).1 b3
  have n1 : ¬ p < 1 := by omega
  have n2 : ¬ 1099511627776 < p := by omega
  have n3 : ¬ q < 1 := by omega
  have n4 : ¬ 4294967296 < q := by omega
  obtain ⟨halt, c, hA, hR⟩ := hW
  have hgA : g ∉ ablk A := fun h => (halt g h).2 rfl
  have sg := hA.lt
  clear hb b1 b2 b3 hO
  go_enter Try.func28, Try.ntmps28
  go_wp2_with fail
  refine (C1).mono ?_
  rintro e w1 ⟨rfl, hxw1⟩
  have xw1 : Ext w w1 := Ext.trans (by repeat (first | (with_reducible exact Ext.refl _) | (with_reducible assumption) | (with_reducible refine Ext.alloc ?_ _) | (with_reducible refine Ext.drew ?_) | (with_reducible refine Ext.drewN ?_ _) | (with_reducible refine Ext.setCell ?_ (by simp; try omega) _) | (with_reducible refine Ext.setRow ?_ (by simp; try omega) _))) hxw1
  have lw1 := xw1.size
  have hA1 := hA.ext xw1
  have hR1 := hR.ext xw1
  have c4 : w1.cell? ⟨g, 4, none⟩ = some (.slice A l.length c) := hA1.cell 4
  have f3 := hA1.frozen 3
  have f4 := hA1.frozen 4
  have d3 : w1.cell? ⟨g, 3, none⟩ = some (.int .i64 last) := hA1.cell 3
  have sg1 := hA1.lt
  have ng1 : g ≠ w1.heap.size := by omega
  have S1 := ((hR1.set (p := ⟨g, 3, none⟩) hgA (.int .i64 t)).alloc (.cells #[] 70)).src
  go_wp2_with (at_builtin; refine wpList_rowcat rfl _ _ 41 70 3 24 (.agg #[.int .i64 0, .int .i64 0, .int .i64 0]) rfl Try.underlying41 trdInfo rfl (by decide) _ _ 0 0 [] rfl (Row.nil _ _ _ _) _ l.length c (rwc l) rfl S1 (rwc_one l) (by unfold maxLen; omega) (by omega) ?_)
  intro A2 c2 w2 hR2 hC2 hf2
  simp only [ablk, List.mem_singleton] at hC2 hf2
  have hA2 : At w2 g 43 #[.int .i64 span, .int .i64 grid, .int .i64 ref, .int .i64 t, .slice A l.length c] := hC2.at ((hA1.set 3 _).alloc _) (by simp; omega)
  have hC02 : Chg w w2 [g] := Chg.step (((Chg.of_ext xw1 [g]).set (.inl (by simp)) _).alloc _ : Chg w ((w1.setCell ⟨g, 3, none⟩ (.int .i64 t)).alloc (.cells #[] 70)) [g]) hC2 (fun i hi => by simp at hi; right; omega)
  have hnew : ∀ k ∈ ablk A2, w1.heap.size ≤ k ∧ k < w2.heap.size := fun k hk => by
    have := hC2.size
    simp at this
    rcases hf2 k hk with h1 | h1
    · first | (simp at h1; omega) | omega
    · first | (simp at h1; omega) | omega
  have s2 := hC2.size
  simp at s2
  clear S1 c4 d3 f3 hA1 hR1 hf2
  go_wp2_with (at_builtin; refine wpList_rowcat rfl _ _ 41 70 3 24 (.agg #[.int .i64 0, .int .i64 0, .int .i64 0]) rfl Try.underlying41 trdInfo rfl (by decide) _ A2 l.length c2 (rwc l) rfl (hR2.alloc _) _ 1 1 [.int .i64 t, .int .i64 p, .int .i64 q] rfl (Src.at (At.new _ _ _) rfl) rfl (by unfold maxLen; omega) (by omega) ?_)
  intro A3 c3 w3 hR3 hC3 hf3
  have s3 := hC3.size
  try simp at s3
  have hA3 := hC3.at (hA2.alloc (.cells #[.int .i64 t, .int .i64 p, .int .i64 q] 70)) (fun h => by have := hnew g h; omega)
  have hC03 : Chg w w3 [g] := Chg.step (hC02.alloc (.cells #[.int .i64 t, .int .i64 p, .int .i64 q] 70)) hC3 (fun i hi => by right; have := hnew i hi; omega)
  have hnew3 : ∀ k ∈ ablk A3, w1.heap.size ≤ k ∧ k < w3.heap.size := fun k hk => by
    rcases hf3 k hk with h1 | h1
    · have := hnew k h1; omega
    · first | (simp at h1; omega) | omega
  have f4' := hA3.frozen 4
  have d4 : w3.cell? ⟨g, 4, none⟩ = some (.slice A l.length c) := hA3.cell 4
  have sg3 := hA3.lt
  clear f4 hA2 hR2
  go_wp2_with fail
  first | refine fin_ret rfl (fun K hK => ?_) | refine fin_norm rfl (fun K hK => ?_)
  simp [results, Try.results28, go_sem, rsat]
  try go_simp
  refine hK _ ?_
  clear hK K
  have er := rwc_app l ⟨t, p, q⟩
  simp only at er
  rw [← er] at hR3
  refine ⟨rfl, A3, ⟨fun k hk => ⟨?_, fun h => ?_⟩, c3, ?_, ?_⟩, hC03.set (.inl (by simp)) _, fun k hk => ?_⟩
  · have := hnew3 k hk; simp; omega
  · have := hnew3 k hk; omega
  · rw [List.length_append]; exact hA3.set 4 _
  · rw [List.length_append]; exact hR3.set (fun h => by have := hnew3 g h; omega) _
  · have := hnew3 k hk; omega
theorem rwadd_c (g : Nat) (A : Option Addr) (span grid ref last : Int) (l : List Tr) (t p q : Int) (w : World) (hW : RWin w g A span grid ref last l) (hn : l.length < 1000) :
    Calls Try.prog 28 #[.pointer (some ⟨g, 0, none⟩), .int .i64 t, .int .i64 p, .int .i64 q] w fun e w' =>
      (addB last t p q = false ∧ e = .returned (.int .i64 9) ∧ Ext w w') ∨
      (addB last t p q = true ∧ e = .returned (.int .i64 0) ∧ ∃ A', RWin w' g A' span grid ref t (l ++ [⟨t, p, q⟩]) ∧ Chg w w' [g] ∧ ∀ k ∈ ablk A', w.heap.size ≤ k) := by
  cases hb : addB last t p q
  · exact (rwadd_no g A span grid ref last l t p q w hW hb).mono fun e w' h => .inl ⟨rfl, h⟩
  · exact (rwadd_yes g A span grid ref last l t p q w hW hn hb).mono fun e w' h => .inr ⟨rfl, h⟩
end Go.Proofs.Ytgjaiikfgejgoaa
