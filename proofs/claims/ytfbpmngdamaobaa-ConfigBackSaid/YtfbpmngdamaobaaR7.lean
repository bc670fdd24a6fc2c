/- The walk of Symbol, Bound of the reference of layer 7. No condition. (Printed by genr7.py.) -/
import Derived.Test.YtfbpmngdamaobaaSymP
namespace Go.Proofs.Ytfbpmngdamaobaa
open Go.RowKit
attribute [local go_sem] Later.cell QUpon_value QUpon_enter MUpon_value
attribute [local go_sem ↓ high] loadSym_is storeSym_is
attribute [local go_sem] run_loadSym run_loadSym_at run_storeSym one_int one_bool one_slice one_ptr one_str setRow_new setRow_past cell_ca frozen_ca cellsAt_alloc_at cellsAt_alloc_past cellsAt_drew cellsAt_later cellsAt_setCell cellsAt_set_same cellsAt_setRow_same cellsAt_setRow_far subAt_alloc subAt_drew subAt_later subAt_setCell subAt_setRow ltn_2 ltn_3 ltn_4 ltn_5

def inr (n lo hi : Int) : Bool := decide (lo ≤ n) && decide (n ≤ hi)
theorem inr_of {n lo hi : Int} (h : inr n lo hi = true) : lo ≤ n ∧ n ≤ hi := by unfold inr at h; simpa using h
theorem rin7_c (n lo hi : Int) (w : World) : Calls Try.prog 29 #[.int .i64 n, .int .i64 lo, .int .i64 hi] w fun e w' => e = .returned (.bool (inr n lo hi)) ∧ Ext w w' := by
  unfold inr
  by_cases h : lo ≤ n
  · rw [decide_eq_true h]
    go_enter Try.func29, Try.ntmps29
    go_wp2_with fail
    first | refine fin_ret rfl (fun K hK => ?_) | refine fin_norm rfl (fun K hK => ?_)
    simp [results, Try.results29, go_sem, rsat]
    try go_simp
    refine hK _ ?_
    clear hK K
    exact ⟨rfl, (by repeat (first | (with_reducible exact Ext.refl _) | (with_reducible assumption) | (with_reducible refine Ext.alloc ?_ _) | (with_reducible refine Ext.drew ?_) | (with_reducible refine Ext.drewN ?_ _) | (with_reducible refine Ext.setCell ?_ (by simp; try omega) _) | (with_reducible refine Ext.setRow ?_ (by simp; try omega) _)))⟩
  · rw [decide_eq_false h]
    go_enter Try.func29, Try.ntmps29
    go_wp2_with fail
    first | refine fin_ret rfl (fun K hK => ?_) | refine fin_norm rfl (fun K hK => ?_)
    simp [results, Try.results29, go_sem, rsat]
    try go_simp
    refine hK _ ?_
    clear hK K
    exact ⟨rfl, (by repeat (first | (with_reducible exact Ext.refl _) | (with_reducible assumption) | (with_reducible refine Ext.alloc ?_ _) | (with_reducible refine Ext.drew ?_) | (with_reducible refine Ext.drewN ?_ _) | (with_reducible refine Ext.setCell ?_ (by simp; try omega) _) | (with_reducible refine Ext.setRow ?_ (by simp; try omega) _)))⟩
theorem rpart_c (n : Int) (w : World) : Calls Try.prog 39 #[.int .i64 n] w fun e w' => e = .returned (.bool (inr n 0 9999)) ∧ Ext w w' := by
  go_enter Try.func39, Try.ntmps39
  go_wp2_with fail
  refine (rin7_c n 0 9999 _).mono ?_
  rintro e w1 ⟨rfl, hxw1⟩
  have xw1 : Ext w w1 := Ext.trans (by repeat (first | (with_reducible exact Ext.refl _) | (with_reducible assumption) | (with_reducible refine Ext.alloc ?_ _) | (with_reducible refine Ext.drew ?_) | (with_reducible refine Ext.drewN ?_ _) | (with_reducible refine Ext.setCell ?_ (by simp; try omega) _) | (with_reducible refine Ext.setRow ?_ (by simp; try omega) _))) hxw1
  have lw1 := xw1.size
  go_wp2_with fail
  first | refine fin_ret rfl (fun K hK => ?_) | refine fin_norm rfl (fun K hK => ?_)
  simp [results, Try.results39, go_sem, rsat]
  try go_simp
  refine hK _ ?_
  clear hK K
  exact ⟨rfl, (by repeat (first | (with_reducible exact Ext.refl _) | (with_reducible assumption) | (with_reducible refine Ext.alloc ?_ _) | (with_reducible refine Ext.drew ?_) | (with_reducible refine Ext.drewN ?_ _) | (with_reducible refine Ext.setCell ?_ (by simp; try omega) _) | (with_reducible refine Ext.setRow ?_ (by simp; try omega) _)))⟩
theorem rticks_c (n : Int) (w : World) : Calls Try.prog 30 #[.int .i64 n] w fun e w' => e = .returned (.bool (inr n 1 1099511627776)) ∧ Ext w w' := by
  go_enter Try.func30, Try.ntmps30
  go_wp2_with fail
  refine (rin7_c n 1 1099511627776 _).mono ?_
  rintro e w1 ⟨rfl, hxw1⟩
  have xw1 : Ext w w1 := Ext.trans (by repeat (first | (with_reducible exact Ext.refl _) | (with_reducible assumption) | (with_reducible refine Ext.alloc ?_ _) | (with_reducible refine Ext.drew ?_) | (with_reducible refine Ext.drewN ?_ _) | (with_reducible refine Ext.setCell ?_ (by simp; try omega) _) | (with_reducible refine Ext.setRow ?_ (by simp; try omega) _))) hxw1
  have lw1 := xw1.size
  go_wp2_with fail
  first | refine fin_ret rfl (fun K hK => ?_) | refine fin_norm rfl (fun K hK => ?_)
  simp [results, Try.results30, go_sem, rsat]
  try go_simp
  refine hK _ ?_
  clear hK K
  exact ⟨rfl, (by repeat (first | (with_reducible exact Ext.refl _) | (with_reducible assumption) | (with_reducible refine Ext.alloc ?_ _) | (with_reducible refine Ext.drew ?_) | (with_reducible refine Ext.drewN ?_ _) | (with_reducible refine Ext.setCell ?_ (by simp; try omega) _) | (with_reducible refine Ext.setRow ?_ (by simp; try omega) _)))⟩
def firstB : List (Bool × Int) → Int
  | [] => 0
  | (b, c) :: l => if b = true then firstB l else c
theorem firstB_or : ∀ (l : List (Bool × Int)) (m : List (Bool × Int)) (c : Int), (∀ p ∈ l, p.2 = c) → firstB (l ++ m) = firstB ((l.all (·.1), c) :: m)
  | [], m, c, _ => by simp [firstB]
  | (b, d) :: l, m, c, h => by
    have hd : d = c := h (b, d) (by simp)
    subst hd
    have ih := firstB_or l m d (fun p hp => h p (by simp [hp]))
    cases b
    · simp [firstB]
    · simp only [List.cons_append, firstB, List.all_cons, if_true, Bool.true_and]
      exact ih
theorem allB_inr (lo hi : Int) (xs : List Int) : allB lo hi xs = xs.all (fun n => inr n lo hi) := by
  unfold allB
  induction xs with
  | nil => rfl
  | cons x xs ih =>
    rw [List.any_cons, List.all_cons, Bool.not_or, ih]
    congr 1
    unfold badB inr
    rw [Bool.eq_iff_iff]
    simp <;> omega
theorem firstB_ands (b1 b2 : Bool) (c : Int) (m : List (Bool × Int)) : firstB ((b1, c) :: (b2, c) :: m) = firstB ((b1 && b2, c) :: m) := by
  cases b1 <;> simp [firstB]
theorem firstB_swap (b1 b2 : Bool) (c : Int) (m n : List (Bool × Int)) (h : b1 = true → firstB m = firstB n) (hb : b1 = b2) : firstB ((b1, c) :: m) = firstB ((b2, c) :: n) := by
  subst hb
  cases b1
  · rfl
  · simpa [firstB] using h rfl

theorem symI_chain (s : Sym) : symI s = firstB [(inr s.grid 1 1099511627776, 9), (inr s.ref 1 1099511627776, 9), ((s.ref % s.grid == 0), 8), (inr s.stat 0 9999, 9), (inr s.dyn 0 9999, 9), (inr s.move 0 9999, 9), (inr s.coll 0 9999, 9), (inr s.wid 0 9999, 9), (inr s.short 0 9999, 9), (inr s.win 1 1099511627776, 9), (inr s.lim 1 1099511627776, 9), (inr s.pause 1 1099511627776, 9), (inr s.ext 1 1099511627776, 9), (inr s.mx 0 10, 9), (inr s.self 0 3, 9), (inr s.slots 1 500, 9), (inr s.lev 1 200, 9), (decide (s.dyn ≤ s.stat), 11)] := by
  have e0 : symI s = firstB [(symB1 s, 9), (symB2 s, 8), (symB3 s, 9), (symB4 s, 9), (symB5 s, 9), (symB6 s, 9), (symB7 s, 11)] := by
    unfold symI symR
    simp only [firstI, firstB]
  rw [e0]
  simp only [firstB_ands, Bool.and_assoc]
  refine firstB_swap _ _ 9 _ _ (fun h1 => ?_) (by simp [symB1, allB_inr])
  have hb := allB_of h1
  simp only [List.mem_cons, List.not_mem_nil, or_false, forall_eq_or_imp, forall_eq] at hb
  obtain ⟨⟨g1, g2⟩, r1, r2⟩ := hb
  refine firstB_swap _ _ 8 _ _ (fun _ => ?_) ?_
  · simp only [firstB_ands, Bool.and_assoc]
    refine firstB_swap _ _ 9 _ _ (fun _ => ?_) ?_
    · rfl
    · simp [symB3, symB4, symB5, symB6, allB_inr, Bool.and_assoc]
  · unfold symB2 priceI
    rw [if_neg (by omega), if_neg (by omega)]
    have h3 := Int.mul_ediv_add_emod s.ref s.grid
    rw [Int.mul_comm] at h3
    rw [Bool.eq_iff_iff, beq_iff_eq, beq_iff_eq]
    constructor
    · intro h
      split at h
      · omega
      · cases h
    · intro h
      rw [if_pos (by omega)]

theorem beqs7 {x : Int} (h : ¬ x = 0) : (x == 0) = false ∧ (x != 0) = true := ⟨beq_eq_false_iff_ne.2 h, bne_iff_ne.2 h⟩
theorem beq07 {x : Int} (h : x = 0) : (x == 0) = true ∧ (x != 0) = false := by subst h; exact ⟨rfl, rfl⟩
set_option maxRecDepth 100000 in
set_option maxHeartbeats 3200000 in
theorem rsymbol_c (s : Sym) (hs : s.I) (w : World) : Calls Try.prog 12 #[symV s] w fun e w' => e = .returned (.int .i64 (symI s)) ∧ Ext w w' := by
  have hE := symI_chain s
  obtain ⟨n, hn⟩ : ∃ n, n = symI s := ⟨_, rfl⟩
  rw [← hn] at hE ⊢
  have HE0 := Lib.hid hE
  clear hE hn
  unfold symV symC
  go_enter Try.func12, Try.ntmps12
  go_wp2_with fail
  refine (rin7_c s.grid 1 1099511627776 _).mono ?_
  rintro e w1 ⟨rfl, hxw1⟩
  have xw1 : Ext w w1 := Ext.trans (by repeat (first | (with_reducible exact Ext.refl _) | (with_reducible assumption) | (with_reducible refine Ext.alloc ?_ _) | (with_reducible refine Ext.drew ?_) | (with_reducible refine Ext.drewN ?_ _) | (with_reducible refine Ext.setCell ?_ (by simp; try omega) _) | (with_reducible refine Ext.setRow ?_ (by simp; try omega) _))) hxw1
  have lw1 := xw1.size
  have S_w1 := At.ext (g := w.heap.size) (t := 35) (cs := #[.int .i64 s.grid, .int .i64 s.ref, .int .i64 s.stat, .int .i64 s.dyn, .int .i64 s.win, .int .i64 s.move, .int .i64 s.lim, .int .i64 s.pause, .int .i64 s.ext, .int .i64 s.mx, .int .i64 s.coll, .int .i64 s.wid, .int .i64 s.self, .int .i64 s.slots, .int .i64 s.lev, .int .i64 s.short]) (by repeat (first | (with_reducible exact At.new _ _ _) | ((with_reducible refine At.new' _ _ _ _ ?_); simp; done) | (with_reducible assumption) | (with_reducible refine At.drew ?_) | (with_reducible refine At.alloc ?_ _) | (with_reducible apply At.upd) | (with_reducible apply At.setRow) | (with_reducible refine At.rowFar ?_ (by first | (simp; done) | (simp; omega) | omega) _) | ((with_reducible refine At.far ?_ (by first | (simp; done) | (simp; omega) | omega) _)) | (with_reducible rfl) | (simp; done))) hxw1
  clear hxw1
  have s_S_w1 := S_w1.lt
  have e_S_w1 := cellsAt_at S_w1
  cases hb : inr s.grid 1 1099511627776
  · have hn : n = 9 := by have := HE0.out; rw [hb] at this; exact this
    subst hn
    clear hb
    go_wp2_with fail
    first | refine fin_ret rfl (fun K hK => ?_) | refine fin_norm rfl (fun K hK => ?_)
    simp [results, Try.results12, go_sem, rsat]
    try go_simp
    refine hK _ ?_
    clear hK K
    exact ⟨rfl, (by repeat (first | (with_reducible exact Ext.refl _) | (with_reducible assumption) | (with_reducible refine Ext.alloc ?_ _) | (with_reducible refine Ext.drew ?_) | (with_reducible refine Ext.drewN ?_ _) | (with_reducible refine Ext.setCell ?_ (by simp; try omega) _) | (with_reducible refine Ext.setRow ?_ (by simp; try omega) _)))⟩
  have HE1 : Hid (n = firstB [(inr s.ref 1 1099511627776, 9), ((s.ref % s.grid == 0), 8), (inr s.stat 0 9999, 9), (inr s.dyn 0 9999, 9), (inr s.move 0 9999, 9), (inr s.coll 0 9999, 9), (inr s.wid 0 9999, 9), (inr s.short 0 9999, 9), (inr s.win 1 1099511627776, 9), (inr s.lim 1 1099511627776, 9), (inr s.pause 1 1099511627776, 9), (inr s.ext 1 1099511627776, 9), (inr s.mx 0 10, 9), (inr s.self 0 3, 9), (inr s.slots 1 500, 9), (inr s.lev 1 200, 9), (decide (s.dyn ≤ s.stat), 11)]) := Lib.hid (by have := HE0.out; rw [hb] at this; exact this)
  obtain ⟨qgrid1, qgrid2⟩ := inr_of hb
  clear hb HE0
  go_wp2_with fail
  refine (rin7_c s.ref 1 1099511627776 _).mono ?_
  rintro e w2 ⟨rfl, hxw2⟩
  have xw2 : Ext w w2 := Ext.trans (by repeat (first | (with_reducible exact Ext.refl _) | (with_reducible assumption) | (with_reducible refine Ext.alloc ?_ _) | (with_reducible refine Ext.drew ?_) | (with_reducible refine Ext.drewN ?_ _) | (with_reducible refine Ext.setCell ?_ (by simp; try omega) _) | (with_reducible refine Ext.setRow ?_ (by simp; try omega) _))) hxw2
  have lw2 := xw2.size
  have S_w2 := At.ext (g := w.heap.size) (t := 35) (cs := #[.int .i64 s.grid, .int .i64 s.ref, .int .i64 s.stat, .int .i64 s.dyn, .int .i64 s.win, .int .i64 s.move, .int .i64 s.lim, .int .i64 s.pause, .int .i64 s.ext, .int .i64 s.mx, .int .i64 s.coll, .int .i64 s.wid, .int .i64 s.self, .int .i64 s.slots, .int .i64 s.lev, .int .i64 s.short]) (by repeat (first | (with_reducible exact At.new _ _ _) | ((with_reducible refine At.new' _ _ _ _ ?_); simp; done) | (with_reducible assumption) | (with_reducible refine At.drew ?_) | (with_reducible refine At.alloc ?_ _) | (with_reducible apply At.upd) | (with_reducible apply At.setRow) | (with_reducible refine At.rowFar ?_ (by first | (simp; done) | (simp; omega) | omega) _) | ((with_reducible refine At.far ?_ (by first | (simp; done) | (simp; omega) | omega) _)) | (with_reducible rfl) | (simp; done))) hxw2
  clear S_w1 s_S_w1 e_S_w1 hxw2 xw1
  have s_S_w2 := S_w2.lt
  have e_S_w2 := cellsAt_at S_w2
  cases hb : inr s.ref 1 1099511627776
  · have hn : n = 9 := by have := HE1.out; rw [hb] at this; exact this
    subst hn
    clear hb
    go_wp2_with fail
    first | refine fin_ret rfl (fun K hK => ?_) | refine fin_norm rfl (fun K hK => ?_)
    simp [results, Try.results12, go_sem, rsat]
    try go_simp
    refine hK _ ?_
    clear hK K
    exact ⟨rfl, (by repeat (first | (with_reducible exact Ext.refl _) | (with_reducible assumption) | (with_reducible refine Ext.alloc ?_ _) | (with_reducible refine Ext.drew ?_) | (with_reducible refine Ext.drewN ?_ _) | (with_reducible refine Ext.setCell ?_ (by simp; try omega) _) | (with_reducible refine Ext.setRow ?_ (by simp; try omega) _)))⟩
  have HE2 : Hid (n = firstB [((s.ref % s.grid == 0), 8), (inr s.stat 0 9999, 9), (inr s.dyn 0 9999, 9), (inr s.move 0 9999, 9), (inr s.coll 0 9999, 9), (inr s.wid 0 9999, 9), (inr s.short 0 9999, 9), (inr s.win 1 1099511627776, 9), (inr s.lim 1 1099511627776, 9), (inr s.pause 1 1099511627776, 9), (inr s.ext 1 1099511627776, 9), (inr s.mx 0 10, 9), (inr s.self 0 3, 9), (inr s.slots 1 500, 9), (inr s.lev 1 200, 9), (decide (s.dyn ≤ s.stat), 11)]) := Lib.hid (by have := HE1.out; rw [hb] at this; exact this)
  obtain ⟨qref1, qref2⟩ := inr_of hb
  clear hb HE1
  by_cases hm : s.ref % s.grid = 0
  rotate_left
  · have hn : n = 8 := by have := HE2.out; rw [(beqs7 hm).1] at this; exact this
    subst hn
    obtain ⟨b1, b2⟩ := beqs7 hm
    clear hm
    go_wp2_with fail
    first | refine fin_ret rfl (fun K hK => ?_) | refine fin_norm rfl (fun K hK => ?_)
    simp [results, Try.results12, go_sem, rsat]
    try go_simp
    refine hK _ ?_
    clear hK K
    exact ⟨rfl, (by repeat (first | (with_reducible exact Ext.refl _) | (with_reducible assumption) | (with_reducible refine Ext.alloc ?_ _) | (with_reducible refine Ext.drew ?_) | (with_reducible refine Ext.drewN ?_ _) | (with_reducible refine Ext.setCell ?_ (by simp; try omega) _) | (with_reducible refine Ext.setRow ?_ (by simp; try omega) _)))⟩
  have HE3 : Hid (n = firstB [(inr s.stat 0 9999, 9), (inr s.dyn 0 9999, 9), (inr s.move 0 9999, 9), (inr s.coll 0 9999, 9), (inr s.wid 0 9999, 9), (inr s.short 0 9999, 9), (inr s.win 1 1099511627776, 9), (inr s.lim 1 1099511627776, 9), (inr s.pause 1 1099511627776, 9), (inr s.ext 1 1099511627776, 9), (inr s.mx 0 10, 9), (inr s.self 0 3, 9), (inr s.slots 1 500, 9), (inr s.lev 1 200, 9), (decide (s.dyn ≤ s.stat), 11)]) := Lib.hid (by have := HE2.out; rw [(beq07 hm).1] at this; exact this)
  obtain ⟨b1, b2⟩ := beq07 hm
  clear hm
  go_wp2_with fail
  refine (rpart_c s.stat _).mono ?_
  rintro e w3 ⟨rfl, hxw3⟩
  have xw3 : Ext w w3 := Ext.trans (by repeat (first | (with_reducible exact Ext.refl _) | (with_reducible assumption) | (with_reducible refine Ext.alloc ?_ _) | (with_reducible refine Ext.drew ?_) | (with_reducible refine Ext.drewN ?_ _) | (with_reducible refine Ext.setCell ?_ (by simp; try omega) _) | (with_reducible refine Ext.setRow ?_ (by simp; try omega) _))) hxw3
  have lw3 := xw3.size
  have S_w3 := At.ext (g := w.heap.size) (t := 35) (cs := #[.int .i64 s.grid, .int .i64 s.ref, .int .i64 s.stat, .int .i64 s.dyn, .int .i64 s.win, .int .i64 s.move, .int .i64 s.lim, .int .i64 s.pause, .int .i64 s.ext, .int .i64 s.mx, .int .i64 s.coll, .int .i64 s.wid, .int .i64 s.self, .int .i64 s.slots, .int .i64 s.lev, .int .i64 s.short]) (by repeat (first | (with_reducible exact At.new _ _ _) | ((with_reducible refine At.new' _ _ _ _ ?_); simp; done) | (with_reducible assumption) | (with_reducible refine At.drew ?_) | (with_reducible refine At.alloc ?_ _) | (with_reducible apply At.upd) | (with_reducible apply At.setRow) | (with_reducible refine At.rowFar ?_ (by first | (simp; done) | (simp; omega) | omega) _) | ((with_reducible refine At.far ?_ (by first | (simp; done) | (simp; omega) | omega) _)) | (with_reducible rfl) | (simp; done))) hxw3
  clear S_w2 s_S_w2 e_S_w2 hxw3 xw2
  have s_S_w3 := S_w3.lt
  have e_S_w3 := cellsAt_at S_w3
  cases hb : inr s.stat 0 9999
  · have hn : n = 9 := by have := HE3.out; rw [hb] at this; exact this
    subst hn
    clear hb
    go_wp2_with fail
    first | refine fin_ret rfl (fun K hK => ?_) | refine fin_norm rfl (fun K hK => ?_)
    simp [results, Try.results12, go_sem, rsat]
    try go_simp
    refine hK _ ?_
    clear hK K
    exact ⟨rfl, (by repeat (first | (with_reducible exact Ext.refl _) | (with_reducible assumption) | (with_reducible refine Ext.alloc ?_ _) | (with_reducible refine Ext.drew ?_) | (with_reducible refine Ext.drewN ?_ _) | (with_reducible refine Ext.setCell ?_ (by simp; try omega) _) | (with_reducible refine Ext.setRow ?_ (by simp; try omega) _)))⟩
  have HE4 : Hid (n = firstB [(inr s.dyn 0 9999, 9), (inr s.move 0 9999, 9), (inr s.coll 0 9999, 9), (inr s.wid 0 9999, 9), (inr s.short 0 9999, 9), (inr s.win 1 1099511627776, 9), (inr s.lim 1 1099511627776, 9), (inr s.pause 1 1099511627776, 9), (inr s.ext 1 1099511627776, 9), (inr s.mx 0 10, 9), (inr s.self 0 3, 9), (inr s.slots 1 500, 9), (inr s.lev 1 200, 9), (decide (s.dyn ≤ s.stat), 11)]) := Lib.hid (by have := HE3.out; rw [hb] at this; exact this)
  clear hb HE3
  go_wp2_with fail
  refine (rpart_c s.dyn _).mono ?_
  rintro e w4 ⟨rfl, hxw4⟩
  have xw4 : Ext w w4 := Ext.trans (by repeat (first | (with_reducible exact Ext.refl _) | (with_reducible assumption) | (with_reducible refine Ext.alloc ?_ _) | (with_reducible refine Ext.drew ?_) | (with_reducible refine Ext.drewN ?_ _) | (with_reducible refine Ext.setCell ?_ (by simp; try omega) _) | (with_reducible refine Ext.setRow ?_ (by simp; try omega) _))) hxw4
  have lw4 := xw4.size
  have S_w4 := At.ext (g := w.heap.size) (t := 35) (cs := #[.int .i64 s.grid, .int .i64 s.ref, .int .i64 s.stat, .int .i64 s.dyn, .int .i64 s.win, .int .i64 s.move, .int .i64 s.lim, .int .i64 s.pause, .int .i64 s.ext, .int .i64 s.mx, .int .i64 s.coll, .int .i64 s.wid, .int .i64 s.self, .int .i64 s.slots, .int .i64 s.lev, .int .i64 s.short]) (by repeat (first | (with_reducible exact At.new _ _ _) | ((with_reducible refine At.new' _ _ _ _ ?_); simp; done) | (with_reducible assumption) | (with_reducible refine At.drew ?_) | (with_reducible refine At.alloc ?_ _) | (with_reducible apply At.upd) | (with_reducible apply At.setRow) | (with_reducible refine At.rowFar ?_ (by first | (simp; done) | (simp; omega) | omega) _) | ((with_reducible refine At.far ?_ (by first | (simp; done) | (simp; omega) | omega) _)) | (with_reducible rfl) | (simp; done))) hxw4
  clear S_w3 s_S_w3 e_S_w3 hxw4 xw3
  have s_S_w4 := S_w4.lt
  have e_S_w4 := cellsAt_at S_w4
  cases hb : inr s.dyn 0 9999
  · have hn : n = 9 := by have := HE4.out; rw [hb] at this; exact this
    subst hn
    clear hb
    go_wp2_with fail
    first | refine fin_ret rfl (fun K hK => ?_) | refine fin_norm rfl (fun K hK => ?_)
    simp [results, Try.results12, go_sem, rsat]
    try go_simp
    refine hK _ ?_
    clear hK K
    exact ⟨rfl, (by repeat (first | (with_reducible exact Ext.refl _) | (with_reducible assumption) | (with_reducible refine Ext.alloc ?_ _) | (with_reducible refine Ext.drew ?_) | (with_reducible refine Ext.drewN ?_ _) | (with_reducible refine Ext.setCell ?_ (by simp; try omega) _) | (with_reducible refine Ext.setRow ?_ (by simp; try omega) _)))⟩
  have HE5 : Hid (n = firstB [(inr s.move 0 9999, 9), (inr s.coll 0 9999, 9), (inr s.wid 0 9999, 9), (inr s.short 0 9999, 9), (inr s.win 1 1099511627776, 9), (inr s.lim 1 1099511627776, 9), (inr s.pause 1 1099511627776, 9), (inr s.ext 1 1099511627776, 9), (inr s.mx 0 10, 9), (inr s.self 0 3, 9), (inr s.slots 1 500, 9), (inr s.lev 1 200, 9), (decide (s.dyn ≤ s.stat), 11)]) := Lib.hid (by have := HE4.out; rw [hb] at this; exact this)
  clear hb HE4
  go_wp2_with fail
  refine (rpart_c s.move _).mono ?_
  rintro e w5 ⟨rfl, hxw5⟩
  have xw5 : Ext w w5 := Ext.trans (by repeat (first | (with_reducible exact Ext.refl _) | (with_reducible assumption) | (with_reducible refine Ext.alloc ?_ _) | (with_reducible refine Ext.drew ?_) | (with_reducible refine Ext.drewN ?_ _) | (with_reducible refine Ext.setCell ?_ (by simp; try omega) _) | (with_reducible refine Ext.setRow ?_ (by simp; try omega) _))) hxw5
  have lw5 := xw5.size
  have S_w5 := At.ext (g := w.heap.size) (t := 35) (cs := #[.int .i64 s.grid, .int .i64 s.ref, .int .i64 s.stat, .int .i64 s.dyn, .int .i64 s.win, .int .i64 s.move, .int .i64 s.lim, .int .i64 s.pause, .int .i64 s.ext, .int .i64 s.mx, .int .i64 s.coll, .int .i64 s.wid, .int .i64 s.self, .int .i64 s.slots, .int .i64 s.lev, .int .i64 s.short]) (by repeat (first | (with_reducible exact At.new _ _ _) | ((with_reducible refine At.new' _ _ _ _ ?_); simp; done) | (with_reducible assumption) | (with_reducible refine At.drew ?_) | (with_reducible refine At.alloc ?_ _) | (with_reducible apply At.upd) | (with_reducible apply At.setRow) | (with_reducible refine At.rowFar ?_ (by first | (simp; done) | (simp; omega) | omega) _) | ((with_reducible refine At.far ?_ (by first | (simp; done) | (simp; omega) | omega) _)) | (with_reducible rfl) | (simp; done))) hxw5
  clear S_w4 s_S_w4 e_S_w4 hxw5 xw4
  have s_S_w5 := S_w5.lt
  have e_S_w5 := cellsAt_at S_w5
  cases hb : inr s.move 0 9999
  · have hn : n = 9 := by have := HE5.out; rw [hb] at this; exact this
    subst hn
    clear hb
    go_wp2_with fail
    first | refine fin_ret rfl (fun K hK => ?_) | refine fin_norm rfl (fun K hK => ?_)
    simp [results, Try.results12, go_sem, rsat]
    try go_simp
    refine hK _ ?_
    clear hK K
    exact ⟨rfl, (by repeat (first | (with_reducible exact Ext.refl _) | (with_reducible assumption) | (with_reducible refine Ext.alloc ?_ _) | (with_reducible refine Ext.drew ?_) | (with_reducible refine Ext.drewN ?_ _) | (with_reducible refine Ext.setCell ?_ (by simp; try omega) _) | (with_reducible refine Ext.setRow ?_ (by simp; try omega) _)))⟩
  have HE6 : Hid (n = firstB [(inr s.coll 0 9999, 9), (inr s.wid 0 9999, 9), (inr s.short 0 9999, 9), (inr s.win 1 1099511627776, 9), (inr s.lim 1 1099511627776, 9), (inr s.pause 1 1099511627776, 9), (inr s.ext 1 1099511627776, 9), (inr s.mx 0 10, 9), (inr s.self 0 3, 9), (inr s.slots 1 500, 9), (inr s.lev 1 200, 9), (decide (s.dyn ≤ s.stat), 11)]) := Lib.hid (by have := HE5.out; rw [hb] at this; exact this)
  clear hb HE5
  go_wp2_with fail
  refine (rpart_c s.coll _).mono ?_
  rintro e w6 ⟨rfl, hxw6⟩
  have xw6 : Ext w w6 := Ext.trans (by repeat (first | (with_reducible exact Ext.refl _) | (with_reducible assumption) | (with_reducible refine Ext.alloc ?_ _) | (with_reducible refine Ext.drew ?_) | (with_reducible refine Ext.drewN ?_ _) | (with_reducible refine Ext.setCell ?_ (by simp; try omega) _) | (with_reducible refine Ext.setRow ?_ (by simp; try omega) _))) hxw6
  have lw6 := xw6.size
  have S_w6 := At.ext (g := w.heap.size) (t := 35) (cs := #[.int .i64 s.grid, .int .i64 s.ref, .int .i64 s.stat, .int .i64 s.dyn, .int .i64 s.win, .int .i64 s.move, .int .i64 s.lim, .int .i64 s.pause, .int .i64 s.ext, .int .i64 s.mx, .int .i64 s.coll, .int .i64 s.wid, .int .i64 s.self, .int .i64 s.slots, .int .i64 s.lev, .int .i64 s.short]) (by repeat (first | (with_reducible exact At.new _ _ _) | ((with_reducible refine At.new' _ _ _ _ ?_); simp; done) | (with_reducible assumption) | (with_reducible refine At.drew ?_) | (with_reducible refine At.alloc ?_ _) | (with_reducible apply At.upd) | (with_reducible apply At.setRow) | (with_reducible refine At.rowFar ?_ (by first | (simp; done) | (simp; omega) | omega) _) | ((with_reducible refine At.far ?_ (by first | (simp; done) | (simp; omega) | omega) _)) | (with_reducible rfl) | (simp; done))) hxw6
  clear S_w5 s_S_w5 e_S_w5 hxw6 xw5
  have s_S_w6 := S_w6.lt
  have e_S_w6 := cellsAt_at S_w6
  cases hb : inr s.coll 0 9999
  · have hn : n = 9 := by have := HE6.out; rw [hb] at this; exact this
    subst hn
    clear hb
    go_wp2_with fail
    first | refine fin_ret rfl (fun K hK => ?_) | refine fin_norm rfl (fun K hK => ?_)
    simp [results, Try.results12, go_sem, rsat]
    try go_simp
    refine hK _ ?_
    clear hK K
    exact ⟨rfl, (by repeat (first | (with_reducible exact Ext.refl _) | (with_reducible assumption) | (with_reducible refine Ext.alloc ?_ _) | (with_reducible refine Ext.drew ?_) | (with_reducible refine Ext.drewN ?_ _) | (with_reducible refine Ext.setCell ?_ (by simp; try omega) _) | (with_reducible refine Ext.setRow ?_ (by simp; try omega) _)))⟩
  have HE7 : Hid (n = firstB [(inr s.wid 0 9999, 9), (inr s.short 0 9999, 9), (inr s.win 1 1099511627776, 9), (inr s.lim 1 1099511627776, 9), (inr s.pause 1 1099511627776, 9), (inr s.ext 1 1099511627776, 9), (inr s.mx 0 10, 9), (inr s.self 0 3, 9), (inr s.slots 1 500, 9), (inr s.lev 1 200, 9), (decide (s.dyn ≤ s.stat), 11)]) := Lib.hid (by have := HE6.out; rw [hb] at this; exact this)
  clear hb HE6
  go_wp2_with fail
  refine (rpart_c s.wid _).mono ?_
  rintro e w7 ⟨rfl, hxw7⟩
  have xw7 : Ext w w7 := Ext.trans (by repeat (first | (with_reducible exact Ext.refl _) | (with_reducible assumption) | (with_reducible refine Ext.alloc ?_ _) | (with_reducible refine Ext.drew ?_) | (with_reducible refine Ext.drewN ?_ _) | (with_reducible refine Ext.setCell ?_ (by simp; try omega) _) | (with_reducible refine Ext.setRow ?_ (by simp; try omega) _))) hxw7
  have lw7 := xw7.size
  have S_w7 := At.ext (g := w.heap.size) (t := 35) (cs := #[.int .i64 s.grid, .int .i64 s.ref, .int .i64 s.stat, .int .i64 s.dyn, .int .i64 s.win, .int .i64 s.move, .int .i64 s.lim, .int .i64 s.pause, .int .i64 s.ext, .int .i64 s.mx, .int .i64 s.coll, .int .i64 s.wid, .int .i64 s.self, .int .i64 s.slots, .int .i64 s.lev, .int .i64 s.short]) (by repeat (first | (with_reducible exact At.new _ _ _) | ((with_reducible refine At.new' _ _ _ _ ?_); simp; done) | (with_reducible assumption) | (with_reducible refine At.drew ?_) | (with_reducible refine At.alloc ?_ _) | (with_reducible apply At.upd) | (with_reducible apply At.setRow) | (with_reducible refine At.rowFar ?_ (by first | (simp; done) | (simp; omega) | omega) _) | ((with_reducible refine At.far ?_ (by first | (simp; done) | (simp; omega) | omega) _)) | (with_reducible rfl) | (simp; done))) hxw7
  clear S_w6 s_S_w6 e_S_w6 hxw7 xw6
  have s_S_w7 := S_w7.lt
  have e_S_w7 := cellsAt_at S_w7
  cases hb : inr s.wid 0 9999
  · have hn : n = 9 := by have := HE7.out; rw [hb] at this; exact this
    subst hn
    clear hb
    go_wp2_with fail
    first | refine fin_ret rfl (fun K hK => ?_) | refine fin_norm rfl (fun K hK => ?_)
    simp [results, Try.results12, go_sem, rsat]
    try go_simp
    refine hK _ ?_
    clear hK K
    exact ⟨rfl, (by repeat (first | (with_reducible exact Ext.refl _) | (with_reducible assumption) | (with_reducible refine Ext.alloc ?_ _) | (with_reducible refine Ext.drew ?_) | (with_reducible refine Ext.drewN ?_ _) | (with_reducible refine Ext.setCell ?_ (by simp; try omega) _) | (with_reducible refine Ext.setRow ?_ (by simp; try omega) _)))⟩
  have HE8 : Hid (n = firstB [(inr s.short 0 9999, 9), (inr s.win 1 1099511627776, 9), (inr s.lim 1 1099511627776, 9), (inr s.pause 1 1099511627776, 9), (inr s.ext 1 1099511627776, 9), (inr s.mx 0 10, 9), (inr s.self 0 3, 9), (inr s.slots 1 500, 9), (inr s.lev 1 200, 9), (decide (s.dyn ≤ s.stat), 11)]) := Lib.hid (by have := HE7.out; rw [hb] at this; exact this)
  clear hb HE7
  go_wp2_with fail
  refine (rpart_c s.short _).mono ?_
  rintro e w8 ⟨rfl, hxw8⟩
  have xw8 : Ext w w8 := Ext.trans (by repeat (first | (with_reducible exact Ext.refl _) | (with_reducible assumption) | (with_reducible refine Ext.alloc ?_ _) | (with_reducible refine Ext.drew ?_) | (with_reducible refine Ext.drewN ?_ _) | (with_reducible refine Ext.setCell ?_ (by simp; try omega) _) | (with_reducible refine Ext.setRow ?_ (by simp; try omega) _))) hxw8
  have lw8 := xw8.size
  have S_w8 := At.ext (g := w.heap.size) (t := 35) (cs := #[.int .i64 s.grid, .int .i64 s.ref, .int .i64 s.stat, .int .i64 s.dyn, .int .i64 s.win, .int .i64 s.move, .int .i64 s.lim, .int .i64 s.pause, .int .i64 s.ext, .int .i64 s.mx, .int .i64 s.coll, .int .i64 s.wid, .int .i64 s.self, .int .i64 s.slots, .int .i64 s.lev, .int .i64 s.short]) (by repeat (first | (with_reducible exact At.new _ _ _) | ((with_reducible refine At.new' _ _ _ _ ?_); simp; done) | (with_reducible assumption) | (with_reducible refine At.drew ?_) | (with_reducible refine At.alloc ?_ _) | (with_reducible apply At.upd) | (with_reducible apply At.setRow) | (with_reducible refine At.rowFar ?_ (by first | (simp; done) | (simp; omega) | omega) _) | ((with_reducible refine At.far ?_ (by first | (simp; done) | (simp; omega) | omega) _)) | (with_reducible rfl) | (simp; done))) hxw8
  clear S_w7 s_S_w7 e_S_w7 hxw8 xw7
  have s_S_w8 := S_w8.lt
  have e_S_w8 := cellsAt_at S_w8
  cases hb : inr s.short 0 9999
  · have hn : n = 9 := by have := HE8.out; rw [hb] at this; exact this
    subst hn
    clear hb
    go_wp2_with fail
    first | refine fin_ret rfl (fun K hK => ?_) | refine fin_norm rfl (fun K hK => ?_)
    simp [results, Try.results12, go_sem, rsat]
    try go_simp
    refine hK _ ?_
    clear hK K
    exact ⟨rfl, (by repeat (first | (with_reducible exact Ext.refl _) | (with_reducible assumption) | (with_reducible refine Ext.alloc ?_ _) | (with_reducible refine Ext.drew ?_) | (with_reducible refine Ext.drewN ?_ _) | (with_reducible refine Ext.setCell ?_ (by simp; try omega) _) | (with_reducible refine Ext.setRow ?_ (by simp; try omega) _)))⟩
  have HE9 : Hid (n = firstB [(inr s.win 1 1099511627776, 9), (inr s.lim 1 1099511627776, 9), (inr s.pause 1 1099511627776, 9), (inr s.ext 1 1099511627776, 9), (inr s.mx 0 10, 9), (inr s.self 0 3, 9), (inr s.slots 1 500, 9), (inr s.lev 1 200, 9), (decide (s.dyn ≤ s.stat), 11)]) := Lib.hid (by have := HE8.out; rw [hb] at this; exact this)
  clear hb HE8
  go_wp2_with fail
  refine (rticks_c s.win _).mono ?_
  rintro e w9 ⟨rfl, hxw9⟩
  have xw9 : Ext w w9 := Ext.trans (by repeat (first | (with_reducible exact Ext.refl _) | (with_reducible assumption) | (with_reducible refine Ext.alloc ?_ _) | (with_reducible refine Ext.drew ?_) | (with_reducible refine Ext.drewN ?_ _) | (with_reducible refine Ext.setCell ?_ (by simp; try omega) _) | (with_reducible refine Ext.setRow ?_ (by simp; try omega) _))) hxw9
  have lw9 := xw9.size
  have S_w9 := At.ext (g := w.heap.size) (t := 35) (cs := #[.int .i64 s.grid, .int .i64 s.ref, .int .i64 s.stat, .int .i64 s.dyn, .int .i64 s.win, .int .i64 s.move, .int .i64 s.lim, .int .i64 s.pause, .int .i64 s.ext, .int .i64 s.mx, .int .i64 s.coll, .int .i64 s.wid, .int .i64 s.self, .int .i64 s.slots, .int .i64 s.lev, .int .i64 s.short]) (by repeat (first | (with_reducible exact At.new _ _ _) | ((with_reducible refine At.new' _ _ _ _ ?_); simp; done) | (with_reducible assumption) | (with_reducible refine At.drew ?_) | (with_reducible refine At.alloc ?_ _) | (with_reducible apply At.upd) | (with_reducible apply At.setRow) | (with_reducible refine At.rowFar ?_ (by first | (simp; done) | (simp; omega) | omega) _) | ((with_reducible refine At.far ?_ (by first | (simp; done) | (simp; omega) | omega) _)) | (with_reducible rfl) | (simp; done))) hxw9
  clear S_w8 s_S_w8 e_S_w8 hxw9 xw8
  have s_S_w9 := S_w9.lt
  have e_S_w9 := cellsAt_at S_w9
  cases hb : inr s.win 1 1099511627776
  · have hn : n = 9 := by have := HE9.out; rw [hb] at this; exact this
    subst hn
    clear hb
    go_wp2_with fail
    first | refine fin_ret rfl (fun K hK => ?_) | refine fin_norm rfl (fun K hK => ?_)
    simp [results, Try.results12, go_sem, rsat]
    try go_simp
    refine hK _ ?_
    clear hK K
    exact ⟨rfl, (by repeat (first | (with_reducible exact Ext.refl _) | (with_reducible assumption) | (with_reducible refine Ext.alloc ?_ _) | (with_reducible refine Ext.drew ?_) | (with_reducible refine Ext.drewN ?_ _) | (with_reducible refine Ext.setCell ?_ (by simp; try omega) _) | (with_reducible refine Ext.setRow ?_ (by simp; try omega) _)))⟩
  have HE10 : Hid (n = firstB [(inr s.lim 1 1099511627776, 9), (inr s.pause 1 1099511627776, 9), (inr s.ext 1 1099511627776, 9), (inr s.mx 0 10, 9), (inr s.self 0 3, 9), (inr s.slots 1 500, 9), (inr s.lev 1 200, 9), (decide (s.dyn ≤ s.stat), 11)]) := Lib.hid (by have := HE9.out; rw [hb] at this; exact this)
  clear hb HE9
  go_wp2_with fail
  refine (rticks_c s.lim _).mono ?_
  rintro e w10 ⟨rfl, hxw10⟩
  have xw10 : Ext w w10 := Ext.trans (by repeat (first | (with_reducible exact Ext.refl _) | (with_reducible assumption) | (with_reducible refine Ext.alloc ?_ _) | (with_reducible refine Ext.drew ?_) | (with_reducible refine Ext.drewN ?_ _) | (with_reducible refine Ext.setCell ?_ (by simp; try omega) _) | (with_reducible refine Ext.setRow ?_ (by simp; try omega) _))) hxw10
  have lw10 := xw10.size
  have S_w10 := At.ext (g := w.heap.size) (t := 35) (cs := #[.int .i64 s.grid, .int .i64 s.ref, .int .i64 s.stat, .int .i64 s.dyn, .int .i64 s.win, .int .i64 s.move, .int .i64 s.lim, .int .i64 s.pause, .int .i64 s.ext, .int .i64 s.mx, .int .i64 s.coll, .int .i64 s.wid, .int .i64 s.self, .int .i64 s.slots, .int .i64 s.lev, .int .i64 s.short]) (by repeat (first | (with_reducible exact At.new _ _ _) | ((with_reducible refine At.new' _ _ _ _ ?_); simp; done) | (with_reducible assumption) | (with_reducible refine At.drew ?_) | (with_reducible refine At.alloc ?_ _) | (with_reducible apply At.upd) | (with_reducible apply At.setRow) | (with_reducible refine At.rowFar ?_ (by first | (simp; done) | (simp; omega) | omega) _) | ((with_reducible refine At.far ?_ (by first | (simp; done) | (simp; omega) | omega) _)) | (with_reducible rfl) | (simp; done))) hxw10
  clear S_w9 s_S_w9 e_S_w9 hxw10 xw9
  have s_S_w10 := S_w10.lt
  have e_S_w10 := cellsAt_at S_w10
  cases hb : inr s.lim 1 1099511627776
  · have hn : n = 9 := by have := HE10.out; rw [hb] at this; exact this
    subst hn
    clear hb
    go_wp2_with fail
    first | refine fin_ret rfl (fun K hK => ?_) | refine fin_norm rfl (fun K hK => ?_)
    simp [results, Try.results12, go_sem, rsat]
    try go_simp
    refine hK _ ?_
    clear hK K
    exact ⟨rfl, (by repeat (first | (with_reducible exact Ext.refl _) | (with_reducible assumption) | (with_reducible refine Ext.alloc ?_ _) | (with_reducible refine Ext.drew ?_) | (with_reducible refine Ext.drewN ?_ _) | (with_reducible refine Ext.setCell ?_ (by simp; try omega) _) | (with_reducible refine Ext.setRow ?_ (by simp; try omega) _)))⟩
  have HE11 : Hid (n = firstB [(inr s.pause 1 1099511627776, 9), (inr s.ext 1 1099511627776, 9), (inr s.mx 0 10, 9), (inr s.self 0 3, 9), (inr s.slots 1 500, 9), (inr s.lev 1 200, 9), (decide (s.dyn ≤ s.stat), 11)]) := Lib.hid (by have := HE10.out; rw [hb] at this; exact this)
  clear hb HE10
  go_wp2_with fail
  refine (rticks_c s.pause _).mono ?_
  rintro e w11 ⟨rfl, hxw11⟩
  have xw11 : Ext w w11 := Ext.trans (by repeat (first | (with_reducible exact Ext.refl _) | (with_reducible assumption) | (with_reducible refine Ext.alloc ?_ _) | (with_reducible refine Ext.drew ?_) | (with_reducible refine Ext.drewN ?_ _) | (with_reducible refine Ext.setCell ?_ (by simp; try omega) _) | (with_reducible refine Ext.setRow ?_ (by simp; try omega) _))) hxw11
  have lw11 := xw11.size
  have S_w11 := At.ext (g := w.heap.size) (t := 35) (cs := #[.int .i64 s.grid, .int .i64 s.ref, .int .i64 s.stat, .int .i64 s.dyn, .int .i64 s.win, .int .i64 s.move, .int .i64 s.lim, .int .i64 s.pause, .int .i64 s.ext, .int .i64 s.mx, .int .i64 s.coll, .int .i64 s.wid, .int .i64 s.self, .int .i64 s.slots, .int .i64 s.lev, .int .i64 s.short]) (by repeat (first | (with_reducible exact At.new _ _ _) | ((with_reducible refine At.new' _ _ _ _ ?_); simp; done) | (with_reducible assumption) | (with_reducible refine At.drew ?_) | (with_reducible refine At.alloc ?_ _) | (with_reducible apply At.upd) | (with_reducible apply At.setRow) | (with_reducible refine At.rowFar ?_ (by first | (simp; done) | (simp; omega) | omega) _) | ((with_reducible refine At.far ?_ (by first | (simp; done) | (simp; omega) | omega) _)) | (with_reducible rfl) | (simp; done))) hxw11
  clear S_w10 s_S_w10 e_S_w10 hxw11 xw10
  have s_S_w11 := S_w11.lt
  have e_S_w11 := cellsAt_at S_w11
  cases hb : inr s.pause 1 1099511627776
  · have hn : n = 9 := by have := HE11.out; rw [hb] at this; exact this
    subst hn
    clear hb
    go_wp2_with fail
    first | refine fin_ret rfl (fun K hK => ?_) | refine fin_norm rfl (fun K hK => ?_)
    simp [results, Try.results12, go_sem, rsat]
    try go_simp
    refine hK _ ?_
    clear hK K
    exact ⟨rfl, (by repeat (first | (with_reducible exact Ext.refl _) | (with_reducible assumption) | (with_reducible refine Ext.alloc ?_ _) | (with_reducible refine Ext.drew ?_) | (with_reducible refine Ext.drewN ?_ _) | (with_reducible refine Ext.setCell ?_ (by simp; try omega) _) | (with_reducible refine Ext.setRow ?_ (by simp; try omega) _)))⟩
  have HE12 : Hid (n = firstB [(inr s.ext 1 1099511627776, 9), (inr s.mx 0 10, 9), (inr s.self 0 3, 9), (inr s.slots 1 500, 9), (inr s.lev 1 200, 9), (decide (s.dyn ≤ s.stat), 11)]) := Lib.hid (by have := HE11.out; rw [hb] at this; exact this)
  clear hb HE11
  go_wp2_with fail
  refine (rticks_c s.ext _).mono ?_
  rintro e w12 ⟨rfl, hxw12⟩
  have xw12 : Ext w w12 := Ext.trans (by repeat (first | (with_reducible exact Ext.refl _) | (with_reducible assumption) | (with_reducible refine Ext.alloc ?_ _) | (with_reducible refine Ext.drew ?_) | (with_reducible refine Ext.drewN ?_ _) | (with_reducible refine Ext.setCell ?_ (by simp; try omega) _) | (with_reducible refine Ext.setRow ?_ (by simp; try omega) _))) hxw12
  have lw12 := xw12.size
  have S_w12 := At.ext (g := w.heap.size) (t := 35) (cs := #[.int .i64 s.grid, .int .i64 s.ref, .int .i64 s.stat, .int .i64 s.dyn, .int .i64 s.win, .int .i64 s.move, .int .i64 s.lim, .int .i64 s.pause, .int .i64 s.ext, .int .i64 s.mx, .int .i64 s.coll, .int .i64 s.wid, .int .i64 s.self, .int .i64 s.slots, .int .i64 s.lev, .int .i64 s.short]) (by repeat (first | (with_reducible exact At.new _ _ _) | ((with_reducible refine At.new' _ _ _ _ ?_); simp; done) | (with_reducible assumption) | (with_reducible refine At.drew ?_) | (with_reducible refine At.alloc ?_ _) | (with_reducible apply At.upd) | (with_reducible apply At.setRow) | (with_reducible refine At.rowFar ?_ (by first | (simp; done) | (simp; omega) | omega) _) | ((with_reducible refine At.far ?_ (by first | (simp; done) | (simp; omega) | omega) _)) | (with_reducible rfl) | (simp; done))) hxw12
  clear S_w11 s_S_w11 e_S_w11 hxw12 xw11
  have s_S_w12 := S_w12.lt
  have e_S_w12 := cellsAt_at S_w12
  cases hb : inr s.ext 1 1099511627776
  · have hn : n = 9 := by have := HE12.out; rw [hb] at this; exact this
    subst hn
    clear hb
    go_wp2_with fail
    first | refine fin_ret rfl (fun K hK => ?_) | refine fin_norm rfl (fun K hK => ?_)
    simp [results, Try.results12, go_sem, rsat]
    try go_simp
    refine hK _ ?_
    clear hK K
    exact ⟨rfl, (by repeat (first | (with_reducible exact Ext.refl _) | (with_reducible assumption) | (with_reducible refine Ext.alloc ?_ _) | (with_reducible refine Ext.drew ?_) | (with_reducible refine Ext.drewN ?_ _) | (with_reducible refine Ext.setCell ?_ (by simp; try omega) _) | (with_reducible refine Ext.setRow ?_ (by simp; try omega) _)))⟩
  have HE13 : Hid (n = firstB [(inr s.mx 0 10, 9), (inr s.self 0 3, 9), (inr s.slots 1 500, 9), (inr s.lev 1 200, 9), (decide (s.dyn ≤ s.stat), 11)]) := Lib.hid (by have := HE12.out; rw [hb] at this; exact this)
  clear hb HE12
  go_wp2_with fail
  refine (rin7_c s.mx 0 10 _).mono ?_
  rintro e w13 ⟨rfl, hxw13⟩
  have xw13 : Ext w w13 := Ext.trans (by repeat (first | (with_reducible exact Ext.refl _) | (with_reducible assumption) | (with_reducible refine Ext.alloc ?_ _) | (with_reducible refine Ext.drew ?_) | (with_reducible refine Ext.drewN ?_ _) | (with_reducible refine Ext.setCell ?_ (by simp; try omega) _) | (with_reducible refine Ext.setRow ?_ (by simp; try omega) _))) hxw13
  have lw13 := xw13.size
  have S_w13 := At.ext (g := w.heap.size) (t := 35) (cs := #[.int .i64 s.grid, .int .i64 s.ref, .int .i64 s.stat, .int .i64 s.dyn, .int .i64 s.win, .int .i64 s.move, .int .i64 s.lim, .int .i64 s.pause, .int .i64 s.ext, .int .i64 s.mx, .int .i64 s.coll, .int .i64 s.wid, .int .i64 s.self, .int .i64 s.slots, .int .i64 s.lev, .int .i64 s.short]) (by repeat (first | (with_reducible exact At.new _ _ _) | ((with_reducible refine At.new' _ _ _ _ ?_); simp; done) | (with_reducible assumption) | (with_reducible refine At.drew ?_) | (with_reducible refine At.alloc ?_ _) | (with_reducible apply At.upd) | (with_reducible apply At.setRow) | (with_reducible refine At.rowFar ?_ (by first | (simp; done) | (simp; omega) | omega) _) | ((with_reducible refine At.far ?_ (by first | (simp; done) | (simp; omega) | omega) _)) | (with_reducible rfl) | (simp; done))) hxw13
  clear S_w12 s_S_w12 e_S_w12 hxw13 xw12
  have s_S_w13 := S_w13.lt
  have e_S_w13 := cellsAt_at S_w13
  cases hb : inr s.mx 0 10
  · have hn : n = 9 := by have := HE13.out; rw [hb] at this; exact this
    subst hn
    clear hb
    go_wp2_with fail
    first | refine fin_ret rfl (fun K hK => ?_) | refine fin_norm rfl (fun K hK => ?_)
    simp [results, Try.results12, go_sem, rsat]
    try go_simp
    refine hK _ ?_
    clear hK K
    exact ⟨rfl, (by repeat (first | (with_reducible exact Ext.refl _) | (with_reducible assumption) | (with_reducible refine Ext.alloc ?_ _) | (with_reducible refine Ext.drew ?_) | (with_reducible refine Ext.drewN ?_ _) | (with_reducible refine Ext.setCell ?_ (by simp; try omega) _) | (with_reducible refine Ext.setRow ?_ (by simp; try omega) _)))⟩
  have HE14 : Hid (n = firstB [(inr s.self 0 3, 9), (inr s.slots 1 500, 9), (inr s.lev 1 200, 9), (decide (s.dyn ≤ s.stat), 11)]) := Lib.hid (by have := HE13.out; rw [hb] at this; exact this)
  clear hb HE13
  go_wp2_with fail
  refine (rin7_c s.self 0 3 _).mono ?_
  rintro e w14 ⟨rfl, hxw14⟩
  have xw14 : Ext w w14 := Ext.trans (by repeat (first | (with_reducible exact Ext.refl _) | (with_reducible assumption) | (with_reducible refine Ext.alloc ?_ _) | (with_reducible refine Ext.drew ?_) | (with_reducible refine Ext.drewN ?_ _) | (with_reducible refine Ext.setCell ?_ (by simp; try omega) _) | (with_reducible refine Ext.setRow ?_ (by simp; try omega) _))) hxw14
  have lw14 := xw14.size
  have S_w14 := At.ext (g := w.heap.size) (t := 35) (cs := #[.int .i64 s.grid, .int .i64 s.ref, .int .i64 s.stat, .int .i64 s.dyn, .int .i64 s.win, .int .i64 s.move, .int .i64 s.lim, .int .i64 s.pause, .int .i64 s.ext, .int .i64 s.mx, .int .i64 s.coll, .int .i64 s.wid, .int .i64 s.self, .int .i64 s.slots, .int .i64 s.lev, .int .i64 s.short]) (by repeat (first | (with_reducible exact At.new _ _ _) | ((with_reducible refine At.new' _ _ _ _ ?_); simp; done) | (with_reducible assumption) | (with_reducible refine At.drew ?_) | (with_reducible refine At.alloc ?_ _) | (with_reducible apply At.upd) | (with_reducible apply At.setRow) | (with_reducible refine At.rowFar ?_ (by first | (simp; done) | (simp; omega) | omega) _) | ((with_reducible refine At.far ?_ (by first | (simp; done) | (simp; omega) | omega) _)) | (with_reducible rfl) | (simp; done))) hxw14
  clear S_w13 s_S_w13 e_S_w13 hxw14 xw13
  have s_S_w14 := S_w14.lt
  have e_S_w14 := cellsAt_at S_w14
  cases hb : inr s.self 0 3
  · have hn : n = 9 := by have := HE14.out; rw [hb] at this; exact this
    subst hn
    clear hb
    go_wp2_with fail
    first | refine fin_ret rfl (fun K hK => ?_) | refine fin_norm rfl (fun K hK => ?_)
    simp [results, Try.results12, go_sem, rsat]
    try go_simp
    refine hK _ ?_
    clear hK K
    exact ⟨rfl, (by repeat (first | (with_reducible exact Ext.refl _) | (with_reducible assumption) | (with_reducible refine Ext.alloc ?_ _) | (with_reducible refine Ext.drew ?_) | (with_reducible refine Ext.drewN ?_ _) | (with_reducible refine Ext.setCell ?_ (by simp; try omega) _) | (with_reducible refine Ext.setRow ?_ (by simp; try omega) _)))⟩
  have HE15 : Hid (n = firstB [(inr s.slots 1 500, 9), (inr s.lev 1 200, 9), (decide (s.dyn ≤ s.stat), 11)]) := Lib.hid (by have := HE14.out; rw [hb] at this; exact this)
  clear hb HE14
  go_wp2_with fail
  refine (rin7_c s.slots 1 500 _).mono ?_
  rintro e w15 ⟨rfl, hxw15⟩
  have xw15 : Ext w w15 := Ext.trans (by repeat (first | (with_reducible exact Ext.refl _) | (with_reducible assumption) | (with_reducible refine Ext.alloc ?_ _) | (with_reducible refine Ext.drew ?_) | (with_reducible refine Ext.drewN ?_ _) | (with_reducible refine Ext.setCell ?_ (by simp; try omega) _) | (with_reducible refine Ext.setRow ?_ (by simp; try omega) _))) hxw15
  have lw15 := xw15.size
  have S_w15 := At.ext (g := w.heap.size) (t := 35) (cs := #[.int .i64 s.grid, .int .i64 s.ref, .int .i64 s.stat, .int .i64 s.dyn, .int .i64 s.win, .int .i64 s.move, .int .i64 s.lim, .int .i64 s.pause, .int .i64 s.ext, .int .i64 s.mx, .int .i64 s.coll, .int .i64 s.wid, .int .i64 s.self, .int .i64 s.slots, .int .i64 s.lev, .int .i64 s.short]) (by repeat (first | (with_reducible exact At.new _ _ _) | ((with_reducible refine At.new' _ _ _ _ ?_); simp; done) | (with_reducible assumption) | (with_reducible refine At.drew ?_) | (with_reducible refine At.alloc ?_ _) | (with_reducible apply At.upd) | (with_reducible apply At.setRow) | (with_reducible refine At.rowFar ?_ (by first | (simp; done) | (simp; omega) | omega) _) | ((with_reducible refine At.far ?_ (by first | (simp; done) | (simp; omega) | omega) _)) | (with_reducible rfl) | (simp; done))) hxw15
  clear S_w14 s_S_w14 e_S_w14 hxw15 xw14
  have s_S_w15 := S_w15.lt
  have e_S_w15 := cellsAt_at S_w15
  cases hb : inr s.slots 1 500
  · have hn : n = 9 := by have := HE15.out; rw [hb] at this; exact this
    subst hn
    clear hb
    go_wp2_with fail
    first | refine fin_ret rfl (fun K hK => ?_) | refine fin_norm rfl (fun K hK => ?_)
    simp [results, Try.results12, go_sem, rsat]
    try go_simp
    refine hK _ ?_
    clear hK K
    exact ⟨rfl, (by repeat (first | (with_reducible exact Ext.refl _) | (with_reducible assumption) | (with_reducible refine Ext.alloc ?_ _) | (with_reducible refine Ext.drew ?_) | (with_reducible refine Ext.drewN ?_ _) | (with_reducible refine Ext.setCell ?_ (by simp; try omega) _) | (with_reducible refine Ext.setRow ?_ (by simp; try omega) _)))⟩
  have HE16 : Hid (n = firstB [(inr s.lev 1 200, 9), (decide (s.dyn ≤ s.stat), 11)]) := Lib.hid (by have := HE15.out; rw [hb] at this; exact this)
  clear hb HE15
  go_wp2_with fail
  refine (rin7_c s.lev 1 200 _).mono ?_
  rintro e w16 ⟨rfl, hxw16⟩
  have xw16 : Ext w w16 := Ext.trans (by repeat (first | (with_reducible exact Ext.refl _) | (with_reducible assumption) | (with_reducible refine Ext.alloc ?_ _) | (with_reducible refine Ext.drew ?_) | (with_reducible refine Ext.drewN ?_ _) | (with_reducible refine Ext.setCell ?_ (by simp; try omega) _) | (with_reducible refine Ext.setRow ?_ (by simp; try omega) _))) hxw16
  have lw16 := xw16.size
  have S_w16 := At.ext (g := w.heap.size) (t := 35) (cs := #[.int .i64 s.grid, .int .i64 s.ref, .int .i64 s.stat, .int .i64 s.dyn, .int .i64 s.win, .int .i64 s.move, .int .i64 s.lim, .int .i64 s.pause, .int .i64 s.ext, .int .i64 s.mx, .int .i64 s.coll, .int .i64 s.wid, .int .i64 s.self, .int .i64 s.slots, .int .i64 s.lev, .int .i64 s.short]) (by repeat (first | (with_reducible exact At.new _ _ _) | ((with_reducible refine At.new' _ _ _ _ ?_); simp; done) | (with_reducible assumption) | (with_reducible refine At.drew ?_) | (with_reducible refine At.alloc ?_ _) | (with_reducible apply At.upd) | (with_reducible apply At.setRow) | (with_reducible refine At.rowFar ?_ (by first | (simp; done) | (simp; omega) | omega) _) | ((with_reducible refine At.far ?_ (by first | (simp; done) | (simp; omega) | omega) _)) | (with_reducible rfl) | (simp; done))) hxw16
  clear S_w15 s_S_w15 e_S_w15 hxw16 xw15
  have s_S_w16 := S_w16.lt
  have e_S_w16 := cellsAt_at S_w16
  cases hb : inr s.lev 1 200
  · have hn : n = 9 := by have := HE16.out; rw [hb] at this; exact this
    subst hn
    clear hb
    go_wp2_with fail
    first | refine fin_ret rfl (fun K hK => ?_) | refine fin_norm rfl (fun K hK => ?_)
    simp [results, Try.results12, go_sem, rsat]
    try go_simp
    refine hK _ ?_
    clear hK K
    exact ⟨rfl, (by repeat (first | (with_reducible exact Ext.refl _) | (with_reducible assumption) | (with_reducible refine Ext.alloc ?_ _) | (with_reducible refine Ext.drew ?_) | (with_reducible refine Ext.drewN ?_ _) | (with_reducible refine Ext.setCell ?_ (by simp; try omega) _) | (with_reducible refine Ext.setRow ?_ (by simp; try omega) _)))⟩
  have HE17 : Hid (n = firstB [(decide (s.dyn ≤ s.stat), 11)]) := Lib.hid (by have := HE16.out; rw [hb] at this; exact this)
  clear hb HE16
  by_cases hd : s.dyn ≤ s.stat
  · have hn : n = 0 := by have := HE17.out; rw [decide_eq_true hd] at this; exact this
    subst hn
    go_wp2_with fail
    first | refine fin_ret rfl (fun K hK => ?_) | refine fin_norm rfl (fun K hK => ?_)
    simp [results, Try.results12, go_sem, rsat]
    try go_simp
    refine hK _ ?_
    clear hK K
    exact ⟨rfl, (by repeat (first | (with_reducible exact Ext.refl _) | (with_reducible assumption) | (with_reducible refine Ext.alloc ?_ _) | (with_reducible refine Ext.drew ?_) | (with_reducible refine Ext.drewN ?_ _) | (with_reducible refine Ext.setCell ?_ (by simp; try omega) _) | (with_reducible refine Ext.setRow ?_ (by simp; try omega) _)))⟩
  · have hn : n = 11 := by have := HE17.out; rw [decide_eq_false hd] at this; exact this
    subst hn
    go_wp2_with fail
    first | refine fin_ret rfl (fun K hK => ?_) | refine fin_norm rfl (fun K hK => ?_)
    simp [results, Try.results12, go_sem, rsat]
    try go_simp
    refine hK _ ?_
    clear hK K
    exact ⟨rfl, (by repeat (first | (with_reducible exact Ext.refl _) | (with_reducible assumption) | (with_reducible refine Ext.alloc ?_ _) | (with_reducible refine Ext.drew ?_) | (with_reducible refine Ext.drewN ?_ _) | (with_reducible refine Ext.setCell ?_ (by simp; try omega) _) | (with_reducible refine Ext.setRow ?_ (by simp; try omega) _)))⟩
theorem bound_bd {s : Sym} (h : s.Ok) : 0 ≤ s.ext * (s.mx + 1) ∧ s.ext * (s.mx + 1) ≤ 12094627905536 := by
  obtain ⟨a1, a2⟩ := h.ex
  obtain ⟨b1, b2⟩ := h.mx
  have e1 : 0 ≤ s.ext * (s.mx + 1) := Int.mul_nonneg (by omega) (by omega)
  have e2 : s.ext * (s.mx + 1) ≤ s.ext * 11 := Int.mul_le_mul_of_nonneg_left (by omega) (by omega)
  omega

set_option maxRecDepth 100000 in
theorem bound_c (s : Sym) (hs : s.I) (w : World) : Calls Try.prog 13 #[symV s] w fun e w' => e = .returned (.int .i64 (boundI s)) ∧ Ext w w' := by
  have C := symbol_c s hs
  unfold boundI
  by_cases h : symI s = 0
  · rw [if_pos h]
    have ho := sym_ok h
    obtain ⟨d1, d2⟩ := bound_bd ho
    obtain ⟨a1, a2⟩ := ho.ex
    obtain ⟨b1, b2⟩ := ho.mx
    obtain ⟨c1, c2⟩ := ho.pa
    rw [h] at C
    unfold symV symC at C ⊢
    have HC := Lib.hid C
    clear C h ho
    go_enter Try.func13, Try.ntmps13
    go_wp2_with fail
    refine (HC.out _).mono ?_
    rintro e w1 ⟨rfl, hxw1⟩
    have xw1 : Ext w w1 := Ext.trans (by repeat (first | (with_reducible exact Ext.refl _) | (with_reducible assumption) | (with_reducible refine Ext.alloc ?_ _) | (with_reducible refine Ext.drew ?_) | (with_reducible refine Ext.drewN ?_ _) | (with_reducible refine Ext.setCell ?_ (by simp; try omega) _) | (with_reducible refine Ext.setRow ?_ (by simp; try omega) _))) hxw1
    have lw1 := xw1.size
    have S_w1 := At.ext (g := w.heap.size) (t := 35) (cs := #[.int .i64 s.grid, .int .i64 s.ref, .int .i64 s.stat, .int .i64 s.dyn, .int .i64 s.win, .int .i64 s.move, .int .i64 s.lim, .int .i64 s.pause, .int .i64 s.ext, .int .i64 s.mx, .int .i64 s.coll, .int .i64 s.wid, .int .i64 s.self, .int .i64 s.slots, .int .i64 s.lev, .int .i64 s.short]) (by repeat (first | (with_reducible exact At.new _ _ _) | ((with_reducible refine At.new' _ _ _ _ ?_); simp; done) | (with_reducible assumption) | (with_reducible refine At.drew ?_) | (with_reducible refine At.alloc ?_ _) | (with_reducible apply At.upd) | (with_reducible apply At.setRow) | (with_reducible refine At.rowFar ?_ (by first | (simp; done) | (simp; omega) | omega) _) | ((with_reducible refine At.far ?_ (by first | (simp; done) | (simp; omega) | omega) _)) | (with_reducible rfl) | (simp; done))) hxw1
    clear hxw1
    have s_S_w1 := S_w1.lt
    have e_S_w1 := cellsAt_at S_w1
    go_wp2_with fail
    first | refine fin_ret rfl (fun K hK => ?_) | refine fin_norm rfl (fun K hK => ?_)
    simp [results, Try.results13, go_sem, rsat]
    try go_simp
    refine hK _ ?_
    clear hK K
    exact ⟨rfl, (by repeat (first | (with_reducible exact Ext.refl _) | (with_reducible assumption) | (with_reducible refine Ext.alloc ?_ _) | (with_reducible refine Ext.drew ?_) | (with_reducible refine Ext.drewN ?_ _) | (with_reducible refine Ext.setCell ?_ (by simp; try omega) _) | (with_reducible refine Ext.setRow ?_ (by simp; try omega) _)))⟩
  · rw [if_neg h]
    obtain ⟨e1, e2⟩ := beqs7 h
    generalize symI s = n at C e1 e2
    unfold symV symC at C ⊢
    have HC := Lib.hid C
    clear C h
    go_enter Try.func13, Try.ntmps13
    go_wp2_with fail
    refine (HC.out _).mono ?_
    rintro e w1 ⟨rfl, hxw1⟩
    have xw1 : Ext w w1 := Ext.trans (by repeat (first | (with_reducible exact Ext.refl _) | (with_reducible assumption) | (with_reducible refine Ext.alloc ?_ _) | (with_reducible refine Ext.drew ?_) | (with_reducible refine Ext.drewN ?_ _) | (with_reducible refine Ext.setCell ?_ (by simp; try omega) _) | (with_reducible refine Ext.setRow ?_ (by simp; try omega) _))) hxw1
    have lw1 := xw1.size
    go_wp2_with fail
    first | refine fin_ret rfl (fun K hK => ?_) | refine fin_norm rfl (fun K hK => ?_)
    simp [results, Try.results13, go_sem, rsat]
    try go_simp
    refine hK _ ?_
    clear hK K
    exact ⟨rfl, (by repeat (first | (with_reducible exact Ext.refl _) | (with_reducible assumption) | (with_reducible refine Ext.alloc ?_ _) | (with_reducible refine Ext.drew ?_) | (with_reducible refine Ext.drewN ?_ _) | (with_reducible refine Ext.setCell ?_ (by simp; try omega) _) | (with_reducible refine Ext.setRow ?_ (by simp; try omega) _)))⟩

set_option maxRecDepth 100000 in
theorem rbound_c (s : Sym) (hs : s.I) (w : World) : Calls Try.prog 14 #[symV s] w fun e w' => e = .returned (.int .i64 (boundI s)) ∧ Ext w w' := by
  have C := rsymbol_c s hs
  unfold boundI
  by_cases h : symI s = 0
  · rw [if_pos h]
    have ho := sym_ok h
    obtain ⟨d1, d2⟩ := bound_bd ho
    obtain ⟨a1, a2⟩ := ho.ex
    obtain ⟨b1, b2⟩ := ho.mx
    obtain ⟨c1, c2⟩ := ho.pa
    rw [h] at C
    unfold symV symC at C ⊢
    have HC := Lib.hid C
    clear C h ho
    go_enter Try.func14, Try.ntmps14
    go_wp2_with fail
    refine (HC.out _).mono ?_
    rintro e w1 ⟨rfl, hxw1⟩
    have xw1 : Ext w w1 := Ext.trans (by repeat (first | (with_reducible exact Ext.refl _) | (with_reducible assumption) | (with_reducible refine Ext.alloc ?_ _) | (with_reducible refine Ext.drew ?_) | (with_reducible refine Ext.drewN ?_ _) | (with_reducible refine Ext.setCell ?_ (by simp; try omega) _) | (with_reducible refine Ext.setRow ?_ (by simp; try omega) _))) hxw1
    have lw1 := xw1.size
    have S_w1 := At.ext (g := w.heap.size) (t := 35) (cs := #[.int .i64 s.grid, .int .i64 s.ref, .int .i64 s.stat, .int .i64 s.dyn, .int .i64 s.win, .int .i64 s.move, .int .i64 s.lim, .int .i64 s.pause, .int .i64 s.ext, .int .i64 s.mx, .int .i64 s.coll, .int .i64 s.wid, .int .i64 s.self, .int .i64 s.slots, .int .i64 s.lev, .int .i64 s.short]) (by repeat (first | (with_reducible exact At.new _ _ _) | ((with_reducible refine At.new' _ _ _ _ ?_); simp; done) | (with_reducible assumption) | (with_reducible refine At.drew ?_) | (with_reducible refine At.alloc ?_ _) | (with_reducible apply At.upd) | (with_reducible apply At.setRow) | (with_reducible refine At.rowFar ?_ (by first | (simp; done) | (simp; omega) | omega) _) | ((with_reducible refine At.far ?_ (by first | (simp; done) | (simp; omega) | omega) _)) | (with_reducible rfl) | (simp; done))) hxw1
    clear hxw1
    have s_S_w1 := S_w1.lt
    have e_S_w1 := cellsAt_at S_w1
    go_wp2_with fail
    first | refine fin_ret rfl (fun K hK => ?_) | refine fin_norm rfl (fun K hK => ?_)
    simp [results, Try.results14, go_sem, rsat]
    try go_simp
    refine hK _ ?_
    clear hK K
    exact ⟨rfl, (by repeat (first | (with_reducible exact Ext.refl _) | (with_reducible assumption) | (with_reducible refine Ext.alloc ?_ _) | (with_reducible refine Ext.drew ?_) | (with_reducible refine Ext.drewN ?_ _) | (with_reducible refine Ext.setCell ?_ (by simp; try omega) _) | (with_reducible refine Ext.setRow ?_ (by simp; try omega) _)))⟩
  · rw [if_neg h]
    obtain ⟨e1, e2⟩ := beqs7 h
    generalize symI s = n at C e1 e2
    unfold symV symC at C ⊢
    have HC := Lib.hid C
    clear C h
    go_enter Try.func14, Try.ntmps14
    go_wp2_with fail
    refine (HC.out _).mono ?_
    rintro e w1 ⟨rfl, hxw1⟩
    have xw1 : Ext w w1 := Ext.trans (by repeat (first | (with_reducible exact Ext.refl _) | (with_reducible assumption) | (with_reducible refine Ext.alloc ?_ _) | (with_reducible refine Ext.drew ?_) | (with_reducible refine Ext.drewN ?_ _) | (with_reducible refine Ext.setCell ?_ (by simp; try omega) _) | (with_reducible refine Ext.setRow ?_ (by simp; try omega) _))) hxw1
    have lw1 := xw1.size
    go_wp2_with fail
    first | refine fin_ret rfl (fun K hK => ?_) | refine fin_norm rfl (fun K hK => ?_)
    simp [results, Try.results14, go_sem, rsat]
    try go_simp
    refine hK _ ?_
    clear hK K
    exact ⟨rfl, (by repeat (first | (with_reducible exact Ext.refl _) | (with_reducible assumption) | (with_reducible refine Ext.alloc ?_ _) | (with_reducible refine Ext.drew ?_) | (with_reducible refine Ext.drewN ?_ _) | (with_reducible refine Ext.setCell ?_ (by simp; try omega) _) | (with_reducible refine Ext.setRow ?_ (by simp; try omega) _)))⟩

end Go.Proofs.Ytfbpmngdamaobaa
