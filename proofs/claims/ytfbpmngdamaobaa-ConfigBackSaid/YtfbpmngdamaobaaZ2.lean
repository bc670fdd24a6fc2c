/- The walks of package config: table, Check. No condition. -/
import Derived.Test.YtfbpmngdamaobaaZc
import Derived.Test.YtfbpmngdamaobaaG8
import Derived.Test.YtfbpmngdamaobaaG9
namespace Go.Proofs.Ytfbpmngdamaobaa
open Go.RowKit
/-- A value of api.Row, read and written whole: closed words. -/
def loadRwt (a : Addr) : Sem Value := loadVar 54 a
theorem loadRwt_is (a : Addr) : loadVar 54 a = loadRwt a := rfl
theorem run_loadRwt (w : World) (g : Nat) (h : (cellsAt w g).size = 2) : (loadRwt ⟨g, 0, none⟩).run Try.prog w = .ok (.agg (cellsAt w g)) w :=
  loadVar_ca 54 2 (fun _ => by kernel_rfl) (fun _ => by kernel_rfl) w g h
theorem run_loadRwt_at (w : World) (g off : Nat) (h : (subAt w g off 2).size = 2) : (loadRwt ⟨g, off, none⟩).run Try.prog w = .ok (.agg (subAt w g off 2)) w :=
  loadVar_sub 54 2 (fun _ => by kernel_rfl) (fun _ => by kernel_rfl) w g off h
def storeRwt (a : Addr) (v : Value) : Sem Unit := storeVar 54 a v
theorem storeRwt_is (a : Addr) (v : Value) : storeVar 54 a v = storeRwt a v := rfl
theorem run_storeRwt (w : World) (g : Nat) (cs : Array Value) (hc : cs.size = 2) (h : (cellsAt w g).size = 2) (h1 : cs.toList.all (·.oneCell') = true) : (storeRwt ⟨g, 0, none⟩ (.agg cs)).run Try.prog w = .ok () (w.setRow g cs) :=
  storeVar_ca 54 2 (fun _ => by kernel_rfl) w g cs hc h h1 (by decide)
attribute [local go_sem] Later.cell QUpon_value QUpon_enter MUpon_value
attribute [local go_sem ↓ high] loadSym_is storeSym_is loadCfg_is storeCfg_is
attribute [local go_sem] run_loadSym run_loadSym_at run_storeSym run_loadCfg run_loadCfg_at run_storeCfg one_int one_bool one_slice one_ptr one_str setRow_new setRow_past cell_ca frozen_ca cellsAt_alloc_at cellsAt_alloc_past cellsAt_drew cellsAt_later cellsAt_setCell cellsAt_set_same cellsAt_setRow_same cellsAt_setRow_far subAt_alloc subAt_drew subAt_later subAt_setCell subAt_setRow ltn_2 ltn_3 ltn_4 ltn_5
/-- What is wrong with a table's rows from number i on, behind a tick. -/
def tabI : List Rw → Int → Nat → Int × Int
  | [], _, _ => (0, 0)
  | r :: l, last, i => if r.tick ≤ last ∨ 1125899906842624 < r.tick then (9, i) else if ¬ (0 ≤ r.ph ∧ r.ph ≤ 2) then (10, i) else tabI l r.tick (i + 1)
def tableI (l : List Rw) : Int × Int := if ¬ (1 ≤ l.length ∧ l.length ≤ 20) then (9, 0) else tabI l (-1) 0
def symsI : List Sym → Nat → Int × Int
  | [], _ => (0, 0)
  | s :: l, i => if symI s = 0 then symsI l (i + 1) else (symI s, i)
def fallsB (x : Cfg) : Bool := allB 1 9999 [x.f1, x.f2, x.f3] && (decide (x.f1 < x.f2) && decide (x.f2 < x.f3))
def restI (x : Cfg) : Int := if allB 1 1099511627776 [x.ix] = true then (if fallsB x = true then (if allB 1 1099511627776 [x.h1, x.h2] = true then 0 else 9) else 9) else 9
def checkI (x : Cfg) : Int × Int :=
  if ¬ (1 ≤ x.l.length ∧ x.l.length ≤ 8) then (9, 0) else if (symsI x.l 0).1 ≠ 0 then symsI x.l 0 else if (tableI x.t).1 ≠ 0 then tableI x.t else (restI x, 0)
theorem allOne_c (n lo hi : Int) (w : World) (g : Nat) (hg : At w g 2 #[.int .i64 n]) : Calls Try.prog 23 #[.int .i64 lo, .int .i64 hi, .slice (some ⟨g, 0, none⟩) 1 1] w fun e w' => e = .returned (.bool (decide (lo ≤ n ∧ n ≤ hi))) ∧ Ext w w' := by
  have h := all_c [n] lo hi g 1 (by simp) w hg
  have e : allB lo hi [n] = decide (lo ≤ n ∧ n ≤ hi) := by
    unfold allB badB
    simp only [List.any_cons, List.any_nil, Bool.or_false]
    by_cases h1 : n < lo
    · simp [h1]; try omega
    · by_cases h2 : hi < n
      · simp [h1, h2]; try omega
      · simp [h1, h2]; try omega
  rwa [e] at h
set_option maxHeartbeats 1000000 in
set_option maxRecDepth 100000 in
theorem table_c (B : Option Addr) (d : Nat) (t : List Rw) (ht : t.length ≤ 9223372036854775807) (w : World) (hL : Lies Rw.cells 2 w B d t) :
    Calls Try.prog 24 #[.slice B t.length d] w fun e w' => e = .returned (.tuple #[.int .i64 (tableI t).1, .int .i64 (tableI t).2]) ∧ Ext w w' := by
  unfold tableI
  have C1 := fun W g hg => allOne_c (t.length : Int) 1 20 W g hg
  by_cases hn : 1 ≤ t.length ∧ t.length ≤ 20
  · rw [if_neg (by simpa using hn)]
    rw [show decide ((1 : Int) ≤ (t.length : Int) ∧ (t.length : Int) ≤ 20) = true by simp; omega] at C1
    have HC1 := Lib.hid C1
    clear C1
    go_enter Try.func24, Try.ntmps24
    go_wp2_with fail
    refine (HC1.out _ _ (by repeat (first | (with_reducible exact At.new _ _ _) | ((with_reducible refine At.new' _ _ _ _ ?_); simp; done) | (with_reducible assumption) | (with_reducible refine At.drew ?_) | (with_reducible refine At.alloc ?_ _) | (with_reducible apply At.upd) | (with_reducible apply At.setRow) | (with_reducible refine At.rowFar ?_ (by first | (simp; done) | (simp; omega) | omega) _) | ((with_reducible refine At.far ?_ (by first | (simp; done) | (simp; omega) | omega) _)) | (with_reducible rfl) | (simp; done)))).mono ?_
    rintro e w1 ⟨rfl, hx1⟩
    have x1 : Ext w w1 := Ext.trans (by repeat (first | (with_reducible exact Ext.refl _) | (with_reducible assumption) | (with_reducible refine Ext.alloc ?_ _) | (with_reducible refine Ext.drew ?_) | (with_reducible refine Ext.drewN ?_ _) | (with_reducible refine Ext.setCell ?_ (by simp; try omega) _) | (with_reducible refine Ext.setRow ?_ (by simp; try omega) _))) hx1
    clear HC1
    go_wp2_with fail
    go_loopw [4, 14] (fun la i wr => ∃ (k : Nat) (last : Int), i = .int .i64 k ∧ la = .int .i64 last ∧ k ≤ t.length ∧ Ext w wr ∧ tabI t (-1) 0 = tabI (t.drop k) last k) (fun _ i _ => t.length - (intOf i).toNat)
    case atStart => exact ⟨0, -1, rfl, rfl, by omega, x1, rfl⟩
    case round =>
      obtain ⟨k, last, rfl, rfl, hk, hx, hg⟩ := hrel
      by_cases hlt : k < t.length
      · obtain ⟨b, off, rfl, hb, c0, c1⟩ := hL.rowAt k hlt
        have hbr : b < wr.heap.size := Nat.lt_of_lt_of_le hb hx.size
        have d0 := (hx.facts.1 _ _ hb).trans c0
        have d1 := (hx.facts.1 _ _ hb).trans c1
        rw [List.drop_eq_getElem_cons hlt, tabI] at hg
        generalize t[k] = r at hg d0 d1
        obtain ⟨rt, rp⟩ := r
        simp only at hg d0 d1
        clear c0 c1
        by_cases h1 : rt ≤ last
        · rw [if_pos (.inl h1)] at hg
          have HG := Lib.hid hg
          clear hg
          go_wp2_with fail
          first | refine fin_ret rfl (fun K hK => ?_) | refine fin_norm rfl (fun K hK => ?_)
          simp [results, Try.results24, go_sem, rsat]
          try go_simp
          refine hK _ ?_
          clear hK K
          rw [HG.out]
          exact ⟨rfl, (by repeat (first | (with_reducible exact Ext.refl _) | (with_reducible assumption) | (with_reducible refine Ext.alloc ?_ _) | (with_reducible refine Ext.drew ?_) | (with_reducible refine Ext.drewN ?_ _) | (with_reducible refine Ext.setCell ?_ (by simp; try omega) _) | (with_reducible refine Ext.setRow ?_ (by simp; try omega) _)))⟩
        by_cases h2 : 1125899906842624 < rt
        · rw [if_pos (.inr h2)] at hg
          have HG := Lib.hid hg
          clear hg
          go_wp2_with fail
          first | refine fin_ret rfl (fun K hK => ?_) | refine fin_norm rfl (fun K hK => ?_)
          simp [results, Try.results24, go_sem, rsat]
          try go_simp
          refine hK _ ?_
          clear hK K
          rw [HG.out]
          exact ⟨rfl, (by repeat (first | (with_reducible exact Ext.refl _) | (with_reducible assumption) | (with_reducible refine Ext.alloc ?_ _) | (with_reducible refine Ext.drew ?_) | (with_reducible refine Ext.drewN ?_ _) | (with_reducible refine Ext.setCell ?_ (by simp; try omega) _) | (with_reducible refine Ext.setRow ?_ (by simp; try omega) _)))⟩
        rw [if_neg (by omega)] at hg
        have C2 := fun W g hg => allOne_c rp 0 2 W g hg
        by_cases h3 : 0 ≤ rp ∧ rp ≤ 2
        · rw [if_neg (by simpa using h3)] at hg
          have HG := Lib.hid hg
          rw [decide_eq_true h3] at C2
          have HC2 := Lib.hid C2
          clear hg C2
          go_wp2_with fail
          refine (HC2.out _ _ (by repeat (first | (with_reducible exact At.new _ _ _) | ((with_reducible refine At.new' _ _ _ _ ?_); simp; done) | (with_reducible assumption) | (with_reducible refine At.drew ?_) | (with_reducible refine At.alloc ?_ _) | (with_reducible apply At.upd) | (with_reducible apply At.setRow) | (with_reducible refine At.rowFar ?_ (by first | (simp; done) | (simp; omega) | omega) _) | ((with_reducible refine At.far ?_ (by first | (simp; done) | (simp; omega) | omega) _)) | (with_reducible rfl) | (simp; done)))).mono ?_
          rintro e w2 ⟨rfl, hx2⟩
          have x2 : Ext wr w2 := Ext.trans (by repeat (first | (with_reducible exact Ext.refl _) | (with_reducible assumption) | (with_reducible refine Ext.alloc ?_ _) | (with_reducible refine Ext.drew ?_) | (with_reducible refine Ext.drewN ?_ _) | (with_reducible refine Ext.setCell ?_ (by simp; try omega) _) | (with_reducible refine Ext.setRow ?_ (by simp; try omega) _))) hx2
          have R2 : At w2 wr.heap.size 54 #[.int .i64 rt, .int .i64 rp] := At.ext (by repeat (first | (with_reducible exact At.new _ _ _) | ((with_reducible refine At.new' _ _ _ _ ?_); simp; done) | (with_reducible assumption) | (with_reducible refine At.drew ?_) | (with_reducible refine At.alloc ?_ _) | (with_reducible apply At.upd) | (with_reducible apply At.setRow) | (with_reducible refine At.rowFar ?_ (by first | (simp; done) | (simp; omega) | omega) _) | ((with_reducible refine At.far ?_ (by first | (simp; done) | (simp; omega) | omega) _)) | (with_reducible rfl) | (simp; done))) hx2
          have c_R2_0 := R2.cell 0
          have f_R2_0 := R2.frozen 0
          simp only [List.getElem?_toArray, List.getElem?_cons_zero, List.getElem?_cons_succ] at c_R2_0
          have c_R2_1 := R2.cell 1
          have f_R2_1 := R2.frozen 1
          simp only [List.getElem?_toArray, List.getElem?_cons_zero, List.getElem?_cons_succ] at c_R2_1
          have s_R2 := R2.lt
          go_wp2_with fail
          go_roundw
          case rel => exact ⟨k + 1, rt, by go_num, rfl, by omega, hx.trans x2, HG.out⟩
          case measure => simp [intOf]; omega
        · rw [if_pos (by simpa using h3)] at hg
          have HG := Lib.hid hg
          rw [decide_eq_false h3] at C2
          have HC2 := Lib.hid C2
          clear hg C2
          go_wp2_with fail
          refine (HC2.out _ _ (by repeat (first | (with_reducible exact At.new _ _ _) | ((with_reducible refine At.new' _ _ _ _ ?_); simp; done) | (with_reducible assumption) | (with_reducible refine At.drew ?_) | (with_reducible refine At.alloc ?_ _) | (with_reducible apply At.upd) | (with_reducible apply At.setRow) | (with_reducible refine At.rowFar ?_ (by first | (simp; done) | (simp; omega) | omega) _) | ((with_reducible refine At.far ?_ (by first | (simp; done) | (simp; omega) | omega) _)) | (with_reducible rfl) | (simp; done)))).mono ?_
          rintro e w2 ⟨rfl, hx2⟩
          have x2 : Ext wr w2 := Ext.trans (by repeat (first | (with_reducible exact Ext.refl _) | (with_reducible assumption) | (with_reducible refine Ext.alloc ?_ _) | (with_reducible refine Ext.drew ?_) | (with_reducible refine Ext.drewN ?_ _) | (with_reducible refine Ext.setCell ?_ (by simp; try omega) _) | (with_reducible refine Ext.setRow ?_ (by simp; try omega) _))) hx2
          go_wp2_with fail
          first | refine fin_ret rfl (fun K hK => ?_) | refine fin_norm rfl (fun K hK => ?_)
          simp [results, Try.results24, go_sem, rsat]
          try go_simp
          refine hK _ ?_
          clear hK K
          rw [HG.out]
          exact ⟨rfl, hx.trans x2⟩
      · obtain rfl : k = t.length := by omega
        rw [List.drop_length, tabI] at hg
        have HG := Lib.hid hg
        clear hg
        go_wp2_with fail
        first | refine fin_ret rfl (fun K hK => ?_) | refine fin_norm rfl (fun K hK => ?_)
        simp [results, Try.results24, go_sem, rsat]
        try go_simp
        refine hK _ ?_
        clear hK K
        rw [HG.out]
        exact ⟨rfl, hx⟩
  · rw [if_pos (by simpa using hn)]
    rw [show decide ((1 : Int) ≤ (t.length : Int) ∧ (t.length : Int) ≤ 20) = false by simp; omega] at C1
    have HC1 := Lib.hid C1
    clear C1
    go_enter Try.func24, Try.ntmps24
    go_wp2_with fail
    refine (HC1.out _ _ (by repeat (first | (with_reducible exact At.new _ _ _) | ((with_reducible refine At.new' _ _ _ _ ?_); simp; done) | (with_reducible assumption) | (with_reducible refine At.drew ?_) | (with_reducible refine At.alloc ?_ _) | (with_reducible apply At.upd) | (with_reducible apply At.setRow) | (with_reducible refine At.rowFar ?_ (by first | (simp; done) | (simp; omega) | omega) _) | ((with_reducible refine At.far ?_ (by first | (simp; done) | (simp; omega) | omega) _)) | (with_reducible rfl) | (simp; done)))).mono ?_
    rintro e w1 ⟨rfl, hx1⟩
    go_wp2_with fail
    first | refine fin_ret rfl (fun K hK => ?_) | refine fin_norm rfl (fun K hK => ?_)
    simp [results, Try.results24, go_sem, rsat]
    try go_simp
    refine hK _ ?_
    clear hK K
    exact ⟨rfl, Ext.trans (by repeat (first | (with_reducible exact Ext.refl _) | (with_reducible assumption) | (with_reducible refine Ext.alloc ?_ _) | (with_reducible refine Ext.drew ?_) | (with_reducible refine Ext.drewN ?_ _) | (with_reducible refine Ext.setCell ?_ (by simp; try omega) _) | (with_reducible refine Ext.setRow ?_ (by simp; try omega) _))) hx1⟩
theorem crule2_c (x : Cfg) (g : Nat) (w : World) (hg : At w g 27 #[.slice x.A x.l.length x.c, .slice x.B x.t.length x.d, .int .i64 x.ix, .int .i64 x.f1, .int .i64 x.f2, .int .i64 x.f3, .int .i64 x.h1, .int .i64 x.h2]) : Calls Try.prog 27 #[.pointer (some ⟨g, 0, none⟩)] w fun e w' => e = .returned (.bool (allB 1 1099511627776 [x.ix])) ∧ Ext w w' := by
  have e := cellsAt_at hg
  have s := hg.lt
  go_enter Try.func27, Try.ntmps27
  go_wp2_with fail
  refine (all_c [x.ix] 1 1099511627776 w.heap.size 1 (by simp) _ (show At _ _ _ #[.int .i64 x.ix] from (by repeat (first | (with_reducible exact At.new _ _ _) | ((with_reducible refine At.new' _ _ _ _ ?_); simp; done) | (with_reducible assumption) | (with_reducible refine At.drew ?_) | (with_reducible refine At.alloc ?_ _) | (with_reducible apply At.upd) | (with_reducible apply At.setRow) | (with_reducible refine At.rowFar ?_ (by first | (simp; done) | (simp; omega) | omega) _) | ((with_reducible refine At.far ?_ (by first | (simp; done) | (simp; omega) | omega) _)) | (with_reducible rfl) | (simp; done))))).mono ?_
  rintro e w1 ⟨rfl, hx1⟩
  go_wp2_with fail
  first | refine fin_ret rfl (fun K hK => ?_) | refine fin_norm rfl (fun K hK => ?_)
  simp [results, Try.results27, go_sem, rsat]
  try go_simp
  refine hK _ ?_
  clear hK K
  exact ⟨rfl, Ext.trans (by repeat (first | (with_reducible exact Ext.refl _) | (with_reducible assumption) | (with_reducible refine Ext.alloc ?_ _) | (with_reducible refine Ext.drew ?_) | (with_reducible refine Ext.drewN ?_ _) | (with_reducible refine Ext.setCell ?_ (by simp; try omega) _) | (with_reducible refine Ext.setRow ?_ (by simp; try omega) _))) hx1⟩
theorem crule3_c (x : Cfg) (g : Nat) (w : World) (hg : At w g 27 #[.slice x.A x.l.length x.c, .slice x.B x.t.length x.d, .int .i64 x.ix, .int .i64 x.f1, .int .i64 x.f2, .int .i64 x.f3, .int .i64 x.h1, .int .i64 x.h2]) : Calls Try.prog 28 #[.pointer (some ⟨g, 0, none⟩)] w fun e w' => e = .returned (.bool (allB 1 1099511627776 [x.h1, x.h2])) ∧ Ext w w' := by
  have e := cellsAt_at hg
  have s := hg.lt
  go_enter Try.func28, Try.ntmps28
  go_wp2_with fail
  refine (all_c [x.h1, x.h2] 1 1099511627776 w.heap.size 2 (by simp) _ (show At _ _ _ #[.int .i64 x.h1, .int .i64 x.h2] from (by repeat (first | (with_reducible exact At.new _ _ _) | ((with_reducible refine At.new' _ _ _ _ ?_); simp; done) | (with_reducible assumption) | (with_reducible refine At.drew ?_) | (with_reducible refine At.alloc ?_ _) | (with_reducible apply At.upd) | (with_reducible apply At.setRow) | (with_reducible refine At.rowFar ?_ (by first | (simp; done) | (simp; omega) | omega) _) | ((with_reducible refine At.far ?_ (by first | (simp; done) | (simp; omega) | omega) _)) | (with_reducible rfl) | (simp; done))))).mono ?_
  rintro e w1 ⟨rfl, hx1⟩
  go_wp2_with fail
  first | refine fin_ret rfl (fun K hK => ?_) | refine fin_norm rfl (fun K hK => ?_)
  simp [results, Try.results28, go_sem, rsat]
  try go_simp
  refine hK _ ?_
  clear hK K
  exact ⟨rfl, Ext.trans (by repeat (first | (with_reducible exact Ext.refl _) | (with_reducible assumption) | (with_reducible refine Ext.alloc ?_ _) | (with_reducible refine Ext.drew ?_) | (with_reducible refine Ext.drewN ?_ _) | (with_reducible refine Ext.setCell ?_ (by simp; try omega) _) | (with_reducible refine Ext.setRow ?_ (by simp; try omega) _))) hx1⟩
theorem crule1_c (x : Cfg) (g : Nat) (w : World) (hg : At w g 27 #[.slice x.A x.l.length x.c, .slice x.B x.t.length x.d, .int .i64 x.ix, .int .i64 x.f1, .int .i64 x.f2, .int .i64 x.f3, .int .i64 x.h1, .int .i64 x.h2]) : Calls Try.prog 25 #[.pointer (some ⟨g, 0, none⟩)] w fun e w' => e = .returned (.bool (fallsB x)) ∧ Ext w w' := by
  have e := cellsAt_at hg
  have s := hg.lt
  have C := fun W h hW => all_c [x.f1, x.f2, x.f3] 1 9999 h 3 (by simp) W hW
  unfold fallsB
  cases hb : allB 1 9999 [x.f1, x.f2, x.f3] with
  | false =>
    rw [hb] at C
    have HC := Lib.hid C
    clear C hb
    rw [Bool.false_and]
    go_enter Try.func25, Try.ntmps25
    go_wp2_with fail
    refine (HC.out _ _ (show At _ _ _ #[.int .i64 x.f1, .int .i64 x.f2, .int .i64 x.f3] from (by repeat (first | (with_reducible exact At.new _ _ _) | ((with_reducible refine At.new' _ _ _ _ ?_); simp; done) | (with_reducible assumption) | (with_reducible refine At.drew ?_) | (with_reducible refine At.alloc ?_ _) | (with_reducible apply At.upd) | (with_reducible apply At.setRow) | (with_reducible refine At.rowFar ?_ (by first | (simp; done) | (simp; omega) | omega) _) | ((with_reducible refine At.far ?_ (by first | (simp; done) | (simp; omega) | omega) _)) | (with_reducible rfl) | (simp; done))))).mono ?_
    rintro e w1 ⟨rfl, hx1⟩
    have x1 : Ext w w1 := Ext.trans (by repeat (first | (with_reducible exact Ext.refl _) | (with_reducible assumption) | (with_reducible refine Ext.alloc ?_ _) | (with_reducible refine Ext.drew ?_) | (with_reducible refine Ext.drewN ?_ _) | (with_reducible refine Ext.setCell ?_ (by simp; try omega) _) | (with_reducible refine Ext.setRow ?_ (by simp; try omega) _))) hx1
    have e1 := cellsAt_at (hg.ext x1)
    have s1 := (hg.ext x1).lt
    go_wp2_with fail
    first | refine fin_ret rfl (fun K hK => ?_) | refine fin_norm rfl (fun K hK => ?_)
    simp [results, Try.results25, go_sem, rsat]
    try go_simp
    refine hK _ ?_
    clear hK K
    refine ⟨?_, x1⟩
    first | rfl | (congr 2; simp; omega)
  | true =>
    rw [hb] at C
    have HC := Lib.hid C
    clear C hb
    rw [Bool.true_and]
    by_cases h1 : x.f1 < x.f2
    · rw [decide_eq_true h1, Bool.true_and]
      by_cases h2 : x.f2 < x.f3
      · rw [decide_eq_true h2]
        go_enter Try.func25, Try.ntmps25
        go_wp2_with fail
        refine (HC.out _ _ (show At _ _ _ #[.int .i64 x.f1, .int .i64 x.f2, .int .i64 x.f3] from (by repeat (first | (with_reducible exact At.new _ _ _) | ((with_reducible refine At.new' _ _ _ _ ?_); simp; done) | (with_reducible assumption) | (with_reducible refine At.drew ?_) | (with_reducible refine At.alloc ?_ _) | (with_reducible apply At.upd) | (with_reducible apply At.setRow) | (with_reducible refine At.rowFar ?_ (by first | (simp; done) | (simp; omega) | omega) _) | ((with_reducible refine At.far ?_ (by first | (simp; done) | (simp; omega) | omega) _)) | (with_reducible rfl) | (simp; done))))).mono ?_
        rintro e w1 ⟨rfl, hx1⟩
        have x1 : Ext w w1 := Ext.trans (by repeat (first | (with_reducible exact Ext.refl _) | (with_reducible assumption) | (with_reducible refine Ext.alloc ?_ _) | (with_reducible refine Ext.drew ?_) | (with_reducible refine Ext.drewN ?_ _) | (with_reducible refine Ext.setCell ?_ (by simp; try omega) _) | (with_reducible refine Ext.setRow ?_ (by simp; try omega) _))) hx1
        have e1 := cellsAt_at (hg.ext x1)
        have s1 := (hg.ext x1).lt
        go_wp2_with fail
        first | refine fin_ret rfl (fun K hK => ?_) | refine fin_norm rfl (fun K hK => ?_)
        simp [results, Try.results25, go_sem, rsat]
        try go_simp
        refine hK _ ?_
        clear hK K
        refine ⟨?_, x1⟩
        first | rfl | (congr 2; simp; omega)
      · rw [decide_eq_false h2]
        go_enter Try.func25, Try.ntmps25
        go_wp2_with fail
        refine (HC.out _ _ (show At _ _ _ #[.int .i64 x.f1, .int .i64 x.f2, .int .i64 x.f3] from (by repeat (first | (with_reducible exact At.new _ _ _) | ((with_reducible refine At.new' _ _ _ _ ?_); simp; done) | (with_reducible assumption) | (with_reducible refine At.drew ?_) | (with_reducible refine At.alloc ?_ _) | (with_reducible apply At.upd) | (with_reducible apply At.setRow) | (with_reducible refine At.rowFar ?_ (by first | (simp; done) | (simp; omega) | omega) _) | ((with_reducible refine At.far ?_ (by first | (simp; done) | (simp; omega) | omega) _)) | (with_reducible rfl) | (simp; done))))).mono ?_
        rintro e w1 ⟨rfl, hx1⟩
        have x1 : Ext w w1 := Ext.trans (by repeat (first | (with_reducible exact Ext.refl _) | (with_reducible assumption) | (with_reducible refine Ext.alloc ?_ _) | (with_reducible refine Ext.drew ?_) | (with_reducible refine Ext.drewN ?_ _) | (with_reducible refine Ext.setCell ?_ (by simp; try omega) _) | (with_reducible refine Ext.setRow ?_ (by simp; try omega) _))) hx1
        have e1 := cellsAt_at (hg.ext x1)
        have s1 := (hg.ext x1).lt
        go_wp2_with fail
        first | refine fin_ret rfl (fun K hK => ?_) | refine fin_norm rfl (fun K hK => ?_)
        simp [results, Try.results25, go_sem, rsat]
        try go_simp
        refine hK _ ?_
        clear hK K
        refine ⟨?_, x1⟩
        first | rfl | (congr 2; simp; omega)
    · rw [decide_eq_false h1, Bool.false_and]
      go_enter Try.func25, Try.ntmps25
      go_wp2_with fail
      refine (HC.out _ _ (show At _ _ _ #[.int .i64 x.f1, .int .i64 x.f2, .int .i64 x.f3] from (by repeat (first | (with_reducible exact At.new _ _ _) | ((with_reducible refine At.new' _ _ _ _ ?_); simp; done) | (with_reducible assumption) | (with_reducible refine At.drew ?_) | (with_reducible refine At.alloc ?_ _) | (with_reducible apply At.upd) | (with_reducible apply At.setRow) | (with_reducible refine At.rowFar ?_ (by first | (simp; done) | (simp; omega) | omega) _) | ((with_reducible refine At.far ?_ (by first | (simp; done) | (simp; omega) | omega) _)) | (with_reducible rfl) | (simp; done))))).mono ?_
      rintro e w1 ⟨rfl, hx1⟩
      have x1 : Ext w w1 := Ext.trans (by repeat (first | (with_reducible exact Ext.refl _) | (with_reducible assumption) | (with_reducible refine Ext.alloc ?_ _) | (with_reducible refine Ext.drew ?_) | (with_reducible refine Ext.drewN ?_ _) | (with_reducible refine Ext.setCell ?_ (by simp; try omega) _) | (with_reducible refine Ext.setRow ?_ (by simp; try omega) _))) hx1
      have e1 := cellsAt_at (hg.ext x1)
      have s1 := (hg.ext x1).lt
      go_wp2_with fail
      first | refine fin_ret rfl (fun K hK => ?_) | refine fin_norm rfl (fun K hK => ?_)
      simp [results, Try.results25, go_sem, rsat]
      try go_simp
      refine hK _ ?_
      clear hK K
      refine ⟨?_, x1⟩
      first | rfl | (congr 2; simp; omega)
theorem ccalls_fn1 (a : Array Value) (w : World) : (callFunc 25 a).run Try.prog w = .ok (.enter 25 a) w := by go_simp
theorem ccalls_fn2 (a : Array Value) (w : World) : (callFunc 27 a).run Try.prog w = .ok (.enter 27 a) w := by go_simp
theorem ccalls_fn3 (a : Array Value) (w : World) : (callFunc 28 a).run Try.prog w = .ok (.enter 28 a) w := by go_simp
def cfgR (x : Cfg) (g : Nat) : List Rul := [⟨27, #[.pointer (some ⟨g, 0, none⟩)], 9, allB 1 1099511627776 [x.ix]⟩, ⟨25, #[.pointer (some ⟨g, 0, none⟩)], 9, fallsB x⟩, ⟨28, #[.pointer (some ⟨g, 0, none⟩)], 9, allB 1 1099511627776 [x.h1, x.h2]⟩]
theorem cfgR_I (x : Cfg) (g : Nat) : firstI (cfgR x g) = restI x := by
  unfold restI cfgR
  simp only [firstI]
theorem syms_code : ∀ (l : List Sym) (i : Nat), (symsI l i).1 = 0 → symsI l i = (0, 0)
  | [], _, _ => rfl
  | s :: l, i, h => by
    unfold symsI at h ⊢
    by_cases h1 : symI s = 0
    · rw [if_pos h1] at h ⊢
      exact syms_code l _ h
    · rw [if_neg h1] at h
      exact absurd h h1
set_option maxHeartbeats 2000000 in
set_option maxRecDepth 100000 in
theorem check_c (x : Cfg) (w : World) (h : x.At w) : Calls Try.prog 9 #[.agg #[.slice x.A x.l.length x.c, .slice x.B x.t.length x.d, .int .i64 x.ix, .int .i64 x.f1, .int .i64 x.f2, .int .i64 x.f3, .int .i64 x.h1, .int .i64 x.h2]] w fun e w' => e = .returned (.tuple #[.int .i64 (checkI x).1, .int .i64 (checkI x).2]) ∧ Ext w w' := by
  have hlm : x.l.length ≤ 9223372036854775807 := by have := h.syms.le; have := h.syms.max; unfold maxLen at this; omega
  have htm : x.t.length ≤ 9223372036854775807 := by have := h.rows.le; have := h.rows.max; unfold maxLen at this; omega
  unfold checkI
  have C1 := fun W g hg => allOne_c (x.l.length : Int) 1 8 W g hg
  by_cases hn : 1 ≤ x.l.length ∧ x.l.length ≤ 8
  · rw [if_neg (by simpa using hn)]
    obtain ⟨R, hR⟩ : ∃ R : Int × Int, R = (if (symsI x.l 0).1 ≠ 0 then symsI x.l 0 else if (tableI x.t).1 ≠ 0 then tableI x.t else (restI x, 0)) := ⟨_, rfl⟩
    rw [← hR]
    have HR := Lib.hid hR
    clear hR
    rw [show decide ((1 : Int) ≤ (x.l.length : Int) ∧ (x.l.length : Int) ≤ 8) = true by simp; omega] at C1
    have HC1 := Lib.hid C1
    clear C1
    go_enter Try.func9, Try.ntmps9
    go_wp2_with fail
    refine (HC1.out _ _ (by repeat (first | (with_reducible exact At.new _ _ _) | ((with_reducible refine At.new' _ _ _ _ ?_); simp; done) | (with_reducible assumption) | (with_reducible refine At.drew ?_) | (with_reducible refine At.alloc ?_ _) | (with_reducible apply At.upd) | (with_reducible apply At.setRow) | (with_reducible refine At.rowFar ?_ (by first | (simp; done) | (simp; omega) | omega) _) | ((with_reducible refine At.far ?_ (by first | (simp; done) | (simp; omega) | omega) _)) | (with_reducible rfl) | (simp; done)))).mono ?_
    rintro e w1 ⟨rfl, hx1⟩
    have x1 : Ext w w1 := Ext.trans (by repeat (first | (with_reducible exact Ext.refl _) | (with_reducible assumption) | (with_reducible refine Ext.alloc ?_ _) | (with_reducible refine Ext.drew ?_) | (with_reducible refine Ext.drewN ?_ _) | (with_reducible refine Ext.setCell ?_ (by simp; try omega) _) | (with_reducible refine Ext.setRow ?_ (by simp; try omega) _))) hx1
    have M1 : At w1 w.heap.size 27 #[.slice x.A x.l.length x.c, .slice x.B x.t.length x.d, .int .i64 x.ix, .int .i64 x.f1, .int .i64 x.f2, .int .i64 x.f3, .int .i64 x.h1, .int .i64 x.h2] := At.ext (by repeat (first | (with_reducible exact At.new _ _ _) | ((with_reducible refine At.new' _ _ _ _ ?_); simp; done) | (with_reducible assumption) | (with_reducible refine At.drew ?_) | (with_reducible refine At.alloc ?_ _) | (with_reducible apply At.upd) | (with_reducible apply At.setRow) | (with_reducible refine At.rowFar ?_ (by first | (simp; done) | (simp; omega) | omega) _) | ((with_reducible refine At.far ?_ (by first | (simp; done) | (simp; omega) | omega) _)) | (with_reducible rfl) | (simp; done))) hx1
    have e1 := cellsAt_at M1
    have s1 := M1.lt
    clear HC1
    go_wp2_with fail
    go_loopw [19] (fun i wr => ∃ k : Nat, i = .int .i64 k ∧ k ≤ x.l.length ∧ Ext w wr ∧ At wr w.heap.size 27 #[.slice x.A x.l.length x.c, .slice x.B x.t.length x.d, .int .i64 x.ix, .int .i64 x.f1, .int .i64 x.f2, .int .i64 x.f3, .int .i64 x.h1, .int .i64 x.h2] ∧ symsI x.l 0 = symsI (x.l.drop k) k) (fun i _ => x.l.length - (intOf i).toNat)
    case atStart => exact ⟨0, rfl, by omega, x1, M1, rfl⟩
    case round =>
      obtain ⟨k, rfl, hk, hx, M2, hg⟩ := hrel
      by_cases hlt : k < x.l.length
      · obtain ⟨b, off, hA, hb, hs⟩ := h.syms.symAt k hlt
        have hbr : b < wr.heap.size := Nat.lt_of_lt_of_le hb hx.size
        have hs2 := (subAt_ext hx hb).trans hs
        rw [List.drop_eq_getElem_cons hlt, symsI] at hg
        have hsI := h.symI x.l[k] (List.getElem_mem _)
        generalize x.l[k] = s at hg hs hs2 hsI
        have hs3 : subAt wr b (off + k * 16) 16 = #[.int .i64 s.grid, .int .i64 s.ref, .int .i64 s.stat, .int .i64 s.dyn, .int .i64 s.win, .int .i64 s.move, .int .i64 s.lim, .int .i64 s.pause, .int .i64 s.ext, .int .i64 s.mx, .int .i64 s.coll, .int .i64 s.wid, .int .i64 s.self, .int .i64 s.slots, .int .i64 s.lev, .int .i64 s.short] := hs2
        have CS := symbol_c s hsI
        unfold symV symC at CS
        generalize symI s = si at CS hg
        rw [hA] at M2 ⊢
        have e2 := cellsAt_at M2
        have s2 := M2.lt
        have HCS := Lib.hid CS
        clear CS hs2 hs
        by_cases hsi : si = 0
        · rw [if_pos hsi] at hg
          have HG := Lib.hid hg
          subst hsi
          clear hg
          go_wp2_with fail
          refine (HCS.out _).mono ?_
          rintro e w2 ⟨rfl, hx2⟩
          have x2 : Ext wr w2 := Ext.trans (by repeat (first | (with_reducible exact Ext.refl _) | (with_reducible assumption) | (with_reducible refine Ext.alloc ?_ _) | (with_reducible refine Ext.drew ?_) | (with_reducible refine Ext.drewN ?_ _) | (with_reducible refine Ext.setCell ?_ (by simp; try omega) _) | (with_reducible refine Ext.setRow ?_ (by simp; try omega) _))) hx2
          have M3 := M2.ext x2
          go_wp2_with fail
          go_roundw
          case rel => exact ⟨k + 1, by go_num, by omega, hx.trans x2, M3, HG.out⟩
          case measure => simp [intOf]; omega
        · rw [if_neg hsi] at hg
          have HG := Lib.hid hg
          have hsb : (si != 0) = true := bne_iff_ne.2 hsi
          have HSI := Lib.hid hsi
          clear hg hsi
          go_wp2_with fail
          refine (HCS.out _).mono ?_
          rintro e w2 ⟨rfl, hx2⟩
          have x2 : Ext wr w2 := Ext.trans (by repeat (first | (with_reducible exact Ext.refl _) | (with_reducible assumption) | (with_reducible refine Ext.alloc ?_ _) | (with_reducible refine Ext.drew ?_) | (with_reducible refine Ext.drewN ?_ _) | (with_reducible refine Ext.setCell ?_ (by simp; try omega) _) | (with_reducible refine Ext.setRow ?_ (by simp; try omega) _))) hx2
          go_wp2_with fail
          first | refine fin_ret rfl (fun K hK => ?_) | refine fin_norm rfl (fun K hK => ?_)
          simp [results, Try.results9, go_sem, rsat]
          try go_simp
          refine hK _ ?_
          clear hK K
          have hr : R = (si, (k : Int)) := by rw [HR.out, HG.out]; exact if_pos HSI.out
          rw [hr]
          exact ⟨rfl, hx.trans x2⟩
      · obtain rfl : k = x.l.length := by omega
        rw [List.drop_length, symsI] at hg
        have HG := Lib.hid hg
        clear hg
        have e2 := cellsAt_at M2
        have s2 := M2.lt
        have CT := table_c x.B x.d x.t htm
        generalize htI : tableI x.t = tI at CT
        have HT := Lib.hid htI
        obtain ⟨ta, tb⟩ := tI
        simp only at CT
        have HCT := Lib.hid CT
        clear CT htI
        by_cases hta : ta = 0
        · subst hta
          go_wp2_with fail
          refine (HCT.out wr (h.rows.ext hx)).mono ?_
          rintro e w2 ⟨rfl, hx2⟩
          have M3 := M2.ext hx2
          have e3 := cellsAt_at M3
          have s3 := M3.lt
          have x3 := hx.trans hx2
          have CF := fun W (y : Ext w2 W) g (hg : At W g 51 #[.func (.func 27) #[] #[.pointer (some ⟨w.heap.size, 0, none⟩)], .int .i64 9, .func (.func 25) #[] #[.pointer (some ⟨w.heap.size, 0, none⟩)], .int .i64 9, .func (.func 28) #[] #[.pointer (some ⟨w.heap.size, 0, none⟩)], .int .i64 9]) =>
            first_c (cfgR x w.heap.size) g 3 (by simp [cfgR]) W hg (by
              intro i h w'
              have hi : i = 0 ∨ i = 1 ∨ i = 2 := by simp [cfgR] at h; omega
              rcases hi with rfl | rfl | rfl
              · exact ccalls_fn2 _ _
              · exact ccalls_fn1 _ _
              · exact ccalls_fn3 _ _) (by
              intro i h w' hx'
              have h0 : At w' w.heap.size 27 #[.slice x.A x.l.length x.c, .slice x.B x.t.length x.d, .int .i64 x.ix, .int .i64 x.f1, .int .i64 x.f2, .int .i64 x.f3, .int .i64 x.h1, .int .i64 x.h2] := (M3.ext y).ext hx'
              have hi : i = 0 ∨ i = 1 ∨ i = 2 := by simp [cfgR] at h; omega
              rcases hi with rfl | rfl | rfl
              · exact crule2_c x _ _ h0
              · exact crule1_c x _ _ h0
              · exact crule3_c x _ _ h0)
          rw [cfgR_I] at CF
          have HCF := Lib.hid CF
          clear CF
          go_wp2_with fail
          refine (HCF.out _ (by repeat (first | (with_reducible exact Ext.refl _) | (with_reducible assumption) | (with_reducible refine Ext.alloc ?_ _) | (with_reducible refine Ext.drew ?_) | (with_reducible refine Ext.drewN ?_ _) | (with_reducible refine Ext.setCell ?_ (by simp; try omega) _) | (with_reducible refine Ext.setRow ?_ (by simp; try omega) _))) _ (by repeat (first | (with_reducible exact At.new _ _ _) | ((with_reducible refine At.new' _ _ _ _ ?_); simp; done) | (with_reducible assumption) | (with_reducible refine At.drew ?_) | (with_reducible refine At.alloc ?_ _) | (with_reducible apply At.upd) | (with_reducible apply At.setRow) | (with_reducible refine At.rowFar ?_ (by first | (simp; done) | (simp; omega) | omega) _) | ((with_reducible refine At.far ?_ (by first | (simp; done) | (simp; omega) | omega) _)) | (with_reducible rfl) | (simp; done)))).mono ?_
          rintro e w4 ⟨rfl, hx4⟩
          go_wp2_with fail
          first | refine fin_ret rfl (fun K hK => ?_) | refine fin_norm rfl (fun K hK => ?_)
          simp [results, Try.results9, go_sem, rsat]
          try go_simp
          refine hK _ ?_
          clear hK K
          have hr : R = (restI x, 0) := by rw [HR.out, HG.out, HT.out]; rfl
          rw [hr]
          exact ⟨rfl, x3.trans (Ext.trans (by repeat (first | (with_reducible exact Ext.refl _) | (with_reducible assumption) | (with_reducible refine Ext.alloc ?_ _) | (with_reducible refine Ext.drew ?_) | (with_reducible refine Ext.drewN ?_ _) | (with_reducible refine Ext.setCell ?_ (by simp; try omega) _) | (with_reducible refine Ext.setRow ?_ (by simp; try omega) _))) hx4)⟩
        · have htb : (ta != 0) = true := bne_iff_ne.2 hta
          have HTA := Lib.hid hta
          clear hta
          go_wp2_with fail
          refine (HCT.out wr (h.rows.ext hx)).mono ?_
          rintro e w2 ⟨rfl, hx2⟩
          go_wp2_with fail
          first | refine fin_ret rfl (fun K hK => ?_) | refine fin_norm rfl (fun K hK => ?_)
          simp [results, Try.results9, go_sem, rsat]
          try go_simp
          refine hK _ ?_
          clear hK K
          have hr : R = (ta, tb) := by rw [HR.out, HG.out, HT.out]; exact if_pos HTA.out
          rw [hr]
          exact ⟨rfl, hx.trans hx2⟩
  · rw [if_pos (by simpa using hn)]
    rw [show decide ((1 : Int) ≤ (x.l.length : Int) ∧ (x.l.length : Int) ≤ 8) = false by simp; omega] at C1
    have HC1 := Lib.hid C1
    clear C1
    go_enter Try.func9, Try.ntmps9
    go_wp2_with fail
    refine (HC1.out _ _ (by repeat (first | (with_reducible exact At.new _ _ _) | ((with_reducible refine At.new' _ _ _ _ ?_); simp; done) | (with_reducible assumption) | (with_reducible refine At.drew ?_) | (with_reducible refine At.alloc ?_ _) | (with_reducible apply At.upd) | (with_reducible apply At.setRow) | (with_reducible refine At.rowFar ?_ (by first | (simp; done) | (simp; omega) | omega) _) | ((with_reducible refine At.far ?_ (by first | (simp; done) | (simp; omega) | omega) _)) | (with_reducible rfl) | (simp; done)))).mono ?_
    rintro e w1 ⟨rfl, hx1⟩
    go_wp2_with fail
    first | refine fin_ret rfl (fun K hK => ?_) | refine fin_norm rfl (fun K hK => ?_)
    simp [results, Try.results9, go_sem, rsat]
    try go_simp
    refine hK _ ?_
    clear hK K
    exact ⟨rfl, Ext.trans (by repeat (first | (with_reducible exact Ext.refl _) | (with_reducible assumption) | (with_reducible refine Ext.alloc ?_ _) | (with_reducible refine Ext.drew ?_) | (with_reducible refine Ext.drewN ?_ _) | (with_reducible refine Ext.setCell ?_ (by simp; try omega) _) | (with_reducible refine Ext.setRow ?_ (by simp; try omega) _))) hx1⟩
end Go.Proofs.Ytfbpmngdamaobaa
