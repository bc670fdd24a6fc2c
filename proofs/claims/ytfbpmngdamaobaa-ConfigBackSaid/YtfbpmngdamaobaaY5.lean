/- Configurations (layer 7): which are the same, by the program. No condition. -/
import Derived.Test.YtfbpmngdamaobaaY4
import Derived.ChangeKeysEq
namespace Go.Proofs.Ytfbpmngdamaobaa
open Go.RowKit
attribute [local go_sem] Later.cell QUpon_value QUpon_enter MUpon_value
attribute [local go_sem ↓ high] loadSym_is storeSym_is loadCfg_is storeCfg_is
attribute [local go_sem] run_loadSym run_loadSym_at run_storeSym run_loadCfg run_loadCfg_at run_storeCfg one_int one_bool one_slice one_ptr one_str setRow_new setRow_past cell_ca frozen_ca cellsAt_alloc_at cellsAt_alloc_past cellsAt_drew cellsAt_later cellsAt_setCell cellsAt_set_same cellsAt_setRow_same cellsAt_setRow_far subAt_alloc subAt_drew subAt_later subAt_setCell subAt_setRow ltn_2 ltn_3 ltn_4 ltn_5
def eqS (a b : Sym) : Bool := decide (a.grid = b.grid ∧ a.ref = b.ref ∧ a.stat = b.stat ∧ a.dyn = b.dyn ∧ a.win = b.win ∧ a.move = b.move ∧ a.lim = b.lim ∧ a.pause = b.pause ∧ a.ext = b.ext ∧ a.mx = b.mx ∧ a.coll = b.coll ∧ a.wid = b.wid ∧ a.self = b.self ∧ a.slots = b.slots ∧ a.lev = b.lev ∧ a.short = b.short)
def eqR (a b : Rw) : Bool := decide (a.tick = b.tick ∧ a.ph = b.ph)
theorem eqS_iff {a b : Sym} : eqS a b = true ↔ a = b := by
  obtain ⟨a1, a2, a3, a4, a5, a6, a7, a8, a9, a10, a11, a12, a13, a14, a15, a16⟩ := a
  obtain ⟨b1, b2, b3, b4, b5, b6, b7, b8, b9, b10, b11, b12, b13, b14, b15, b16⟩ := b
  simp [eqS]
theorem eqR_iff {a b : Rw} : eqR a b = true ↔ a = b := by
  obtain ⟨a1, a2⟩ := a
  obtain ⟨b1, b2⟩ := b
  simp [eqR]
theorem neq_sym (a b : Sym) (w : World) : (binOp .neq 35 (.agg #[.int .i64 a.grid, .int .i64 a.ref, .int .i64 a.stat, .int .i64 a.dyn, .int .i64 a.win, .int .i64 a.move, .int .i64 a.lim, .int .i64 a.pause, .int .i64 a.ext, .int .i64 a.mx, .int .i64 a.coll, .int .i64 a.wid, .int .i64 a.self, .int .i64 a.slots, .int .i64 a.lev, .int .i64 a.short]) (.agg #[.int .i64 b.grid, .int .i64 b.ref, .int .i64 b.stat, .int .i64 b.dyn, .int .i64 b.win, .int .i64 b.move, .int .i64 b.lim, .int .i64 b.pause, .int .i64 b.ext, .int .i64 b.mx, .int .i64 b.coll, .int .i64 b.wid, .int .i64 b.self, .int .i64 b.slots, .int .i64 b.lev, .int .i64 b.short])).run Try.prog w = .ok (.bool (!eqS a b)) w := by
  by_cases h : a = b
  · subst h
    rw [eqS_iff.2 rfl]
    go_simp
  · have hb : eqS a b = false := by
      cases hc : eqS a b with
      | false => rfl
      | true => exact absurd (eqS_iff.1 hc) h
    rw [hb]
    go_simp
    unfold eqS at hb
    rw [decide_eq_false_iff_not] at hb
    intros
    first | rfl | (intro hl; exact hb ⟨by assumption, by assumption, by assumption, by assumption, by assumption, by assumption, by assumption, by assumption, by assumption, by assumption, by assumption, by assumption, by assumption, by assumption, by assumption, by assumption⟩)
theorem neq_row (a b : Rw) (w : World) : (binOp .neq 54 (.agg #[.int .i64 a.tick, .int .i64 a.ph]) (.agg #[.int .i64 b.tick, .int .i64 b.ph])).run Try.prog w = .ok (.bool (!eqR a b)) w := by
  by_cases h : a = b
  · subst h
    rw [eqR_iff.2 rfl]
    go_simp
  · have hb : eqR a b = false := by
      cases hc : eqR a b with
      | false => rfl
      | true => exact absurd (eqR_iff.1 hc) h
    rw [hb]
    go_simp
    unfold eqR at hb
    rw [decide_eq_false_iff_not] at hb
    intros
    first | rfl | (intro hl; exact hb ⟨by assumption, by assumption⟩)
theorem intInfoY : (Try.prog.info? 3).map (fun i => (i.zero, i.size, i.bytes)) = some (some (.int .i64 0), 1, 8) := by kernel_rfl
theorem i64InfoY : (Try.prog.info? 2).map (fun i => (i.zero, i.size, i.bytes)) = some (some (.int .i64 0), 1, 8) := by kernel_rfl
theorem arr3_in (a b c d e f : Int) (w : World) : (Op.equalIn 10000 24 (.agg #[.int .i64 a, .int .i64 b, .int .i64 c]) (.agg #[.int .i64 d, .int .i64 e, .int .i64 f])).run Try.prog w = .ok ((a == d) && ((b == e) && (c == f))) w := by
  obtain ⟨i, hi, _⟩ := info_parts intInfoY
  rw [show (10000 : Nat) = 9999 + 1 from rfl, run_equalIn_array w 9999 _ _ Try.underlying24 hi, show Try.prog.cellsOf 3 = 1 by kernel_rfl, show List.range 3 = [0, 1, 2] from rfl]
  by_cases h1 : a = d <;> by_cases h2 : b = e <;> by_cases h3 : c = f <;> simp [Op.eqItems, go_sem, h1, h2, h3]
theorem arr2_inY (a b d e : Int) (w : World) : (Op.equalIn 10000 25 (.agg #[.int .i64 a, .int .i64 b]) (.agg #[.int .i64 d, .int .i64 e])).run Try.prog w = .ok ((a == d) && (b == e)) w := by
  obtain ⟨i, hi, _⟩ := info_parts i64InfoY
  rw [show (10000 : Nat) = 9999 + 1 from rfl, run_equalIn_array w 9999 _ _ Try.underlying25 hi, show Try.prog.cellsOf 2 = 1 by kernel_rfl, show List.range 2 = [0, 1] from rfl]
  by_cases h1 : a = d <;> by_cases h2 : b = e <;> simp [Op.eqItems, go_sem, h1, h2]
def listEq {α : Type} (f : α → α → Bool) : List α → List α → Bool
  | [], [] => true
  | a :: l, b :: m => f a b && listEq f l m
  | _, _ => false
theorem listEq_len {α : Type} {f : α → α → Bool} : ∀ {l m : List α}, l.length ≠ m.length → listEq f l m = false
  | [], [], h => absurd rfl h
  | [], _ :: _, _ => rfl
  | _ :: _, [], _ => rfl
  | a :: l, b :: m, h => by
    unfold listEq
    rw [listEq_len (l := l) (m := m) (fun e => h (by rw [List.length_cons, List.length_cons, e])), Bool.and_false]
theorem listEq_drop {α : Type} {f : α → α → Bool} {l m : List α} {k : Nat} (h1 : k < l.length) (h2 : k < m.length) : listEq f (l.drop k) (m.drop k) = (f l[k] m[k] && listEq f (l.drop (k + 1)) (m.drop (k + 1))) := by
  rw [List.drop_eq_getElem_cons h1, List.drop_eq_getElem_cons h2]
  rfl
theorem listEq_iff {α : Type} {f : α → α → Bool} (hf : ∀ a b, f a b = true ↔ a = b) : ∀ {l m : List α}, listEq f l m = true ↔ l = m
  | [], [] => by simp [listEq]
  | [], _ :: _ => by simp [listEq]
  | _ :: _, [] => by simp [listEq]
  | a :: l, b :: m => by
    unfold listEq
    rw [Bool.and_eq_true, hf, listEq_iff hf, List.cons.injEq]
attribute [local go_sem] arr3_in arr2_inY
set_option maxHeartbeats 2000000 in
theorem eqsyms_c (A B : Option Addr) (c d : Nat) (l m : List Sym) (w : World) (hl : Lies Sym.cells 16 w A c l) (hm : Lies Sym.cells 16 w B d m) :
    Calls Try.prog 48 #[.slice A l.length c, .slice B m.length d] w fun e w' => e = .returned (.bool (listEq eqS l m)) ∧ Ext w w' := by
  have h1 : l.length ≤ 9223372036854775807 := by have := hl.le; have := hl.max; unfold maxLen at this; omega
  have h2 : m.length ≤ 9223372036854775807 := by have := hm.le; have := hm.max; unfold maxLen at this; omega
  by_cases hlm : l.length = m.length
  · have hne : ((l.length : Int) != (m.length : Int)) = false := by simp [hlm]
    have hg1 := fun k hk => (hl.symAt k hk)
    have HLM := Lib.hid hlm
    clear hlm
    go_enter Try.func48, Try.ntmps48
    go_wp2_with fail
    go_loopw [13] (fun i wr => ∃ k : Nat, i = .int .i64 k ∧ k ≤ l.length ∧ Ext w wr ∧ listEq eqS l m = listEq eqS (l.drop k) (m.drop k)) (fun i _ => l.length - (intOf i).toNat)
    case atStart => exact ⟨0, rfl, Nat.zero_le _, Ext.refl _, by simp⟩
    case round =>
      obtain ⟨k, rfl, hk, hx, hq⟩ := hrel
      by_cases hk1 : k < l.length
      · have hk2 : k < m.length := by have := HLM.out; omega
        obtain ⟨b0, off, hA, hbw, e1⟩ := (hl.ext hx).symAt k hk1
        obtain ⟨b1, off1, hB, hbw1, e2⟩ := (hm.ext hx).symAt k hk2
        rw [listEq_drop hk1 hk2] at hq
        generalize l[k] = a at *
        generalize m[k] = b at *
        have e1' : subAt wr b0 (off + k * 16) 16 = #[.int .i64 a.grid, .int .i64 a.ref, .int .i64 a.stat, .int .i64 a.dyn, .int .i64 a.win, .int .i64 a.move, .int .i64 a.lim, .int .i64 a.pause, .int .i64 a.ext, .int .i64 a.mx, .int .i64 a.coll, .int .i64 a.wid, .int .i64 a.self, .int .i64 a.slots, .int .i64 a.lev, .int .i64 a.short] := e1
        have e2' : subAt wr b1 (off1 + k * 16) 16 = #[.int .i64 b.grid, .int .i64 b.ref, .int .i64 b.stat, .int .i64 b.dyn, .int .i64 b.win, .int .i64 b.move, .int .i64 b.lim, .int .i64 b.pause, .int .i64 b.ext, .int .i64 b.mx, .int .i64 b.coll, .int .i64 b.wid, .int .i64 b.self, .int .i64 b.slots, .int .i64 b.lev, .int .i64 b.short] := e2
        clear e1 e2
        have nq := fun W => neq_sym a b W
        have HQ := Lib.hid hq
        clear hq
        go_wp2_with fail
        refine wp_region_x 9 [0, 0, 0, 1, 0, 0, 0, 1, 0] (by kernel_rfl) (by kernel_rfl) (by kernel_rfl) ?_
        simp only [List.take_succ_cons, List.take_zero, List.drop_succ_cons, List.drop_zero]
        refine hl_pure (fun K hK => ?_)
        go_simp
        refine hK _ ?_
        clear hK K
        refine hl_pure (fun K hK => ?_)
        go_simp
        refine hK _ ?_
        clear hK K
        refine hl_pure (fun K hK => ?_)
        go_simp
        refine hK _ ?_
        clear hK K
        refine hl_quiet (fun K hK => ?_)
        go_simp
        refine hK _ ?_
        clear hK K
        refine hl_pure (fun K hK => ?_)
        go_simp
        refine hK _ ?_
        clear hK K
        refine hl_pure (fun K hK => ?_)
        go_simp
        refine hK _ ?_
        clear hK K
        refine hl_pure (fun K hK => ?_)
        go_simp
        refine hK _ ?_
        clear hK K
        refine hl_quiet (fun K hK => ?_)
        go_simp
        refine hK _ ?_
        clear hK K
        refine hl_pure (fun K hK => ?_)
        go_simp
        refine hK _ ?_
        clear hK K
        refine hl_nil ?_
        intro w2 hx2 K hK
        have hx3 : Ext w w2 := hx.trans hx2
        refine wpList_nil (hK _ _ ?_)
        cases hab : eqS a b with
        | false =>
          rw [hab, Bool.false_and] at HQ
          go_wp2_with fail
          first | refine fin_ret rfl (fun K hK => ?_) | refine fin_norm rfl (fun K hK => ?_)
          simp [results, Try.results48, go_sem, rsat]
          try go_simp
          refine hK _ ?_
          clear hK K
          exact ⟨by rw [HQ.out], (by repeat (first | (with_reducible exact Ext.refl _) | (with_reducible assumption) | (with_reducible refine Ext.alloc ?_ _) | (with_reducible refine Ext.drew ?_) | (with_reducible refine Ext.drewN ?_ _) | (with_reducible refine Ext.setCell ?_ (by simp; try omega) _) | (with_reducible refine Ext.setRow ?_ (by simp; try omega) _)))⟩
        | true =>
          rw [hab, Bool.true_and] at HQ
          rw [← hA, ← hB]
          clear hA hB
          go_wp2_with fail
          go_roundw
          · exact ⟨k + 1, rfl, by omega, (by repeat (first | (with_reducible exact Ext.refl _) | (with_reducible assumption) | (with_reducible refine Ext.alloc ?_ _) | (with_reducible refine Ext.drew ?_) | (with_reducible refine Ext.drewN ?_ _) | (with_reducible refine Ext.setCell ?_ (by simp; try omega) _) | (with_reducible refine Ext.setRow ?_ (by simp; try omega) _))), HQ.out⟩
          · simp only [intOf]; omega
      · obtain rfl : k = l.length := by omega
        rw [show List.drop l.length m = [] from List.drop_eq_nil_of_le (by have := HLM.out; omega), List.drop_length] at hq
        have HQ := Lib.hid hq
        clear hq
        go_wp2_with fail
        first | refine fin_ret rfl (fun K hK => ?_) | refine fin_norm rfl (fun K hK => ?_)
        simp [results, Try.results48, go_sem, rsat]
        try go_simp
        refine hK _ ?_
        clear hK K
        exact ⟨by rw [HQ.out]; rfl, (by repeat (first | (with_reducible exact Ext.refl _) | (with_reducible assumption) | (with_reducible refine Ext.alloc ?_ _) | (with_reducible refine Ext.drew ?_) | (with_reducible refine Ext.drewN ?_ _) | (with_reducible refine Ext.setCell ?_ (by simp; try omega) _) | (with_reducible refine Ext.setRow ?_ (by simp; try omega) _)))⟩
  · have hne : ((l.length : Int) != (m.length : Int)) = true := by simp; omega
    rw [listEq_len hlm]
    go_enter Try.func48, Try.ntmps48
    go_wp2_with fail
    first | refine fin_ret rfl (fun K hK => ?_) | refine fin_norm rfl (fun K hK => ?_)
    simp [results, Try.results48, go_sem, rsat]
    try go_simp
    refine hK _ ?_
    clear hK K
    exact ⟨rfl, (by repeat (first | (with_reducible exact Ext.refl _) | (with_reducible assumption) | (with_reducible refine Ext.alloc ?_ _) | (with_reducible refine Ext.drew ?_) | (with_reducible refine Ext.drewN ?_ _) | (with_reducible refine Ext.setCell ?_ (by simp; try omega) _) | (with_reducible refine Ext.setRow ?_ (by simp; try omega) _)))⟩
set_option maxHeartbeats 2000000 in
theorem eqrows_c (A B : Option Addr) (c d : Nat) (l m : List Rw) (w : World) (hl : Lies Rw.cells 2 w A c l) (hm : Lies Rw.cells 2 w B d m) :
    Calls Try.prog 49 #[.slice A l.length c, .slice B m.length d] w fun e w' => e = .returned (.bool (listEq eqR l m)) ∧ Ext w w' := by
  have h1 : l.length ≤ 9223372036854775807 := by have := hl.le; have := hl.max; unfold maxLen at this; omega
  have h2 : m.length ≤ 9223372036854775807 := by have := hm.le; have := hm.max; unfold maxLen at this; omega
  by_cases hlm : l.length = m.length
  · have hne : ((l.length : Int) != (m.length : Int)) = false := by simp [hlm]
    have HLM := Lib.hid hlm
    clear hlm
    go_enter Try.func49, Try.ntmps49
    go_wp2_with fail
    go_loopw [13] (fun i wr => ∃ k : Nat, i = .int .i64 k ∧ k ≤ l.length ∧ Ext w wr ∧ listEq eqR l m = listEq eqR (l.drop k) (m.drop k)) (fun i _ => l.length - (intOf i).toNat)
    case atStart => exact ⟨0, rfl, Nat.zero_le _, Ext.refl _, by simp⟩
    case round =>
      obtain ⟨k, rfl, hk, hx, hq⟩ := hrel
      by_cases hk1 : k < l.length
      · have hk2 : k < m.length := by have := HLM.out; omega
        obtain ⟨b0, off, hA, hbw, c0, c1⟩ := (hl.ext hx).rowAt k hk1
        obtain ⟨b1, off1, hB, hbw1, c2, c3⟩ := (hm.ext hx).rowAt k hk2
        rw [listEq_drop hk1 hk2] at hq
        generalize l[k] = a at *
        generalize m[k] = b at *
        have nq := fun W => neq_row a b W
        have HQ := Lib.hid hq
        clear hq
        go_wp2_with fail
        refine wp_region_x 9 [0, 0, 0, 1, 0, 0, 0, 1, 0] (by kernel_rfl) (by kernel_rfl) (by kernel_rfl) ?_
        simp only [List.take_succ_cons, List.take_zero, List.drop_succ_cons, List.drop_zero]
        refine hl_pure (fun K hK => ?_)
        go_simp
        refine hK _ ?_
        clear hK K
        refine hl_pure (fun K hK => ?_)
        go_simp
        refine hK _ ?_
        clear hK K
        refine hl_pure (fun K hK => ?_)
        go_simp
        refine hK _ ?_
        clear hK K
        refine hl_quiet (fun K hK => ?_)
        go_simp
        refine hK _ ?_
        clear hK K
        refine hl_pure (fun K hK => ?_)
        go_simp
        refine hK _ ?_
        clear hK K
        refine hl_pure (fun K hK => ?_)
        go_simp
        refine hK _ ?_
        clear hK K
        refine hl_pure (fun K hK => ?_)
        go_simp
        refine hK _ ?_
        clear hK K
        refine hl_quiet (fun K hK => ?_)
        go_simp
        refine hK _ ?_
        clear hK K
        refine hl_pure (fun K hK => ?_)
        go_simp
        refine hK _ ?_
        clear hK K
        refine hl_nil ?_
        intro w2 hx2 K hK
        have hx3 : Ext w w2 := hx.trans hx2
        refine wpList_nil (hK _ _ ?_)
        cases hab : eqR a b with
        | false =>
          rw [hab, Bool.false_and] at HQ
          go_wp2_with fail
          first | refine fin_ret rfl (fun K hK => ?_) | refine fin_norm rfl (fun K hK => ?_)
          simp [results, Try.results49, go_sem, rsat]
          try go_simp
          refine hK _ ?_
          clear hK K
          exact ⟨by rw [HQ.out], (by repeat (first | (with_reducible exact Ext.refl _) | (with_reducible assumption) | (with_reducible refine Ext.alloc ?_ _) | (with_reducible refine Ext.drew ?_) | (with_reducible refine Ext.drewN ?_ _) | (with_reducible refine Ext.setCell ?_ (by simp; try omega) _) | (with_reducible refine Ext.setRow ?_ (by simp; try omega) _)))⟩
        | true =>
          rw [hab, Bool.true_and] at HQ
          rw [← hA, ← hB]
          clear hA hB
          go_wp2_with fail
          go_roundw
          · exact ⟨k + 1, rfl, by omega, (by repeat (first | (with_reducible exact Ext.refl _) | (with_reducible assumption) | (with_reducible refine Ext.alloc ?_ _) | (with_reducible refine Ext.drew ?_) | (with_reducible refine Ext.drewN ?_ _) | (with_reducible refine Ext.setCell ?_ (by simp; try omega) _) | (with_reducible refine Ext.setRow ?_ (by simp; try omega) _))), HQ.out⟩
          · simp only [intOf]; omega
      · obtain rfl : k = l.length := by omega
        rw [show List.drop l.length m = [] from List.drop_eq_nil_of_le (by have := HLM.out; omega), List.drop_length] at hq
        have HQ := Lib.hid hq
        clear hq
        go_wp2_with fail
        first | refine fin_ret rfl (fun K hK => ?_) | refine fin_norm rfl (fun K hK => ?_)
        simp [results, Try.results49, go_sem, rsat]
        try go_simp
        refine hK _ ?_
        clear hK K
        exact ⟨by rw [HQ.out]; rfl, (by repeat (first | (with_reducible exact Ext.refl _) | (with_reducible assumption) | (with_reducible refine Ext.alloc ?_ _) | (with_reducible refine Ext.drew ?_) | (with_reducible refine Ext.drewN ?_ _) | (with_reducible refine Ext.setCell ?_ (by simp; try omega) _) | (with_reducible refine Ext.setRow ?_ (by simp; try omega) _)))⟩
  · have hne : ((l.length : Int) != (m.length : Int)) = true := by simp; omega
    rw [listEq_len hlm]
    go_enter Try.func49, Try.ntmps49
    go_wp2_with fail
    first | refine fin_ret rfl (fun K hK => ?_) | refine fin_norm rfl (fun K hK => ?_)
    simp [results, Try.results49, go_sem, rsat]
    try go_simp
    refine hK _ ?_
    clear hK K
    exact ⟨rfl, (by repeat (first | (with_reducible exact Ext.refl _) | (with_reducible assumption) | (with_reducible refine Ext.alloc ?_ _) | (with_reducible refine Ext.drew ?_) | (with_reducible refine Ext.drewN ?_ _) | (with_reducible refine Ext.setCell ?_ (by simp; try omega) _) | (with_reducible refine Ext.setRow ?_ (by simp; try omega) _)))⟩
end Go.Proofs.Ytfbpmngdamaobaa
