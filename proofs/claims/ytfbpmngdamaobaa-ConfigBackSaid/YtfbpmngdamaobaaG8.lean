/- The walks of package config: first, Symbol, Bound. No condition. -/
import Derived.Test.YtfbpmngdamaobaaG7
import Derived.Laws.EntriesVeiled
namespace Go.Proofs.Ytfbpmngdamaobaa
open Go.RowKit
attribute [local go_sem] Later.cell QUpon_value QUpon_enter MUpon_value
attribute [local go_sem ↓ high] loadSym_is storeSym_is
attribute [local go_sem] run_loadSym run_loadSym_at run_storeSym one_int one_bool one_slice one_ptr one_str setRow_new setRow_past cell_ca frozen_ca cellsAt_alloc_at cellsAt_alloc_past cellsAt_drew cellsAt_later cellsAt_setCell cellsAt_set_same cellsAt_setRow_same cellsAt_setRow_far subAt_alloc subAt_drew subAt_later subAt_setCell subAt_setRow ltn_2 ltn_3 ltn_4 ltn_5

/-- A rule: its function, what that holds, its fault, and what it answers. -/
structure Rul where
  k : FuncId
  caps : Array Value
  r : Int
  b : Bool
def rulV (r : Rul) : Value := .func (.func r.k) #[] r.caps
def rulL (l : List Rul) : List Value := l.flatMap fun r => [rulV r, .int .i64 r.r]
def firstI : List Rul → Int
  | [] => 0
  | r :: l => if r.b = true then firstI l else r.r
theorem rulL_get : ∀ (l : List Rul) (k : Nat) (h : k < l.length), (rulL l)[k * 2]? = some (rulV l[k]) ∧ (rulL l)[k * 2 + 1]? = some (.int .i64 l[k].r)
  | [], _, h => absurd h (by simp)
  | r :: l, 0, _ => ⟨rfl, rfl⟩
  | r :: l, k + 1, h => by
    have := rulL_get l k (by simpa using h)
    have e : rulL (r :: l) = rulV r :: .int .i64 r.r :: rulL l := rfl
    rw [e, show (k + 1) * 2 = k * 2 + 1 + 1 from by omega, List.getElem?_cons_succ, List.getElem?_cons_succ, List.getElem?_cons_succ, List.getElem?_cons_succ]
    exact this
theorem firstI_skip : ∀ (l : List Rul) (k : Nat), (∀ j, (h : j < l.length) → j < k → l[j].b = true) → firstI l = firstI (l.drop k)
  | [], k, _ => by simp
  | r :: l, 0, _ => rfl
  | r :: l, k + 1, h => by
    have h0 : r.b = true := h 0 (by simp) (by omega)
    rw [List.drop_succ_cons, ← firstI_skip l k (fun j hj hk => h (j + 1) (by simpa using hj) (by omega))]
    simp [firstI, h0]

set_option maxRecDepth 100000 in
set_option maxHeartbeats 800000 in
theorem first_c (l : List Rul) (g c : Nat) (hl : l.length ≤ 1000) (w : World) (hg : At w g 51 (rulL l).toArray)
    (hF : ∀ (i : Nat) (h : i < l.length) (w' : World), (callFunc l[i].k l[i].caps).run Try.prog w' = .ok (.enter l[i].k l[i].caps) w')
    (hC : ∀ (i : Nat) (h : i < l.length) (w' : World), Ext w w' → Calls Try.prog l[i].k l[i].caps w' fun e w'' => e = .returned (.bool l[i].b) ∧ Ext w' w'') :
    Calls Try.prog 26 #[.slice (some ⟨g, 0, none⟩) l.length c] w fun e w' => e = .returned (.int .i64 (firstI l)) ∧ Ext w w' := by
  have HC := Lib.hid hC
  have HFn := Lib.hid hF
  clear hC hF
  go_enter Try.func26, Try.ntmps26
  go_wp2_with fail
  go_loopw [7] (fun i wr => ∃ k : Nat, i = .int .i64 k ∧ k ≤ l.length ∧ Ext w wr ∧ Hid (∀ j, (h : j < l.length) → j < k → l[j].b = true)) (fun i _ => l.length - (intOf i).toNat)
  case atStart => exact ⟨0, rfl, by omega, (by repeat (first | (with_reducible exact Ext.refl _) | (with_reducible assumption) | (with_reducible refine Ext.alloc ?_ _) | (with_reducible refine Ext.drew ?_) | (with_reducible refine Ext.drewN ?_ _) | (with_reducible refine Ext.setCell ?_ (by simp; try omega) _) | (with_reducible refine Ext.setRow ?_ (by simp; try omega) _))), Lib.hid (fun _ _ h => absurd h (by omega))⟩
  case round =>
    obtain ⟨k, rfl, hk, hx, hb⟩ := hrel
    have hg1 := hg.ext hx
    by_cases hlt : k < l.length
    · obtain ⟨r1, r2⟩ := rulL_get l k hlt
      have c1 := (hg1.cell (k * 2)).trans (by simpa using r1)
      have c2 := (hg1.cell (k * 2 + 1)).trans (by simpa using r2)
      have hs := hg1.lt
      obtain ⟨r, hr⟩ : ∃ r, r = l[k] := ⟨_, rfl⟩
      rw [← hr] at c1 c2
      have D := HC.out k hlt
      have DF := HFn.out k hlt
      have hfi := firstI_skip l k hb.out
      rw [List.drop_eq_getElem_cons hlt, ← hr] at hfi
      rw [← hr] at D DF
      have HR := Lib.hid hr
      have HD := Lib.hid D
      have HF := Lib.hid hfi
      obtain ⟨f, caps, rr, b⟩ := r
      unfold rulV at c1
      simp only at c1 c2
      clear r1 r2 hr D hfi
      go_wp2_with fail
      refine (HD.out _ (Ext.trans hx (by repeat (first | (with_reducible exact Ext.refl _) | (with_reducible assumption) | (with_reducible refine Ext.alloc ?_ _) | (with_reducible refine Ext.drew ?_) | (with_reducible refine Ext.drewN ?_ _) | (with_reducible refine Ext.setCell ?_ (by simp; try omega) _) | (with_reducible refine Ext.setRow ?_ (by simp; try omega) _))))).mono ?_
      rintro e w1 ⟨rfl, hx1⟩
      have hN := At.ext (g := wr.heap.size) (t := 51) (cs := #[.func (.func f) #[] caps, .int .i64 rr]) (by repeat (first | (with_reducible exact At.new _ _ _) | ((with_reducible refine At.new' _ _ _ _ ?_); simp; done) | (with_reducible assumption) | (with_reducible refine At.drew ?_) | (with_reducible refine At.alloc ?_ _) | (with_reducible apply At.upd) | (with_reducible apply At.setRow) | (with_reducible refine At.rowFar ?_ (by first | (simp; done) | (simp; omega) | omega) _) | ((with_reducible refine At.far ?_ (by first | (simp; done) | (simp; omega) | omega) _)) | (with_reducible rfl) | (simp; done))) hx1
      have c_hN_0 := hN.cell 0
      have f_hN_0 := hN.frozen 0
      simp only [List.getElem?_toArray, List.getElem?_cons_zero, List.getElem?_cons_succ] at c_hN_0
      have c_hN_1 := hN.cell 1
      have f_hN_1 := hN.frozen 1
      simp only [List.getElem?_toArray, List.getElem?_cons_zero, List.getElem?_cons_succ] at c_hN_1
      have s_hN := hN.lt
      cases b
      · simp only
        go_wp2_with fail
        first | refine fin_ret rfl (fun K hK => ?_) | refine fin_norm rfl (fun K hK => ?_)
        simp [results, Try.results26, go_sem, rsat]
        try go_simp
        refine hK _ ?_
        clear hK K
        refine ⟨?_, hx.trans (Ext.trans (by repeat (first | (with_reducible exact Ext.refl _) | (with_reducible assumption) | (with_reducible refine Ext.alloc ?_ _) | (with_reducible refine Ext.drew ?_) | (with_reducible refine Ext.drewN ?_ _) | (with_reducible refine Ext.setCell ?_ (by simp; try omega) _) | (with_reducible refine Ext.setRow ?_ (by simp; try omega) _))) hx1)⟩
        rw [HF.out]
        rfl
      · simp only
        go_wp2_with fail
        go_roundw
        case rel =>
          refine ⟨k + 1, by go_num, by omega, hx.trans (Ext.trans (by repeat (first | (with_reducible exact Ext.refl _) | (with_reducible assumption) | (with_reducible refine Ext.alloc ?_ _) | (with_reducible refine Ext.drew ?_) | (with_reducible refine Ext.drewN ?_ _) | (with_reducible refine Ext.setCell ?_ (by simp; try omega) _) | (with_reducible refine Ext.setRow ?_ (by simp; try omega) _))) hx1), Lib.hid (fun j hj hjk => ?_)⟩
          by_cases hjk' : j < k
          · exact hb.out j hj hjk'
          · obtain rfl : j = k := by omega
            rw [← HR.out]
        case measure => simp [intOf]; omega
    · obtain rfl : k = l.length := by omega
      go_wp2_with fail
      first | refine fin_ret rfl (fun K hK => ?_) | refine fin_norm rfl (fun K hK => ?_)
      simp [results, Try.results26, go_sem, rsat]
      try go_simp
      refine hK _ ?_
      clear hK K
      refine ⟨?_, hx⟩
      rw [firstI_skip l l.length hb.out, List.drop_length]
      rfl
theorem calls_fn1 (a : Array Value) (w : World) : (callFunc 31 a).run Try.prog w = .ok (.enter 31 a) w := by go_simp
theorem calls_fn2 (a : Array Value) (w : World) : (callFunc 32 a).run Try.prog w = .ok (.enter 32 a) w := by go_simp
theorem calls_fn3 (a : Array Value) (w : World) : (callFunc 34 a).run Try.prog w = .ok (.enter 34 a) w := by go_simp
theorem calls_fn4 (a : Array Value) (w : World) : (callFunc 35 a).run Try.prog w = .ok (.enter 35 a) w := by go_simp
theorem calls_fn5 (a : Array Value) (w : World) : (callFunc 36 a).run Try.prog w = .ok (.enter 36 a) w := by go_simp
theorem calls_fn6 (a : Array Value) (w : World) : (callFunc 37 a).run Try.prog w = .ok (.enter 37 a) w := by go_simp
theorem calls_fn7 (a : Array Value) (w : World) : (callFunc 38 a).run Try.prog w = .ok (.enter 38 a) w := by go_simp
def symR (s : Sym) (g : Nat) : List Rul := [⟨31, #[.pointer (some ⟨g, 0, none⟩)], 9, symB1 s⟩, ⟨32, #[.pointer (some ⟨g, 0, none⟩)], 8, symB2 s⟩, ⟨34, #[.pointer (some ⟨g, 0, none⟩)], 9, symB3 s⟩, ⟨35, #[.pointer (some ⟨g, 0, none⟩)], 9, symB4 s⟩, ⟨36, #[.pointer (some ⟨g, 0, none⟩)], 9, symB5 s⟩, ⟨37, #[.pointer (some ⟨g, 0, none⟩)], 9, symB6 s⟩, ⟨38, #[.pointer (some ⟨g, 0, none⟩)], 11, symB7 s⟩]
/-- What is wrong with a symbol. -/
def symI (s : Sym) : Int := firstI (symR s 0)
set_option maxRecDepth 100000 in
set_option maxHeartbeats 800000 in
theorem symbol_c (s : Sym) (hs : s.I) (w : World) : Calls Try.prog 11 #[symV s] w fun e w' => e = .returned (.int .i64 (symI s)) ∧ Ext w w' := by
  unfold symV symC
  go_enter Try.func11, Try.ntmps11
  go_wp2_with fail
  refine (first_c (symR s w.heap.size) (w.heap.size + 1) 7 (by simp [symR]) _ (show At _ _ _ #[.func (.func 31) #[] #[.pointer (some ⟨w.heap.size, 0, none⟩)], .int .i64 9, .func (.func 32) #[] #[.pointer (some ⟨w.heap.size, 0, none⟩)], .int .i64 8, .func (.func 34) #[] #[.pointer (some ⟨w.heap.size, 0, none⟩)], .int .i64 9, .func (.func 35) #[] #[.pointer (some ⟨w.heap.size, 0, none⟩)], .int .i64 9, .func (.func 36) #[] #[.pointer (some ⟨w.heap.size, 0, none⟩)], .int .i64 9, .func (.func 37) #[] #[.pointer (some ⟨w.heap.size, 0, none⟩)], .int .i64 9, .func (.func 38) #[] #[.pointer (some ⟨w.heap.size, 0, none⟩)], .int .i64 11] from (by repeat (first | (with_reducible exact At.new _ _ _) | ((with_reducible refine At.new' _ _ _ _ ?_); simp; done) | (with_reducible assumption) | (with_reducible refine At.drew ?_) | (with_reducible refine At.alloc ?_ _) | (with_reducible apply At.upd) | (with_reducible apply At.setRow) | (with_reducible refine At.rowFar ?_ (by first | (simp; done) | (simp; omega) | omega) _) | ((with_reducible refine At.far ?_ (by first | (simp; done) | (simp; omega) | omega) _)) | (with_reducible rfl) | (simp; done)))) ?_ ?_).mono ?_
  · intro i h w'
    have hi : i = 0 ∨ i = 1 ∨ i = 2 ∨ i = 3 ∨ i = 4 ∨ i = 5 ∨ i = 6 := by simp [symR] at h; omega
    rcases hi with rfl | rfl | rfl | rfl | rfl | rfl | rfl
    · exact calls_fn1 _ _
    · exact calls_fn2 _ _
    · exact calls_fn3 _ _
    · exact calls_fn4 _ _
    · exact calls_fn5 _ _
    · exact calls_fn6 _ _
    · exact calls_fn7 _ _
  · intro i h w' hx
    have h0 : At w' w.heap.size 35 #[.int .i64 s.grid, .int .i64 s.ref, .int .i64 s.stat, .int .i64 s.dyn, .int .i64 s.win, .int .i64 s.move, .int .i64 s.lim, .int .i64 s.pause, .int .i64 s.ext, .int .i64 s.mx, .int .i64 s.coll, .int .i64 s.wid, .int .i64 s.self, .int .i64 s.slots, .int .i64 s.lev, .int .i64 s.short] := At.ext (by repeat (first | (with_reducible exact At.new _ _ _) | ((with_reducible refine At.new' _ _ _ _ ?_); simp; done) | (with_reducible assumption) | (with_reducible refine At.drew ?_) | (with_reducible refine At.alloc ?_ _) | (with_reducible apply At.upd) | (with_reducible apply At.setRow) | (with_reducible refine At.rowFar ?_ (by first | (simp; done) | (simp; omega) | omega) _) | ((with_reducible refine At.far ?_ (by first | (simp; done) | (simp; omega) | omega) _)) | (with_reducible rfl) | (simp; done))) hx
    have hi : i = 0 ∨ i = 1 ∨ i = 2 ∨ i = 3 ∨ i = 4 ∨ i = 5 ∨ i = 6 := by simp [symR] at h; omega
    rcases hi with rfl | rfl | rfl | rfl | rfl | rfl | rfl
    · exact rule1_c s _ _ h0
    · exact rule2_c s hs _ _ h0
    · exact rule3_c s _ _ h0
    · exact rule4_c s _ _ h0
    · exact rule5_c s _ _ h0
    · exact rule6_c s _ _ h0
    · exact rule7_c s _ _ h0
  rintro e w1 ⟨rfl, hx⟩
  go_wp2_with fail
  first | refine fin_ret rfl (fun K hK => ?_) | refine fin_norm rfl (fun K hK => ?_)
  simp [results, Try.results11, go_sem, rsat]
  try go_simp
  refine hK _ ?_
  clear hK K
  exact ⟨rfl, Ext.trans (by repeat (first | (with_reducible exact Ext.refl _) | (with_reducible assumption) | (with_reducible refine Ext.alloc ?_ _) | (with_reducible refine Ext.drew ?_) | (with_reducible refine Ext.drewN ?_ _) | (with_reducible refine Ext.setCell ?_ (by simp; try omega) _) | (with_reducible refine Ext.setRow ?_ (by simp; try omega) _))) hx⟩
def boundI (s : Sym) : Int := if symI s = 0 then s.pause + s.ext * (s.mx + 1) else 0
end Go.Proofs.Ytfbpmngdamaobaa
