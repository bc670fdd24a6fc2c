/- Feeds (layer 26): what a loop over Since is handed. Condition: at most 1000 messages. -/
import Derived.Test.YthophidcgkjdeaaDA
import Derived.Test.YthophidcgkjdeaaRj
namespace Go.Proofs.Ythophidcgkjdeaa
open Go.RowKit Go.Shelf
attribute [local go_sem] Oper.semAt_some Later.cell QUpon_value QUpon_enter MUpon_value run_eql_slice_nil Same.cell
attribute [local go_sem ↓ high] loadMsg_is storeMsg_is
attribute [local go_sem] run_loadMsg run_loadMsg_at run_storeMsg one_int one_bool one_slice one_ptr one_str setRow_new setRow_past cell_ca frozen_ca cellsAt_alloc_at cellsAt_alloc_past cellsAt_drew cellsAt_later cellsAt_setCell cellsAt_set_same cellsAt_setRow_same cellsAt_setRow_far subAt_alloc subAt_drew subAt_later subAt_setCell subAt_setRow ltn_2 ltn_3 ltn_4 ltn_5
def encM (m : Mg) : Array Value := #[.agg #[.int .i64 m.kind, .int .i64 m.sym, .int .i64 m.seq, .int .i64 m.tick, .int .i64 m.id, .int .i64 m.wth, .int .i64 m.price, .int .i64 m.qty, .int .i64 m.code]]
def AllS (L xs : List Mg) : Prop := xs = L
def PreS (L pre : List Mg) : Prop := pre <+: L
def NextS (L pre : List Mg) (x : Mg) : Prop := pre ++ [x] <+: L
theorem none_hands (V : List Mg → Mg → Prop) (Kp : World → World → Prop) (n : Nat) (hn : 1 ≤ n) (W0 : World) : HandsP Fence.wide n Try.prog 27 #[] encM V Kp (AllS []) (PreS []) W0 := fun l J Jx W hW hJ hJx hY h0 => by
  refine callsIn_of_wp Try.func27 rfl trivial ?_ rfl
  simp only [Try.ntmps27, List.size_toArray, List.length_cons, List.length_nil, Nat.reduceAdd, Nat.reduceSub, Array.replicate_succ, Array.replicate_zero, List.push_toArray, List.append_toArray, List.nil_append, List.cons_append]
  gi_wp2
  go_end0
  exact ⟨⟨_, rfl⟩, .inl ⟨[], rfl, h0⟩⟩
set_option maxHeartbeats 2000000 in
set_option maxRecDepth 100000 in
theorem values_hands (cb : Nat) (A B : Option Addr) (d : Nat) (L : List Mg) (hB : ablk B = ablk A) (n : Nat) (hn : 1 ≤ n) (W0 : World) (hcb : W0.cell? ⟨cb, 0, none⟩ = some (.slice B L.length d)) (hL : Lies Mg.cells 9 W0 B d L) (hA : ∀ k ∈ ablk A, k < W0.heap.size) :
    HandsP Fence.wide n Try.prog 39 #[.pointer (some ⟨cb, 0, none⟩)] encM (NextS L) (KpF cb A) (AllS L) (PreS L) W0 := fun l J Jx W hW hJ hJx hY h0 => by
  have hcl : cb < W0.heap.size := cell_lt hcb
  have K0 : KpF cb A W0 W := KpF.ext hW hcl hA
  have hs0 := hW.size
  have hm2 := hL.max
  have hle := hL.le
  unfold maxLen at hm2
  have c00 : W.cell? ⟨cb, 0, none⟩ = some (.slice B L.length d) := (World.cell?_of_block (a := ⟨cb, 0, none⟩) K0.box).trans hcb
  refine callsIn_of_wp Try.func39 rfl trivial ?_ rfl
  simp only [Try.ntmps39, List.size_toArray, List.length_cons, List.length_nil, Nat.reduceAdd, Nat.reduceSub, Array.replicate_succ, Array.replicate_zero, List.push_toArray, List.append_toArray, List.nil_append, List.cons_append]
  gi_wp2
  gi_loopw [7] (fun i wr => ∃ k : Nat, i = .int .i64 k ∧ k ≤ L.length ∧ KpF cb A W0 wr ∧ J (L.take k) wr) (fun i _ => L.length - (intOf i).toNat)
  case atStart => exact ⟨0, rfl, Nat.zero_le _, K0, by simpa using h0⟩
  case round =>
    obtain ⟨k, rfl, hk, hK, hJp⟩ := hrel
    have hsz := hK.size
    by_cases hlt : k < L.length
    · have KB : KpF cb B W0 wr := ⟨hK.size, hK.box, by rw [hB]; exact hK.row⟩
      obtain ⟨b, off, hA', hbw, e9, _⟩ := (⟨hL.le, hL.max, hL.src.kp KB⟩ : Lies Mg.cells 9 wr B d L).msg k hlt
      subst hA'
      have htk : L.take (k + 1) = L.take k ++ [L[k]] := List.take_succ_eq_append_getElem hlt
      have hlt2 : (k : Int) < (L.length : Int) := by omega
      have hLl : L.length ≤ 9223372036854775807 := by omega
      generalize L[k] = m at *
      have x3 : Ext wr (wr.alloc (.cells #[.int .i64 m.kind, .int .i64 m.sym, .int .i64 m.seq, .int .i64 m.tick, .int .i64 m.id, .int .i64 m.wth, .int .i64 m.price, .int .i64 m.qty, .int .i64 m.code] 34)) := (Ext.refl _).alloc _
      have J3 := hJ (L.take k) wr _ none hJp (x3.row none) (fun r e => by cases e)
      have K3 : KpF cb A wr (wr.alloc (.cells #[.int .i64 m.kind, .int .i64 m.sym, .int .i64 m.seq, .int .i64 m.tick, .int .i64 m.id, .int .i64 m.wth, .int .i64 m.price, .int .i64 m.qty, .int .i64 m.code] 34)) := KpF.ext x3 (by omega) (fun j hj => by have := hA j hj; omega)
      have hlk : NextS L (L.take k) m := by unfold NextS; rw [← htk]; exact List.take_prefix _ _
      obtain ⟨f1, t1, a1, b1, hy1, hR1⟩ := hY (L.take k) m _ J3 hlk
      dsimp only [encM] at hy1
      have HTK := Lib.hid htk
      clear htk
      gi_wp2
      refine hR1.mono ?_
      rintro e w4 (⟨rfl, J4, K4⟩ | ⟨rfl, Jx4⟩)
      · gi_wp2
        go_roundw
        case rel => exact ⟨k + 1, by go_num, by omega, (hK.trans K3).trans K4, by rw [HTK.out]; exact J4⟩
        case measure => simp [intOf]; omega
      · gi_wp2
        refine bodyPost_ret (results_none rfl _ _ _) rfl ?_
        exact ⟨⟨_, rfl⟩, .inr ⟨_, by rw [← HTK.out]; exact List.take_prefix _ _, Jx4⟩⟩
    · obtain rfl : k = L.length := by omega
      gi_wp2
      go_end0
      exact ⟨⟨_, rfl⟩, .inl ⟨L, rfl, by simpa using hJp⟩⟩
theorem flat_drop : ∀ (l : List Mg) (k : Nat), (l.drop k).flatMap Mg.cells = (l.flatMap Mg.cells).drop (k * 9)
  | [], k => by simp
  | x :: l, 0 => by simp
  | x :: l, k + 1 => by
    rw [List.drop_succ_cons, flat_drop l k, List.flatMap_cons, List.drop_append]
    show _ = List.drop ((k + 1) * 9) x.cells ++ List.drop ((k + 1) * 9 - 9) (l.flatMap Mg.cells)
    rw [List.drop_eq_nil_of_le (show x.cells.length ≤ (k + 1) * 9 by show 9 ≤ (k + 1) * 9; omega), List.nil_append]
    congr 1
    omega
/-- How many are left out. -/
def sN (seq : Int) (n : Nat) : Nat := min seq.toNat n
structure SinceIs (w : World) (g : Nat) (A : Option Addr) (L : List Mg) (e : Ending) (w' : World) : Prop where
  ext : Ext w w'
  ex : ∃ gf lb cb, e = .returned (.func (.func gf) #[] lb) ∧ (cb = g ∨ w.heap.size ≤ cb) ∧ cb < w'.heap.size ∧ (∀ args w, (callFunc gf args).run Try.prog w = .ok (.enter gf args) w) ∧ ∀ n W0, 1 ≤ n → Ext w' W0 → HandsP Fence.wide n Try.prog gf lb encM (NextS L) (KpF cb A) (AllS L) (PreS L) W0
theorem lastnil_c (w : World) : Calls Try.prog 20 #[.pointer none] w fun e w' => e = .returned (.int .i64 0) ∧ Ext w w' := by
  go_enter Try.func20, Try.ntmps20
  go_wp2_with fail
  first | refine fin_ret rfl (fun K hK => ?_) | refine fin_norm rfl (fun K hK => ?_)
  simp [results, Try.results20, go_sem, rsat]
  try go_simp
  refine hK _ ?_
  clear hK K
  exact ⟨rfl, (by repeat (first | (with_reducible exact Ext.refl _) | (with_reducible assumption) | (with_reducible refine Ext.alloc ?_ _) | (with_reducible refine Ext.drew ?_) | (with_reducible refine Ext.drewN ?_ _) | (with_reducible refine Ext.setCell ?_ (by simp; try omega) _) | (with_reducible refine Ext.setRow ?_ (by simp; try omega) _)))⟩
set_option maxHeartbeats 1000000 in
theorem sincenil_c (seq : Int) (w : World) : Calls Try.prog 17 #[.pointer none, .int .i64 seq] w fun e w' => e = .returned (.func (.func 27) #[] #[]) ∧ Ext w w' := by
  rcases Int.lt_trichotomy seq 0 with h0 | h0 | h0
  ·
    go_enter Try.func17, Try.ntmps17
    go_wp2_with fail
    refine (lastnil_c _).mono ?_
    rintro e w1 ⟨rfl, hxw1⟩
    have xw1 : Ext w w1 := Ext.trans (by repeat (first | (with_reducible exact Ext.refl _) | (with_reducible assumption) | (with_reducible refine Ext.alloc ?_ _) | (with_reducible refine Ext.drew ?_) | (with_reducible refine Ext.drewN ?_ _) | (with_reducible refine Ext.setCell ?_ (by simp; try omega) _) | (with_reducible refine Ext.setRow ?_ (by simp; try omega) _))) hxw1
    have lw1 := xw1.size
    go_wp2_with fail
    refine (lastnil_c _).mono ?_
    rintro e w2 ⟨rfl, hxw2⟩
    have xw2 : Ext w w2 := Ext.trans (by repeat (first | (with_reducible exact Ext.refl _) | (with_reducible assumption) | (with_reducible refine Ext.alloc ?_ _) | (with_reducible refine Ext.drew ?_) | (with_reducible refine Ext.drewN ?_ _) | (with_reducible refine Ext.setCell ?_ (by simp; try omega) _) | (with_reducible refine Ext.setRow ?_ (by simp; try omega) _))) hxw2
    have lw2 := xw2.size
    go_wp2_with fail
    first | refine fin_ret rfl (fun K hK => ?_) | refine fin_norm rfl (fun K hK => ?_)
    simp [results, Try.results17, go_sem, rsat]
    try go_simp
    refine hK _ ?_
    clear hK K
    exact ⟨rfl, (by repeat (first | (with_reducible exact Ext.refl _) | (with_reducible assumption) | (with_reducible refine Ext.alloc ?_ _) | (with_reducible refine Ext.drew ?_) | (with_reducible refine Ext.drewN ?_ _) | (with_reducible refine Ext.setCell ?_ (by simp; try omega) _) | (with_reducible refine Ext.setRow ?_ (by simp; try omega) _)))⟩
  · subst h0
    go_enter Try.func17, Try.ntmps17
    go_wp2_with fail
    refine (lastnil_c _).mono ?_
    rintro e w1 ⟨rfl, hxw1⟩
    have xw1 : Ext w w1 := Ext.trans (by repeat (first | (with_reducible exact Ext.refl _) | (with_reducible assumption) | (with_reducible refine Ext.alloc ?_ _) | (with_reducible refine Ext.drew ?_) | (with_reducible refine Ext.drewN ?_ _) | (with_reducible refine Ext.setCell ?_ (by simp; try omega) _) | (with_reducible refine Ext.setRow ?_ (by simp; try omega) _))) hxw1
    have lw1 := xw1.size
    go_wp2_with fail
    refine (lastnil_c _).mono ?_
    rintro e w2 ⟨rfl, hxw2⟩
    have xw2 : Ext w w2 := Ext.trans (by repeat (first | (with_reducible exact Ext.refl _) | (with_reducible assumption) | (with_reducible refine Ext.alloc ?_ _) | (with_reducible refine Ext.drew ?_) | (with_reducible refine Ext.drewN ?_ _) | (with_reducible refine Ext.setCell ?_ (by simp; try omega) _) | (with_reducible refine Ext.setRow ?_ (by simp; try omega) _))) hxw2
    have lw2 := xw2.size
    go_wp2_with fail
    first | refine fin_ret rfl (fun K hK => ?_) | refine fin_norm rfl (fun K hK => ?_)
    simp [results, Try.results17, go_sem, rsat]
    try go_simp
    refine hK _ ?_
    clear hK K
    exact ⟨rfl, (by repeat (first | (with_reducible exact Ext.refl _) | (with_reducible assumption) | (with_reducible refine Ext.alloc ?_ _) | (with_reducible refine Ext.drew ?_) | (with_reducible refine Ext.drewN ?_ _) | (with_reducible refine Ext.setCell ?_ (by simp; try omega) _) | (with_reducible refine Ext.setRow ?_ (by simp; try omega) _)))⟩
  ·
    go_enter Try.func17, Try.ntmps17
    go_wp2_with fail
    refine (lastnil_c _).mono ?_
    rintro e w1 ⟨rfl, hxw1⟩
    have xw1 : Ext w w1 := Ext.trans (by repeat (first | (with_reducible exact Ext.refl _) | (with_reducible assumption) | (with_reducible refine Ext.alloc ?_ _) | (with_reducible refine Ext.drew ?_) | (with_reducible refine Ext.drewN ?_ _) | (with_reducible refine Ext.setCell ?_ (by simp; try omega) _) | (with_reducible refine Ext.setRow ?_ (by simp; try omega) _))) hxw1
    have lw1 := xw1.size
    go_wp2_with fail
    refine (lastnil_c _).mono ?_
    rintro e w2 ⟨rfl, hxw2⟩
    have xw2 : Ext w w2 := Ext.trans (by repeat (first | (with_reducible exact Ext.refl _) | (with_reducible assumption) | (with_reducible refine Ext.alloc ?_ _) | (with_reducible refine Ext.drew ?_) | (with_reducible refine Ext.drewN ?_ _) | (with_reducible refine Ext.setCell ?_ (by simp; try omega) _) | (with_reducible refine Ext.setRow ?_ (by simp; try omega) _))) hxw2
    have lw2 := xw2.size
    go_wp2_with fail
    first | refine fin_ret rfl (fun K hK => ?_) | refine fin_norm rfl (fun K hK => ?_)
    simp [results, Try.results17, go_sem, rsat]
    try go_simp
    refine hK _ ?_
    clear hK K
    exact ⟨rfl, (by repeat (first | (with_reducible exact Ext.refl _) | (with_reducible assumption) | (with_reducible refine Ext.alloc ?_ _) | (with_reducible refine Ext.drew ?_) | (with_reducible refine Ext.drewN ?_ _) | (with_reducible refine Ext.setCell ?_ (by simp; try omega) _) | (with_reducible refine Ext.setRow ?_ (by simp; try omega) _)))⟩
theorem vals_c (B : Option Addr) (n d : Nat) (w : World) : Calls Try.prog 28 #[.slice B n d] w fun e w' => e = .returned (.func (.func 39) #[] #[.pointer (some ⟨w.heap.size, 0, none⟩)]) ∧ w' = w.alloc (.cells #[.slice B n d] 22) := by
  go_enter Try.func28, Try.ntmps28
  go_wp2_with fail
  first | refine fin_ret rfl (fun K hK => ?_) | refine fin_norm rfl (fun K hK => ?_)
  simp [results, Try.results28, go_sem, rsat]
  try go_simp
  refine hK _ ?_
  clear hK K
  exact ⟨rfl, rfl⟩
theorem since_vals (g : Nat) (A B : Option Addr) (d : Nat) (L : List Mg) (w w2 : World) (hx : Ext w w2) (hB : ablk B = ablk A) (hR : Row w 34 9 B L.length d (L.flatMap Mg.cells)) (hA : ∀ k ∈ ablk A, k < w.heap.size) :
    SinceIs w g A L (.returned (.func (.func 39) #[] #[.pointer (some ⟨w2.heap.size, 0, none⟩)])) (w2.alloc (.cells #[.slice B L.length d] 22)) :=
  ⟨hx.alloc _, _, _, w2.heap.size, rfl, .inr hx.size, by simp, enters_of Try.func39 (by kernel_rfl) rfl, fun n W0 hn hx0 => by
    have hR0 := (hR.ext (hx.alloc (.cells #[.slice B L.length d] 22))).ext hx0
    exact values_hands w2.heap.size A B d L hB n hn W0 (((At.new w2 22 #[.slice B L.length d]).ext hx0).cell 0) ⟨hR0.le, hR0.max, hR0.src⟩ (fun k hk => Nat.lt_of_lt_of_le (hA k hk) (Nat.le_trans hx.size (Nat.le_trans (by simp) hx0.size)))⟩
set_option maxHeartbeats 2000000 in
theorem since_c (g : Nat) (A : Option Addr) (l : List Mg) (seq : Int) (hq : I64 seq) (hn : l.length ≤ 1000) (w : World) (h : FdP w g A l) : Calls Try.prog 17 #[.pointer (some ⟨g, 0, none⟩), .int .i64 seq] w fun e w' => SinceIs w g A (l.drop (sN seq l.length)) e w' := by
  obtain ⟨halt, c, hA, hR⟩ := h
  have C1 := last_c g A l.length c
  have HC1 := Lib.hid C1
  clear C1
  have sg := hA.lt
  have c0 : w.cell? ⟨g, 0, none⟩ = some (.slice A l.length c) := hA.cell 0
  by_cases h1 : (l.length : Int) ≤ seq ∨ l.length = 0
  · have hs : sN seq l.length = l.length := by unfold sN; omega
    have hd : l.drop (sN seq l.length) = [] := by rw [hs, List.drop_length]
    have HD := Lib.hid hd
    clear hd hs
    obtain ⟨P, hP⟩ : ∃ P : Ending → World → Prop, P = fun e w' => SinceIs w g A (l.drop (sN seq l.length)) e w' := ⟨_, rfl⟩
    have fin : ∀ w', Ext w w' → P (.returned (.func (.func 27) #[] #[])) w' := fun w' hx => by
      rw [hP, HD.out]
      exact ⟨hx, _, _, g, rfl, .inl rfl, Nat.lt_of_lt_of_le sg hx.size, enters_of Try.func27 (by kernel_rfl) rfl, fun n W0 hn _ => none_hands _ _ n hn W0⟩
    rw [← hP]
    have HFIN := Lib.hid fin
    clear hP HD fin
    by_cases h0 : seq < 0
    · have hz : l.length = 0 := by omega
      have C0 : ∀ W, At W g 53 #[.slice A l.length c] → Calls Try.prog 20 #[.pointer (some ⟨g, 0, none⟩)] W fun e w' => e = .returned (.int .i64 0) ∧ Ext W w' := fun W hW => by
        have := HC1.out W hW
        rw [hz] at this
        exact this
      have HC0 := Lib.hid C0
      clear h1 hz C0
      go_enter Try.func17, Try.ntmps17
      go_wp2_with fail
      refine (HC0.out _ hA).mono ?_
      rintro e w1 ⟨rfl, hxw1⟩
      have xw1 : Ext w w1 := Ext.trans (by repeat (first | (with_reducible exact Ext.refl _) | (with_reducible assumption) | (with_reducible refine Ext.alloc ?_ _) | (with_reducible refine Ext.drew ?_) | (with_reducible refine Ext.drewN ?_ _) | (with_reducible refine Ext.setCell ?_ (by simp; try omega) _) | (with_reducible refine Ext.setRow ?_ (by simp; try omega) _))) hxw1
      have lw1 := xw1.size
      go_wp2_with fail
      refine (HC0.out _ (hA.ext (by assumption))).mono ?_
      rintro e w2 ⟨rfl, hxw2⟩
      have xw2 : Ext w w2 := Ext.trans (by repeat (first | (with_reducible exact Ext.refl _) | (with_reducible assumption) | (with_reducible refine Ext.alloc ?_ _) | (with_reducible refine Ext.drew ?_) | (with_reducible refine Ext.drewN ?_ _) | (with_reducible refine Ext.setCell ?_ (by simp; try omega) _) | (with_reducible refine Ext.setRow ?_ (by simp; try omega) _))) hxw2
      have lw2 := xw2.size
      go_wp2_with fail
      all_goals first | (exfalso; omega) | skip
      exact HFIN.out _ (by repeat (first | (with_reducible exact Ext.refl _) | (with_reducible assumption) | (with_reducible refine Ext.alloc ?_ _) | (with_reducible refine Ext.drew ?_) | (with_reducible refine Ext.drewN ?_ _) | (with_reducible refine Ext.setCell ?_ (by simp; try omega) _) | (with_reducible refine Ext.setRow ?_ (by simp; try omega) _)))
    rcases Int.lt_trichotomy seq (l.length : Int) with h2 | h2 | h2
    · exfalso; omega
    · subst h2
      go_enter Try.func17, Try.ntmps17
      go_wp2_with fail
      refine (HC1.out _ hA).mono ?_
      rintro e w1 ⟨rfl, hxw1⟩
      have xw1 : Ext w w1 := Ext.trans (by repeat (first | (with_reducible exact Ext.refl _) | (with_reducible assumption) | (with_reducible refine Ext.alloc ?_ _) | (with_reducible refine Ext.drew ?_) | (with_reducible refine Ext.drewN ?_ _) | (with_reducible refine Ext.setCell ?_ (by simp; try omega) _) | (with_reducible refine Ext.setRow ?_ (by simp; try omega) _))) hxw1
      have lw1 := xw1.size
      go_wp2_with fail
      refine (HC1.out _ (hA.ext (by assumption))).mono ?_
      rintro e w2 ⟨rfl, hxw2⟩
      have xw2 : Ext w w2 := Ext.trans (by repeat (first | (with_reducible exact Ext.refl _) | (with_reducible assumption) | (with_reducible refine Ext.alloc ?_ _) | (with_reducible refine Ext.drew ?_) | (with_reducible refine Ext.drewN ?_ _) | (with_reducible refine Ext.setCell ?_ (by simp; try omega) _) | (with_reducible refine Ext.setRow ?_ (by simp; try omega) _))) hxw2
      have lw2 := xw2.size
      go_wp2_with fail
      all_goals first | (exfalso; omega) | skip
      exact HFIN.out _ (by repeat (first | (with_reducible exact Ext.refl _) | (with_reducible assumption) | (with_reducible refine Ext.alloc ?_ _) | (with_reducible refine Ext.drew ?_) | (with_reducible refine Ext.drewN ?_ _) | (with_reducible refine Ext.setCell ?_ (by simp; try omega) _) | (with_reducible refine Ext.setRow ?_ (by simp; try omega) _)))
    · clear h1
      go_enter Try.func17, Try.ntmps17
      go_wp2_with fail
      refine (HC1.out _ hA).mono ?_
      rintro e w1 ⟨rfl, hxw1⟩
      have xw1 : Ext w w1 := Ext.trans (by repeat (first | (with_reducible exact Ext.refl _) | (with_reducible assumption) | (with_reducible refine Ext.alloc ?_ _) | (with_reducible refine Ext.drew ?_) | (with_reducible refine Ext.drewN ?_ _) | (with_reducible refine Ext.setCell ?_ (by simp; try omega) _) | (with_reducible refine Ext.setRow ?_ (by simp; try omega) _))) hxw1
      have lw1 := xw1.size
      go_wp2_with fail
      refine (HC1.out _ (hA.ext (by assumption))).mono ?_
      rintro e w2 ⟨rfl, hxw2⟩
      have xw2 : Ext w w2 := Ext.trans (by repeat (first | (with_reducible exact Ext.refl _) | (with_reducible assumption) | (with_reducible refine Ext.alloc ?_ _) | (with_reducible refine Ext.drew ?_) | (with_reducible refine Ext.drewN ?_ _) | (with_reducible refine Ext.setCell ?_ (by simp; try omega) _) | (with_reducible refine Ext.setRow ?_ (by simp; try omega) _))) hxw2
      have lw2 := xw2.size
      go_wp2_with fail
      all_goals first | (exfalso; omega) | skip
      exact HFIN.out _ (by repeat (first | (with_reducible exact Ext.refl _) | (with_reducible assumption) | (with_reducible refine Ext.alloc ?_ _) | (with_reducible refine Ext.drew ?_) | (with_reducible refine Ext.drewN ?_ _) | (with_reducible refine Ext.setCell ?_ (by simp; try omega) _) | (with_reducible refine Ext.setRow ?_ (by simp; try omega) _)))
  · obtain ⟨h2, h3⟩ : seq < (l.length : Int) ∧ 0 < l.length := by omega
    clear h1
    obtain ⟨k, hk⟩ : ∃ k, k = sN seq l.length := ⟨_, rfl⟩
    have hks : (k : Int) = max seq 0 ∧ k < l.length := by rw [hk]; unfold sN; omega
    obtain ⟨P, hP⟩ : ∃ P : Ending → World → Prop, P = fun e w' => SinceIs w g A (l.drop (sN seq l.length)) e w' := ⟨_, rfl⟩
    rw [← hP]
    have HP := Lib.hid hP
    have HK := Lib.hid hk
    clear hP hk
    obtain ⟨b, off, cur, hA', hbb, hsz, hxs⟩ := hR.at_ (by have := hR.le; omega)
    have hD := hR.dropN (k := k) (by omega)
    have hmx := hR.max
    have hle := hR.le
    unfold maxLen at hmx
    subst hA'
    clear hbb hsz hxs
    by_cases h0 : seq < 0
    · obtain rfl : k = 0 := by omega
      go_enter Try.func17, Try.ntmps17
      go_wp2_with fail
      refine (HC1.out _ hA).mono ?_
      rintro e w1 ⟨rfl, hxw1⟩
      have xw1 : Ext w w1 := Ext.trans (by repeat (first | (with_reducible exact Ext.refl _) | (with_reducible assumption) | (with_reducible refine Ext.alloc ?_ _) | (with_reducible refine Ext.drew ?_) | (with_reducible refine Ext.drewN ?_ _) | (with_reducible refine Ext.setCell ?_ (by simp; try omega) _) | (with_reducible refine Ext.setRow ?_ (by simp; try omega) _))) hxw1
      have lw1 := xw1.size
      go_wp2_with fail
      refine (HC1.out _ (hA.ext (by assumption))).mono ?_
      rintro e w2 ⟨rfl, hxw2⟩
      have xw2 : Ext w w2 := Ext.trans (by repeat (first | (with_reducible exact Ext.refl _) | (with_reducible assumption) | (with_reducible refine Ext.alloc ?_ _) | (with_reducible refine Ext.drew ?_) | (with_reducible refine Ext.drewN ?_ _) | (with_reducible refine Ext.setCell ?_ (by simp; try omega) _) | (with_reducible refine Ext.setRow ?_ (by simp; try omega) _))) hxw2
      have lw2 := xw2.size
      have hA2 := hA.ext xw2
      have c2 : w2.cell? ⟨g, 0, none⟩ = some (.slice (some ⟨b, off, none⟩) l.length c) := hA2.cell 0
      go_wp2_with fail
      all_goals first | (exfalso; omega) | skip
      refine (vals_c _ _ _ _).mono ?_
      rintro e w3 ⟨rfl, rfl⟩
      go_wp2_with fail
      rw [HP.out, ← HK.out]
      exact since_vals g _ _ c l w w2 xw2 rfl hR (fun k hk => (halt k hk).1)
    · have h4 : 0 ≤ seq := by omega
      have hkq : seq = (k : Int) := by omega
      have hkl := hks.2
      clear hks
      subst hkq
      go_enter Try.func17, Try.ntmps17
      go_wp2_with fail
      refine (HC1.out _ hA).mono ?_
      rintro e w1 ⟨rfl, hxw1⟩
      have xw1 : Ext w w1 := Ext.trans (by repeat (first | (with_reducible exact Ext.refl _) | (with_reducible assumption) | (with_reducible refine Ext.alloc ?_ _) | (with_reducible refine Ext.drew ?_) | (with_reducible refine Ext.drewN ?_ _) | (with_reducible refine Ext.setCell ?_ (by simp; try omega) _) | (with_reducible refine Ext.setRow ?_ (by simp; try omega) _))) hxw1
      have lw1 := xw1.size
      go_wp2_with fail
      refine (HC1.out _ (hA.ext (by assumption))).mono ?_
      rintro e w2 ⟨rfl, hxw2⟩
      have xw2 : Ext w w2 := Ext.trans (by repeat (first | (with_reducible exact Ext.refl _) | (with_reducible assumption) | (with_reducible refine Ext.alloc ?_ _) | (with_reducible refine Ext.drew ?_) | (with_reducible refine Ext.drewN ?_ _) | (with_reducible refine Ext.setCell ?_ (by simp; try omega) _) | (with_reducible refine Ext.setRow ?_ (by simp; try omega) _))) hxw2
      have lw2 := xw2.size
      have hA2 := hA.ext xw2
      have c2 : w2.cell? ⟨g, 0, none⟩ = some (.slice (some ⟨b, off, none⟩) l.length c) := hA2.cell 0
      go_wp2_with fail
      all_goals first | (exfalso; omega) | skip
      refine (vals_c _ _ _ _).mono ?_
      rintro e w3 ⟨rfl, rfl⟩
      go_wp2_with fail
      rw [HP.out, ← HK.out]
      have ec : cutA (some ⟨b, off, none⟩) c k 9 = some ⟨b, off + k * 9, none⟩ := by unfold cutA; rw [if_neg (by omega)]; simp [Addr.add_lit]
      have el : (l.drop k).length = l.length - k := List.length_drop
      rw [ec, ← flat_drop, ← el] at hD
      rw [← el]
      exact since_vals g (some ⟨b, off, none⟩) _ (c - k) (l.drop k) w w2 xw2 rfl hD (fun k hk => (halt k hk).1)
end Go.Proofs.Ythophidcgkjdeaa
