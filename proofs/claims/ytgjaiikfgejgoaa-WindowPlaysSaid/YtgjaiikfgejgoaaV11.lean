/- Windows by the document (layer 19): Mean. Condition: at most 1000 trades. -/
import Derived.Test.YtgjaiikfgejgoaaVC
namespace Go.Proofs.Ytgjaiikfgejgoaa
open Go.RowKit
attribute [local go_sem] Later.cell QUpon_value QUpon_enter MUpon_value Same.cell
attribute [local go_sem ↓ high] loadVar_is storeVar_is
attribute [local go_sem high] zero_bits
attribute [local go_sem] run_loadBits run_storeBits isArr_arr cellsAt_alloc_at cellsAt_alloc_past setRow_past cellsAt_drew ltn_2 ltn_3 ltn_4 ltn_5 setRow_new bitsOf cellsAt_later
theorem cell_setRow_far (w : World) (g b o : Nat) (cs : Array Value) (h : b ≠ g) : (w.setRow g cs).cell? ⟨b, o, none⟩ = w.cell? ⟨b, o, none⟩ := World.cell?_of_block (a := ⟨b, o, none⟩) (setRow_other w g b cs h)
attribute [local go_sem] cell_setRow_far
def keepT (c : Int) (l : List Tr) : List Tr := l.filter fun x => decide (c < x.t)
theorem keepT_len (c : Int) (l : List Tr) : (keepT c l).length ≤ l.length := List.length_filter_le _ _
theorem keepT_ok {c : Int} {l : List Tr} (h : ∀ x ∈ l, x.Ok) : ∀ x ∈ keepT c l, x.Ok := fun x hx => h x (List.mem_filter.1 hx).1
theorem keep_step {c : Int} {l : List Tr} {k : Nat} (hk : k < l.length) : keepT c (l.take (k + 1)) = if c < l[k].t then keepT c (l.take k) ++ [l[k]] else keepT c (l.take k) := by
  unfold keepT
  rw [List.take_succ_eq_append_getElem hk, List.filter_append]
  by_cases h : c < l[k].t
  · rw [if_pos h, List.filter_cons_of_pos (by simpa using h), List.filter_nil]
  · rw [if_neg h, List.filter_cons_of_neg (by simpa using h), List.filter_nil, List.append_nil]
theorem rwc_get {l : List Tr} {k : Nat} (hk : k < l.length) : (rwc l)[k * 3]? = some (.int .i64 l[k].t) ∧ (rwc l)[k * 3 + 1]? = some (.int .i64 l[k].p) ∧ (rwc l)[k * 3 + 2]? = some (.int .i64 l[k].q) := by
  induction l generalizing k with
  | nil => simp at hk
  | cons x l ih =>
    cases k with
    | zero => exact ⟨rfl, rfl, rfl⟩
    | succ k =>
      have h := ih (k := k) (by simpa using hk)
      have e : ∀ j, (rwc (x :: l))[(k + 1) * 3 + j]? = (rwc l)[k * 3 + j]? := fun j => by
        show (Value.int .i64 x.t :: .int .i64 x.p :: .int .i64 x.q :: rwc l)[(k + 1) * 3 + j]? = _
        rw [show (k + 1) * 3 + j = k * 3 + j + 1 + 1 + 1 by omega, List.getElem?_cons_succ, List.getElem?_cons_succ, List.getElem?_cons_succ]
      exact ⟨(e 0).trans h.1, (e 1).trans h.2.1, (e 2).trans h.2.2⟩
/-- Between two rounds of the first loop. -/
structure KpAt (w wr : World) (g : Nat) (A : Option Addr) (c : Nat) (span grid ref t : Int) (l : List Tr) (k : Nat) (A' : Option Addr) (c' : Nat) : Prop where
  le : k ≤ l.length
  chg : Chg w wr [g]
  at_ : At wr g 43 #[.int .i64 span, .int .i64 grid, .int .i64 ref, .int .i64 t, .slice A l.length c]
  row : Row wr 70 3 A l.length c (rwc l)
  out : Row wr 70 3 A' (keepT (t - span) (l.take k)).length c' (rwc (keepT (t - span) (l.take k)))
  new : ∀ j ∈ ablk A', w.heap.size ≤ j ∧ j < wr.heap.size
theorem worth_step {l : List Tr} {k : Nat} (hk : k < l.length) : worthN (l.take (k + 1)) = worthN (l.take k) + l[k].w := by
  rw [List.take_succ_eq_append_getElem hk, worth_app]
theorem qty_step {l : List Tr} {k : Nat} (hk : k < l.length) : qtyN (l.take (k + 1)) = qtyN (l.take k) + l[k].q.toNat := by
  rw [List.take_succ_eq_append_getElem hk, qty_app]
/-- Between two rounds of the second loop. -/
structure SmAt (w wr : World) (g p : Nat) (A : Option Addr) (c : Nat) (span grid ref t : Int) (l : List Tr) (k : Nat) : Prop where
  le : k ≤ l.length
  chg : Chg w wr [g]
  at_ : At wr g 43 #[.int .i64 span, .int .i64 grid, .int .i64 ref, .int .i64 t, .slice A l.length c]
  row : Row wr 70 3 A l.length c (rwc l)
  sum : At wr p 72 (arr fun j => (worthN (l.take k)).testBit j)
theorem rmean_no (g : Nat) (A : Option Addr) (span grid ref last : Int) (l : List Tr) (t : Int) (w : World) (hW : RWin w g A span grid ref last l) (hb : comesB last t = false) :
    Calls Try.prog 29 #[.pointer (some ⟨g, 0, none⟩), .int .i64 t] w fun e w' => e = .returned (.tuple #[.int .i64 0, .bool false]) ∧ Ext w w' := by
  have C1 := rticks_c g A span grid ref last l t w hW
  rw [hb] at C1
  clear hb hW
  go_enter Try.func29, Try.ntmps29
  go_wp2_with fail
  refine (C1).mono ?_
  rintro e w1 ⟨rfl, hxw1⟩
  have xw1 : Ext w w1 := Ext.trans (by repeat (first | (with_reducible exact Ext.refl _) | (with_reducible assumption) | (with_reducible refine Ext.alloc ?_ _) | (with_reducible refine Ext.drew ?_) | (with_reducible refine Ext.drewN ?_ _) | (with_reducible refine Ext.setCell ?_ (by simp; try omega) _) | (with_reducible refine Ext.setRow ?_ (by simp; try omega) _))) hxw1
  have lw1 := xw1.size
  go_wp2_with fail
  first | refine fin_ret rfl (fun K hK => ?_) | refine fin_norm rfl (fun K hK => ?_)
  simp [results, Try.results29, go_sem, rsat]
  try go_simp
  refine hK _ ?_
  clear hK K
  exact ⟨rfl, (by repeat (first | (with_reducible exact Ext.refl _) | (with_reducible assumption) | (with_reducible refine Ext.alloc ?_ _) | (with_reducible refine Ext.drew ?_) | (with_reducible refine Ext.drewN ?_ _) | (with_reducible refine Ext.setCell ?_ (by simp; try omega) _) | (with_reducible refine Ext.setRow ?_ (by simp; try omega) _)))⟩
set_option maxHeartbeats 4000000 in
set_option maxRecDepth 100000 in
theorem rmean_yes (g : Nat) (A : Option Addr) (span grid ref last : Int) (l : List Tr) (t : Int) (ht : I64 t) (hok : ∀ x ∈ l, x.Ok) (hsp : 1 ≤ span ∧ span ≤ 1099511627776) (hgr : 1 ≤ grid ∧ grid ≤ 1099511627776) (w : World) (hW : RWin w g A span grid ref last l) (hn : l.length ≤ 1000) (hb : comesB last t = true) :
    Calls Try.prog 29 #[.pointer (some ⟨g, 0, none⟩), .int .i64 t] w fun e w' => e = .returned (meanR grid (keepT (t - span) l)) ∧ ∃ A', RWin w' g A' span grid ref t (keepT (t - span) l) ∧ Chg w w' [g] ∧ ∀ k ∈ ablk A', w.heap.size ≤ k := by
  have C1 := rticks_c g A span grid ref last l t w hW
  obtain ⟨tl, t0, t1⟩ := of_decide_eq_true hb
  rw [hb] at C1
  obtain ⟨halt, c, hA, hR⟩ := hW
  have hgA : g ∉ ablk A := fun h => (halt g h).2 rfl
  have sg := hA.lt
  have hwt : wrap64 (t - span) = t - span := wrap64_in ⟨by omega, by omega⟩
  have hwt2 : IntKind.i64.wrap (t - span) = t - span := by rw [IntWalk.i64_left]; exact hwt
  clear hb
  go_enter Try.func29, Try.ntmps29
  go_wp2_with fail
  refine (C1).mono ?_
  rintro e w1 ⟨rfl, hxw1⟩
  have xw1 : Ext w w1 := Ext.trans (by repeat (first | (with_reducible exact Ext.refl _) | (with_reducible assumption) | (with_reducible refine Ext.alloc ?_ _) | (with_reducible refine Ext.drew ?_) | (with_reducible refine Ext.drewN ?_ _) | (with_reducible refine Ext.setCell ?_ (by simp; try omega) _) | (with_reducible refine Ext.setRow ?_ (by simp; try omega) _))) hxw1
  have lw1 := xw1.size
  have hA1 := hA.ext xw1
  have hR1 := hR.ext xw1
  have f3 := hA1.frozen 3
  have d3 : w1.cell? ⟨g, 3, none⟩ = some (.int .i64 last) := hA1.cell 3
  have sg1 := hA1.lt
  go_wp2_with fail
  go_loopw [6, 7] (fun s i wr => ∃ (k : Nat) (A' : Option Addr) (c' : Nat), i = .int .i64 k ∧ s = .slice A' (keepT (t - span) (l.take k)).length c' ∧ KpAt w wr g A c span grid ref t l k A' c') (fun _ i _ => l.length - (intOf i).toNat)
  case atStart => exact ⟨0, none, 0, rfl, rfl, by omega, (Chg.of_ext xw1 [g]).set (.inl (by simp)) _, hA1.set 3 _, hR1.set hgA _, Row.nil _ _ _ _, by simp [ablk]⟩
  case round =>
    obtain ⟨k, A', c', rfl, rfl, H⟩ := hrel
    have c4 : wr.cell? ⟨g, 4, none⟩ = some (.slice A l.length c) := H.at_.cell 4
    have c0 : wr.cell? ⟨g, 0, none⟩ = some (.int .i64 span) := H.at_.cell 0
    have sgr := H.at_.lt
    by_cases hk : k < l.length
    · obtain ⟨b, off, cur, hA', hbb, hsz, hxs⟩ := H.row.at_ (by have := H.row.le; omega)
      obtain ⟨x0, x1, x2⟩ := rwc_get hk
      have e0 := (H.row.cell hA' (j := k * 3) (by omega)).trans x0
      have e1 := (H.row.cell hA' (j := k * 3 + 1) (by omega)).trans x1
      have e2 := (H.row.cell hA' (j := k * 3 + 2) (by omega)).trans x2
      subst hA'
      have hbr : b < wr.heap.size := (Array.getElem?_eq_some_iff.1 hbb).1
      clear hbb hsz hxs
      have hst := keep_step (c := t - span) hk
      have hll : l.length ≤ 9223372036854775807 := by omega
      by_cases hx : t - span < l[k].t
      · rw [if_pos hx] at hst
        generalize l[k] = x at *
        have hd : decide (t - span < x.t) = true := decide_eq_true hx
        go_wp2_with fail
        refine wp_region_x 15 [0, 0, 0, 1, 0, 0, 0, 1, 0, 0, 0, 0, 1, 0, 0] (by kernel_rfl) (by kernel_rfl) (by kernel_rfl) ?_
        simp only [List.take_succ_cons, List.take_zero, List.drop_succ_cons, List.drop_zero]
        refine hl_pure (fun K hK => ?_)
        go_simp
        refine hK _ ?_
        clear hK K
        refine hl_pure (fun K hK => ?_)
        go_simp
        refine hK _ ?_
        clear hK K
        refine hl_pure (fun K hK => ?_)
        go_simp
        refine hK _ ?_
        clear hK K
        refine hl_quiet (fun K hK => ?_)
        go_simp
        refine hK _ ?_
        clear hK K
        refine hl_pure (fun K hK => ?_)
        go_simp
        refine hK _ ?_
        clear hK K
        refine hl_pure (fun K hK => ?_)
        go_simp
        refine hK _ ?_
        clear hK K
        refine hl_pure (fun K hK => ?_)
        go_simp
        refine hK _ ?_
        clear hK K
        refine hl_quiet (fun K hK => ?_)
        go_simp
        refine hK _ ?_
        clear hK K
        refine hl_pure (fun K hK => ?_)
        go_simp
        refine hK _ ?_
        clear hK K
        refine hl_pure (fun K hK => ?_)
        go_simp
        refine hK _ ?_
        clear hK K
        refine hl_pure (fun K hK => ?_)
        go_simp
        refine hK _ ?_
        clear hK K
        refine hl_pure (fun K hK => ?_)
        go_simp
        refine hK _ ?_
        clear hK K
        refine hl_quiet (fun K hK => ?_)
        go_simp
        refine hK _ ?_
        clear hK K
        refine hl_pure (fun K hK => ?_)
        go_simp
        refine hK _ ?_
        clear hK K
        refine hl_pure (fun K hK => ?_)
        go_simp
        refine hK _ ?_
        clear hK K
        refine hl_nil ?_
        intro w2 hx2 K hK
        have A2 := H.at_.ext hx2
        have R2 := H.row.ext hx2
        have O2 := H.out.ext hx2
        have s2 := hx2.size
        have b2 : b < w2.heap.size := by omega
        have c42 : w2.cell? ⟨g, 4, none⟩ = some (.slice (some ⟨b, off, none⟩) l.length c) := A2.cell 4
        have g0 : w2.cell? ⟨b, off + k * 3, none⟩ = some (.int .i64 x.t) := (R2.cell rfl (by omega)).trans x0
        have g1 : w2.cell? ⟨b, off + k * 3 + 1, none⟩ = some (.int .i64 x.p) := by rw [Nat.add_assoc]; exact (R2.cell rfl (by omega)).trans x1
        have g2 : w2.cell? ⟨b, off + k * 3 + 2, none⟩ = some (.int .i64 x.q) := by rw [Nat.add_assoc]; exact (R2.cell rfl (by omega)).trans x2
        have hkl := keepT_len (t - span) (l.take k)
        rw [List.length_take] at hkl
        go_wp2_with (at_builtin; refine wpList_rowcat rfl _ _ 41 70 3 24 (.agg #[.int .i64 0, .int .i64 0, .int .i64 0]) rfl Try.underlying41 trdInfo rfl (by decide) _ A' _ c' (rwc (keepT (t - span) (l.take k))) rfl (O2.alloc _) _ 1 1 [.int .i64 x.t, .int .i64 x.p, .int .i64 x.q] rfl (Src.at (At.new _ _ _) rfl) rfl (by unfold maxLen; omega) (by omega) ?_)
        intro A4 c4' w4 R4 C4 f4
        have er := rwc_app (keepT (t - span) (l.take k)) x
        rw [← er, ← hst] at R4
        have hl1 : (keepT (t - span) (l.take k)).length + 1 = (keepT (t - span) (l.take (k + 1))).length := by rw [hst, List.length_append]; rfl
        rw [hl1] at R4
        have s4 := C4.size
        try simp at s4
        have hnw : ∀ j ∈ ablk A', w.heap.size ≤ j ∧ j < w2.heap.size := fun j hj => ⟨(H.new j hj).1, Nat.lt_of_lt_of_le (H.new j hj).2 hx2.size⟩
        have hbw : b < w.heap.size := (halt b (by simp [ablk])).1
        have A4_ := C4.at (A2.alloc (.cells #[.int .i64 x.t, .int .i64 x.p, .int .i64 x.q] 70)) (fun h => by have := hnw g h; omega)
        have R4_ := (R2.alloc (.cells #[.int .i64 x.t, .int .i64 x.p, .int .i64 x.q] 70)).chg C4 (fun j hj h => by have := hnw j h; simp [ablk] at hj; omega)
        have C4_ : Chg w w4 [g] := Chg.step ((H.chg.extR hx2).alloc (.cells #[.int .i64 x.t, .int .i64 x.p, .int .i64 x.q] 70)) C4 (fun i hi => .inr (hnw i hi).1)
        have f4_ : ∀ j ∈ ablk A4, w.heap.size ≤ j ∧ j < w4.heap.size := fun j hj => by
          rcases f4 j hj with h1 | h1
          · have := hnw j h1; omega
          · have := H.chg.size; first | (simp at h1; omega) | omega
        rw [hl1]
        go_wp2_with fail
        go_roundw
        case rel => exact ⟨k + 1, A4, c4', by go_num, rfl, by omega, C4_, A4_, R4_, R4, f4_⟩
        case measure => simp [intOf]; omega
      · rw [if_neg hx] at hst
        generalize l[k] = x at *
        have hd : decide (t - span < x.t) = false := decide_eq_false hx
        go_wp2_with fail
        refine wp_region_x 15 [0, 0, 0, 1, 0, 0, 0, 1, 0, 0, 0, 0, 1, 0, 0] (by kernel_rfl) (by kernel_rfl) (by kernel_rfl) ?_
        simp only [List.take_succ_cons, List.take_zero, List.drop_succ_cons, List.drop_zero]
        refine hl_pure (fun K hK => ?_)
        go_simp
        refine hK _ ?_
        clear hK K
        refine hl_pure (fun K hK => ?_)
        go_simp
        refine hK _ ?_
        clear hK K
        refine hl_pure (fun K hK => ?_)
        go_simp
        refine hK _ ?_
        clear hK K
        refine hl_quiet (fun K hK => ?_)
        go_simp
        refine hK _ ?_
        clear hK K
        refine hl_pure (fun K hK => ?_)
        go_simp
        refine hK _ ?_
        clear hK K
        refine hl_pure (fun K hK => ?_)
        go_simp
        refine hK _ ?_
        clear hK K
        refine hl_pure (fun K hK => ?_)
        go_simp
        refine hK _ ?_
        clear hK K
        refine hl_quiet (fun K hK => ?_)
        go_simp
        refine hK _ ?_
        clear hK K
        refine hl_pure (fun K hK => ?_)
        go_simp
        refine hK _ ?_
        clear hK K
        refine hl_pure (fun K hK => ?_)
        go_simp
        refine hK _ ?_
        clear hK K
        refine hl_pure (fun K hK => ?_)
        go_simp
        refine hK _ ?_
        clear hK K
        refine hl_pure (fun K hK => ?_)
        go_simp
        refine hK _ ?_
        clear hK K
        refine hl_quiet (fun K hK => ?_)
        go_simp
        refine hK _ ?_
        clear hK K
        refine hl_pure (fun K hK => ?_)
        go_simp
        refine hK _ ?_
        clear hK K
        refine hl_pure (fun K hK => ?_)
        go_simp
        refine hK _ ?_
        clear hK K
        refine hl_nil ?_
        intro w2 hx2 K hK
        go_wp2_with fail
        go_roundw
        case rel => exact ⟨k + 1, A', c', by go_num, by rw [hst], by omega, H.chg.extR hx2, H.at_.ext hx2, H.row.ext hx2, by rw [hst]; exact H.out.ext hx2, fun j hj => ⟨(H.new j hj).1, Nat.lt_of_lt_of_le (H.new j hj).2 hx2.size⟩⟩
        case measure => simp [intOf]; omega
    · obtain rfl : k = l.length := by have := H.le; omega
      obtain ⟨_, hC, hAt, hRow, hOut, hNew⟩ := H
      rw [List.take_length] at hOut ⊢
      have hLn := keepT_len (t - span) l
      have hLok := keepT_ok (c := t - span) hok
      obtain ⟨L, hLL⟩ : ∃ L, L = keepT (t - span) l := ⟨_, rfl⟩
      rw [← hLL] at hOut hLn hLok ⊢
      have HL := Lib.hid hLL
      clear hLL
      have f4 := hAt.frozen 4
      have hgA' : g ∉ ablk A' := fun h => by have := hNew g h; omega
      cases hL : L with
      | nil =>
        rw [hL] at hOut
        go_wp2_with fail
        first | refine fin_ret rfl (fun K hK => ?_) | refine fin_norm rfl (fun K hK => ?_)
        simp [results, Try.results29, go_sem, rsat]
        try go_simp
        refine hK _ ?_
        clear hK K
        rw [← HL.out, hL]
        exact ⟨rfl, A', ⟨fun k hk => ⟨by simpa using (hNew k hk).2, fun h => hgA' (h ▸ hk)⟩, c', hAt.set 4 _, hOut.set hgA' _⟩, hC.set (.inl (by simp)) _, fun k hk => (hNew k hk).1⟩
      | cons y M =>
        rw [← hL]
        have hL0 : ((L.length : Int) == 0) = false := beq_eq_false_iff_ne.2 (by rw [hL]; simp; omega)
        have hL1 : 0 < L.length := by rw [hL]; simp
        have hq0 : 0 < qtyN L := by rw [hL]; exact qtyN_pos (hLok y (by rw [hL]; simp))
        have hmv := Lib.hid (show meanR grid L = .tuple #[.int .i64 (meanV grid L), .bool true] by rw [hL]; rfl)
        clear hL y M
        have hqn := ql_lt hLok (by omega)
        have hwn : worthN L < 340282366920938463463374607431768211456 := by have := worth_lt hLok; omega
        go_wp2_with fail
        obtain ⟨w3, hw3⟩ : ∃ W, W = (wr.setCell ⟨g, 4, none⟩ (.slice A' L.length c')).alloc (.cells (arr fun _ => false) 72) := ⟨_, rfl⟩
        have S0 : SmAt w w3 g wr.heap.size A' c' span grid ref t L 0 := by
          rw [hw3]
          refine ⟨Nat.zero_le _, (hC.set (.inl (by simp)) _).alloc _, (hAt.set 4 _).alloc _, (hOut.set hgA' _).alloc _, ?_⟩
          have : arr (fun j => (worthN (L.take 0)).testBit j) = arr fun _ => false := arr_ext (fun i _ => by simp [worthN])
          rw [this]
          exact At.new' _ _ _ _ (by simp)
        rw [← hw3]
        have hp0 : w.heap.size ≤ wr.heap.size := hC.size
        have hpg : wr.heap.size ≠ g := by omega
        have hpg' : g ≠ wr.heap.size := by omega
        have hpA : wr.heap.size ∉ ablk A' := fun h => by have := hNew _ h; omega
        clear hC hAt hRow hOut f4 c4 c0 hw3 sgr hA1 hR1 f3 d3
        have hNew0 : ∀ j ∈ ablk A', w.heap.size ≤ j := fun j hj => (hNew j hj).1
        have hNew1 : ∀ j ∈ ablk A', j < wr.heap.size := fun j hj => (hNew j hj).2
        clear hNew
        generalize wr.heap.size = q at hp0 hpg hpg' hpA S0 hNew1 ⊢
        go_loopw [9, 10] (fun s i wr => ∃ k : Nat, i = .int .i64 k ∧ s = .int .u64 ((qtyN (L.take k) : Nat) : Int) ∧ SmAt w wr g q A' c' span grid ref t L k) (fun _ i _ => L.length - (intOf i).toNat)
        case atStart => exact ⟨0, rfl, rfl, S0⟩
        case round =>
          obtain ⟨k, rfl, rfl, H⟩ := hrel
          have eB := cellsAt_at H.sum
          have sB := H.sum.lt
          by_cases hk : k < L.length
          · obtain ⟨b, off, cur, hA', hbb, hsz, hxs⟩ := H.row.at_ (by have := H.row.le; omega)
            obtain ⟨x0, x1, x2⟩ := rwc_get hk
            have e1 := (H.row.cell hA' (j := k * 3 + 1) (by omega)).trans x1
            have e2 := (H.row.cell hA' (j := k * 3 + 2) (by omega)).trans x2
            rw [← Nat.add_assoc] at e1 e2
            subst hA'
            have hbr : b < wr.heap.size := (Array.getElem?_eq_some_iff.1 hbb).1
            clear hbb hsz hxs x0
            have hws := worth_step hk
            have hqs := qty_step hk
            have hx := hLok L[k] (List.getElem_mem hk)
            have hq1 := ql_lt (l := L.take (k + 1)) (fun y hy => hLok y (List.mem_of_mem_take hy)) (by rw [List.length_take]; omega)
            have hw1 := worth_lt (l := L.take (k + 1)) (fun y hy => hLok y (List.mem_of_mem_take hy))
            rw [List.length_take] at hw1
            rw [hws] at hw1
            rw [hqs] at hq1
            unfold Tr.w at hws hw1
            have hLl : L.length ≤ 9223372036854775807 := by omega
            generalize L[k] = x at *
            obtain ⟨_, _, hp1, hp2, hq2, hq3⟩ := hx
            have hpu : U64 x.p := ⟨by omega, by omega⟩
            have hqu : U64 x.q := ⟨by omega, by omega⟩
            have ep : IntKind.u64.wrap x.p = x.p := wrapU hpu
            have eq : IntKind.u64.wrap x.q = x.q := wrapU hqu
            have hb1 : worthN (L.take k) + x.p.toNat * x.q.toNat < 340282366920938463463374607431768211456 := by omega
            have C5 := rmul_c x.p x.q hpu hqu
            have C6 := radd_c (worthN (L.take k)) (x.p.toNat * x.q.toNat) (by omega) (by omega)
            rw [Nat.mod_eq_of_lt hb1, ← hws] at C6
            have HWS := Lib.hid hws
            have HQS := Lib.hid hqs
            clear hws hqs hw1
            go_wp2_with fail
            refine wp_region_x 18 [1, 0, 0, 0, 0, 1, 0, 0, 0, 0, 0, 1, 0, 1, 1, 0, 0, 0] (by kernel_rfl) (by kernel_rfl) (by kernel_rfl) ?_
            simp only [List.take_succ_cons, List.take_zero, List.drop_succ_cons, List.drop_zero]
            refine hl_quiet (fun K hK => ?_)
            go_simp
            refine hK _ ?_
            clear hK K
            refine hl_pure (fun K hK => ?_)
            go_simp
            refine hK _ ?_
            clear hK K
            refine hl_pure (fun K hK => ?_)
            go_simp
            refine hK _ ?_
            clear hK K
            refine hl_pure (fun K hK => ?_)
            go_simp
            refine hK _ ?_
            clear hK K
            refine hl_pure (fun K hK => ?_)
            go_simp
            refine hK _ ?_
            clear hK K
            refine hl_quiet (fun K hK => ?_)
            go_simp
            refine hK _ ?_
            clear hK K
            refine hl_pure (fun K hK => ?_)
            go_simp
            refine hK _ ?_
            clear hK K
            refine hl_pure (fun K hK => ?_)
            go_simp
            refine hK _ ?_
            clear hK K
            refine hl_pure (fun K hK => ?_)
            go_simp
            refine hK _ ?_
            clear hK K
            refine hl_pure (fun K hK => ?_)
            go_simp
            refine hK _ ?_
            clear hK K
            refine hl_pure (fun K hK => ?_)
            go_simp
            refine hK _ ?_
            clear hK K
            refine hl_quiet (fun K hK => ?_)
            go_simp
            refine hK _ ?_
            clear hK K
            refine hl_pure (fun K hK => ?_)
            go_simp
            refine hK _ ?_
            clear hK K
            refine hl_quiet (fun K hK => ?_)
            go_simp
            first
              | (refine hK _ ?_; clear hK K)
              | (apply Exists.intro; refine ⟨fun x => ?_, hK _ ?_⟩
                 · (exact C5 _)
                 clear hK K)
            refine hl_quiet (fun K hK => ?_)
            go_simp
            first
              | (refine hK _ ?_; clear hK K)
              | (apply Exists.intro; refine ⟨fun x => ?_, hK _ ?_⟩
                 · (exact C6 _)
                 clear hK K)
            refine hl_pure (fun K hK => ?_)
            go_simp
            refine hK _ ?_
            clear hK K
            refine hl_pure (fun K hK => ?_)
            go_simp
            refine hK _ ?_
            clear hK K
            refine hl_pure (fun K hK => ?_)
            go_simp
            refine hK _ ?_
            clear hK K
            refine hl_nil ?_
            intro w5 hx5 K hK
            have sB5 := (H.sum.ext hx5).lt
            have eB5 := cellsAt_at (H.sum.ext hx5)
            have c52 : w5.cell? ⟨b, off + k * 3 + 2, none⟩ = some (.int .i64 x.q) := by rw [Nat.add_assoc]; exact ((H.row.ext hx5).cell rfl (by omega)).trans x2
            have hb5 : b ≠ q := fun h => hpA (by simp [ablk, h])
            go_wp2_with fail
            go_roundw
            case rel => exact ⟨k + 1, by go_num, by rw [HQS.out]; go_num, by omega, (H.chg.extR hx5).setRow (.inr hp0) _, (H.at_.ext hx5).rowFar (by omega) _, (H.row.ext hx5).setRow hpA _, (H.sum.ext hx5).setRow _⟩
            case measure => simp [intOf]; omega
          · obtain rfl : k = L.length := by have := H.le; omega
            obtain ⟨_, hC, hAt, hRow, hSum⟩ := H
            rw [List.take_length] at hSum eB ⊢
            have hmn := mean_lt hLok
            obtain ⟨M, hM⟩ : ∃ M, M = worthN L / qtyN L := ⟨_, rfl⟩
            obtain ⟨Q, hQ⟩ : ∃ Q : Int, Q = ((qtyN L : Nat) : Int) := ⟨_, rfl⟩
            have C7 := rdiv_c (worthN L) Q hwn ⟨by omega, by omega⟩ (by omega)
            rw [show Q.toNat = qtyN L by omega, ← hM] at C7
            rw [← hM] at hmn
            have C8 := rhalves_c M (by omega)
            have hM64 : M % 18446744073709551616 = M := Nat.mod_eq_of_lt (by omega)
            rw [hM64] at C8
            have C9 := rdown_c (M : Int) grid ⟨by omega, by omega⟩ ⟨by omega, by omega⟩
            have hd0 := downI_le (p := (M : Int)) (g := grid) (by omega) hgr.1
            have hdV : downI (M : Int) grid = (M : Int) / grid * grid := if_neg (by omega)
            have hmV : meanV grid L = max (downI (M : Int) grid) grid := by rw [hM]; rfl
            have eM : IntKind.i64.wrap (M : Int) = (M : Int) := by rw [IntWalk.i64_left, wrap64_in ⟨by omega, by omega⟩]
            generalize downI (M : Int) grid = D at C9 hmV hdV
            have hD0 : 0 ≤ D ∧ D ≤ 1099511627776 := by omega
            clear hdV hd0
            have HM := Lib.hid hM
            have HV := Lib.hid hmV
            have c1 : wr.cell? ⟨g, 1, none⟩ = some (.int .i64 grid) := hAt.cell 1
            rw [← hQ]
            clear hM hQ hmV hM64
            go_wp2_with fail
            refine (C7 _).mono ?_
            rintro e w7 ⟨rfl, hx7⟩
            go_wp2_with fail
            have hx8 : Ext wr ((w7.alloc (.cells (arr fun j => M.testBit j) 72)).alloc (.cells (arr fun j => (worthN L % qtyN L).testBit j) 72)) := (hx7.alloc _).alloc _
            unfold bitsOf at C8
            refine (C8 _).mono ?_
            rintro e w8 ⟨rfl, hx9⟩
            have hxA := hx8.trans hx9
            have c18 : w8.cell? ⟨g, 1, none⟩ = some (.int .i64 grid) := (hAt.ext hxA).cell 1
            have sg8 := (hAt.ext hxA).lt
            clear hx8 hx9 hx7
            go_wp2_with fail
            refine wp_region_x 14 [0, 0, 0, 0, 0, 1, 1, 0, 0, 0, 1, 0, 0, 0] (by kernel_rfl) (by kernel_rfl) (by kernel_rfl) ?_
            simp only [List.take_succ_cons, List.take_zero, List.drop_succ_cons, List.drop_zero]
            refine hl_pure (fun K hK => ?_)
            go_simp
            refine hK _ ?_
            clear hK K
            refine hl_pure (fun K hK => ?_)
            go_simp
            refine hK _ ?_
            clear hK K
            refine hl_pure (fun K hK => ?_)
            go_simp
            refine hK _ ?_
            clear hK K
            refine hl_pure (fun K hK => ?_)
            go_simp
            refine hK _ ?_
            clear hK K
            refine hl_pure (fun K hK => ?_)
            go_simp
            refine hK _ ?_
            clear hK K
            refine hl_quiet (fun K hK => ?_)
            go_simp
            refine hK _ ?_
            clear hK K
            refine hl_quiet (fun K hK => ?_)
            go_simp
            first
              | (refine hK _ ?_; clear hK K)
              | (apply Exists.intro; refine ⟨fun x => ?_, hK _ ?_⟩
                 · (exact C9 _)
                 clear hK K)
            refine hl_pure (fun K hK => ?_)
            go_simp
            refine hK _ ?_
            clear hK K
            refine hl_pure (fun K hK => ?_)
            go_simp
            refine hK _ ?_
            clear hK K
            refine hl_pure (fun K hK => ?_)
            go_simp
            refine hK _ ?_
            clear hK K
            refine hl_quiet (fun K hK => ?_)
            go_simp
            refine hK _ ?_
            clear hK K
            refine hl_pure (fun K hK => ?_)
            go_simp
            refine hK _ ?_
            clear hK K
            refine hl_pure (fun K hK => ?_)
            go_simp
            refine hK _ ?_
            clear hK K
            refine hl_pure (fun K hK => ?_)
            go_simp
            refine hK _ ?_
            clear hK K
            refine hl_nil ?_
            intro w9 hx9 K9 hK9
            have hxB := hxA.trans hx9
            go_wp2_with fail
            all_goals
              first | refine fin_ret rfl (fun K hK => ?_) | refine fin_norm rfl (fun K hK => ?_)
              simp [results, Try.results29, go_sem, rsat]
              try go_simp
              refine hK _ ?_
              clear hK K
              rw [← HL.out, hmv.out, HV.out]
              refine ⟨?_, A', ⟨fun k hk => ⟨?_, fun h => hgA' (h ▸ hk)⟩, c', hAt.ext hxB, hRow.ext hxB⟩, hC.extR hxB, hNew0⟩
              · congr 5
                omega
              · have h1 := hNew1 k hk; have h2 := hSum.lt; have h3 := hxB.size; omega
theorem rmean_c (g : Nat) (A : Option Addr) (span grid ref last : Int) (l : List Tr) (t : Int) (ht : I64 t) (hok : ∀ x ∈ l, x.Ok) (hsp : 1 ≤ span ∧ span ≤ 1099511627776) (hgr : 1 ≤ grid ∧ grid ≤ 1099511627776) (w : World) (hW : RWin w g A span grid ref last l) (hn : l.length ≤ 1000) :
    Calls Try.prog 29 #[.pointer (some ⟨g, 0, none⟩), .int .i64 t] w fun e w' =>
      (comesB last t = false ∧ e = .returned (.tuple #[.int .i64 0, .bool false]) ∧ Ext w w') ∨
      (comesB last t = true ∧ e = .returned (meanR grid (keepT (t - span) l)) ∧ ∃ A', RWin w' g A' span grid ref t (keepT (t - span) l) ∧ Chg w w' [g] ∧ ∀ k ∈ ablk A', w.heap.size ≤ k) := by
  cases hb : comesB last t
  · exact (rmean_no g A span grid ref last l t w hW hb).mono fun e w' h => .inl ⟨rfl, h⟩
  · exact (rmean_yes g A span grid ref last l t ht hok hsp hgr w hW hn hb).mono fun e w' h => .inr ⟨rfl, h⟩
end Go.Proofs.Ytgjaiikfgejgoaa
