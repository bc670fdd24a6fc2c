/- Feeds (layer 26): Collect, Bytes, Since by the document; two feeds side by side. Condition: less than 1000 messages. -/
import Derived.Test.YthophidcgkjdeaaD3
/- Feeds (layer 26): slices.Collect over Since, Bytes. Condition: at most 1000 messages. -/
namespace Go.Proofs.Ythophidcgkjdeaa
open Go.RowKit Go.Shelf
attribute [local go_sem] Oper.semAt_some Later.cell QUpon_value QUpon_enter MUpon_value run_eql_slice_nil Same.cell
attribute [local go_sem ↓ high] loadMsg_is storeMsg_is
attribute [local go_sem] run_loadMsg run_loadMsg_at run_storeMsg one_int one_bool one_slice one_ptr one_str setRow_new setRow_past cell_ca frozen_ca cellsAt_alloc_at cellsAt_alloc_past cellsAt_drew cellsAt_later cellsAt_setCell cellsAt_set_same cellsAt_setRow_same cellsAt_setRow_far subAt_alloc subAt_drew subAt_later subAt_setCell subAt_setRow ltn_2 ltn_3 ltn_4 ltn_5
/-- Between two rounds. -/
structure CoI (W : World) (b2 : Nat) (L pre : List Mg) (X : World) : Prop where
  chg : Chg W X [b2]
  ex : ∃ A c, At X b2 22 #[.slice A pre.length c] ∧ OwnM W X A c pre ∧ (c = 0 → A = none)
theorem coi_own {W : World} {b2 : Nat} {L : List Mg} : OwnFrom W.heap.size (fun pre X => CoI W b2 L pre X) := fun s X Y row h hg hr => by
  have hr2 : ∀ r, row = some r → ∃ o : Obj, X.heap[r]? = some o ∧ o.isCells = false := fun r e => (hr r e).2
  obtain ⟨A, c, e1, e2, e3⟩ := h.ex
  exact ⟨h.chg.turn hg (fun r e => (hr r e).1), ⟨A, c, e1.turn hg hr2, ⟨e2.row.turn hg hr2, fun k hk => ⟨(e2.new k hk).1, Nat.lt_of_lt_of_le (e2.new k hk).2 hg.size⟩⟩, e3⟩⟩
theorem CoI.ext {W : World} {b2 : Nat} {L pre : List Mg} {X Y : World} (h : CoI W b2 L pre X) (hx : Ext X Y) : CoI W b2 L pre Y := by
  obtain ⟨A, c, e1, e2, e3⟩ := h.ex
  exact ⟨h.chg.extR hx, A, c, e1.ext hx, e2.ext hx, e3⟩
/-- In a round: where the loop's variable lies. -/
structure CoV (W : World) (b2 gf : Nat) (lb : Array Value) (m : Mg) (a' : Act) (X : World) : Prop where
  ex : ∃ B, W.heap.size ≤ B ∧ At X B 34 #[.int .i64 m.kind, .int .i64 m.sym, .int .i64 m.seq, .int .i64 m.tick, .int .i64 m.id, .int .i64 m.wth, .int .i64 m.price, .int .i64 m.qty, .int .i64 m.code] ∧ a' = { tmps := #[.slice none 0 0, .func (.func gf) #[] lb, .pointer (some ⟨b2, 0, none⟩), undef, .slice none 0 0, .pointer (some ⟨B, 0, none⟩), .func (.func gf) #[] lb, .agg #[.int .i64 m.kind, .int .i64 m.sym, .int .i64 m.seq, .int .i64 m.tick, .int .i64 m.id, .int .i64 m.wth, .int .i64 m.price, .int .i64 m.qty, .int .i64 m.code], undef, undef, undef, undef, undef], defers := [] }
theorem cov_own {W : World} {b2 gf : Nat} {lb : Array Value} (m : Mg) (a' : Act) : OwnFrom W.heap.size (fun (_ : Unit) X => CoV W b2 gf lb m a' X) := fun _ X Y row h hg hr => by
  obtain ⟨B, h1, h2, h3⟩ := h.ex
  exact ⟨B, h1, h2.turn hg (fun r e => (hr r e).2), h3⟩
set_option maxHeartbeats 2000000 in
set_option maxRecDepth 100000 in
theorem appseq_c (gf : Nat) (lb : Array Value) (cb : Nat) (A : Option Addr) (L : List Mg) (hLn : L.length ≤ 1000) (w : World) (eg : ∀ args w, (callFunc gf args).run Try.prog w = .ok (.enter gf args) w)
    (hH : ∀ n W0, 1 ≤ n → Ext w W0 → HandsP Fence.wide n Try.prog gf lb encM (NextS L) (KpF cb A) (AllS L) (PreS L) W0) (hcb : cb < w.heap.size) (hA : ∀ k ∈ ablk A, k < w.heap.size) :
    Calls Try.prog 38 #[.slice none 0 0, .func (.func gf) #[] lb] w fun e w' => Ext w w' ∧ ∃ A' c', e = .returned (.slice A' L.length c') ∧ OwnM w w' A' c' L := by
  refine (callsIn_wide (n := 6)).1 ?_
  refine callsIn_of_wp_marks Try.func38 rfl trivial ?_ rfl
  simp only [Try.ntmps38, List.size_toArray, List.length_cons, List.length_nil, Nat.reduceAdd, Nat.reduceSub, Array.replicate_succ, Array.replicate_zero, List.push_toArray, List.append_toArray, List.nil_append, List.cons_append]
  gi_wp2_with fail
  obtain ⟨W, hW⟩ : ∃ W, W = w.alloc (.cells #[.slice none 0 0] 22) := ⟨_, rfl⟩
  have HW := Lib.hid hW
  have XW : Ext w W := by rw [hW]; exact (Ext.refl _).alloc _
  have hsW : W.heap.size = w.heap.size + 1 := by rw [hW]; simp
  have G2 : At W w.heap.size 22 #[.slice none 0 0] := by rw [hW]; exact At.new _ _ _
  rw [← hW]
  clear hW
  apply range_b (n := 6) (encs := encM) (V := NextS L) (Kp := KpF cb A) (S := AllS L) (Sp := PreS L) (W0 := W) (I := fun pre X => CoI W w.heap.size L pre X) (Ix := fun _ _ _ => False) (Ax := fun m a' X => CoV W w.heap.size gf lb m a' X)
  case hro => rfl
  case h1 => decide
  case hg => rfl
  case hF => trivial
  case eg => exact eg
  case hseq => exact hH 5 W (by decide) XW
  case hb0 => exact Below.refl _ _
  case hps => exact fun _ => rfl
  case hKt => exact fun h k => h.trans k
  case hKb => exact KpF.put (by omega) (fun k hk => Nat.lt_of_lt_of_le (hA k hk) XW.size)
  case hI => exact coi_own
  case hIx => exact fun _ _ _ _ _ h _ _ => h.elim
  case hAx => exact fun m a' => cov_own m a'
  case h0 => exact ⟨Chg.refl _ _, none, 0, G2, OwnM.nil _ _, fun _ => rfl⟩
  case hassign =>
    intro l pre m X K hI hV hK
    dsimp only [encM]
    gi_wp2
    have hxs := hI.chg.size
    exact hK _ _ (KeepsOthers.alloc _ _) (KpF.ext ((Ext.refl _).alloc _) (by omega) (fun k hk => by have := hA k hk; omega)) (hI.ext ((Ext.refl _).alloc _)) ⟨X.heap.size, hxs, At.new _ _ _, rfl⟩
  case hbody =>
    intro l pre m a' X hI hAx hV
    have hlen : pre.length < L.length + 1 := by have := (show pre ++ [m] <+: L from hV).length_le; simp at this; omega
    obtain ⟨B, hB, bM, rfl⟩ := hAx.ex
    obtain ⟨A3, c3, Q2, OM, hz⟩ := hI.ex
    have c2 : X.cell? ⟨w.heap.size, 0, none⟩ = some (.slice A3 pre.length c3) := Q2.cell 0
    have z2 := Q2.frozen 0
    have s2 := Q2.lt
    have eB := cellsAt_at bM
    have sB := bM.lt
    have sX := hI.chg.size
    have hnw : ∀ k ∈ ablk A3, W.heap.size ≤ k := fun k hk => (OM.new k hk).1
    have n2 : w.heap.size ∉ ablk A3 := fun h => by have := hnw _ h; omega
    have x5 : Ext X (X.alloc (.cells #[.int .i64 m.kind, .int .i64 m.sym, .int .i64 m.seq, .int .i64 m.tick, .int .i64 m.id, .int .i64 m.wth, .int .i64 m.price, .int .i64 m.qty, .int .i64 m.code] 34)) := (Ext.refl _).alloc _
    have hRC := OM.row.alloc (.cells #[.int .i64 m.kind, .int .i64 m.sym, .int .i64 m.seq, .int .i64 m.tick, .int .i64 m.id, .int .i64 m.wth, .int .i64 m.price, .int .i64 m.qty, .int .i64 m.code] 34)
    gi_wp2_with (gi_at_builtin; refine wpListIn_rowcat rfl _ _ 22 34 9 72 msgZ6 rfl Try.underlying22 msgInfo6 rfl (by decide) _ A3 pre.length c3 (pre.flatMap Mg.cells) rfl hRC _ 1 1 m.cells rfl (Src.at (At.new' _ _ _ _ (by simp)) rfl) rfl (by unfold maxLen; omega) (by omega) ?_)
    intro A5 c5 X6 R6 hC6 hf6
    have s56 := hC6.size
    simp only [World.size_alloc] at s56
    have T2 : At X6 w.heap.size 22 #[.slice A3 pre.length c3] := hC6.at (Q2.alloc _) n2
    have O5 : OwnM W X6 A5 c5 (pre ++ [m]) := (OM.ext x5).app hC6 R6 rfl rfl (by simp only [World.size_alloc]; exact hf6) (by simp; omega)
    have KO : KeepsOthers X X6 := (others_ext x5).trans (others_chg hC6 hRC (fun h0 => by have := hz h0; subst this; exact hC6.ext (by simp [ablk])))
    have KC : Chg W X6 [w.heap.size] := Chg.step (hI.chg.extR x5) hC6 (fun i hi => .inr (hnw i hi))
    have KX : Chg X X6 (ablk A3) := Chg.step (Chg.of_ext x5 (ablk A3)) hC6 (fun i hi => .inl hi)
    have KP := KpF.chg (cb := cb) (A := A) KX ⟨by omega, fun h => by have := hnw _ h; omega⟩ (fun k hk => ⟨by have := hA k hk; omega, fun h => by have := hnw _ h; have := hA k hk; omega⟩)
    have t2 : X6.cell? ⟨w.heap.size, 0, none⟩ = some (.slice A3 pre.length c3) := T2.cell 0
    have y2 := T2.frozen 0
    have u2 := T2.lt
    have HKO := Lib.hid KO
    have HKC := Lib.hid KC
    have HKP := Lib.hid KP
    have HO5 := Lib.hid O5
    have HRL := R6.le
    clear hC6 R6 hf6 hRC KO KC KP O5 KX c2 z2 s2 hnw n2 eB
    gi_wp2_with fail
    have hfa : w.heap.size ∉ ablk A5 := fun h => by have := (HO5.out.new _ h).1; omega
    refine ⟨HKO.out.trans (KeepsOthers.setCell _ _ _), HKP.out.trans (KpF.chg ((Chg.refl X6 [w.heap.size]).set (.inl (by simp)) _) ⟨by omega, by simp; omega⟩ (fun k hk => ⟨by have := hA k hk; omega, fun h => by have := hA k hk; simp at h; omega⟩)), ⟨HKC.out.set (.inl (by simp)) _, A5, c5, ?_, ⟨HO5.out.row.set hfa _, fun k hk => by have := HO5.out.new k hk; simpa using this⟩, fun h0 => by omega⟩⟩
    rw [List.length_append]
    exact T2.set 0 _
  case hdone =>
    intro D xs X hD hS hI hDd
    have hS' : xs = L := hS
    subst hS'
    obtain ⟨A3, c3, Q2, OM, _⟩ := hI.ex
    have c2 : X.cell? ⟨w.heap.size, 0, none⟩ = some (.slice A3 xs.length c3) := Q2.cell 0
    have XX : Ext w X := Chg.extOfJ hI.chg XW (by simp)
    gi_wp2_with fail
    refine ⟨by simp, .inl ⟨_, _, rfl, run_takeDeferred hDd, ?_⟩⟩
    refine ⟨.slice A3 xs.length c3, ?_, Ext.putObj XX (by omega) _, A3, c3, rfl, ⟨OM.row.putObj hDd rfl _, fun k hk => by have := OM.new k hk; rw [World.putObj_size]; omega⟩⟩
    simp [results, Try.results38, go_sem]
  case hstop => exact fun _ _ _ _ _ _ h _ => h.elim
theorem collect_c (gf : Nat) (lb : Array Value) (cb : Nat) (A : Option Addr) (L : List Mg) (hLn : L.length ≤ 1000) (w : World) (eg : ∀ args w, (callFunc gf args).run Try.prog w = .ok (.enter gf args) w)
    (hH : ∀ n W0, 1 ≤ n → Ext w W0 → HandsP Fence.wide n Try.prog gf lb encM (NextS L) (KpF cb A) (AllS L) (PreS L) W0) (hcb : cb < w.heap.size) (hA : ∀ k ∈ ablk A, k < w.heap.size) :
    Calls Try.prog 26 #[.func (.func gf) #[] lb] w fun e w' => Ext w w' ∧ ∃ A' c', e = .returned (.slice A' L.length c') ∧ OwnM w w' A' c' L := by
  have C1 := appseq_c gf lb cb A L hLn w eg hH hcb hA
  have HC1 := Lib.hid C1
  clear C1
  go_enter Try.func26, Try.ntmps26
  go_wp2_with fail
  refine HC1.out.mono ?_
  rintro e w1 ⟨hx1, A1, c1, rfl, O1⟩
  go_wp2_with fail
  first | refine fin_ret rfl (fun K hK => ?_) | refine fin_norm rfl (fun K hK => ?_)
  simp [results, Try.results26, go_sem, rsat]
  try go_simp
  refine hK _ ?_
  clear hK K
  exact ⟨hx1, A1, c1, rfl, O1⟩
theorem fbytes_c (g : Nat) (A : Option Addr) (l : List Mg) (seq : Int) (hq : I64 seq) (hn : l.length ≤ 60) (hok : ∀ m ∈ l, m.Ok) (w : World) (h : FdP w g A l) :
    Calls Try.prog 16 #[.pointer (some ⟨g, 0, none⟩), .int .i64 seq] w fun e w' => Ext w w' ∧ ∃ v, e = .returned v ∧ Own w w' v (strM (l.drop (sN seq l.length))).1 := by
  have C1 := since_c g A l seq hq (by omega) w h
  have halt := h.alt
  obtain ⟨L, hL⟩ : ∃ L, L = l.drop (sN seq l.length) := ⟨_, rfl⟩
  have hLn : L.length ≤ 60 := by rw [hL, List.length_drop]; omega
  have hLo : ∀ m ∈ L, m.Ok := fun m hm => hok m (List.mem_of_mem_drop (by rw [← hL]; exact hm))
  rw [← hL] at C1 ⊢
  have HC1 := Lib.hid C1
  clear C1 hL
  go_enter Try.func16, Try.ntmps16
  go_wp2_with fail
  refine HC1.out.mono ?_
  rintro e w1 ⟨hx1, gf, lb, cb, rfl, hcb, hcl, eg, hH⟩
  have HE := Lib.hid eg
  have HH := Lib.hid hH
  clear eg hH
  go_wp2_with fail
  refine (collect_c gf lb cb A L (by omega) w1 HE.out HH.out hcl (fun k hk => Nat.lt_of_lt_of_le (halt k hk).1 hx1.size)).mono ?_
  rintro e w2 ⟨hx2, A2, c2, rfl, O2⟩
  go_wp2_with fail
  refine (stream_c A2 c2 L hLn w2 O2.lies hLo).mono ?_
  rintro e w3 ⟨hx3, v, rfl, O3⟩
  obtain ⟨A3, c3, rfl, O3'⟩ := O3
  go_wp2_with fail
  first | refine fin_ret rfl (fun K hK => ?_) | refine fin_norm rfl (fun K hK => ?_)
  simp [results, Try.results16, go_sem, rsat]
  try go_simp
  refine hK _ ?_
  clear hK K
  exact ⟨(hx1.trans hx2).trans hx3, _, rfl, A3, c3, rfl, O3'.1, fun k hk => ⟨Nat.le_trans (hx1.trans hx2).size (O3'.2 k hk).1, (O3'.2 k hk).2⟩⟩
end Go.Proofs.Ythophidcgkjdeaa
/- Feeds by the document (layer 26): Since; many messages put on both. Condition: at most 1000 messages. -/
namespace Go.Proofs.Ythophidcgkjdeaa
open Go.RowKit
attribute [local go_sem] Later.cell QUpon_value QUpon_enter MUpon_value run_eql_slice_nil Same.cell
attribute [local go_sem ↓ high] loadMsg_is storeMsg_is
attribute [local go_sem] run_loadMsg run_loadMsg_at run_storeMsg one_int one_bool one_slice one_ptr one_str setRow_new setRow_past cell_ca frozen_ca cellsAt_alloc_at cellsAt_alloc_past cellsAt_drew cellsAt_later cellsAt_setCell cellsAt_set_same cellsAt_setRow_same cellsAt_setRow_far subAt_alloc subAt_drew subAt_later subAt_setCell subAt_setRow ltn_2 ltn_3 ltn_4 ltn_5
def flM (seq : Int) (l : List Mg) : List Mg := l.filter fun m => decide (seq < m.seq)
theorem flM_len (seq : Int) (l : List Mg) : (flM seq l).length ≤ l.length := List.length_filter_le _ _
theorem flM_step {seq : Int} {l : List Mg} {k : Nat} (hk : k < l.length) : flM seq (l.take (k + 1)) = if seq < l[k].seq then flM seq (l.take k) ++ [l[k]] else flM seq (l.take k) := by
  unfold flM
  rw [List.take_succ_eq_append_getElem hk, List.filter_append]
  by_cases h : seq < l[k].seq
  · rw [if_pos h, List.filter_cons_of_pos (by simpa using h), List.filter_nil]
  · rw [if_neg h, List.filter_cons_of_neg (by simpa using h), List.filter_nil, List.append_nil]
set_option maxHeartbeats 4000000 in
set_option maxRecDepth 100000 in
theorem rsince_c (g : Nat) (A : Option Addr) (l : List Mg) (seq : Int) (hn : l.length ≤ 1000) (w : World) (h : FdR w g A l) : Calls Try.prog 13 #[.pointer (some ⟨g, 0, none⟩), .int .i64 seq] w fun e w' => Ext w w' ∧ ∃ A' c', e = .returned (.slice A' (flM seq l).length c') ∧ OwnM w w' A' c' (flM seq l) := by
  obtain ⟨halt, c, hA, hR⟩ := h
  go_enter Try.func13, Try.ntmps13
  go_wp2_with fail
  go_loopw [5, 6] (fun s i wr => ∃ (k : Nat) (A' : Option Addr) (c' : Nat), i = .int .i64 k ∧ s = .slice A' (flM seq (l.take k)).length c' ∧ k ≤ l.length ∧ Ext w wr ∧ OwnM w wr A' c' (flM seq (l.take k))) (fun _ i _ => l.length - (intOf i).toNat)
  case atStart => exact ⟨0, none, 0, rfl, rfl, by omega, Ext.refl _, OwnM.nil _ _⟩
  case round =>
    obtain ⟨k, A', c', rfl, rfl, hk, hx, hO⟩ := hrel
    have At_ := hA.ext hx
    have Rr := hR.ext hx
    have c0 : wr.cell? ⟨g, 0, none⟩ = some (.slice A l.length c) := At_.cell 0
    have sgr := At_.lt
    by_cases hk1 : k < l.length
    · obtain ⟨b, off, hA', hbw, e9, e2⟩ := (⟨Rr.le, Rr.max, Rr.src⟩ : Lies Mg.cells 9 wr A c l).msg k hk1
      have hst := flM_step (seq := seq) hk1
      have hkl := flM_len seq (l.take k)
      rw [List.length_take] at hkl
      have hll : l.length ≤ 9223372036854775807 := by omega
      subst hA'
      by_cases hx1 : seq < l[k].seq
      · rw [if_pos hx1] at hst
        generalize l[k] = m at *
        have hd : decide (seq < m.seq) = true := decide_eq_true hx1
        go_wp2_with (at_builtin; refine wpList_rowcat rfl _ _ 22 34 9 72 msgZ rfl Try.underlying22 msgInfo rfl (by decide) _ A' _ c' ((flM seq (l.take k)).flatMap Mg.cells) rfl (hO.row.alloc _) _ 1 1 m.cells rfl (Src.at (At.new _ _ _) rfl) rfl (by unfold maxLen; omega) (by omega) ?_)
        intro A4 c4 w4 R4 C4 f4
        have O4 : OwnM w w4 A4 c4 (flM seq (l.take k) ++ [m]) := (hO.ext ((Ext.refl _).alloc (.cells #[.int .i64 m.kind, .int .i64 m.sym, .int .i64 m.seq, .int .i64 m.tick, .int .i64 m.id, .int .i64 m.wth, .int .i64 m.price, .int .i64 m.qty, .int .i64 m.code] 34))).app C4 R4 rfl rfl (by simp only [World.size_alloc]; exact f4) (by have := hx.size; simp; omega)
        have x4 : Ext w w4 := Chg.extOfV C4 (hx.alloc _) (fun i hi => (hO.new i hi).1)
        rw [← hst] at O4
        have hl1 : (flM seq (l.take k)).length + 1 = (flM seq (l.take (k + 1))).length := by rw [hst, List.length_append]; rfl
        rw [hl1]
        go_wp2_with fail
        go_roundw
        case rel => exact ⟨k + 1, A4, c4, by go_num, rfl, by omega, x4, O4⟩
        case measure => simp [intOf]; omega
      · rw [if_neg hx1] at hst
        generalize l[k] = m at *
        have hd : decide (seq < m.seq) = false := decide_eq_false hx1
        go_wp2_with fail
        go_roundw
        case rel => exact ⟨k + 1, A', c', by go_num, by rw [hst], by omega, hx, by rw [hst]; exact hO⟩
        case measure => simp [intOf]; omega
    · obtain rfl : k = l.length := by omega
      rw [List.take_length] at hO ⊢
      go_wp2_with fail
      first | refine fin_ret rfl (fun K hK => ?_) | refine fin_norm rfl (fun K hK => ?_)
      simp [results, Try.results13, go_sem, rsat]
      try go_simp
      refine hK _ ?_
      clear hK K
      exact ⟨hx, A', c', rfl, hO⟩
/-! ### many messages (plain) -/
def putStep (tick : Int) (acc : List Mg) (m : Mg) : List Mg := if rightB (putM tick acc.length m) then acc ++ [putM tick acc.length m] else acc
def putAll (tick : Int) (l : List Mg) : List Mg := l.foldl (putStep tick) []
theorem putAll_take {tick : Int} {l : List Mg} {k : Nat} (hk : k < l.length) : putAll tick (l.take (k + 1)) = putStep tick (putAll tick (l.take k)) l[k] := by
  unfold putAll
  rw [List.take_succ_eq_append_getElem hk, List.foldl_append]
  rfl
/-- What a feed holds: numbered, right. -/
structure Num (tick : Int) (l : List Mg) : Prop where
  seq : ∀ i (hi : i < l.length), l[i].seq = (i : Int) + 1
  tick : ∀ m ∈ l, m.tick = tick
  right : l.all rightB = true
  ok : ∀ m ∈ l, m.Ok
theorem Num.step {tick : Int} {acc : List Mg} {m : Mg} (h : Num tick acc) (ht : I64 tick) (hm : m.Ok) (hn : acc.length < 1000) : Num tick (putStep tick acc m) ∧ (putStep tick acc m).length ≤ acc.length + 1 := by
  unfold putStep
  by_cases hr : rightB (putM tick acc.length m) = true
  · rw [if_pos hr]
    refine ⟨⟨fun i hi => ?_, fun x hx => ?_, ?_, fun x hx => ?_⟩, by simp⟩
    · rcases Nat.lt_or_ge i acc.length with h1 | h1
      · rw [List.getElem_append_left h1]; exact h.seq i h1
      · have : i = acc.length := by simp at hi; omega
        subst this
        simp [putM]
    · rcases List.mem_append.1 hx with h1 | h1
      · exact h.tick x h1
      · rw [List.mem_singleton.1 h1]; rfl
    · rw [List.all_append, h.right]; simp [hr]
    · rcases List.mem_append.1 hx with h1 | h1
      · exact h.ok x h1
      · rw [List.mem_singleton.1 h1]; exact putM_ok ht hn hm
  · rw [if_neg hr]
    exact ⟨h, by omega⟩
theorem Num.nil (tick : Int) : Num tick [] := ⟨by simp, by simp, rfl, by simp⟩
theorem num_fl {tick seq : Int} {l : List Mg} (h : Num tick l) : flM seq l = l.drop (sN seq l.length) := by
  have key : ∀ (l : List Mg) (b : Nat), (∀ i (hi : i < l.length), l[i].seq = ((b + i : Nat) : Int) + 1) → flM seq l = l.drop (seq.toNat - b) := by
    intro l
    induction l with
    | nil => intro b _; simp [flM]
    | cons x l ih =>
      intro b hs
      have h0 := hs 0 (by simp)
      simp only [List.getElem_cons_zero, Nat.add_zero] at h0
      have ih' := ih (b + 1) (fun i hi => by
        have := hs (i + 1) (by simp; omega)
        simp only [List.getElem_cons_succ] at this
        rw [this]; congr 1; omega)
      unfold flM at ih' ⊢
      by_cases hx : seq < x.seq
      · rw [List.filter_cons_of_pos (by simpa using hx), ih', show seq.toNat - (b + 1) = 0 by omega, show seq.toNat - b = 0 by omega]
        rfl
      · rw [List.filter_cons_of_neg (by simpa using hx), ih', show seq.toNat - b = (seq.toNat - (b + 1)) + 1 by omega]
        rfl
  rw [key l 0 (fun i hi => by rw [h.seq i hi]; simp), Nat.sub_zero]
  unfold sN
  rcases Nat.le_total seq.toNat l.length with h1 | h1
  · rw [Nat.min_eq_left h1]
  · rw [Nat.min_eq_right h1, List.drop_eq_nil_of_le h1, List.drop_length]
end Go.Proofs.Ythophidcgkjdeaa
/- Feeds (layer 26): two feeds side by side, many messages put on both. Condition: less than 1000 messages. -/
namespace Go.Proofs.Ythophidcgkjdeaa
open Go.RowKit
attribute [local go_sem] Later.cell QUpon_value QUpon_enter MUpon_value run_eql_slice_nil Same.cell
attribute [local go_sem ↓ high] loadMsg_is storeMsg_is
attribute [local go_sem] run_loadMsg run_loadMsg_at run_storeMsg one_int one_bool one_slice one_ptr one_str setRow_new setRow_past cell_ca frozen_ca cellsAt_alloc_at cellsAt_alloc_past cellsAt_drew cellsAt_later cellsAt_setCell cellsAt_set_same cellsAt_setRow_same cellsAt_setRow_far subAt_alloc subAt_drew subAt_later subAt_setCell subAt_setRow ltn_2 ltn_3 ltn_4 ltn_5
/-- The program's feed and the document's, side by side. -/
structure Fds (w0 w : World) (ga gb : Nat) (Aa Ab : Option Addr) (la lb : List Mg) : Prop where
  ext : Ext w0 w
  a : FdP w ga Aa la
  b : FdR w gb Ab lb
  ga_ : w0.heap.size ≤ ga
  gb_ : w0.heap.size ≤ gb
  ne : ga ≠ gb
  fa : ∀ j ∈ ablk Aa, w0.heap.size ≤ j ∧ j ≠ gb ∧ j ∉ ablk Ab
  fb : ∀ j ∈ ablk Ab, w0.heap.size ≤ j ∧ j ≠ ga
section
variable {w0 w w' : World} {ga gb : Nat} {Aa Ab : Option Addr} {la lb : List Mg}
theorem Fds.extR (h : Fds w0 w ga gb Aa Ab la lb) (hx : Ext w w') : Fds w0 w' ga gb Aa Ab la lb := ⟨h.ext.trans hx, h.a.ext hx, h.b.ext hx, h.ga_, h.gb_, h.ne, h.fa, h.fb⟩
theorem Fds.stepa (h : Fds w0 w ga gb Aa Ab la lb) {A' : Option Addr} {la' : List Mg} (hW : FdP w' ga A' la') (hC : Chg w w' (ga :: ablk Aa)) (hf : ∀ k ∈ ablk A', k ∈ ablk Aa ∨ w.heap.size ≤ k) : Fds w0 w' ga gb A' Ab la' lb := by
  have gbl : gb < w.heap.size := h.b.ex.choose_spec.1.lt
  refine ⟨hC.extOfV h.ext (fun i hi => by rcases List.mem_cons.1 hi with rfl | h1; exact h.ga_; exact (h.fa i h1).1), hW, h.b.chg hC (fun hm => ?_) (fun k hk hm => ?_), h.ga_, h.gb_, h.ne, fun j hj => ?_, h.fb⟩
  · rcases List.mem_cons.1 hm with h1 | h1
    · exact h.ne h1.symm
    · exact (h.fa _ h1).2.1 rfl
  · rcases List.mem_cons.1 hm with h1 | h1
    · exact (h.fb k hk).2 h1
    · exact (h.fa k h1).2.2 hk
  · rcases hf j hj with h1 | h1
    · exact h.fa j h1
    · exact ⟨Nat.le_trans h.ext.size h1, by omega, fun h2 => by have := (h.b.alt j h2).1; omega⟩
theorem Fds.stepb (h : Fds w0 w ga gb Aa Ab la lb) {B' : Option Addr} {lb' : List Mg} (hW : FdR w' gb B' lb') (hC : Chg w w' [gb]) (hf : ∀ k ∈ ablk B', w.heap.size ≤ k) : Fds w0 w' ga gb Aa B' la lb' := by
  have gal : ga < w.heap.size := h.a.ex.choose_spec.1.lt
  refine ⟨hC.extOfV h.ext (fun i hi => by rw [List.mem_singleton.1 hi]; exact h.gb_), h.a.chg hC (fun hm => h.ne (List.mem_singleton.1 hm)) (fun k hk hm => (h.fa k hk).2.1 (List.mem_singleton.1 hm)), hW, h.ga_, h.gb_, h.ne, fun j hj => ⟨(h.fa j hj).1, (h.fa j hj).2.1, fun h2 => ?_⟩, fun j hj => ⟨Nat.le_trans h.ext.size (hf j hj), by have := hf j hj; omega⟩⟩
  have := hf j h2
  have := (h.a.alt j hj).1
  omega
end
/-- What is put: the same, whether it is taken or not. -/
def FPut (w : World) (g : Nat) (A : Option Addr) (acc acc' : List Mg) (e : Ending) (w' : World) : Prop :=
  (∃ v f, e = .returned (.tuple #[.agg v, .int .i64 f]) ∧ v.size = 9 ∧ v.toList.all (·.oneCell') = true ∧ (f = 0 ↔ acc'.length = acc.length + 1)) ∧ ∃ A', FdP w' g A' acc' ∧ Chg w w' (g :: ablk A) ∧ ∀ k ∈ ablk A', k ∈ ablk A ∨ w.heap.size ≤ k
theorem feput_c (g : Nat) (A : Option Addr) (l : List Mg) (tick : Int) (m : Mg) (hn : l.length < 1000) (w : World) (hF : FdP w g A l) :
    Calls Try.prog 11 #[.pointer (some ⟨g, 0, none⟩), .int .i64 tick, .agg #[.int .i64 m.kind, .int .i64 m.sym, .int .i64 m.seq, .int .i64 m.tick, .int .i64 m.id, .int .i64 m.wth, .int .i64 m.price, .int .i64 m.qty, .int .i64 m.code]] w fun e w' => FPut w g A l (putStep tick l m) e w' := by
  unfold FPut putStep
  cases hb : rightB (putM tick l.length m)
  · rw [if_neg (by simp)]
    refine (fput_no g A l tick m hn w hF hb).mono ?_
    rintro e w' ⟨rfl, hx⟩
    exact ⟨⟨_, 1, rfl, rfl, rfl, by constructor <;> intro h <;> omega⟩, A, hF.ext hx, Chg.of_ext hx _, fun k hk => .inl hk⟩
  · rw [if_pos rfl]
    refine (fput_yes g A l tick m hn w hF hb).mono ?_
    rintro e w' ⟨⟨v, rfl, h1, h2⟩, A', h3, h4, h5⟩
    exact ⟨⟨v, 0, rfl, h1, h2, by simp⟩, A', h3, h4, h5⟩
def RFPut (w : World) (g : Nat) (A : Option Addr) (acc acc' : List Mg) (e : Ending) (w' : World) : Prop :=
  (∃ v, e = .returned v) ∧ (∃ A', FdR w' g A' acc' ∧ Chg w w' [g] ∧ ((acc' = acc ∧ A' = A ∧ Ext w w') ∨ ∀ k ∈ ablk A', w.heap.size ≤ k))
theorem refput_c (g : Nat) (A : Option Addr) (l : List Mg) (tick : Int) (m : Mg) (hn : l.length < 1000) (w : World) (hF : FdR w g A l) :
    Calls Try.prog 12 #[.pointer (some ⟨g, 0, none⟩), .int .i64 tick, .agg #[.int .i64 m.kind, .int .i64 m.sym, .int .i64 m.seq, .int .i64 m.tick, .int .i64 m.id, .int .i64 m.wth, .int .i64 m.price, .int .i64 m.qty, .int .i64 m.code]] w fun e w' => RFPut w g A l (putStep tick l m) e w' := by
  unfold RFPut putStep
  cases hb : rightB (putM tick l.length m)
  · rw [if_neg (by simp)]
    refine (rfput_no g A l tick m hn w hF hb).mono ?_
    rintro e w' ⟨rfl, hx⟩
    exact ⟨⟨_, rfl⟩, A, hF.ext hx, Chg.of_ext hx _, .inl ⟨rfl, rfl, hx⟩⟩
  · rw [if_pos rfl]
    refine (rfput_yes g A l tick m hn w hF hb).mono ?_
    rintro e w' ⟨⟨v, rfl, h1, h2⟩, A', h3, h4, h5⟩
    exact ⟨⟨_, rfl⟩, A', h3, h4, .inr h5⟩
theorem fnew_c (w : World) : Calls Try.prog 10 #[] w fun e w' => e = .returned (.pointer (some ⟨w.heap.size, 0, none⟩)) ∧ w' = w.alloc (.cells #[.slice none 0 0] 53) := by
  go_enter Try.func10, Try.ntmps10
  go_wp2_with fail
  first | refine fin_ret rfl (fun K hK => ?_) | refine fin_norm rfl (fun K hK => ?_)
  simp [results, Try.results10, go_sem, rsat]
  try go_simp
  refine hK _ ?_
  clear hK K
  exact ⟨rfl, rfl⟩
end Go.Proofs.Ythophidcgkjdeaa
