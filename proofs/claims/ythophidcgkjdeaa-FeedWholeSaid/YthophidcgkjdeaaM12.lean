/- Messages (layer 6): All. Condition: at most 10^6 bytes. -/
import Derived.Test.YthophidcgkjdeaaMA
import Derived.Test.YthophidcgkjdeaaJ7
namespace Go.Proofs.Ythophidcgkjdeaa
open Go.RowKit Go.Shelf
attribute [local go_sem] Oper.semAt_some Later.cell QUpon_value QUpon_enter MUpon_value run_eql_slice_nil Same.cell
attribute [local go_sem ↓ high] loadMsg_is storeMsg_is
attribute [local go_sem] run_loadMsg run_loadMsg_at run_storeMsg one_int one_bool one_slice one_ptr one_str setRow_new setRow_past cell_ca frozen_ca cellsAt_alloc_at cellsAt_alloc_past cellsAt_drew cellsAt_later cellsAt_setCell cellsAt_set_same cellsAt_setRow_same cellsAt_setRow_far subAt_alloc subAt_drew subAt_later subAt_setCell subAt_setRow ltn_2 ltn_3 ltn_4 ltn_5
/-! ### where the frames end (plain) -/
theorem takeN_is {bs : List Int} (h : takeF bs = 0) : (takeN bs).toNat = 2 + (takeL bs).length := by
  unfold takeF at h
  unfold takeN takeL
  split at h
  · cases h
  split at h
  · cases h
  split at h
  · cases h
  · rename_i h1 h2 h3
    rw [if_neg h1, if_neg h2, if_neg h3, if_neg h1, if_neg h2, if_neg h3, List.length_take, List.length_drop]
    omega
theorem cut_end : ∀ (n : Nat) (bs : List Int), bs.length < n → (cut bs).2.2 = takeF (cut bs).2.1 ∧ (cut bs).2.1 = bs.drop (bs.length - (cut bs).2.1.length) ∧ (cut bs).2.1.length ≤ bs.length
  | 0, _, h => absurd h (Nat.not_lt_zero _)
  | n + 1, bs, h => by
    by_cases hf : takeF bs = 0
    · obtain ⟨h1, h2, _⟩ := takeN_pos hf
      obtain ⟨a, b, c⟩ := cut_end n (bs.drop (takeN bs).toNat) (by rw [List.length_drop]; omega)
      rw [cut_yes hf]
      simp only
      rw [List.length_drop] at b c
      refine ⟨a, ?_, by omega⟩
      rw [List.drop_drop] at b
      rw [← show (takeN bs).toNat + (bs.length - (takeN bs).toNat - (cut (bs.drop (takeN bs).toNat)).2.1.length) = bs.length - (cut (bs.drop (takeN bs).toNat)).2.1.length by omega]
      exact b
    · rw [cut_no hf]
      simp
def endO : Int → List (Int × Bs) → Int
  | e, [] => e
  | _, x :: r => endO (x.1 + 2 + x.2.xs.length) r
theorem endO_snoc : ∀ (l : List (Int × Bs)) (e : Int) (x : Int × Bs), endO e (l ++ [x]) = x.1 + 2 + x.2.xs.length
  | [], _, _ => rfl
  | y :: l, _, x => endO_snoc l _ x
theorem end_of : ∀ (xs : List (Int × Bs)) (i : Nat) (bs : List Int), plD i bs = xs.map Prod.fst → (cut bs).1 = xs.map (fun x => x.2.xs) → endO i xs = (i : Int) + bs.length - (cut bs).2.1.length
  | [], i, bs, _, h => by
    by_cases hf : takeF bs = 0
    · rw [cut_yes hf] at h; cases h
    · rw [cut_no hf]
      show (i : Int) = (i : Int) + (bs.length : Nat) - (bs.length : Nat)
      omega
  | x :: xs, i, bs, hp, h => by
    by_cases hf : takeF bs = 0
    · obtain ⟨h1, h2, _⟩ := takeN_pos hf
      have h3 := takeN_is hf
      rw [plD_yes i hf, List.map_cons] at hp
      injection hp with p1 p2
      rw [cut_yes hf] at h
      simp only [List.map_cons] at h
      injection h with q1 q2
      have ih := end_of xs (i + (takeN bs).toNat) (bs.drop (takeN bs).toNat) p2 q2
      rw [cut_yes hf]
      show endO (x.1 + 2 + x.2.xs.length) xs = _
      rw [← p1, ← q1, show ((i : Int) + 2 + ((takeL bs).length : Nat)) = ((i + (takeN bs).toNat : Nat) : Int) by omega, ih, List.length_drop]
      simp only
      omega
    · rw [plD_no i hf] at hp
      cases hp
theorem endO_in : ∀ (l : List (Int × Bs)) (e : Int), (∀ x ∈ l, 0 ≤ x.1 ∧ x.1 ≤ 1000000 ∧ x.2.xs.length ≤ 64) → (0 ≤ e ∧ e ≤ 2000000) → 0 ≤ endO e l ∧ endO e l ≤ 2000000
  | [], _, _, h => h
  | x :: l, e, h, _ => endO_in l _ (fun y hy => h y (by simp [hy])) (by have := h x (by simp); omega)
/-- Between two rounds. -/
structure MAI (W : World) (b2 b3 b4 : Nat) (pre : List (Int × Bs)) (X : World) : Prop where
  chg : Chg W X [b2, b4]
  fl : At X b3 35 #[.int .i64 0]
  en : At X b4 3 #[.int .i64 (endO 0 pre)]
  ex : ∃ A c ms, At X b2 22 #[.slice A ms.length c] ∧ OwnM W X A c ms ∧ decL (pre.map (fun x => x.2.xs)) = (ms, 0) ∧ (c = 0 → A = none) ∧ ms.length = pre.length
  nn : ∀ x ∈ pre, 0 ≤ x.1 ∧ x.1 ≤ 1000000 ∧ x.2.xs.length ≤ 64
/-- Left. -/
structure MAX (W : World) (b2 b3 b4 : Nat) (cd : Code) (pre : List (Int × Bs)) (X : World) : Prop where
  cd : cd = .ret
  chg : Chg W X [b2, b3, b4]
  out : At X b2 22 #[.slice none 0 0]
  ex : ∃ q x ms m f, pre = q ++ [x] ∧ decL (q.map (fun x => x.2.xs)) = (ms, 0) ∧ decB x.2.xs = (m, f) ∧ f ≠ 0 ∧ At X b3 35 #[.int .i64 f]
theorem mai_own {W : World} {b2 b3 b4 : Nat} : OwnFrom W.heap.size (fun pre X => MAI W b2 b3 b4 pre X) := fun s X Y row h hg hr => by
  have hr2 : ∀ r, row = some r → ∃ o : Obj, X.heap[r]? = some o ∧ o.isCells = false := fun r e => (hr r e).2
  obtain ⟨A, c, ms, e1, e2, e3⟩ := h.ex
  exact ⟨h.chg.turn hg (fun r e => (hr r e).1), h.fl.turn hg hr2, h.en.turn hg hr2, ⟨A, c, ms, e1.turn hg hr2, ⟨e2.row.turn hg hr2, fun k hk => ⟨(e2.new k hk).1, Nat.lt_of_lt_of_le (e2.new k hk).2 hg.size⟩⟩, e3⟩, h.nn⟩
theorem max_own {W : World} {b2 b3 b4 : Nat} (cd : Code) : OwnFrom W.heap.size (fun pre X => MAX W b2 b3 b4 cd pre X) := fun s X Y row h hg hr => by
  have hr2 : ∀ r, row = some r → ∃ o : Obj, X.heap[r]? = some o ∧ o.isCells = false := fun r e => (hr r e).2
  obtain ⟨q, x, ms, m, f, e1, e2, e3, e4, e5⟩ := h.ex
  exact ⟨h.cd, h.chg.turn hg (fun r e => (hr r e).1), h.out.turn hg hr2, ⟨q, x, ms, m, f, e1, e2, e3, e4, e5.turn hg hr2⟩⟩
set_option maxHeartbeats 2000000 in
set_option maxRecDepth 100000 in
theorem mall_c (A : Option Addr) (c : Nat) (bs : List Int) (hby : Byt bs) (hl : bs.length ≤ 1000000) (hle : bs.length ≤ c) (hmax : c ≤ maxLen) (w : World) (hS : Src w 1 A bs.length (bc bs)) (hA1 : 0 < bs.length → ∀ k ∈ ablk A, k < w.heap.size) :
    Calls Try.prog 18 #[.slice A bs.length c] w fun e w' => AllM6 bs w e w' := by
  have hm2 := hmax
  unfold maxLen at hm2
  obtain ⟨A1, hAA⟩ : ∃ A1, A1 = if 0 < bs.length then A else none := ⟨_, rfl⟩
  have hAe : 0 < bs.length → A1 = A := fun h0 => by rw [hAA, if_pos h0]
  have hA2 : ∀ k ∈ ablk A1, k < w.heap.size := fun k hk => by
    by_cases h0 : 0 < bs.length
    · exact hA1 h0 k (hAe h0 ▸ hk)
    · rw [hAA, if_neg h0] at hk; simp [ablk] at hk
  clear hAA
  obtain ⟨P, hP⟩ : ∃ P : Ending → World → Prop, P = fun e w' => AllM6 bs w e w' := ⟨_, rfl⟩
  rw [← hP]
  have HP := Lib.hid hP
  clear hP
  refine (callsIn_wide (n := 6)).1 ?_
  refine callsIn_of_wp_marks Try.func18 rfl trivial ?_ rfl
  simp only [Try.ntmps18, List.size_toArray, List.length_cons, List.length_nil, Nat.reduceAdd, Nat.reduceSub, Array.replicate_succ, Array.replicate_zero, List.push_toArray, List.append_toArray, List.nil_append, List.cons_append]
  gi_wp2_with fail
  refine ⟨trivial, ?_⟩
  gi_at_call 29
  refine (callsIn_wide.2 (each_c A bs.length c _)).mono ?_
  rintro e W ⟨rfl, hW⟩
  have HW := Lib.hid hW
  have XW : Ext w W := by rw [HW.out]; exact (by repeat (first | (with_reducible exact Ext.refl _) | (with_reducible assumption) | (with_reducible refine Ext.alloc ?_ _) | (with_reducible refine Ext.drew ?_) | (with_reducible refine Ext.drewN ?_ _) | (with_reducible refine Ext.setCell ?_ (by simp; try omega) _) | (with_reducible refine Ext.setRow ?_ (by simp; try omega) _)))
  have hsW : W.heap.size = w.heap.size + 1 + 1 + 1 + 1 := by rw [HW.out]; simp
  have G2 : At W w.heap.size 22 #[.slice none 0 0] := by rw [HW.out]; exact (by repeat (first | (with_reducible exact At.new _ _ _) | ((with_reducible refine At.new' _ _ _ _ ?_); simp; done) | (with_reducible assumption) | (with_reducible refine At.drew ?_) | (with_reducible refine At.alloc ?_ _) | (with_reducible apply At.upd) | (with_reducible apply At.setRow) | (with_reducible refine At.rowFar ?_ (by first | (simp; done) | (simp; omega) | omega) _) | ((with_reducible refine At.far ?_ (by first | (simp; done) | (simp; omega) | omega) _)) | (with_reducible rfl) | (simp; done)))
  have G3 : At W (w.heap.size + 1) 35 #[.int .i64 0] := by rw [HW.out]; exact (by repeat (first | (with_reducible exact At.new _ _ _) | ((with_reducible refine At.new' _ _ _ _ ?_); simp; done) | (with_reducible assumption) | (with_reducible refine At.drew ?_) | (with_reducible refine At.alloc ?_ _) | (with_reducible apply At.upd) | (with_reducible apply At.setRow) | (with_reducible refine At.rowFar ?_ (by first | (simp; done) | (simp; omega) | omega) _) | ((with_reducible refine At.far ?_ (by first | (simp; done) | (simp; omega) | omega) _)) | (with_reducible rfl) | (simp; done)))
  have G4 : At W (w.heap.size + 1 + 1) 3 #[.int .i64 0] := by rw [HW.out]; exact (by repeat (first | (with_reducible exact At.new _ _ _) | ((with_reducible refine At.new' _ _ _ _ ?_); simp; done) | (with_reducible assumption) | (with_reducible refine At.drew ?_) | (with_reducible refine At.alloc ?_ _) | (with_reducible apply At.upd) | (with_reducible apply At.setRow) | (with_reducible refine At.rowFar ?_ (by first | (simp; done) | (simp; omega) | omega) _) | ((with_reducible refine At.far ?_ (by first | (simp; done) | (simp; omega) | omega) _)) | (with_reducible rfl) | (simp; done)))
  have GB : At W (w.heap.size + 1 + 1 + 1) 39 #[.slice A bs.length c] := by rw [HW.out]; exact (by repeat (first | (with_reducible exact At.new _ _ _) | ((with_reducible refine At.new' _ _ _ _ ?_); simp; done) | (with_reducible assumption) | (with_reducible refine At.drew ?_) | (with_reducible refine At.alloc ?_ _) | (with_reducible apply At.upd) | (with_reducible apply At.setRow) | (with_reducible refine At.rowFar ?_ (by first | (simp; done) | (simp; omega) | omega) _) | ((with_reducible refine At.far ?_ (by first | (simp; done) | (simp; omega) | omega) _)) | (with_reducible rfl) | (simp; done)))
  clear hW
  simp only [World.size_alloc]
  gi_wp2_with fail
  apply range_v (n := 6) (encs := encE) (V := VF) (Kp := KpF (w.heap.size + 1 + 1 + 1) A1) (S := AllF bs) (Sp := PreF bs) (N := bs.length + 1) (W0 := W) (I := fun pre X => MAI W w.heap.size (w.heap.size + 1) (w.heap.size + 1 + 1) pre X) (Ix := fun cd pre X => MAX W w.heap.size (w.heap.size + 1) (w.heap.size + 1 + 1) cd pre X)
  case hro => rfl
  case h1 => decide
  case hg => rfl
  case hF => trivial
  case eg => exact enters_of Try.func40 (by kernel_rfl) rfl
  case hseq => exact each_hands _ A A1 c bs hby hl hle hmax 5 (by decide) W (GB.cell 0) (hS.ext XW) hAe (fun k hk => Nat.lt_of_lt_of_le (hA2 k hk) XW.size)
  case hb0 => exact Below.refl _ _
  case hps => exact fun _ => rfl
  case hV => exact fun x => vf_own _ x
  case hKt => exact fun h k => h.trans k
  case hKb => exact KpF.put (by omega) (fun k hk => Nat.lt_of_lt_of_le (hA2 k hk) XW.size)
  case hI => exact mai_own
  case hIx => exact fun c => max_own c
  case h0 => exact ⟨Chg.refl _ _, G3, G4, ⟨none, 0, [], G2, OwnM.nil _ _, rfl, fun _ => rfl, rfl⟩, by simp⟩
  case hassign =>
    intro l x X K hK
    dsimp only [encE]
    gi_wp2
    exact hK
  case hbody =>
    intro l pre x X hI hV hlen
    obtain ⟨px, ⟨xA, xc, xx⟩⟩ := x
    obtain ⟨⟨xle, xmax, xS, xby⟩, xin, xfew, xnn, xle2⟩ := hV
    simp only at xle xmax xS xby xin xfew xnn xle2
    obtain ⟨A3, c3, ms, Q2, OM, hdl, hz, hml⟩ := hI.ex
    obtain ⟨m, f, hmf⟩ : ∃ m f, decB xx = (m, f) := ⟨_, _, rfl⟩
    have C1 := mdec_c xA xc xx xby (by omega) X xS
    have HC1 := Lib.hid C1
    have HMF := Lib.hid hmf
    clear hmf C1
    gi_wp2_with fail
    refine ⟨trivial, ?_⟩
    gi_at_call 30
    refine (CallsIn.inRound l (callsIn_wide.2 HC1.out)).mono ?_
    rintro e X4 ⟨hx4, m', f', rfl, hmf'⟩
    rw [HMF.out] at hmf'
    injection hmf' with h1 h2
    subst h1 h2
    have Q2' := Q2.ext hx4
    have Q3' := hI.fl.ext hx4
    have Q4' := hI.en.ext hx4
    have c2 : X4.cell? ⟨w.heap.size, 0, none⟩ = some (.slice A3 ms.length c3) := Q2'.cell 0
    have z2 := Q2'.frozen 0
    have s2 := Q2'.lt
    have sX := hI.chg.size
    have s4 := hx4.size
    have hnn := hI.nn
    have hnw : ∀ k ∈ ablk A3, W.heap.size ≤ k := fun k hk => (OM.new k hk).1
    by_cases hf : f = 0
    · subst hf
      have hsn := decL_snoc _ _ _ _ hdl HMF.out
      have hw1 : wrap64 (px + 2) = px + 2 := wrap64_in ⟨by omega, by omega⟩
      have hw2 : wrap64 (px + 2 + (xx.length : Nat)) = px + 2 + (xx.length : Nat) := wrap64_in ⟨by omega, by omega⟩
      have x5 : Ext X (X4.alloc (.cells #[.int .i64 m.kind, .int .i64 m.sym, .int .i64 m.seq, .int .i64 m.tick, .int .i64 m.id, .int .i64 m.wth, .int .i64 m.price, .int .i64 m.qty, .int .i64 m.code] 34)) := hx4.alloc _
      have hRC := ((OM.row.ext x5).alloc (.cells #[.int .i64 m.kind, .int .i64 m.sym, .int .i64 m.seq, .int .i64 m.tick, .int .i64 m.id, .int .i64 m.wth, .int .i64 m.price, .int .i64 m.qty, .int .i64 m.code] 34))
      have hmb : ms.length ≤ 1000000 := by omega
      have HSN := Lib.hid hsn
      have HDL := Lib.hid hdl
      have HML := Lib.hid hml
      clear hsn hdl hml
      gi_wp2_with (gi_at_builtin; refine wpListIn_rowcat rfl _ _ 22 34 9 72 msgZ6 rfl Try.underlying22 msgInfo6 rfl (by decide) _ A3 ms.length c3 (ms.flatMap Mg.cells) rfl hRC _ 1 1 m.cells rfl (Src.at (At.new' _ _ _ _ (by simp)) rfl) rfl (by unfold maxLen; omega) (by omega) ?_)
      intro A5 c5 X6 R6 hC6 hf6
      have s56 := hC6.size
      simp only [World.size_alloc] at s56
      have n2 : w.heap.size ∉ ablk A3 := fun h => by have := hnw _ h; omega
      have n4 : w.heap.size + 1 + 1 ∉ ablk A3 := fun h => by have := hnw _ h; omega
      have T2 : At X6 w.heap.size 22 #[.slice A3 ms.length c3] := hC6.at ((Q2'.alloc _).alloc _) n2
      have T4 : At X6 (w.heap.size + 1 + 1) 3 #[.int .i64 (endO 0 pre)] := hC6.at ((Q4'.alloc _).alloc _) n4
      have T3 : At X6 (w.heap.size + 1) 35 #[.int .i64 0] := hC6.at ((Q3'.alloc _).alloc _) (fun h => by have := hnw _ h; omega)
      have O5 : OwnM W X6 A5 c5 (ms ++ [m]) := ((OM.ext x5).ext ((Ext.refl _).alloc (.cells #[.int .i64 m.kind, .int .i64 m.sym, .int .i64 m.seq, .int .i64 m.tick, .int .i64 m.id, .int .i64 m.wth, .int .i64 m.price, .int .i64 m.qty, .int .i64 m.code] 34))).app hC6 R6 rfl rfl (by simp only [World.size_alloc]; exact hf6) (by simp; omega)
      have KO : KeepsOthers X X6 := (others_ext (x5.alloc _)).trans (others_chg hC6 hRC (fun h0 => by have := hz h0; subst this; exact hC6.ext (by simp [ablk])))
      have KC : Chg W X6 [w.heap.size, w.heap.size + 1 + 1] := Chg.step (hI.chg.extR (x5.alloc _)) hC6 (fun i hi => .inr (hnw i hi))
      have KX : Chg X X6 (ablk A3) := Chg.step (Chg.of_ext (x5.alloc (.cells #[.int .i64 m.kind, .int .i64 m.sym, .int .i64 m.seq, .int .i64 m.tick, .int .i64 m.id, .int .i64 m.wth, .int .i64 m.price, .int .i64 m.qty, .int .i64 m.code] 34)) (ablk A3)) hC6 (fun i hi => .inl hi)
      have KP := KpF.chg (cb := w.heap.size + 1 + 1 + 1) (A := A1) KX ⟨by omega, fun h => by have := hnw _ h; omega⟩ (fun k hk => ⟨by have := hA2 k hk; omega, fun h => by have := hnw _ h; have := hA2 k hk; omega⟩)
      have t2 : X6.cell? ⟨w.heap.size, 0, none⟩ = some (.slice A3 ms.length c3) := T2.cell 0
      have y2 := T2.frozen 0
      have t4 : X6.cell? ⟨w.heap.size + 1 + 1, 0, none⟩ = some (.int .i64 (endO 0 pre)) := T4.cell 0
      have y4 := T4.frozen 0
      have u4 := T4.lt
      have HKO := Lib.hid KO
      have HKC := Lib.hid KC
      have HKP := Lib.hid KP
      have HO5 := Lib.hid O5
      have HNN := Lib.hid hnn
      have hfin : ∀ v, At ((X6.setCell ⟨w.heap.size, 0, none⟩ (.slice A5 (ms.length + 1) c5)).setCell ⟨w.heap.size + 1 + 1, 0, none⟩ (.int .i64 v)) w.heap.size 22 #[.slice A5 (ms ++ [m]).length c5] := fun v => by
        rw [List.length_append]
        exact (T2.set 0 _).far (by simp <;> omega) _
      have hfin4 : ∀ u v, At ((X6.setCell ⟨w.heap.size, 0, none⟩ u).setCell ⟨w.heap.size + 1 + 1, 0, none⟩ (.int .i64 v)) (w.heap.size + 1 + 1) 3 #[.int .i64 v] := fun u v => (T4.far (by simp <;> omega) u).set 0 _
      have hfin3 : ∀ u v, At ((X6.setCell ⟨w.heap.size, 0, none⟩ u).setCell ⟨w.heap.size + 1 + 1, 0, none⟩ v) (w.heap.size + 1) 35 #[.int .i64 0] := fun u v => (T3.far (by simp <;> omega) u).far (by simp <;> omega) v
      have HF2 := Lib.hid hfin
      have HF4 := Lib.hid hfin4
      have HF3 := Lib.hid hfin3
      have HRL := R6.le
      clear hC6 R6 hf6 hRC KO KC KP O5 hnn hfin hfin4 hfin3 KX T2 T3 T4 c2 z2 s2 hnw n2 n4
      gi_wp2_with fail
      have hfa : w.heap.size ∉ ablk A5 := fun h => by have := (HO5.out.new _ h).1; omega
      have hfb' : w.heap.size + 1 + 1 ∉ ablk A5 := fun h => by have := (HO5.out.new _ h).1; omega
      refine ⟨(HKO.out.trans (KeepsOthers.setCell _ _ _)).trans (KeepsOthers.setCell _ _ _), HKP.out.trans (KpF.chg (((Chg.refl X6 [w.heap.size, w.heap.size + 1 + 1]).set (.inl (by simp)) _).set (.inl (by simp)) _) ⟨by omega, by simp; omega⟩ (fun k hk => ⟨by have := hA2 k hk; omega, fun h => by have := hA2 k hk; simp at h; omega⟩)), ⟨(HKC.out.set (.inl (by simp)) _).set (.inl (by simp)) _, HF3.out _ _, by rw [endO_snoc]; exact HF4.out _ _, ⟨A5, c5, ms ++ [m], HF2.out _, ⟨(HO5.out.row.set hfa _).set hfb' _, fun k hk => by have := HO5.out.new k hk; simpa using this⟩, by rw [List.map_append]; exact HSN.out, fun h0 => by omega, by simp; exact HML.out⟩, fun y hy => ?_⟩⟩
      rcases List.mem_append.1 hy with h1 | h1
      · exact HNN.out y h1
      · rw [List.mem_singleton.1 h1]; exact ⟨xnn, xle2, xfew⟩
    · have hfb : (f != 0) = true := bne_iff_ne.2 hf
      have HF := Lib.hid hf
      have c3' : X4.cell? ⟨w.heap.size + 1, 0, none⟩ = some (.int .i64 0) := Q3'.cell 0
      have z3 := Q3'.frozen 0
      have s3 := Q3'.lt
      have HDL := Lib.hid hdl
      clear hf hdl
      gi_wp2_with fail
      refine ⟨(((others_ext hx4).trans (KeepsOthers.setCell _ _ _)).trans (KeepsOthers.setCell _ _ _)).trans (KeepsOthers.alloc _ _), ⟨rfl, ?_, ?_, ⟨pre, _, ms, m, f, rfl, HDL.out, HMF.out, HF.out, ?_⟩⟩⟩
      · exact ((((hI.chg.mono (fun k _ hk => by simp at hk ⊢; omega)).extR hx4).set (.inl (by simp)) _).set (.inl (by simp)) _).alloc _
      · exact ((Q2'.set 0 _).far (by simp <;> omega) _).alloc _
      · exact ((Q3'.far (by simp <;> omega) _).set 0 _).alloc _
  case hdone =>
    intro D xs X hD hA3 hI hDd
    obtain ⟨B5, c5, ms, Q2, OM, hdl, _, hml⟩ := hI.ex
    clear hml
    have he := end_of xs 0 bs hA3.1 hA3.2
    obtain ⟨g1, g2, g3⟩ := cut_end (bs.length + 1) bs (Nat.lt_succ_self _)
    rw [← hA3.2] at hdl
    have c4 : X.cell? ⟨w.heap.size + 1 + 1, 0, none⟩ = some (.int .i64 (endO 0 xs)) := hI.en.cell 0
    have c2 : X.cell? ⟨w.heap.size, 0, none⟩ = some (.slice B5 ms.length c5) := Q2.cell 0
    have z2 := Q2.frozen 0
    have s2 := Q2.lt
    have c3 : X.cell? ⟨w.heap.size + 1, 0, none⟩ = some (.int .i64 0) := hI.fl.cell 0
    have z3 := hI.fl.frozen 0
    have s3 := hI.fl.lt
    have xsz := hI.chg.size
    have XX : Ext w X := Chg.extOfJ hI.chg XW (by simp; omega)
    have Q3 := hI.fl
    have HDL := Lib.hid hdl
    generalize endO 0 xs = ev at c4 he
    generalize hrl : (cut bs).2.1 = rs at *
    clear hI hA3 HW
    by_cases hr : rs = []
    · have hev : ev = (bs.length : Nat) := by rw [he, hr]; simp
      have hM : allM bs = (ms, 0) := by unfold allM; rw [HDL.out, if_neg (by simp), hrl, if_pos hr]
      have HM := Lib.hid hM
      clear he hdl hM hr g1 g2 g3 hrl
      subst hev
      have n2 : w.heap.size ∉ ablk B5 := fun h => by have := (OM.new _ h).1; omega
      have n3 : w.heap.size + 1 ∉ ablk B5 := fun h => by have := (OM.new _ h).1; omega
      gi_wp2_with fail
      have hDd2 := (KeepsOthers.setCell (X.setCell ⟨w.heap.size, 0, none⟩ (.slice B5 ms.length c5)) ⟨w.heap.size + 1, 0, none⟩ (.int .i64 0)).same D _ ((KeepsOthers.setCell X ⟨w.heap.size, 0, none⟩ (.slice B5 ms.length c5)).same D _ hDd rfl) rfl
      refine ⟨by simp, .inl ⟨_, _, rfl, run_takeDeferred hDd2, ?_⟩⟩
      have r2 : (((X.setCell ⟨w.heap.size, 0, none⟩ (.slice B5 ms.length c5)).setCell ⟨w.heap.size + 1, 0, none⟩ (.int .i64 0)).putObj D (.deferred none)).cell? ⟨w.heap.size, 0, none⟩ = some (.slice B5 ms.length c5) := (((Q2.set 0 (.slice B5 ms.length c5)).far (by simp <;> omega) _).putObj (by omega) _).cell 0
      have r3 : (((X.setCell ⟨w.heap.size, 0, none⟩ (.slice B5 ms.length c5)).setCell ⟨w.heap.size + 1, 0, none⟩ (.int .i64 0)).putObj D (.deferred none)).cell? ⟨w.heap.size + 1, 0, none⟩ = some (.int .i64 0) := (((Q3.far (by simp <;> omega) _).set 0 (.int .i64 0)).putObj (by omega) _).cell 0
      refine ⟨.tuple #[.slice B5 ms.length c5, .int .i64 0], ?_, ?_⟩
      · simp [results, Try.results18, go_sem, r2, r3]
      · rw [HP.out]
        unfold AllM6
        rw [HM.out]
        exact ⟨Ext.putObj (by repeat (first | (with_reducible exact Ext.refl _) | (with_reducible assumption) | (with_reducible refine Ext.alloc ?_ _) | (with_reducible refine Ext.drew ?_) | (with_reducible refine Ext.drewN ?_ _) | (with_reducible refine Ext.setCell ?_ (by simp; try omega) _) | (with_reducible refine Ext.setRow ?_ (by simp; try omega) _))) (by omega) _, B5, c5, rfl, ⟨((OM.row.set n2 _).set n3 _).putObj hDd2 rfl _, fun k hk => by have := OM.new k hk; simp; omega⟩⟩
    · have hrp : 0 < rs.length := List.length_pos_iff.2 hr
      have hM : allM bs = ([], takeF rs) := by unfold allM; rw [HDL.out, if_neg (by simp), hrl, if_neg hr, g1]
      have HM := Lib.hid hM
      obtain ⟨k, hk⟩ : ∃ k, k = bs.length - rs.length := ⟨_, rfl⟩
      have hev : ev = (k : Nat) := by rw [he]; omega
      obtain ⟨b, off, hA', hbw, _⟩ := hS.lt (by omega) (by decide)
      subst hA'
      have hrb : Byt rs := by rw [g2]; exact fun x hx => hby x (List.mem_of_mem_drop hx)
      have hSr : Src X 1 (some ⟨b, off + k, none⟩) rs.length (bc rs) := by
        have := (hS.ext XX).cut (i := k) (k := bs.length - k) (by omega)
        rw [List.take_of_length_le (by rw [List.length_drop]; omega), hk, ← g2] at this
        rw [show bs.length - (bs.length - rs.length) = rs.length by omega] at this
        rw [hk]
        exact this
      have C1 := ftake_c (some ⟨b, off + k, none⟩) (c - k) rs hrb (by omega) X hSr
      have hkl : k < bs.length := by omega
      have hrl2 : rs.length = bs.length - k := by omega
      rw [hrl2] at C1
      generalize takeF rs = tf at *
      have HC1 := Lib.hid C1
      have hkb : ((k : Int) == (bs.length : Int)) = false := by simp; omega
      have hkl2 : (k : Int) < (bs.length : Int) := by omega
      clear he hdl hM hr g1 g2 g3 hrl C1 hSr hrl2 hk hrp
      subst hev
      gi_wp2_with fail
      all_goals first | (exfalso; omega) | skip
      refine ⟨trivial, ?_⟩
      gi_at_call 31
      refine (callsIn_wide.2 HC1.out).mono ?_
      rintro e X4 ⟨hx4, v, rfl, A4, c4', rfl, R4, F4⟩
      have Q2' := Q2.ext hx4
      have Q3' := Q3.ext hx4
      have c3' : X4.cell? ⟨w.heap.size + 1, 0, none⟩ = some (.int .i64 0) := Q3'.cell 0
      have z3' := Q3'.frozen 0
      have s3' := Q3'.lt
      have c2' : X4.cell? ⟨w.heap.size, 0, none⟩ = some (.slice B5 ms.length c5) := Q2'.cell 0
      have z2' := Q2'.frozen 0
      have s2' := Q2'.lt
      gi_wp2_with fail
      have hmx : Try.prog.follows .mixedOrders = true := by kernel_rfl
      gi_region
      gi_wp2_with fail
      obtain ⟨Z, hZ⟩ : ∃ Z, Z = (((X4.setCell ⟨w.heap.size + 1, 0, none⟩ (.int .i64 tf)).setCell ⟨w.heap.size, 0, none⟩ (.slice none 0 0)).setCell ⟨w.heap.size + 1, 0, none⟩ (.int .i64 tf)).drew := ⟨_, rfl⟩
      rw [← hZ]
      have XX4 : Ext w X4 := XX.trans hx4
      have XZ : Ext w Z := by rw [hZ]; exact (by repeat (first | (with_reducible exact Ext.refl _) | (with_reducible assumption) | (with_reducible refine Ext.alloc ?_ _) | (with_reducible refine Ext.drew ?_) | (with_reducible refine Ext.drewN ?_ _) | (with_reducible refine Ext.setCell ?_ (by simp; try omega) _) | (with_reducible refine Ext.setRow ?_ (by simp; try omega) _)))
      have KZ : KeepsOthers X Z := by rw [hZ]; exact ((((others_ext hx4).trans (KeepsOthers.setCell _ _ _)).trans (KeepsOthers.setCell _ _ _)).trans (KeepsOthers.setCell _ _ _)).trans (KeepsOthers.drew _)
      have Z2 : At Z w.heap.size 22 #[.slice none 0 0] := by rw [hZ]; exact (((Q2'.far (by simp <;> omega) _).set 0 _).far (by simp <;> omega) _).drew
      have Z3 : At Z (w.heap.size + 1) 35 #[.int .i64 tf] := by rw [hZ]; exact (((Q3'.set 0 _).far (by simp <;> omega) _).set 0 _).drew
      have hDd2 := KZ.same D _ hDd rfl
      refine ⟨by simp, .inl ⟨_, _, rfl, run_takeDeferred hDd2, ?_⟩⟩
      have r2 : (Z.putObj D (.deferred none)).cell? ⟨w.heap.size, 0, none⟩ = some (.slice none 0 0) := (Z2.putObj (by omega) _).cell 0
      have r3 : (Z.putObj D (.deferred none)).cell? ⟨w.heap.size + 1, 0, none⟩ = some (.int .i64 tf) := (Z3.putObj (by omega) _).cell 0
      refine ⟨.tuple #[.slice none 0 0, .int .i64 tf], ?_, ?_⟩
      · simp [results, Try.results18, go_sem, r2, r3]
      · rw [HP.out]
        unfold AllM6
        rw [HM.out]
        exact ⟨Ext.putObj XZ (by omega) _, none, 0, rfl, OwnM.nil _ _⟩
  case hstop =>
    intro D cd pre Z hD hSp hX hDd2
    obtain ⟨rfl, hC, Z2, ⟨q, x, ms, m, f, rfl, e2, e3, e4, Z3⟩⟩ := hX
    obtain ⟨_, ⟨r2, h2⟩⟩ := hSp
    rw [List.map_append, List.map_cons, List.map_nil, List.append_assoc] at h2
    have hd := decL_stop _ _ _ r2 _ _ e2 e3 e4
    have h3 : (cut bs).1 = q.map (fun x => x.2.xs) ++ x.2.xs :: r2 := h2.symm
    rw [← h3] at hd
    have hM : allM bs = ([], f) := by unfold allM; rw [hd, if_pos e4]
    have HM := Lib.hid hM
    have XZ : Ext w Z := Chg.extOfJ hC XW (by simp; omega)
    clear hM hd h2 h3 e2 e3
    gi_wp2_with fail
    refine ⟨by simp, .inl ⟨_, _, rfl, run_takeDeferred hDd2, ?_⟩⟩
    have r2 : (Z.putObj D (.deferred none)).cell? ⟨w.heap.size, 0, none⟩ = some (.slice none 0 0) := (Z2.putObj (by omega) _).cell 0
    have r3 : (Z.putObj D (.deferred none)).cell? ⟨w.heap.size + 1, 0, none⟩ = some (.int .i64 f) := (Z3.putObj (by omega) _).cell 0
    refine ⟨.tuple #[.slice none 0 0, .int .i64 f], ?_, ?_⟩
    · simp [results, Try.results18, go_sem, r2, r3]
    · rw [HP.out]
      unfold AllM6
      rw [HM.out]
      exact ⟨Ext.putObj XZ (by omega) _, none, 0, rfl, OwnM.nil _ _⟩
end Go.Proofs.Ythophidcgkjdeaa
