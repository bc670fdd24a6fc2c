/- Frames (layer 4): the document's All. Condition: at most 10^6 bytes. -/
import Derived.Test.YtndcmjpacailjaaJ3
namespace Go.Proofs.Ytndcmjpacailjaa
open Go.RowKit
attribute [local go_sem] Later.cell QUpon_value QUpon_enter MUpon_value run_eql_slice_nil
attribute [local go_sem ↓ high] loadPrt_is storePrt_is
attribute [local go_sem] run_loadPrt run_loadPrt_at run_storePrt one_int one_bool one_slice one_ptr one_str setRow_new setRow_past cell_ca frozen_ca cellsAt_alloc_at cellsAt_alloc_past cellsAt_drew cellsAt_later cellsAt_setCell cellsAt_set_same cellsAt_setRow_same cellsAt_setRow_far subAt_alloc subAt_drew subAt_later subAt_setCell subAt_setRow ltn_2 ltn_3 ltn_4 ltn_5
theorem Chg.extOfJ {w0 a b : World} {m : List Nat} (h : Chg a b m) (hx : Ext w0 a) (hm : ∀ i ∈ m, w0.heap.size ≤ i) : Ext w0 b := (Chg.step (Chg.of_ext hx []) h (fun i hi => .inr (hm i hi))).ext (by simp)
/-- What Take hands over: a part of what came in. -/
def TookIs (A : Option Addr) (bs : List Int) (w : World) (e : Ending) (w' : World) : Prop :=
  Ext w w' ∧ ∃ q : Bs, e = .returned (.tuple #[q.v, .int .i64 (takeN bs), .int .i64 (takeF bs)]) ∧ q.xs = takeL bs ∧ q.At w' ∧ ∀ k ∈ ablk q.A, k ∈ ablk A
theorem Bs.At.nil (W : World) : (⟨none, 0, []⟩ : Bs).At W := ⟨Nat.le_refl _, Nat.zero_le _, ⟨rfl, fun h => absurd h (by decide)⟩, fun x hx => by cases hx⟩
set_option maxHeartbeats 1000000 in
set_option maxRecDepth 100000 in
theorem rftook_c (A : Option Addr) (c : Nat) (bs : List Int) (hb : Byt bs) (hl : bs.length ≤ 1000000000) (hc : bs.length ≤ c) (hm : c ≤ maxLen) (w : World) (hS : Src w 1 A bs.length (bc bs)) :
    Calls Try.prog 52 #[.slice A bs.length c] w fun e w' => TookIs A bs w e w' := by
  have hby := takeL_byt hb
  unfold TookIs
  unfold takeL takeN takeF
  unfold takeL at hby
  have C1 := readuint_c A c bs 2 (by decide) hb hl
  by_cases h2 : bs.length < 2
  · simp only [h2, if_true]
    have er : uintP bs 2 = (0, 0, 3) := if_pos h2
    rw [er] at C1
    go_enter Try.func52, Try.ntmps52
    go_wp2_with fail
    refine (C1 w hS).mono ?_
    rintro e w1 ⟨rfl, hx1⟩
    go_wp2_with fail
    first | refine fin_ret rfl (fun K hK => ?_) | refine fin_norm rfl (fun K hK => ?_)
    simp [results, Try.results52, go_sem, rsat]
    try go_simp
    refine hK _ ?_
    clear hK K
    exact ⟨(by repeat (first | (with_reducible exact Ext.refl _) | (with_reducible assumption) | (with_reducible refine Ext.alloc ?_ _) | (with_reducible refine Ext.drew ?_) | (with_reducible refine Ext.drewN ?_ _) | (with_reducible refine Ext.setCell ?_ (by simp; try omega) _) | (with_reducible refine Ext.setRow ?_ (by simp; try omega) _))), ⟨none, 0, []⟩, rfl, rfl, Bs.At.nil _, by simp [ablk]⟩
  simp only [h2, if_false] at hby ⊢
  have er : uintP bs 2 = (valN (bs.take 2), 2, 0) := if_neg h2
  rw [er] at C1
  have hv : valN (bs.take 2) < 65536 := valN_bytes (fun x hx => hb x (List.mem_of_mem_take hx)) 2 (by rw [List.length_take]; omega)
  generalize valN (bs.take 2) = n at C1 hv hby ⊢
  have ew : IntKind.i64.wrap (n : Int) = (n : Int) := by rw [IntWalk.i64_left, wrap64_in ⟨by omega, by omega⟩]
  have HC1 := Lib.hid C1
  clear C1 er
  by_cases h64 : 64 < n
  · simp only [h64, if_true]
    go_enter Try.func52, Try.ntmps52
    go_wp2_with fail
    refine (HC1.out w hS).mono ?_
    rintro e w1 ⟨rfl, hx1⟩
    go_wp2_with fail
    first | refine fin_ret rfl (fun K hK => ?_) | refine fin_norm rfl (fun K hK => ?_)
    simp [results, Try.results52, go_sem, rsat]
    try go_simp
    refine hK _ ?_
    clear hK K
    exact ⟨(by repeat (first | (with_reducible exact Ext.refl _) | (with_reducible assumption) | (with_reducible refine Ext.alloc ?_ _) | (with_reducible refine Ext.drew ?_) | (with_reducible refine Ext.drewN ?_ _) | (with_reducible refine Ext.setCell ?_ (by simp; try omega) _) | (with_reducible refine Ext.setRow ?_ (by simp; try omega) _))), ⟨none, 0, []⟩, rfl, rfl, Bs.At.nil _, by simp [ablk]⟩
  simp only [h64, if_false] at hby ⊢
  by_cases hs : bs.length < 2 + n
  · simp only [hs, if_true]
    go_enter Try.func52, Try.ntmps52
    go_wp2_with fail
    refine (HC1.out w hS).mono ?_
    rintro e w1 ⟨rfl, hx1⟩
    go_wp2_with fail
    first | refine fin_ret rfl (fun K hK => ?_) | refine fin_norm rfl (fun K hK => ?_)
    simp [results, Try.results52, go_sem, rsat]
    try go_simp
    refine hK _ ?_
    clear hK K
    exact ⟨(by repeat (first | (with_reducible exact Ext.refl _) | (with_reducible assumption) | (with_reducible refine Ext.alloc ?_ _) | (with_reducible refine Ext.drew ?_) | (with_reducible refine Ext.drewN ?_ _) | (with_reducible refine Ext.setCell ?_ (by simp; try omega) _) | (with_reducible refine Ext.setRow ?_ (by simp; try omega) _))), ⟨none, 0, []⟩, rfl, rfl, Bs.At.nil _, by simp [ablk]⟩
  simp only [hs, if_false] at hby ⊢
  obtain ⟨b, off, rfl, hbw, _⟩ := hS.lt (by omega) (by decide)
  have hm2 := hm
  unfold maxLen at hm
  have hcut := hS.cut (i := 2) (k := n) (by omega)
  have hll : ((bs.drop 2).take n).length = n := by rw [List.length_take, List.length_drop]; omega
  generalize (bs.drop 2).take n = pl at hcut hll hby ⊢
  have HLL := Lib.hid hll
  by_cases hcn : c - 2 = 0
  · clear hll
    go_enter Try.func52, Try.ntmps52
    go_wp2_with fail
    refine (HC1.out w hS).mono ?_
    rintro e w1 ⟨rfl, hx1⟩
    go_wp2_with fail
    all_goals first | (exfalso; omega) | skip
    first | refine fin_ret rfl (fun K hK => ?_) | refine fin_norm rfl (fun K hK => ?_)
    simp [results, Try.results52, go_sem, rsat]
    try go_simp
    refine hK _ ?_
    clear hK K
    have hn0 : n = 0 := by omega
    have hp : pl = [] := List.eq_nil_of_length_eq_zero (by rw [HLL.out]; exact hn0)
    subst hn0 hp
    exact ⟨(by repeat (first | (with_reducible exact Ext.refl _) | (with_reducible assumption) | (with_reducible refine Ext.alloc ?_ _) | (with_reducible refine Ext.drew ?_) | (with_reducible refine Ext.drewN ?_ _) | (with_reducible refine Ext.setCell ?_ (by simp; try omega) _) | (with_reducible refine Ext.setRow ?_ (by simp; try omega) _))), ⟨some ⟨b, off, none⟩, 0, []⟩, rfl, rfl, ⟨Nat.le_refl _, Nat.zero_le _, ⟨rfl, fun h => absurd h (Nat.lt_irrefl 0)⟩, hby⟩, fun k hk => hk⟩
  · clear hll
    go_enter Try.func52, Try.ntmps52
    go_wp2_with fail
    refine (HC1.out w hS).mono ?_
    rintro e w1 ⟨rfl, hx1⟩
    have hcut1 := hcut.ext hx1
    go_wp2_with fail
    all_goals first | (exfalso; omega) | skip
    first | refine fin_ret rfl (fun K hK => ?_) | refine fin_norm rfl (fun K hK => ?_)
    simp [results, Try.results52, go_sem, rsat]
    try go_simp
    refine hK _ ?_
    clear hK K
    have h1 := HLL.out
    exact ⟨(by repeat (first | (with_reducible exact Ext.refl _) | (with_reducible assumption) | (with_reducible refine Ext.alloc ?_ _) | (with_reducible refine Ext.drew ?_) | (with_reducible refine Ext.drewN ?_ _) | (with_reducible refine Ext.setCell ?_ (by simp; try omega) _) | (with_reducible refine Ext.setRow ?_ (by simp; try omega) _))), ⟨some ⟨b, off + 2, none⟩, c - 2, pl⟩, by unfold Bs.v; simp only [HLL.out], rfl, ⟨by simp only [HLL.out]; omega, by unfold maxLen; simp only; omega, by simp only [HLL.out]; exact hcut1.ext ((Ext.refl _).alloc _), hby⟩, fun k hk => hk⟩
/-! ### where the frames begin (plain) -/
def plN : Nat → Nat → List Int → List Int
  | 0, _, _ => []
  | n + 1, i, bs => if takeF bs = 0 then (i : Int) :: plN n (i + (takeN bs).toNat) (bs.drop (takeN bs).toNat) else []
theorem plN_more : ∀ (n m i : Nat) (bs : List Int), bs.length < n → bs.length < m → plN n i bs = plN m i bs
  | 0, _, _, _, h, _ => by omega
  | _, 0, _, _, _, h => by omega
  | n + 1, m + 1, i, bs, hn, hm => by
    show (if takeF bs = 0 then _ else _) = (if takeF bs = 0 then _ else _)
    by_cases hf : takeF bs = 0
    · obtain ⟨h1, h2, _⟩ := takeN_pos hf
      rw [if_pos hf, if_pos hf, plN_more n m _ (bs.drop (takeN bs).toNat) (by rw [List.length_drop]; omega) (by rw [List.length_drop]; omega)]
    · rw [if_neg hf, if_neg hf]
def plD (i : Nat) (bs : List Int) : List Int := plN (bs.length + 1) i bs
theorem plD_no {bs : List Int} (i : Nat) (h : takeF bs ≠ 0) : plD i bs = [] := if_neg h
theorem plD_yes {bs : List Int} (i : Nat) (h : takeF bs = 0) : plD i bs = (i : Int) :: plD (i + (takeN bs).toNat) (bs.drop (takeN bs).toNat) := by
  obtain ⟨h1, h2, _⟩ := takeN_pos h
  have e : plD i bs = (i : Int) :: plN bs.length (i + (takeN bs).toNat) (bs.drop (takeN bs).toNat) := if_pos h
  rw [e, plN_more bs.length ((bs.drop (takeN bs).toNat).length + 1) _ _ (by rw [List.length_drop]; omega) (by omega)]
  rfl
def bi (l : List Int) : List Value := l.map (Value.int .i64)
theorem bi_one (l : List Int) : (bi l).all (·.oneCell') = true := by
  unfold bi
  rw [List.all_map]
  exact List.all_eq_true.2 (fun _ _ => rfl)
theorem intInfo4 : (Try.prog.info? 3).map (fun i => (i.zero, i.size, i.bytes)) = some (some (.int .i64 0), 1, 8) := by kernel_rfl
/-- What All answers. -/
structure AllIs (A : Option Addr) (bs : List Int) (w : World) (e : Ending) (w' : World) : Prop where
  ext : Ext w w'
  ex : ∃ (C : Option Addr) (dc : Nat) (B : Option Addr) (d : Nat) (ol : List Bs), e = .returned (.tuple #[.slice C (plD 0 bs).length dc, .slice B ol.length d, .int .i64 ((bs.length : Int) - ((cut bs).2.1.length : Nat)), .int .i64 (if (cut bs).2.1 = [] then 0 else (cut bs).2.2)]) ∧ Row w' 3 1 C (plD 0 bs).length dc (bi (plD 0 bs)) ∧ OwnB w w' B d ol ∧ ol.map Bs.xs = (cut bs).1 ∧ (∀ p ∈ ol, ∀ k ∈ ablk p.A, k ∈ ablk A)
/-- Amid All. -/
structure AllAt (w wr : World) (A : Option Addr) (bs : List Int) (k : Nat) (C : Option Addr) (dc : Nat) (pl : List Int) (B : Option Addr) (d : Nat) (ol : List Bs) : Prop where
  ext : Ext w wr
  at_ : Row wr 3 1 C pl.length dc (bi pl)
  anew : ∀ j ∈ ablk C, w.heap.size ≤ j ∧ j < wr.heap.size
  out : OwnB w wr B d ol
  sep : ∀ j ∈ ablk C, j ∉ ablk B
  raw : ∀ p ∈ ol, ∀ j ∈ ablk p.A, j ∈ ablk A
  cutD : cut bs = (ol.map Bs.xs ++ (cut (bs.drop k)).1, (cut (bs.drop k)).2)
  plc : plD 0 bs = pl ++ plD k (bs.drop k)
  le : k ≤ bs.length
  few : pl.length ≤ k ∧ ol.length ≤ k
set_option maxHeartbeats 4000000 in
set_option maxRecDepth 100000 in
theorem rfall_c (A : Option Addr) (c : Nat) (bs : List Int) (hb : Byt bs) (hl : bs.length ≤ 1000000) (hc : bs.length ≤ c) (hm : c ≤ maxLen) (w : World) (hS : Src w 1 A bs.length (bc bs)) (hA0 : 0 < bs.length → ∀ k ∈ ablk A, k < w.heap.size) :
    Calls Try.prog 42 #[.slice A bs.length c] w fun e w' => AllIs A bs w e w' := by
  have hm2 := hm
  unfold maxLen at hm2
  obtain ⟨P, hP⟩ : ∃ P : Ending → World → Prop, P = fun e w' => AllIs A bs w e w' := ⟨_, rfl⟩
  rw [← hP]
  have HP := Lib.hid hP
  clear hP
  go_enter Try.func42, Try.ntmps42
  go_wp2_with fail
  go_loopw [6, 7, 8] (fun a o i wr => ∃ (k : Nat) (C : Option Addr) (dc : Nat) (pl : List Int) (B : Option Addr) (d : Nat) (ol : List Bs), i = .int .i64 k ∧ a = .slice C pl.length dc ∧ o = .slice B ol.length d ∧ AllAt w wr A bs k C dc pl B d ol) (fun _ _ i _ => bs.length - (intOf i).toNat)
  case atStart => exact ⟨0, none, 0, [], none, 0, [], rfl, rfl, rfl, ⟨Ext.refl _, Row.nil _ _ _ _, by simp [ablk], OwnB.nil _ _, by simp [ablk], by simp, by simp, by simp, by omega, by simp⟩⟩
  case round =>
    obtain ⟨k, C, dc, pl, B, d, ol, rfl, rfl, rfl, H⟩ := hrel
    have hk := H.le
    have hfw := H.few
    by_cases hlt : k < bs.length
    · have hA := hA0 (by omega)
      clear hA0
      obtain ⟨b, off, hA', hbw, _⟩ := hS.lt (by omega) (by decide)
      subst hA'
      have hlt2 : (k : Int) < (bs.length : Int) := by omega
      obtain ⟨rs, hrs⟩ : ∃ rs, rs = bs.drop k := ⟨_, rfl⟩
      have hrl : rs.length = bs.length - k := by rw [hrs, List.length_drop]
      have hrb : Byt rs := by rw [hrs]; exact fun x hx => hb x (List.mem_of_mem_drop hx)
      have hSr : Src wr 1 (some ⟨b, off + k, none⟩) rs.length (bc rs) := by
        have := (hS.ext H.ext).cut (i := k) (k := bs.length - k) (by omega)
        rw [List.take_of_length_le (by rw [List.length_drop]; omega), ← hrs] at this
        rw [hrl]; exact this
      have C1 := rftook_c (some ⟨b, off + k, none⟩) (c - k) rs hrb (by omega) (by omega) (by unfold maxLen; omega) wr hSr
      unfold TookIs at C1
      rw [hrl] at C1
      have hcd := H.cutD
      have hpc := H.plc
      rw [← hrs] at hcd hpc
      rcases takeF_is rs with hf | hf
      · obtain ⟨k2, kl, kn⟩ := takeN_pos hf
        have hcy := cut_yes hf
        have hpy := plD_yes k hf
        rw [hcy] at hcd
        rw [hpy] at hpc
        rw [hf, kn] at C1
        generalize (takeN rs).toNat = n at *
        generalize takeL rs = tl at *
        have hdd : rs.drop n = bs.drop (k + n) := by rw [hrs, List.drop_drop]
        rw [hdd] at hcd hpc
        have HCD := Lib.hid hcd
        have HPC := Lib.hid hpc
        have HC1 := Lib.hid C1
        clear hcy hpy hcd hpc C1 hdd hrs hSr
        go_wp2_with fail
        all_goals first | (exfalso; omega) | skip
        refine HC1.out.mono ?_
        rintro e w3 ⟨hx3, ⟨QA, Qc, qx⟩, rfl, hqx, hqA, hqb⟩
        simp only at hqx hqb
        subst hqx
        simp only [Bs.v]
        have hRC := (H.at_.ext hx3).alloc (.cells #[.int .i64 (k : Int)] 3)
        have s3 := hx3.size
        have s0 := H.ext.size
        go_wp2_with (at_builtin; refine wpList_rowcat rfl _ _ 71 3 1 8 (.int .i64 0) rfl Try.underlying71 intInfo4 rfl (by decide) _ C pl.length dc (bi pl) rfl hRC _ 1 1 [.int .i64 (k : Int)] rfl (Src.at (At.new' _ _ _ _ (by simp)) rfl) rfl (by unfold maxLen; omega) (by omega) ?_)
        intro C4 dc4 w4 R4 CH4 f4
        have s34 := CH4.size
        rw [World.size_alloc] at s34
        have x34 : Ext w w4 := CH4.extOfJ ((H.ext.trans hx3).alloc _) (fun i hi => (H.anew i hi).1)
        have O4 : OwnB w w4 B d ol := ((H.out.ext hx3).ext ((Ext.refl _).alloc _)).chg CH4 H.sep (fun p hp j hj h1 => by have := hA j (H.raw p hp j hj); have := (H.anew j h1).1; omega)
        have q4 : (⟨QA, Qc, qx⟩ : Bs).At w4 := (hqA.ext ((Ext.refl _).alloc _)).chg CH4 (fun j hj h1 => by have := hA j (hqb j hj); have := (H.anew j h1).1; omega)
        have O5 := O4.ext ((Ext.refl w4).alloc (.cells #[.slice QA qx.length Qc] 24))
        have q5 := q4.ext ((Ext.refl w4).alloc (.cells #[.slice QA qx.length Qc] 24))
        have hRB := O5.row
        clear hRC
        go_wp2_with (at_builtin; refine wpList_rowcat rfl _ _ 72 24 1 24 (.slice none 0 0) rfl Try.underlying72 blInfo rfl (by decide) _ B ol.length d (ol.map Bs.v) rfl hRB _ 1 1 [.slice QA qx.length Qc] rfl (Src.at (At.new' _ _ _ _ (by simp)) rfl) rfl (by unfold maxLen; omega) (by omega) ?_)
        intro B5 d5 w5 R5 CH5 f5
        have s45 := CH5.size
        rw [World.size_alloc] at s45
        have hC4 : ∀ j ∈ ablk C4, w.heap.size ≤ j ∧ j < w4.heap.size ∧ j ∉ ablk B := fun j hj => by
          rcases f4 j hj with h1 | h1
          · exact ⟨(H.anew j h1).1, by have := (H.anew j h1).2; omega, H.sep j h1⟩
          · exact ⟨by omega, h1.2, fun h2 => by have := (H.out.new j h2).2; omega⟩
        have H5 : AllAt w w5 (some ⟨b, off, none⟩) bs (k + n) C4 dc4 (pl ++ [(k : Int)]) B5 d5 (ol ++ [⟨QA, Qc, qx⟩]) := by
          refine ⟨CH5.extOfJ (x34.alloc _) (fun i hi => (H.out.new i hi).1), ?_, fun j hj => ⟨(hC4 j hj).1, by have := (hC4 j hj).2.1; omega⟩, O5.app (ms := [⟨QA, Qc, qx⟩]) (by intro p hp; rw [List.mem_singleton.1 hp]; exact q5) (by intro p hp j hj; rw [List.mem_singleton.1 hp] at hj; have := hA j (hqb j hj); exact ⟨by simp; omega, fun h1 => by have := (H.out.new j h1).1; omega⟩) CH5 R5 rfl rfl rfl (by rw [World.size_alloc]; exact f5) (by simp; omega), fun j hj h1 => ?_, fun p hp j hj => ?_, ?_, ?_, by omega, by simp; omega⟩
          · have := (R4.alloc (.cells #[.slice QA qx.length Qc] 24)).chg CH5 (fun j hj => (hC4 j hj).2.2)
            unfold bi
            rw [List.length_append, List.map_append]
            exact this
          · rcases f5 j h1 with h2 | h2
            · exact (hC4 j hj).2.2 h2
            · have := (hC4 j hj).2.1; omega
          · rcases List.mem_append.1 hp with h1 | h1
            · exact H.raw p h1 j hj
            · rw [List.mem_singleton.1 h1] at hj; exact hqb j hj
          · rw [HCD.out]; simp
          · rw [HPC.out]; simp
        clear R5 CH5 hRB O5 O4 R4 CH4 f4 f5 q4 q5 x34 H
        go_wp2_with fail
        go_roundw
        case rel => exact ⟨k + n, C4, dc4, pl ++ [(k : Int)], B5, d5, ol ++ [⟨QA, Qc, qx⟩], by go_num, by simp, by simp, H5⟩
        case measure => simp [intOf]; omega
      · have hf0 : takeF rs ≠ 0 := by omega
        have hfb : (takeF rs != 0) = true := bne_iff_ne.2 hf0
        rw [cut_no hf0] at hcd
        rw [plD_no k hf0] at hpc
        have hne : rs ≠ [] := fun h => by rw [h] at hrl; simp at hrl; omega
        have HNE := Lib.hid hne
        have HRL := Lib.hid hrl
        generalize takeF rs = tf at *
        have HCD := Lib.hid hcd
        have HPC := Lib.hid hpc
        have HC1 := Lib.hid C1
        clear hcd hpc C1 hrs hSr hne hrl hf hf0
        go_wp2_with fail
        all_goals first | (exfalso; omega) | skip
        refine HC1.out.mono ?_
        rintro e w3 ⟨hx3, ⟨QA, Qc, qx⟩, rfl, _⟩
        simp only [Bs.v]
        go_wp2_with fail
        first | refine fin_ret rfl (fun K hK => ?_) | refine fin_norm rfl (fun K hK => ?_)
        simp [results, Try.results42, go_sem, rsat]
        try go_simp
        refine hK _ ?_
        clear hK K
        rw [HP.out]
        refine ⟨H.ext.trans hx3, C, dc, B, d, ol, ?_, ?_, H.out.ext hx3, ?_, H.raw⟩
        · rw [HPC.out, HCD.out]
          simp only [List.append_nil]
          rw [if_neg HNE.out, HRL.out, show (bs.length : Int) - ((bs.length - k : Nat) : Int) = (k : Int) by omega]
        · rw [HPC.out, List.append_nil]; exact H.at_.ext hx3
        · rw [HCD.out]; simp
    · obtain rfl : k = bs.length := by omega
      have hcd := H.cutD
      have hpc := H.plc
      rw [List.drop_length, cut_nil] at hcd
      rw [List.drop_length, plD_no _ (by decide : takeF [] ≠ 0)] at hpc
      have HCD := Lib.hid hcd
      have HPC := Lib.hid hpc
      clear hcd hpc
      go_wp2_with fail
      first | refine fin_ret rfl (fun K hK => ?_) | refine fin_norm rfl (fun K hK => ?_)
      simp [results, Try.results42, go_sem, rsat]
      try go_simp
      refine hK _ ?_
      clear hK K
      rw [HP.out]
      refine ⟨H.ext, C, dc, B, d, ol, ?_, ?_, H.out, ?_, H.raw⟩
      · rw [HPC.out, HCD.out]
        simp
      · rw [HPC.out, List.append_nil]; exact H.at_
      · rw [HCD.out]; simp
end Go.Proofs.Ytndcmjpacailjaa
