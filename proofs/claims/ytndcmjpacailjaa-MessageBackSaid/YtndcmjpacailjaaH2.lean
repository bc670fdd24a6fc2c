/- Frames (layer 4): the document's Take; law FrameTakes. No condition. -/
import Derived.Test.YtndcmjpacailjaaH1
namespace Go.Proofs.Ytndcmjpacailjaa
open Go.RowKit
attribute [local go_sem] Later.cell QUpon_value QUpon_enter MUpon_value run_eql_slice_nil
attribute [local go_sem ↓ high] loadPrt_is storePrt_is
attribute [local go_sem] run_loadPrt run_loadPrt_at run_storePrt one_int one_bool one_slice one_ptr one_str setRow_new setRow_past cell_ca frozen_ca cellsAt_alloc_at cellsAt_alloc_past cellsAt_drew cellsAt_later cellsAt_setCell cellsAt_set_same cellsAt_setRow_same cellsAt_setRow_far subAt_alloc subAt_drew subAt_later subAt_setCell subAt_setRow ltn_2 ltn_3 ltn_4 ltn_5
theorem Src.cut {w : World} {b off n i k : Nat} {bs : List Int} (h : Src w 1 (some ⟨b, off, none⟩) n (bc bs)) (hi : i + k ≤ n) : Src w 1 (some ⟨b, off + i, none⟩) k (bc ((bs.drop i).take k)) := by
  have hl := h.len
  rw [bc_len, Nat.mul_one] at hl
  refine ⟨by rw [bc_len, List.length_take, List.length_drop]; omega, fun h0 => ⟨_, rfl, fun j u hj => ?_⟩⟩
  obtain ⟨ad, hA, hc⟩ := h.at_ (by omega)
  injection hA with hA
  subst hA
  have hjl := (List.getElem?_eq_some_iff.1 hj).1
  rw [bc_len, List.length_take, List.length_drop] at hjl
  unfold bc at hj
  rw [List.getElem?_map, List.getElem?_take_of_lt (by omega), List.getElem?_drop, ← List.getElem?_map] at hj
  have := hc (i + j) u hj
  rw [Addr.add_lit] at this ⊢
  rw [Nat.add_assoc]
  exact this
set_option maxHeartbeats 1000000 in
set_option maxRecDepth 100000 in
theorem rftake_c (A : Option Addr) (c : Nat) (bs : List Int) (hb : Byt bs) (hl : bs.length ≤ 1000000000) (hc : bs.length ≤ c) (hm : c ≤ maxLen) (w : World) (hS : Src w 1 A bs.length (bc bs)) :
    Calls Try.prog 52 #[.slice A bs.length c] w fun e w' => Ext w w' ∧ ∃ v, e = .returned (.tuple #[v, .int .i64 (takeN bs), .int .i64 (takeF bs)]) ∧ Bts w' v (takeL bs) := by
  unfold takeL takeN takeF
  have C1 := readuint_c A c bs 2 (by decide) hb hl
  by_cases h2 : bs.length < 2
  · simp only [h2, if_true]
    have er : uintP bs 2 = (0, 0, 3) := if_pos h2
    rw [er] at C1
    go_enter Try.func52, Try.ntmps52
    go_wp2_with fail
    refine (C1 w hS).mono ?_
    rintro e w1 ⟨rfl, hx1⟩
    go_wp2_with fail
    first | refine fin_ret rfl (fun K hK => ?_) | refine fin_norm rfl (fun K hK => ?_)
    simp [results, Try.results52, go_sem, rsat]
    try go_simp
    refine hK _ ?_
    clear hK K
    exact ⟨(by repeat (first | (with_reducible exact Ext.refl _) | (with_reducible assumption) | (with_reducible refine Ext.alloc ?_ _) | (with_reducible refine Ext.drew ?_) | (with_reducible refine Ext.drewN ?_ _) | (with_reducible refine Ext.setCell ?_ (by simp; try omega) _) | (with_reducible refine Ext.setRow ?_ (by simp; try omega) _))), _, rfl, Bts.nil _⟩
  simp only [h2, if_false]
  have er : uintP bs 2 = (valN (bs.take 2), 2, 0) := if_neg h2
  rw [er] at C1
  have hv : valN (bs.take 2) < 65536 := valN_bytes (fun x hx => hb x (List.mem_of_mem_take hx)) 2 (by rw [List.length_take]; omega)
  generalize valN (bs.take 2) = n at C1 hv ⊢
  have ew : IntKind.i64.wrap (n : Int) = (n : Int) := by rw [IntWalk.i64_left, wrap64_in ⟨by omega, by omega⟩]
  have HC1 := Lib.hid C1
  clear C1 er
  by_cases h64 : 64 < n
  · simp only [h64, if_true]
    go_enter Try.func52, Try.ntmps52
    go_wp2_with fail
    refine (HC1.out w hS).mono ?_
    rintro e w1 ⟨rfl, hx1⟩
    go_wp2_with fail
    first | refine fin_ret rfl (fun K hK => ?_) | refine fin_norm rfl (fun K hK => ?_)
    simp [results, Try.results52, go_sem, rsat]
    try go_simp
    refine hK _ ?_
    clear hK K
    exact ⟨(by repeat (first | (with_reducible exact Ext.refl _) | (with_reducible assumption) | (with_reducible refine Ext.alloc ?_ _) | (with_reducible refine Ext.drew ?_) | (with_reducible refine Ext.drewN ?_ _) | (with_reducible refine Ext.setCell ?_ (by simp; try omega) _) | (with_reducible refine Ext.setRow ?_ (by simp; try omega) _))), _, rfl, Bts.nil _⟩
  simp only [h64, if_false]
  by_cases hs : bs.length < 2 + n
  · simp only [hs, if_true]
    go_enter Try.func52, Try.ntmps52
    go_wp2_with fail
    refine (HC1.out w hS).mono ?_
    rintro e w1 ⟨rfl, hx1⟩
    go_wp2_with fail
    first | refine fin_ret rfl (fun K hK => ?_) | refine fin_norm rfl (fun K hK => ?_)
    simp [results, Try.results52, go_sem, rsat]
    try go_simp
    refine hK _ ?_
    clear hK K
    exact ⟨(by repeat (first | (with_reducible exact Ext.refl _) | (with_reducible assumption) | (with_reducible refine Ext.alloc ?_ _) | (with_reducible refine Ext.drew ?_) | (with_reducible refine Ext.drewN ?_ _) | (with_reducible refine Ext.setCell ?_ (by simp; try omega) _) | (with_reducible refine Ext.setRow ?_ (by simp; try omega) _))), _, rfl, Bts.nil _⟩
  simp only [hs, if_false]
  obtain ⟨b, off, rfl, hbw, _⟩ := hS.lt (by omega) (by decide)
  unfold maxLen at hm
  have hcut := hS.cut (i := 2) (k := n) (by omega)
  have hll : ((bs.drop 2).take n).length = n := by rw [List.length_take, List.length_drop]; omega
  by_cases hcn : c - 2 = 0
  ·
    go_enter Try.func52, Try.ntmps52
    go_wp2_with fail
    refine (HC1.out w hS).mono ?_
    rintro e w1 ⟨rfl, hx1⟩
    go_wp2_with fail
    all_goals first | (exfalso; omega) | skip
    first | refine fin_ret rfl (fun K hK => ?_) | refine fin_norm rfl (fun K hK => ?_)
    simp [results, Try.results52, go_sem, rsat]
    try go_simp
    refine hK _ ?_
    clear hK K
    have hn0 : n = 0 := by omega
    subst hn0
    exact ⟨(by repeat (first | (with_reducible exact Ext.refl _) | (with_reducible assumption) | (with_reducible refine Ext.alloc ?_ _) | (with_reducible refine Ext.drew ?_) | (with_reducible refine Ext.drewN ?_ _) | (with_reducible refine Ext.setCell ?_ (by simp; try omega) _) | (with_reducible refine Ext.setRow ?_ (by simp; try omega) _))), _, rfl, ⟨_, _, rfl, ⟨by rw [List.take_zero]; rfl, fun h => absurd h (by simp)⟩⟩⟩
  ·
    go_enter Try.func52, Try.ntmps52
    go_wp2_with fail
    refine (HC1.out w hS).mono ?_
    rintro e w1 ⟨rfl, hx1⟩
    have hcut1 := hcut.ext hx1
    go_wp2_with fail
    all_goals first | (exfalso; omega) | skip
    first | refine fin_ret rfl (fun K hK => ?_) | refine fin_norm rfl (fun K hK => ?_)
    simp [results, Try.results52, go_sem, rsat]
    try go_simp
    refine hK _ ?_
    clear hK K
    exact ⟨(by repeat (first | (with_reducible exact Ext.refl _) | (with_reducible assumption) | (with_reducible refine Ext.alloc ?_ _) | (with_reducible refine Ext.drew ?_) | (with_reducible refine Ext.drewN ?_ _) | (with_reducible refine Ext.setCell ?_ (by simp; try omega) _) | (with_reducible refine Ext.setRow ?_ (by simp; try omega) _))), _, rfl, ⟨some ⟨b, off + 2, none⟩, c - 2, by rw [hll], by rw [hll]; exact hcut1.ext ((Ext.refl _).alloc _)⟩⟩
end Go.Proofs.Ytndcmjpacailjaa
