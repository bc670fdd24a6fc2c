/- Law OctetsReads, 2. No condition. -/
import Derived.Test.YtliccefjdieclaaQ4
namespace Go.Proofs.Ytliccefjdieclaa
open Go.RowKit
attribute [local go_sem] Later.cell QUpon_value QUpon_enter MUpon_value run_eql_slice_nil
attribute [local go_sem ↓ high] loadPt_is storePt_is loadPrt_is storePrt_is
attribute [local go_sem] run_loadPt run_loadPt_at run_storePt run_loadPrt run_loadPrt_at run_storePrt one_int one_bool one_slice one_ptr one_str setRow_new setRow_past cell_ca frozen_ca cellsAt_alloc_at cellsAt_alloc_past cellsAt_drew cellsAt_later cellsAt_setCell cellsAt_set_same cellsAt_setRow_same cellsAt_setRow_far subAt_alloc subAt_drew subAt_later subAt_setCell subAt_setRow ltn_2 ltn_3 ltn_4 ltn_5
theorem Src.dropA {w : World} {A : Option Addr} {n s : Nat} {bs : List Int} (h : Src w 1 A n (bc bs)) (hs : s ≤ n) (B : Option Addr) (hB : s < n → B = A.map (fun x => x.add s)) : Src w 1 B (n - s) (bc (bs.drop s)) := by
  have hl := h.len
  rw [bc_len, Nat.mul_one] at hl
  refine ⟨by rw [bc_len, List.length_drop]; omega, fun h0 => ?_⟩
  obtain ⟨ad, rfl, hc⟩ := h.at_ (by omega)
  refine ⟨ad.add s, hB (by omega), fun j u hj => ?_⟩
  rw [Go.Deep.add_add]
  unfold bc at hj
  rw [List.getElem?_map, List.getElem?_drop, ← List.getElem?_map] at hj
  exact hc (s + j) u hj
set_option maxHeartbeats 4000000 in
set_option maxRecDepth 100000 in
theorem octetsreads_c (b : Bs) (x : Pts) (w : World) (hb : b.At w) (h : x.At w) : Calls Try.prog 5 #[b.v, x.v] w fun e w' => e = .returned (.bool true) ∧ Ext w w' := by
  unfold Pts.v Bs.v
  have CL := light_c x w h
  have hbm := hb.max
  have hble := hb.le
  unfold maxLen at hbm
  cases hL : lightB x.l with
  | false =>
    rw [hL] at CL
    go_enter Try.func5, Try.ntmps5
    go_wp2_with fail
    refine CL.mono ?_
    rintro e w1 ⟨rfl, hx1⟩
    go_wp2_with fail
    refine (alive_c _).mono ?_
    rintro e w2 ⟨rfl, hx2⟩
    go_wp2_with fail
    first | refine fin_ret rfl (fun K hK => ?_) | refine fin_norm rfl (fun K hK => ?_)
    simp [results, Try.results5, go_sem, rsat]
    try go_simp
    refine hK _ ?_
    clear hK K
    exact ⟨rfl, hx1.trans hx2⟩
  | true =>
    rw [hL] at CL
    by_cases h200 : 200 < b.xs.length
    ·
      go_enter Try.func5, Try.ntmps5
      go_wp2_with fail
      refine CL.mono ?_
      rintro e w1 ⟨rfl, hx1⟩
      go_wp2_with fail
      refine (alive_c _).mono ?_
      rintro e w2 ⟨rfl, hx2⟩
      go_wp2_with fail
      first | refine fin_ret rfl (fun K hK => ?_) | refine fin_norm rfl (fun K hK => ?_)
      simp [results, Try.results5, go_sem, rsat]
      try go_simp
      refine hK _ ?_
      clear hK K
      exact ⟨rfl, hx1.trans hx2⟩
    have hlm : x.l.length ≤ 9223372036854775807 := by have := h.le; have := h.max; unfold maxLen at this; omega
    obtain ⟨A, c, l⟩ := x
    obtain ⟨B, cb, xs⟩ := b
    simp only at hbm hble h200 CL hlm ⊢
    have hby := hb.byt
    have hsr := hb.src
    simp only at hby hsr
    clear hL hb
    have HBY := Lib.hid hby
    go_enter Try.func5, Try.ntmps5
    go_wp2_with fail
    refine CL.mono ?_
    rintro e w1 ⟨rfl, hx1⟩
    go_wp2_with fail
    refine (newreader_c B xs cb w1 (hsr.ext hx1) hby (by omega)).mono ?_
    rintro e w2 ⟨hx2, g, A2, rfl, r2, hg, hA2⟩
    have y2 := hx1.trans hx2
    have hgw : w.heap.size ≤ g := Nat.le_trans hx1.size hg
    go_wp2_with fail
    go_loopw [0, 7, 8] (fun v f i wr => ∃ (k : Nat) (A1 B1 : Option Addr) (cs rs : List Int) (c1 : Nat) (F : Int), i = .int .i64 k ∧ k ≤ l.length ∧ v = .slice B1 cs.length c1 ∧ f = .int .i64 F ∧ Byt cs ∧ cs.length ≤ c1 ∧ c1 ≤ 9223372036854775807 ∧ cs.length ≤ 200 ∧ (∀ W, Src W 1 B xs.length (bc xs) → Src W 1 B1 cs.length (bc cs)) ∧ Rdr wr g A1 rs F ∧ rs.length ≤ 200 ∧ (F = 0 → rs = cs) ∧ Ext w wr) (fun _ _ i _ => l.length - (intOf i).toNat)
    case atStart => exact ⟨0, A2, B, xs, xs, cb, 0, rfl, by omega, rfl, rfl, hby, hble, hbm, by omega, fun W h => h, r2, by omega, fun _ => rfl, y2⟩
    case round =>
      have hgG : w.heap.size ≤ g := hgw
      obtain ⟨k, A1, B1, cs, rs, c1, F, rfl, hk, rfl, rfl, hcy, hcc, hcm, hcl, hsrc, hR, hrl, hF, hx⟩ := hrel
      have HSRC := Lib.hid hsrc
      have HCY := Lib.hid hcy
      clear hsrc hcy
      by_cases hlt : k < l.length
      · obtain ⟨b, off, hA, hb, hs⟩ := h.elem k hlt
        simp only at hA hs
        subst hA
        have pok := h.ok l[k] (List.getElem_mem _)
        generalize l[k] = p at hs pok
        obtain ⟨kd, sz, n, s, ⟨RA, Rc, rx⟩⟩ := p
        simp only at hs
        have hI := pok.size
        simp only at hI
        clear pok
        have hgl := hR.ex.choose_spec.1.lt
        have hs1 := (subAt_ext hx hb).trans hs
        have hbr : b < wr.heap.size := Nat.lt_of_lt_of_le hb hx.size
        by_cases hF0 : F = 0
        · subst hF0
          obtain rfl := hF rfl
          clear hF
          have hgot := got_is kd sz rs
          have hrb := raw_byt HCY.out kd sz
          have CR := fun W hW => readp_c B1 c1 rs kd sz n s RA rx.length Rc hI HCY.out (by omega) hcc (by unfold maxLen; exact hcm) W hW
          generalize readR kd sz rs = r at hgot CR hrb
          obtain ⟨rn, rS, rraw, rsz, rf⟩ := r
          obtain ⟨q1, q2, q3, q4, q8, t, q5, q6, q7⟩ := hgot
          simp only at q1 q2 q3 q4 q5 q7 q8 CR hrb
          subst q5
          have CG := fun W (hW : Rdr W g A1 rs 0) => gotp_c g A1 rs 0 kd sz n s RA rx.length Rc hI W hW (by omega)
          generalize gotR kd sz rs 0 = gr at q1 q2 q3 q4 q7 q8 CG
          obtain ⟨gn, gs, graw, grest, gf⟩ := gr
          simp only at q1 q2 q3 q4 q7 q8 CG
          subst q1 q2 q3 q4
          have HCR := Lib.hid CR
          have HCG := Lib.hid CG
          clear CR CG
          have hgr : grest.length ≤ 200 := Nat.le_trans q8 hrl
          go_wp2_with fail
          obtain ⟨w3, hw3⟩ : ∃ w3 : World, w3 = wr.alloc (.cells #[.int .u64 0, .int .i64 0, .slice none 0 0, .int .i64 0, .int .i64 0] 43) := ⟨_, rfl⟩
          have x3 : Ext wr w3 := by rw [hw3]; exact (by repeat (first | (with_reducible exact Ext.refl _) | (with_reducible assumption) | (with_reducible refine Ext.alloc ?_ _) | (with_reducible refine Ext.drew ?_) | (with_reducible refine Ext.drewN ?_ _) | (with_reducible refine Ext.setCell ?_ (by simp; try omega) _) | (with_reducible refine Ext.setRow ?_ (by simp; try omega) _)))
          have P3 : At w3 wr.heap.size 43 #[.int .u64 0, .int .i64 0, .slice none 0 0, .int .i64 0, .int .i64 0] := by rw [hw3]; exact (by repeat (first | (with_reducible exact At.new _ _ _) | ((with_reducible refine At.new' _ _ _ _ ?_); simp; done) | (with_reducible assumption) | (with_reducible refine At.drew ?_) | (with_reducible refine At.alloc ?_ _) | (with_reducible apply At.upd) | (with_reducible apply At.setRow) | (with_reducible refine At.rowFar ?_ (by first | (simp; done) | (simp; omega) | omega) _) | ((with_reducible refine At.far ?_ (by first | (simp; done) | (simp; omega) | omega) _)) | (with_reducible rfl) | (simp; done)))
          rw [← hw3]
          clear hw3
          refine (HCR.out _ ((HSRC.out _ (hsr.ext (hx.trans x3))))).mono ?_
          rintro e w4 ⟨hx4, v4, rfl, R4, d4, rfl, S4⟩
          have P4 := P3.ext hx4
          have s4 := P4.lt
          have e4 := cellsAt_at P4
          have hs4 := (subAt_ext ((hx.trans x3).trans hx4) hb).trans hs
          have hbn : b ≠ wr.heap.size := by omega
          go_wp2_with fail
          obtain ⟨w5, hw5⟩ : ∃ w5 : World, w5 = w4.setRow wr.heap.size #[.int .u64 (gn : Int), .int .i64 gs, .slice R4 graw.length d4, .int .i64 (t : Int), .int .i64 gf] := ⟨_, rfl⟩
          have x5 : Ext wr w5 := by rw [hw5]; exact (x3.trans hx4).setRow (Nat.le_refl _) _
          have P5 : At w5 wr.heap.size 43 #[.int .u64 (gn : Int), .int .i64 gs, .slice R4 graw.length d4, .int .i64 (t : Int), .int .i64 gf] := by rw [hw5]; exact P4.setRow _
          rw [← hw5]
          clear hw5
          have e5 := cellsAt_at P5
          have s5 := P5.lt
          refine (HCG.out _ (hR.ext x5)).mono ?_
          rintro e w6 ⟨⟨v6, rfl, R6, d6, rfl, S6⟩, A6, hR6⟩
          have P6 := hR6.chg.at P5 (by simp; omega)
          have x6 : Ext w w6 := hR6.ext0 (hx.trans x5) hgG
          have hs6 := (subAt_ext x6 hb).trans hs
          have hb6 : b < w6.heap.size := Nat.lt_of_lt_of_le hb x6.size
          have s6 := P6.lt
          have e6 := cellsAt_at P6
          go_wp2_with fail
          obtain ⟨w7, hw7⟩ : ∃ w7 : World, w7 = w6.alloc (.cells #[.int .u64 (gn : Int), .int .i64 gs, .slice R6 graw.length d6, .int .i64 0, .int .i64 0] 43) := ⟨_, rfl⟩
          have x7 : Ext w6 w7 := by rw [hw7]; exact (by repeat (first | (with_reducible exact Ext.refl _) | (with_reducible assumption) | (with_reducible refine Ext.alloc ?_ _) | (with_reducible refine Ext.drew ?_) | (with_reducible refine Ext.drewN ?_ _) | (with_reducible refine Ext.setCell ?_ (by simp; try omega) _) | (with_reducible refine Ext.setRow ?_ (by simp; try omega) _)))
          have X7 : At w7 w6.heap.size 43 #[.int .u64 (gn : Int), .int .i64 gs, .slice R6 graw.length d6, .int .i64 0, .int .i64 0] := by rw [hw7]; exact (by repeat (first | (with_reducible exact At.new _ _ _) | ((with_reducible refine At.new' _ _ _ _ ?_); simp; done) | (with_reducible assumption) | (with_reducible refine At.drew ?_) | (with_reducible refine At.alloc ?_ _) | (with_reducible apply At.upd) | (with_reducible apply At.setRow) | (with_reducible refine At.rowFar ?_ (by first | (simp; done) | (simp; omega) | omega) _) | ((with_reducible refine At.far ?_ (by first | (simp; done) | (simp; omega) | omega) _)) | (with_reducible rfl) | (simp; done)))
          have P7 := P6.ext x7
          rw [← hw7]
          clear hw7
          refine (gotp_nil kd sz n s RA _ Rc _).mono ?_
          rintro e w8 ⟨hx8, v8, rfl, R8, d8, rfl, S8⟩
          have P8 := P7.ext hx8
          have X8 := X7.ext hx8
          have e8 := cellsAt_at P8
          have s8 := P8.lt
          have e8x := cellsAt_at X8
          have s8x := X8.lt
          have x8 := (x6.trans x7).trans hx8
          go_wp2_with fail
          obtain ⟨w9, hw9⟩ : ∃ w9 : World, w9 = w8.alloc (.cells #[.int .u64 0, .int .i64 0, .slice R8 0 d8, .int .i64 0, .int .i64 0] 43) := ⟨_, rfl⟩
          have x9 : Ext w8 w9 := by rw [hw9]; exact (by repeat (first | (with_reducible exact Ext.refl _) | (with_reducible assumption) | (with_reducible refine Ext.alloc ?_ _) | (with_reducible refine Ext.drew ?_) | (with_reducible refine Ext.drewN ?_ _) | (with_reducible refine Ext.setCell ?_ (by simp; try omega) _) | (with_reducible refine Ext.setRow ?_ (by simp; try omega) _)))
          have Y9 : At w9 w8.heap.size 43 #[.int .u64 0, .int .i64 0, .slice R8 0 d8, .int .i64 0, .int .i64 0] := by rw [hw9]; exact (by repeat (first | (with_reducible exact At.new _ _ _) | ((with_reducible refine At.new' _ _ _ _ ?_); simp; done) | (with_reducible assumption) | (with_reducible refine At.drew ?_) | (with_reducible refine At.alloc ?_ _) | (with_reducible apply At.upd) | (with_reducible apply At.setRow) | (with_reducible refine At.rowFar ?_ (by first | (simp; done) | (simp; omega) | omega) _) | ((with_reducible refine At.far ?_ (by first | (simp; done) | (simp; omega) | omega) _)) | (with_reducible rfl) | (simp; done)))
          have y9 := x8.trans x9
          rw [← hw9]
          clear hw9
          refine (same_c R6 R4 _ _ d6 d4 graw graw w9 (((S6.ext x7).ext hx8).ext x9) (S4 _ (HSRC.out _ (hsr.ext y9))) hrb hrb).mono ?_
          rintro e w10 ⟨rfl, hx10⟩
          have P10 := (P8.ext x9).ext hx10
          have X10 := (X8.ext x9).ext hx10
          have Y10 := Y9.ext hx10
          have e10 := cellsAt_at P10
          have e10x := cellsAt_at X10
          have e10y := cellsAt_at Y10
          have s10 := P10.lt
          have s10x := X10.lt
          have s10y := Y10.lt
          have hR10 := (((hR6.rd.ext x7).ext hx8).ext x9).ext hx10
          go_wp2_with fail
          refine (fault_c g A6 grest gf w10 hR10).mono ?_
          rintro e w11 ⟨rfl, hx11⟩
          have P11 := P10.ext hx11
          have X11 := X10.ext hx11
          have Y11 := Y10.ext hx11
          have e11 := cellsAt_at P11
          have e11x := cellsAt_at X11
          have e11y := cellsAt_at Y11
          have s11 := P11.lt
          have s11x := X11.lt
          have s11y := Y11.lt
          have hR11 := hR10.ext hx11
          have x11 := (y9.trans hx10).trans hx11
          by_cases hc0 : c1 - t = 0
          · by_cases hg0 : gf = 0
            · subst hg0
              have hlen : ((grest.length : Nat) : Int) = (rs.length : Int) - (t : Int) := by rw [q7 (by first | rfl | assumption), List.length_drop]; omega
              have HLEN := Lib.hid hlen
              clear hlen
              go_wp2_with fail
              refine (left_c g A6 _ _ w11 hR11).mono ?_
              rintro e w12 ⟨rfl, hx12⟩
              have HL2 := HLEN.out
              go_wp2_with fail
              go_roundw
              case rel => exact ⟨k + 1, A6, B1, rs.drop t, grest, 0, 0, by go_num, by omega, by rw [List.length_drop], rfl, fun x hx => HCY.out x (List.mem_of_mem_drop hx), by rw [List.length_drop]; omega, by omega, by rw [List.length_drop]; omega, fun W hW => by rw [List.length_drop]; exact (HSRC.out W hW).dropA q6 _ (fun h => by omega), hR11.ext hx12, hgr, fun h => q7 (by first | exact h | trivial), x11.trans hx12⟩
              case measure => simp [intOf]; omega
            · have hg1 : (gf == 0) = false := by simp [hg0]
              go_wp2_with fail
              go_roundw
              case rel => exact ⟨k + 1, A6, B1, rs.drop t, grest, 0, gf, by go_num, by omega, by rw [List.length_drop], rfl, fun x hx => HCY.out x (List.mem_of_mem_drop hx), by rw [List.length_drop]; omega, by omega, by rw [List.length_drop]; omega, fun W hW => by rw [List.length_drop]; exact (HSRC.out W hW).dropA q6 _ (fun h => by omega), hR11, hgr, fun h => q7 (by first | exact h | trivial), x11⟩
              case measure => simp [intOf]; omega
          · by_cases hg0 : gf = 0
            · subst hg0
              have hlen : ((grest.length : Nat) : Int) = (rs.length : Int) - (t : Int) := by rw [q7 (by first | rfl | assumption), List.length_drop]; omega
              have HLEN := Lib.hid hlen
              clear hlen
              go_wp2_with fail
              refine (left_c g A6 _ _ w11 hR11).mono ?_
              rintro e w12 ⟨rfl, hx12⟩
              have HL2 := HLEN.out
              go_wp2_with fail
              go_roundw
              case rel => exact ⟨k + 1, A6, B1.map (fun x => x.add t), rs.drop t, grest, c1 - t, 0, by go_num, by omega, by rw [List.length_drop], rfl, fun x hx => HCY.out x (List.mem_of_mem_drop hx), by rw [List.length_drop]; omega, by omega, by rw [List.length_drop]; omega, fun W hW => by rw [List.length_drop]; exact (HSRC.out W hW).dropA q6 _ (fun h => rfl), hR11.ext hx12, hgr, fun h => q7 (by first | exact h | trivial), x11.trans hx12⟩
              case measure => simp [intOf]; omega
            · have hg1 : (gf == 0) = false := by simp [hg0]
              go_wp2_with fail
              go_roundw
              case rel => exact ⟨k + 1, A6, B1.map (fun x => x.add t), rs.drop t, grest, c1 - t, gf, by go_num, by omega, by rw [List.length_drop], rfl, fun x hx => HCY.out x (List.mem_of_mem_drop hx), by rw [List.length_drop]; omega, by omega, by rw [List.length_drop]; omega, fun W hW => by rw [List.length_drop]; exact (HSRC.out W hW).dropA q6 _ (fun h => rfl), hR11, hgr, fun h => q7 (by first | exact h | trivial), x11⟩
              case measure => simp [intOf]; omega
        · clear hF
          have hrb : Byt [] := fun x hx => by cases hx
          have q6 : 0 ≤ cs.length := Nat.zero_le _
          have q7 : F = 0 → rs = cs.drop 0 := fun h => absurd h hF0
          have hF1 : (F == 0) = false := by simp [hF0]
          have CG := fun W (hW : Rdr W g A1 rs F) => gotp_c g A1 rs F kd sz n s RA rx.length Rc hI W hW (by omega)
          rw [got_bad kd sz rs F hF0] at CG
          simp only at CG
          have HCG := Lib.hid CG
          clear CG
          have hgr : rs.length ≤ 200 := hrl
          have S4 : ∀ W, Src W 1 B1 cs.length (bc cs) → Src W 1 none 0 (bc []) := fun W _ => ⟨rfl, fun h => absurd h (by decide)⟩
          go_wp2_with fail
          obtain ⟨w5, hw5⟩ : ∃ w5 : World, w5 = wr.alloc (.cells #[.int .u64 0, .int .i64 0, .slice none 0 0, .int .i64 0, .int .i64 0] 43) := ⟨_, rfl⟩
          have x5 : Ext wr w5 := by rw [hw5]; exact (by repeat (first | (with_reducible exact Ext.refl _) | (with_reducible assumption) | (with_reducible refine Ext.alloc ?_ _) | (with_reducible refine Ext.drew ?_) | (with_reducible refine Ext.drewN ?_ _) | (with_reducible refine Ext.setCell ?_ (by simp; try omega) _) | (with_reducible refine Ext.setRow ?_ (by simp; try omega) _)))
          have P5 : At w5 wr.heap.size 43 #[.int .u64 0, .int .i64 0, .slice none 0 0, .int .i64 0, .int .i64 0] := by rw [hw5]; exact (by repeat (first | (with_reducible exact At.new _ _ _) | ((with_reducible refine At.new' _ _ _ _ ?_); simp; done) | (with_reducible assumption) | (with_reducible refine At.drew ?_) | (with_reducible refine At.alloc ?_ _) | (with_reducible apply At.upd) | (with_reducible apply At.setRow) | (with_reducible refine At.rowFar ?_ (by first | (simp; done) | (simp; omega) | omega) _) | ((with_reducible refine At.far ?_ (by first | (simp; done) | (simp; omega) | omega) _)) | (with_reducible rfl) | (simp; done)))
          rw [← hw5]
          clear hw5
          have e5 := cellsAt_at P5
          have s5 := P5.lt
          refine (HCG.out _ (hR.ext x5)).mono ?_
          rintro e w6 ⟨⟨v6, rfl, R6, d6, rfl, S6⟩, A6, hR6⟩
          have P6 := hR6.chg.at P5 (by simp; omega)
          have x6 : Ext w w6 := hR6.ext0 (hx.trans x5) hgG
          have hs6 := (subAt_ext x6 hb).trans hs
          have hb6 : b < w6.heap.size := Nat.lt_of_lt_of_le hb x6.size
          have s6 := P6.lt
          have e6 := cellsAt_at P6
          go_wp2_with fail
          obtain ⟨w7, hw7⟩ : ∃ w7 : World, w7 = w6.alloc (.cells #[.int .u64 0, .int .i64 0, .slice R6 0 d6, .int .i64 0, .int .i64 0] 43) := ⟨_, rfl⟩
          have x7 : Ext w6 w7 := by rw [hw7]; exact (by repeat (first | (with_reducible exact Ext.refl _) | (with_reducible assumption) | (with_reducible refine Ext.alloc ?_ _) | (with_reducible refine Ext.drew ?_) | (with_reducible refine Ext.drewN ?_ _) | (with_reducible refine Ext.setCell ?_ (by simp; try omega) _) | (with_reducible refine Ext.setRow ?_ (by simp; try omega) _)))
          have X7 : At w7 w6.heap.size 43 #[.int .u64 0, .int .i64 0, .slice R6 0 d6, .int .i64 0, .int .i64 0] := by rw [hw7]; exact (by repeat (first | (with_reducible exact At.new _ _ _) | ((with_reducible refine At.new' _ _ _ _ ?_); simp; done) | (with_reducible assumption) | (with_reducible refine At.drew ?_) | (with_reducible refine At.alloc ?_ _) | (with_reducible apply At.upd) | (with_reducible apply At.setRow) | (with_reducible refine At.rowFar ?_ (by first | (simp; done) | (simp; omega) | omega) _) | ((with_reducible refine At.far ?_ (by first | (simp; done) | (simp; omega) | omega) _)) | (with_reducible rfl) | (simp; done)))
          have P7 := P6.ext x7
          rw [← hw7]
          clear hw7
          refine (gotp_nil kd sz n s RA _ Rc _).mono ?_
          rintro e w8 ⟨hx8, v8, rfl, R8, d8, rfl, S8⟩
          have P8 := P7.ext hx8
          have X8 := X7.ext hx8
          have e8 := cellsAt_at P8
          have s8 := P8.lt
          have e8x := cellsAt_at X8
          have s8x := X8.lt
          have x8 := (x6.trans x7).trans hx8
          go_wp2_with fail
          obtain ⟨w9, hw9⟩ : ∃ w9 : World, w9 = w8.alloc (.cells #[.int .u64 0, .int .i64 0, .slice R8 0 d8, .int .i64 0, .int .i64 0] 43) := ⟨_, rfl⟩
          have x9 : Ext w8 w9 := by rw [hw9]; exact (by repeat (first | (with_reducible exact Ext.refl _) | (with_reducible assumption) | (with_reducible refine Ext.alloc ?_ _) | (with_reducible refine Ext.drew ?_) | (with_reducible refine Ext.drewN ?_ _) | (with_reducible refine Ext.setCell ?_ (by simp; try omega) _) | (with_reducible refine Ext.setRow ?_ (by simp; try omega) _)))
          have Y9 : At w9 w8.heap.size 43 #[.int .u64 0, .int .i64 0, .slice R8 0 d8, .int .i64 0, .int .i64 0] := by rw [hw9]; exact (by repeat (first | (with_reducible exact At.new _ _ _) | ((with_reducible refine At.new' _ _ _ _ ?_); simp; done) | (with_reducible assumption) | (with_reducible refine At.drew ?_) | (with_reducible refine At.alloc ?_ _) | (with_reducible apply At.upd) | (with_reducible apply At.setRow) | (with_reducible refine At.rowFar ?_ (by first | (simp; done) | (simp; omega) | omega) _) | ((with_reducible refine At.far ?_ (by first | (simp; done) | (simp; omega) | omega) _)) | (with_reducible rfl) | (simp; done)))
          have y9 := x8.trans x9
          rw [← hw9]
          clear hw9
          refine (same_c R6 none _ _ d6 0 [] [] w9 (((S6.ext x7).ext hx8).ext x9) (S4 _ (HSRC.out _ (hsr.ext y9))) hrb hrb).mono ?_
          rintro e w10 ⟨rfl, hx10⟩
          have P10 := (P8.ext x9).ext hx10
          have X10 := (X8.ext x9).ext hx10
          have Y10 := Y9.ext hx10
          have e10 := cellsAt_at P10
          have e10x := cellsAt_at X10
          have e10y := cellsAt_at Y10
          have s10 := P10.lt
          have s10x := X10.lt
          have s10y := Y10.lt
          have hR10 := (((hR6.rd.ext x7).ext hx8).ext x9).ext hx10
          go_wp2_with fail
          refine (fault_c g A6 rs F w10 hR10).mono ?_
          rintro e w11 ⟨rfl, hx11⟩
          have P11 := P10.ext hx11
          have X11 := X10.ext hx11
          have Y11 := Y10.ext hx11
          have e11 := cellsAt_at P11
          have e11x := cellsAt_at X11
          have e11y := cellsAt_at Y11
          have s11 := P11.lt
          have s11x := X11.lt
          have s11y := Y11.lt
          have hR11 := hR10.ext hx11
          have x11 := (y9.trans hx10).trans hx11
          by_cases hc0 : c1 - 0 = 0
          · go_wp2_with fail
            go_roundw
            case rel => exact ⟨k + 1, A6, B1, cs, rs, 0, F, by go_num, by omega, rfl, rfl, HCY.out, by omega, by omega, hcl, HSRC.out, hR11, hgr, fun h => absurd h hF0, x11⟩
            case measure => simp [intOf]; omega
          · go_wp2_with fail
            go_roundw
            case rel => exact ⟨k + 1, A6, B1, cs, rs, c1, F, by go_num, by omega, rfl, rfl, HCY.out, by omega, by omega, hcl, HSRC.out, hR11, hgr, fun h => absurd h hF0, x11⟩
            case measure => simp [intOf]; omega
      · obtain rfl : k = l.length := by omega
        go_wp2_with fail
        refine (left_nil _).mono ?_
        rintro e w3 ⟨rfl, hx3⟩
        go_wp2_with fail
        refine (fault_nil _).mono ?_
        rintro e w4 ⟨rfl, hx4⟩
        go_wp2_with fail
        refine (alive_c _).mono ?_
        rintro e w5 ⟨rfl, hx5⟩
        go_wp2_with fail
        first | refine fin_ret rfl (fun K hK => ?_) | refine fin_norm rfl (fun K hK => ?_)
        simp [results, Try.results5, go_sem, rsat]
        try go_simp
        refine hK _ ?_
        clear hK K
        exact ⟨rfl, ((hx.trans hx3).trans hx4).trans hx5⟩
end Go.Proofs.Ytliccefjdieclaa
