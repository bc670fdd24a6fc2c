/- The document's Check of a configuration (layer 7). No condition. -/
import Derived.Test.YtfbpmngdamaobaaZ2
import Derived.Test.YtfbpmngdamaobaaR7
import Derived.LoopN
namespace Go.Proofs.Ytfbpmngdamaobaa
open Go.RowKit
attribute [local go_sem] Later.cell QUpon_value QUpon_enter MUpon_value
attribute [local go_sem ↓ high] loadSym_is storeSym_is loadCfg_is storeCfg_is
attribute [local go_sem] run_loadSym run_loadSym_at run_storeSym run_loadCfg run_loadCfg_at run_storeCfg one_int one_bool one_slice one_ptr one_str setRow_new setRow_past cell_ca frozen_ca cellsAt_alloc_at cellsAt_alloc_past cellsAt_drew cellsAt_later cellsAt_setCell cellsAt_set_same cellsAt_setRow_same cellsAt_setRow_far subAt_alloc subAt_drew subAt_later subAt_setCell subAt_setRow ltn_2 ltn_3 ltn_4 ltn_5
def restB (x : Cfg) : Bool := inr x.ix 1 1099511627776 && (inr x.f1 1 9999 && (inr x.f2 1 9999 && (inr x.f3 1 9999 && (decide (x.f1 < x.f2) && (decide (x.f2 < x.f3) && (inr x.h1 1 1099511627776 && inr x.h2 1 1099511627776))))))
theorem rest_is (x : Cfg) : restI x = if restB x = true then 0 else 9 := by
  unfold restI restB fallsB
  simp only [allB_inr, List.all_cons, List.all_nil, Bool.and_true]
  cases inr x.ix 1 1099511627776 <;> cases inr x.f1 1 9999 <;> cases inr x.f2 1 9999 <;> cases inr x.f3 1 9999 <;> cases decide (x.f1 < x.f2) <;> cases decide (x.f2 < x.f3) <;> cases inr x.h1 1 1099511627776 <;> cases inr x.h2 1 1099511627776 <;> rfl
theorem inr_if {n lo hi : Int} (h : lo ≤ n ∧ n ≤ hi) : inr n lo hi = true := by unfold inr; simp [h]
theorem inr_no {n lo hi : Int} (h : inr n lo hi = false) : ¬ (lo ≤ n ∧ n ≤ hi) := by unfold inr at h; simp at h; omega
set_option maxHeartbeats 8000000 in
set_option maxRecDepth 100000 in
theorem rcheck_c (x : Cfg) (w : World) (h : x.At w) : Calls Try.prog 10 #[.agg #[.slice x.A x.l.length x.c, .slice x.B x.t.length x.d, .int .i64 x.ix, .int .i64 x.f1, .int .i64 x.f2, .int .i64 x.f3, .int .i64 x.h1, .int .i64 x.h2]] w fun e w' => e = .returned (.tuple #[.int .i64 (checkI x).1, .int .i64 (checkI x).2]) ∧ Ext w w' := by
  have hlm : x.l.length ≤ 9223372036854775807 := by have := h.syms.le; have := h.syms.max; unfold maxLen at this; omega
  have htm : x.t.length ≤ 9223372036854775807 := by have := h.rows.le; have := h.rows.max; unfold maxLen at this; omega
  have iw0 : IntKind.i64.wrap 0 = 0 := by decide
  have iw1 : IntKind.i64.wrap 1 = 1 := by decide
  have iw2 : IntKind.i64.wrap 2 = 2 := by decide
  unfold checkI
  by_cases hn : 1 ≤ x.l.length ∧ x.l.length ≤ 8
  · rw [if_neg (by simpa using hn)]
    obtain ⟨hn1, hn2⟩ := hn
    obtain ⟨R, hR⟩ : ∃ R : Int × Int, R = (if (symsI x.l 0).1 ≠ 0 then symsI x.l 0 else if (tableI x.t).1 ≠ 0 then tableI x.t else (restI x, 0)) := ⟨_, rfl⟩
    rw [← hR]
    have HR := Lib.hid hR
    clear hR
    go_enter Try.func10, Try.ntmps10
    go_wp2_with fail
    go_loopw [4] (fun i wr => ∃ k : Nat, i = .int .i64 k ∧ k ≤ x.l.length ∧ Ext w wr ∧ At wr w.heap.size 27 #[.slice x.A x.l.length x.c, .slice x.B x.t.length x.d, .int .i64 x.ix, .int .i64 x.f1, .int .i64 x.f2, .int .i64 x.f3, .int .i64 x.h1, .int .i64 x.h2] ∧ symsI x.l 0 = symsI (x.l.drop k) k) (fun i _ => x.l.length - (intOf i).toNat)
    case atStart => exact ⟨0, rfl, by omega, (by repeat (first | (with_reducible exact Ext.refl _) | (with_reducible assumption) | (with_reducible refine Ext.alloc ?_ _) | (with_reducible refine Ext.drew ?_) | (with_reducible refine Ext.drewN ?_ _) | (with_reducible refine Ext.setCell ?_ (by simp; try omega) _) | (with_reducible refine Ext.setRow ?_ (by simp; try omega) _))), (by repeat (first | (with_reducible exact At.new _ _ _) | ((with_reducible refine At.new' _ _ _ _ ?_); simp; done) | (with_reducible assumption) | (with_reducible refine At.drew ?_) | (with_reducible refine At.alloc ?_ _) | (with_reducible apply At.upd) | (with_reducible apply At.setRow) | (with_reducible refine At.rowFar ?_ (by first | (simp; done) | (simp; omega) | omega) _) | ((with_reducible refine At.far ?_ (by first | (simp; done) | (simp; omega) | omega) _)) | (with_reducible rfl) | (simp; done))), rfl⟩
    case round =>
      obtain ⟨k, rfl, hk, hx, M2, hg⟩ := hrel
      by_cases hlt : k < x.l.length
      · obtain ⟨b, off, hA, hb, hs⟩ := h.syms.symAt k hlt
        have hbr : b < wr.heap.size := Nat.lt_of_lt_of_le hb hx.size
        have hs2 := (subAt_ext hx hb).trans hs
        rw [List.drop_eq_getElem_cons hlt, symsI] at hg
        have hsI := h.symI x.l[k] (List.getElem_mem _)
        generalize x.l[k] = s at hg hs hs2 hsI
        have hs3 : subAt wr b (off + k * 16) 16 = #[.int .i64 s.grid, .int .i64 s.ref, .int .i64 s.stat, .int .i64 s.dyn, .int .i64 s.win, .int .i64 s.move, .int .i64 s.lim, .int .i64 s.pause, .int .i64 s.ext, .int .i64 s.mx, .int .i64 s.coll, .int .i64 s.wid, .int .i64 s.self, .int .i64 s.slots, .int .i64 s.lev, .int .i64 s.short] := hs2
        have CS := rsymbol_c s hsI
        unfold symV symC at CS
        generalize symI s = si at CS hg
        rw [hA] at M2 ⊢
        have e2 := cellsAt_at M2
        have s2 := M2.lt
        have HCS := Lib.hid CS
        clear CS hs2 hs
        by_cases hsi : si = 0
        · rw [if_pos hsi] at hg
          have HG := Lib.hid hg
          subst hsi
          clear hg
          go_wp2_with fail
          refine (HCS.out _).mono ?_
          rintro e w2 ⟨rfl, hx2⟩
          have x2 : Ext wr w2 := hx2
          have M3 := M2.ext x2
          go_wp2_with fail
          go_roundw
          case rel => exact ⟨k + 1, by go_num, by omega, hx.trans x2, M3, HG.out⟩
          case measure => simp [intOf]; omega
        · rw [if_neg hsi] at hg
          have HG := Lib.hid hg
          have hsb : (si != 0) = true := bne_iff_ne.2 hsi
          have HSI := Lib.hid hsi
          clear hg hsi
          go_wp2_with fail
          refine (HCS.out _).mono ?_
          rintro e w2 ⟨rfl, hx2⟩
          go_wp2_with fail
          first | refine fin_ret rfl (fun K hK => ?_) | refine fin_norm rfl (fun K hK => ?_)
          simp [results, Try.results10, go_sem, rsat]
          try go_simp
          refine hK _ ?_
          clear hK K
          have hr : R = (si, (k : Int)) := by rw [HR.out, HG.out]; exact if_pos HSI.out
          rw [hr]
          exact ⟨rfl, hx.trans hx2⟩
      · obtain rfl : k = x.l.length := by omega
        rw [List.drop_length, symsI] at hg
        have hr1 : R = (if (tableI x.t).1 ≠ 0 then tableI x.t else (restI x, 0)) := by rw [HR.out, hg]; rfl
        have HR1 := Lib.hid hr1
        clear hg hr1
        have e2 := cellsAt_at M2
        have s2 := M2.lt
        by_cases ht1 : 1 ≤ x.t.length ∧ x.t.length ≤ 20
        · obtain ⟨ht1, ht2⟩ := ht1
          have htt : tableI x.t = tabI x.t (-1) 0 := by unfold tableI; rw [if_neg (by simp; omega)]
          have hr2 : R = (if (tabI x.t (-1) 0).1 ≠ 0 then tabI x.t (-1) 0 else (restI x, 0)) := by rw [HR1.out, htt]
          have HR2 := Lib.hid hr2
          clear hr2 htt
          go_wp2_with fail
          go_loopw [6] (fun i wq => ∃ (k : Nat) (last : Int), i = .int .i64 k ∧ k ≤ x.t.length ∧ Ext w wq ∧ At wq w.heap.size 27 #[.slice x.A x.l.length x.c, .slice x.B x.t.length x.d, .int .i64 x.ix, .int .i64 x.f1, .int .i64 x.f2, .int .i64 x.f3, .int .i64 x.h1, .int .i64 x.h2] ∧ tabI x.t (-1) 0 = tabI (x.t.drop k) last k ∧ ((k = 0 ∧ last = -1) ∨ (∃ h : 0 < k ∧ k - 1 < x.t.length, last = (x.t[k - 1]'h.2).tick ∧ 0 ≤ last))) (fun i _ => x.t.length - (intOf i).toNat)
          case atStart => exact ⟨0, -1, rfl, by omega, hx, M2, rfl, .inl ⟨rfl, rfl⟩⟩
          case round =>
            obtain ⟨k, last, rfl, hk, hx3, M3, hg, hlast⟩ := hrel
            have e3 := cellsAt_at M3
            have s3 := M3.lt
            by_cases hlt : k < x.t.length
            · obtain ⟨b, off, hB, hb, c0, c1⟩ := h.rows.rowAt k hlt
              have hb3 : b < wr.heap.size := Nat.lt_of_lt_of_le hb hx3.size
              have d0 := (hx3.facts.1 _ _ hb).trans c0
              have d1 := (hx3.facts.1 _ _ hb).trans c1
              rw [List.drop_eq_getElem_cons hlt, tabI] at hg
              have hrI := (h.rowI x.t[k] (List.getElem_mem _)).tick
              generalize hr0 : x.t[k] = r0 at hg d0 d1 hrI
              obtain ⟨rt, rp⟩ := r0
              simp only at hg d0 d1 hrI
              have HR0 := Lib.hid hr0
              rw [hB] at M3 e3 ⊢
              clear c0 c1 hr0
              have hlast2 : -1 ≤ last := by rcases hlast with ⟨_, h1⟩ | ⟨_, _, h1⟩ <;> omega
              by_cases hti : 0 ≤ rt ∧ rt ≤ 1125899906842624
              · have CI := rin7_c rt 0 1125899906842624
                rw [inr_if hti] at CI
                have HCI := Lib.hid CI
                clear CI
                by_cases hk0 : k = 0
                · subst hk0
                  have hl0 : last = -1 := by rcases hlast with ⟨_, h1⟩ | ⟨h1, _⟩; exact h1; omega
                  rw [if_neg (by omega)] at hg
                  clear hlast hl0
                  simp only [Nat.zero_mul, Nat.add_zero] at d0 d1
                  by_cases hp : 0 ≤ rp ∧ rp ≤ 2
                  · have CP := rin7_c rp 0 2
                    rw [inr_if hp] at CP
                    have HCP := Lib.hid CP
                    rw [if_neg (by simpa using hp)] at hg
                    have HG := Lib.hid hg
                    clear CP hg hp
                    go_wp2_with fail
                    refine wp_region_x 28 [0, 1, 0, 0, 0, 1, 1, 0, 0, 0, 0, 0, 0, 1, 0, 0, 0, 1, 0, 1, 0, 0, 0, 0, 1, 0, 0, 0] (by kernel_rfl) (by kernel_rfl) (by kernel_rfl) ?_
                    simp only [List.take_succ_cons, List.take_zero, List.drop_succ_cons, List.drop_zero]
                    refine hl_pure (fun K hK => ?_)
                    go_simp
                    refine hK _ ?_
                    clear hK K
                    refine hl_quiet (fun K hK => ?_)
                    go_simp
                    refine hK _ ?_
                    clear hK K
                    refine hl_pure (fun K hK => ?_)
                    go_simp
                    refine hK _ ?_
                    clear hK K
                    refine hl_pure (fun K hK => ?_)
                    go_simp
                    refine hK _ ?_
                    clear hK K
                    refine hl_pure (fun K hK => ?_)
                    go_simp
                    refine hK _ ?_
                    clear hK K
                    refine hl_quiet (fun K hK => ?_)
                    go_simp
                    refine hK _ ?_
                    clear hK K
                    refine hl_quiet (fun K hK => ?_)
                    go_simp
                    first
                      | (refine hK _ ?_; clear hK K)
                      | (apply Exists.intro; refine ⟨fun x => ?_, hK _ ?_⟩
                         · (exact HCI.out _)
                         clear hK K)
                    refine hl_pure (fun K hK => ?_)
                    go_simp
                    refine hK _ ?_
                    clear hK K
                    refine hl_pure (fun K hK => ?_)
                    go_simp
                    refine hK _ ?_
                    clear hK K
                    refine hl_pure (fun K hK => ?_)
                    go_simp
                    refine hK _ ?_
                    clear hK K
                    refine hl_pure (fun K hK => ?_)
                    go_simp
                    refine hK _ ?_
                    clear hK K
                    refine hl_pure (fun K hK => ?_)
                    go_simp
                    refine hK _ ?_
                    clear hK K
                    refine hl_pure (fun K hK => ?_)
                    go_simp
                    refine hK _ ?_
                    clear hK K
                    refine hl_quiet (fun K hK => ?_)
                    go_simp
                    refine hK _ ?_
                    clear hK K
                    refine hl_pure (fun K hK => ?_)
                    go_simp
                    refine hK _ ?_
                    clear hK K
                    refine hl_pure (fun K hK => ?_)
                    go_simp
                    refine hK _ ?_
                    clear hK K
                    refine hl_pure (fun K hK => ?_)
                    go_simp
                    refine hK _ ?_
                    clear hK K
                    refine hl_quiet (fun K hK => ?_)
                    go_simp
                    refine hK _ ?_
                    clear hK K
                    refine hl_pure (fun K hK => ?_)
                    go_simp
                    refine hK _ ?_
                    clear hK K
                    refine hl_quiet (fun K hK => ?_)
                    go_simp
                    refine hK _ ?_
                    clear hK K
                    refine hl_pure (fun K hK => ?_)
                    go_simp
                    refine hK _ ?_
                    clear hK K
                    refine hl_pure (fun K hK => ?_)
                    go_simp
                    refine hK _ ?_
                    clear hK K
                    refine hl_pure (fun K hK => ?_)
                    go_simp
                    refine hK _ ?_
                    clear hK K
                    refine hl_pure (fun K hK => ?_)
                    go_simp
                    refine hK _ ?_
                    clear hK K
                    refine hl_quiet (fun K hK => ?_)
                    go_simp
                    refine hK _ ?_
                    clear hK K
                    refine hl_pure (fun K hK => ?_)
                    go_simp
                    refine hK _ ?_
                    clear hK K
                    refine hl_pure (fun K hK => ?_)
                    go_simp
                    refine hK _ ?_
                    clear hK K
                    refine hl_pure (fun K hK => ?_)
                    go_simp
                    refine hK _ ?_
                    clear hK K
                    refine hl_nil ?_
                    intro w4 y4 K hK
                    have M4 := M3.ext y4
                    have e4 := cellsAt_at M4
                    have s4 := M4.lt
                    have d04 := (y4.facts.1 _ _ hb3).trans d0
                    have d14 := (y4.facts.1 _ _ hb3).trans d1
                    have hb4 := Nat.lt_of_lt_of_le hb3 y4.size
                    go_wp2_with fail
                    refine (HCP.out _).mono ?_
                    rintro e w5 ⟨rfl, hx5⟩
                    go_wp2_with fail
                    go_roundw
                    case rel => exact ⟨0 + 1, rt, by go_num, by omega, (hx3.trans y4).trans hx5, M4.ext hx5, HG.out, .inr ⟨⟨by omega, by omega⟩, by simp only [Nat.add_sub_cancel]; rw [HR0.out], hti.1⟩⟩
                    case measure => simp [intOf]; omega
                  · have CP := rin7_c rp 0 2
                    rw [show inr rp 0 2 = false by cases hq : inr rp 0 2; rfl; exact absurd (inr_of hq) hp] at CP
                    have HCP := Lib.hid CP
                    rw [if_pos (by simpa using hp)] at hg
                    have hr9 : R = (10, (((0 : Nat) : Int) : Int)) := by rw [HR2.out, hg]; rfl
                    have HG := Lib.hid hr9
                    clear CP hg hp hr9
                    go_wp2_with fail
                    refine wp_region_x 28 [0, 1, 0, 0, 0, 1, 1, 0, 0, 0, 0, 0, 0, 1, 0, 0, 0, 1, 0, 1, 0, 0, 0, 0, 1, 0, 0, 0] (by kernel_rfl) (by kernel_rfl) (by kernel_rfl) ?_
                    simp only [List.take_succ_cons, List.take_zero, List.drop_succ_cons, List.drop_zero]
                    refine hl_pure (fun K hK => ?_)
                    go_simp
                    refine hK _ ?_
                    clear hK K
                    refine hl_quiet (fun K hK => ?_)
                    go_simp
                    refine hK _ ?_
                    clear hK K
                    refine hl_pure (fun K hK => ?_)
                    go_simp
                    refine hK _ ?_
                    clear hK K
                    refine hl_pure (fun K hK => ?_)
                    go_simp
                    refine hK _ ?_
                    clear hK K
                    refine hl_pure (fun K hK => ?_)
                    go_simp
                    refine hK _ ?_
                    clear hK K
                    refine hl_quiet (fun K hK => ?_)
                    go_simp
                    refine hK _ ?_
                    clear hK K
                    refine hl_quiet (fun K hK => ?_)
                    go_simp
                    first
                      | (refine hK _ ?_; clear hK K)
                      | (apply Exists.intro; refine ⟨fun x => ?_, hK _ ?_⟩
                         · (exact HCI.out _)
                         clear hK K)
                    refine hl_pure (fun K hK => ?_)
                    go_simp
                    refine hK _ ?_
                    clear hK K
                    refine hl_pure (fun K hK => ?_)
                    go_simp
                    refine hK _ ?_
                    clear hK K
                    refine hl_pure (fun K hK => ?_)
                    go_simp
                    refine hK _ ?_
                    clear hK K
                    refine hl_pure (fun K hK => ?_)
                    go_simp
                    refine hK _ ?_
                    clear hK K
                    refine hl_pure (fun K hK => ?_)
                    go_simp
                    refine hK _ ?_
                    clear hK K
                    refine hl_pure (fun K hK => ?_)
                    go_simp
                    refine hK _ ?_
                    clear hK K
                    refine hl_quiet (fun K hK => ?_)
                    go_simp
                    refine hK _ ?_
                    clear hK K
                    refine hl_pure (fun K hK => ?_)
                    go_simp
                    refine hK _ ?_
                    clear hK K
                    refine hl_pure (fun K hK => ?_)
                    go_simp
                    refine hK _ ?_
                    clear hK K
                    refine hl_pure (fun K hK => ?_)
                    go_simp
                    refine hK _ ?_
                    clear hK K
                    refine hl_quiet (fun K hK => ?_)
                    go_simp
                    refine hK _ ?_
                    clear hK K
                    refine hl_pure (fun K hK => ?_)
                    go_simp
                    refine hK _ ?_
                    clear hK K
                    refine hl_quiet (fun K hK => ?_)
                    go_simp
                    refine hK _ ?_
                    clear hK K
                    refine hl_pure (fun K hK => ?_)
                    go_simp
                    refine hK _ ?_
                    clear hK K
                    refine hl_pure (fun K hK => ?_)
                    go_simp
                    refine hK _ ?_
                    clear hK K
                    refine hl_pure (fun K hK => ?_)
                    go_simp
                    refine hK _ ?_
                    clear hK K
                    refine hl_pure (fun K hK => ?_)
                    go_simp
                    refine hK _ ?_
                    clear hK K
                    refine hl_quiet (fun K hK => ?_)
                    go_simp
                    refine hK _ ?_
                    clear hK K
                    refine hl_pure (fun K hK => ?_)
                    go_simp
                    refine hK _ ?_
                    clear hK K
                    refine hl_pure (fun K hK => ?_)
                    go_simp
                    refine hK _ ?_
                    clear hK K
                    refine hl_pure (fun K hK => ?_)
                    go_simp
                    refine hK _ ?_
                    clear hK K
                    refine hl_nil ?_
                    intro w4 y4 K hK
                    have M4 := M3.ext y4
                    have e4 := cellsAt_at M4
                    have s4 := M4.lt
                    have d04 := (y4.facts.1 _ _ hb3).trans d0
                    have d14 := (y4.facts.1 _ _ hb3).trans d1
                    have hb4 := Nat.lt_of_lt_of_le hb3 y4.size
                    go_wp2_with fail
                    refine (HCP.out _).mono ?_
                    rintro e w5 ⟨rfl, hx5⟩
                    go_wp2_with fail
                    first | refine fin_ret rfl (fun K hK => ?_) | refine fin_norm rfl (fun K hK => ?_)
                    simp [results, Try.results10, go_sem, rsat]
                    try go_simp
                    refine hK _ ?_
                    clear hK K
                    rw [HG.out]
                    exact ⟨rfl, (hx3.trans y4).trans hx5⟩
                · obtain ⟨j, rfl⟩ : ∃ j, k = j + 1 := ⟨k - 1, by omega⟩
                  have hlp : last = (x.t[j]'(by omega)).tick := by rcases hlast with ⟨h1, _⟩ | ⟨_, h1, _⟩; omega; exact h1
                  obtain ⟨b', off', hB', _, p0, _⟩ := h.rows.rowAt j (by omega)
                  rw [hB] at hB'
                  injection hB' with hB'
                  injection hB' with hb1 hb2
                  subst hb1 hb2
                  have p3 := (hx3.facts.1 _ _ hb).trans p0
                  rw [← hlp] at p3
                  have hlI := (h.rowI (x.t[j]'(by omega)) (List.getElem_mem _)).tick
                  rw [← hlp] at hlI
                  unfold I64 at hlI
                  have hjw : IntKind.i64.wrap (j : Int) = (j : Int) := by rw [IntWalk.i64_left, wrap64_in ⟨by omega, by omega⟩]
                  have hjr : (0 : Int) ≤ (j : Int) ∧ (j : Int) < (x.t.length : Int) := by omega
                  have hjp : (0 : Int) < (j : Int) + 1 := by omega
                  have hj1 : (0 : Int) ≤ (j : Int) + 1 := by omega
                  clear hlast hlp p0
                  by_cases hle : rt ≤ last
                  · rw [if_pos (.inl hle)] at hg
                    have hr9 : R = (9, ((j + 1 : Nat) : Int)) := by rw [HR2.out, hg]; rfl
                    have HG := Lib.hid hr9
                    clear hg hr9
                    go_wp2_with fail
                    refine wp_region_x 28 [0, 1, 0, 0, 0, 1, 1, 0, 0, 0, 0, 0, 0, 1, 0, 0, 0, 1, 0, 1, 0, 0, 0, 0, 1, 0, 0, 0] (by kernel_rfl) (by kernel_rfl) (by kernel_rfl) ?_
                    simp only [List.take_succ_cons, List.take_zero, List.drop_succ_cons, List.drop_zero]
                    refine hl_pure (fun K hK => ?_)
                    go_simp
                    refine hK _ ?_
                    clear hK K
                    refine hl_quiet (fun K hK => ?_)
                    go_simp
                    refine hK _ ?_
                    clear hK K
                    refine hl_pure (fun K hK => ?_)
                    go_simp
                    refine hK _ ?_
                    clear hK K
                    refine hl_pure (fun K hK => ?_)
                    go_simp
                    refine hK _ ?_
                    clear hK K
                    refine hl_pure (fun K hK => ?_)
                    go_simp
                    refine hK _ ?_
                    clear hK K
                    refine hl_quiet (fun K hK => ?_)
                    go_simp
                    refine hK _ ?_
                    clear hK K
                    refine hl_quiet (fun K hK => ?_)
                    go_simp
                    first
                      | (refine hK _ ?_; clear hK K)
                      | (apply Exists.intro; refine ⟨fun x => ?_, hK _ ?_⟩
                         · (exact HCI.out _)
                         clear hK K)
                    refine hl_pure (fun K hK => ?_)
                    go_simp
                    refine hK _ ?_
                    clear hK K
                    refine hl_pure (fun K hK => ?_)
                    go_simp
                    refine hK _ ?_
                    clear hK K
                    refine hl_pure (fun K hK => ?_)
                    go_simp
                    refine hK _ ?_
                    clear hK K
                    refine hl_pure (fun K hK => ?_)
                    go_simp
                    refine hK _ ?_
                    clear hK K
                    refine hl_pure (fun K hK => ?_)
                    go_simp
                    refine hK _ ?_
                    clear hK K
                    refine hl_pure (fun K hK => ?_)
                    go_simp
                    refine hK _ ?_
                    clear hK K
                    refine hl_quiet (fun K hK => ?_)
                    go_simp
                    refine hK _ ?_
                    clear hK K
                    refine hl_pure (fun K hK => ?_)
                    go_simp
                    refine hK _ ?_
                    clear hK K
                    refine hl_pure (fun K hK => ?_)
                    go_simp
                    refine hK _ ?_
                    clear hK K
                    refine hl_pure (fun K hK => ?_)
                    go_simp
                    refine hK _ ?_
                    clear hK K
                    refine hl_quiet (fun K hK => ?_)
                    go_simp
                    refine hK _ ?_
                    clear hK K
                    refine hl_pure (fun K hK => ?_)
                    go_simp
                    refine hK _ ?_
                    clear hK K
                    refine hl_quiet (fun K hK => ?_)
                    go_simp
                    refine hK _ ?_
                    clear hK K
                    refine hl_pure (fun K hK => ?_)
                    go_simp
                    refine hK _ ?_
                    clear hK K
                    refine hl_pure (fun K hK => ?_)
                    go_simp
                    refine hK _ ?_
                    clear hK K
                    refine hl_pure (fun K hK => ?_)
                    go_simp
                    refine hK _ ?_
                    clear hK K
                    refine hl_pure (fun K hK => ?_)
                    go_simp
                    refine hK _ ?_
                    clear hK K
                    refine hl_quiet (fun K hK => ?_)
                    go_simp
                    refine hK _ ?_
                    clear hK K
                    refine hl_pure (fun K hK => ?_)
                    go_simp
                    refine hK _ ?_
                    clear hK K
                    refine hl_pure (fun K hK => ?_)
                    go_simp
                    refine hK _ ?_
                    clear hK K
                    refine hl_pure (fun K hK => ?_)
                    go_simp
                    refine hK _ ?_
                    clear hK K
                    refine hl_nil ?_
                    intro w4 y4 K hK
                    go_wp2_with fail
                    first | refine fin_ret rfl (fun K hK => ?_) | refine fin_norm rfl (fun K hK => ?_)
                    simp [results, Try.results10, go_sem, rsat]
                    try go_simp
                    refine hK _ ?_
                    clear hK K
                    rw [HG.out]
                    exact ⟨rfl, hx3.trans y4⟩
                  · rw [if_neg (by omega)] at hg
                    have hle2 : last < rt := by omega
                    by_cases hp : 0 ≤ rp ∧ rp ≤ 2
                    · have CP := rin7_c rp 0 2
                      rw [inr_if hp] at CP
                      have HCP := Lib.hid CP
                      rw [if_neg (by simpa using hp)] at hg
                      have HG := Lib.hid hg
                      clear CP hg hp
                      go_wp2_with fail
                      refine wp_region_x 28 [0, 1, 0, 0, 0, 1, 1, 0, 0, 0, 0, 0, 0, 1, 0, 0, 0, 1, 0, 1, 0, 0, 0, 0, 1, 0, 0, 0] (by kernel_rfl) (by kernel_rfl) (by kernel_rfl) ?_
                      simp only [List.take_succ_cons, List.take_zero, List.drop_succ_cons, List.drop_zero]
                      refine hl_pure (fun K hK => ?_)
                      go_simp
                      refine hK _ ?_
                      clear hK K
                      refine hl_quiet (fun K hK => ?_)
                      go_simp
                      refine hK _ ?_
                      clear hK K
                      refine hl_pure (fun K hK => ?_)
                      go_simp
                      refine hK _ ?_
                      clear hK K
                      refine hl_pure (fun K hK => ?_)
                      go_simp
                      refine hK _ ?_
                      clear hK K
                      refine hl_pure (fun K hK => ?_)
                      go_simp
                      refine hK _ ?_
                      clear hK K
                      refine hl_quiet (fun K hK => ?_)
                      go_simp
                      refine hK _ ?_
                      clear hK K
                      refine hl_quiet (fun K hK => ?_)
                      go_simp
                      first
                        | (refine hK _ ?_; clear hK K)
                        | (apply Exists.intro; refine ⟨fun x => ?_, hK _ ?_⟩
                           · (exact HCI.out _)
                           clear hK K)
                      refine hl_pure (fun K hK => ?_)
                      go_simp
                      refine hK _ ?_
                      clear hK K
                      refine hl_pure (fun K hK => ?_)
                      go_simp
                      refine hK _ ?_
                      clear hK K
                      refine hl_pure (fun K hK => ?_)
                      go_simp
                      refine hK _ ?_
                      clear hK K
                      refine hl_pure (fun K hK => ?_)
                      go_simp
                      refine hK _ ?_
                      clear hK K
                      refine hl_pure (fun K hK => ?_)
                      go_simp
                      refine hK _ ?_
                      clear hK K
                      refine hl_pure (fun K hK => ?_)
                      go_simp
                      refine hK _ ?_
                      clear hK K
                      refine hl_quiet (fun K hK => ?_)
                      go_simp
                      refine hK _ ?_
                      clear hK K
                      refine hl_pure (fun K hK => ?_)
                      go_simp
                      refine hK _ ?_
                      clear hK K
                      refine hl_pure (fun K hK => ?_)
                      go_simp
                      refine hK _ ?_
                      clear hK K
                      refine hl_pure (fun K hK => ?_)
                      go_simp
                      refine hK _ ?_
                      clear hK K
                      refine hl_quiet (fun K hK => ?_)
                      go_simp
                      refine hK _ ?_
                      clear hK K
                      refine hl_pure (fun K hK => ?_)
                      go_simp
                      refine hK _ ?_
                      clear hK K
                      refine hl_quiet (fun K hK => ?_)
                      go_simp
                      refine hK _ ?_
                      clear hK K
                      refine hl_pure (fun K hK => ?_)
                      go_simp
                      refine hK _ ?_
                      clear hK K
                      refine hl_pure (fun K hK => ?_)
                      go_simp
                      refine hK _ ?_
                      clear hK K
                      refine hl_pure (fun K hK => ?_)
                      go_simp
                      refine hK _ ?_
                      clear hK K
                      refine hl_pure (fun K hK => ?_)
                      go_simp
                      refine hK _ ?_
                      clear hK K
                      refine hl_quiet (fun K hK => ?_)
                      go_simp
                      refine hK _ ?_
                      clear hK K
                      refine hl_pure (fun K hK => ?_)
                      go_simp
                      refine hK _ ?_
                      clear hK K
                      refine hl_pure (fun K hK => ?_)
                      go_simp
                      refine hK _ ?_
                      clear hK K
                      refine hl_pure (fun K hK => ?_)
                      go_simp
                      refine hK _ ?_
                      clear hK K
                      refine hl_nil ?_
                      intro w4 y4 K hK
                      have M4 := M3.ext y4
                      have e4 := cellsAt_at M4
                      have s4 := M4.lt
                      have d04 := (y4.facts.1 _ _ hb3).trans d0
                      have d14 := (y4.facts.1 _ _ hb3).trans d1
                      have hb4 := Nat.lt_of_lt_of_le hb3 y4.size
                      go_wp2_with fail
                      refine (HCP.out _).mono ?_
                      rintro e w5 ⟨rfl, hx5⟩
                      go_wp2_with fail
                      go_roundw
                      case rel => exact ⟨(j + 1) + 1, rt, by go_num, by omega, (hx3.trans y4).trans hx5, M4.ext hx5, HG.out, .inr ⟨⟨by omega, by omega⟩, by simp only [Nat.add_sub_cancel]; rw [HR0.out], hti.1⟩⟩
                      case measure => simp [intOf]; omega
                    · have CP := rin7_c rp 0 2
                      rw [show inr rp 0 2 = false by cases hq : inr rp 0 2; rfl; exact absurd (inr_of hq) hp] at CP
                      have HCP := Lib.hid CP
                      rw [if_pos (by simpa using hp)] at hg
                      have hr9 : R = (10, ((((j + 1) : Nat) : Int) : Int)) := by rw [HR2.out, hg]; rfl
                      have HG := Lib.hid hr9
                      clear CP hg hp hr9
                      go_wp2_with fail
                      refine wp_region_x 28 [0, 1, 0, 0, 0, 1, 1, 0, 0, 0, 0, 0, 0, 1, 0, 0, 0, 1, 0, 1, 0, 0, 0, 0, 1, 0, 0, 0] (by kernel_rfl) (by kernel_rfl) (by kernel_rfl) ?_
                      simp only [List.take_succ_cons, List.take_zero, List.drop_succ_cons, List.drop_zero]
                      refine hl_pure (fun K hK => ?_)
                      go_simp
                      refine hK _ ?_
                      clear hK K
                      refine hl_quiet (fun K hK => ?_)
                      go_simp
                      refine hK _ ?_
                      clear hK K
                      refine hl_pure (fun K hK => ?_)
                      go_simp
                      refine hK _ ?_
                      clear hK K
                      refine hl_pure (fun K hK => ?_)
                      go_simp
                      refine hK _ ?_
                      clear hK K
                      refine hl_pure (fun K hK => ?_)
                      go_simp
                      refine hK _ ?_
                      clear hK K
                      refine hl_quiet (fun K hK => ?_)
                      go_simp
                      refine hK _ ?_
                      clear hK K
                      refine hl_quiet (fun K hK => ?_)
                      go_simp
                      first
                        | (refine hK _ ?_; clear hK K)
                        | (apply Exists.intro; refine ⟨fun x => ?_, hK _ ?_⟩
                           · (exact HCI.out _)
                           clear hK K)
                      refine hl_pure (fun K hK => ?_)
                      go_simp
                      refine hK _ ?_
                      clear hK K
                      refine hl_pure (fun K hK => ?_)
                      go_simp
                      refine hK _ ?_
                      clear hK K
                      refine hl_pure (fun K hK => ?_)
                      go_simp
                      refine hK _ ?_
                      clear hK K
                      refine hl_pure (fun K hK => ?_)
                      go_simp
                      refine hK _ ?_
                      clear hK K
                      refine hl_pure (fun K hK => ?_)
                      go_simp
                      refine hK _ ?_
                      clear hK K
                      refine hl_pure (fun K hK => ?_)
                      go_simp
                      refine hK _ ?_
                      clear hK K
                      refine hl_quiet (fun K hK => ?_)
                      go_simp
                      refine hK _ ?_
                      clear hK K
                      refine hl_pure (fun K hK => ?_)
                      go_simp
                      refine hK _ ?_
                      clear hK K
                      refine hl_pure (fun K hK => ?_)
                      go_simp
                      refine hK _ ?_
                      clear hK K
                      refine hl_pure (fun K hK => ?_)
                      go_simp
                      refine hK _ ?_
                      clear hK K
                      refine hl_quiet (fun K hK => ?_)
                      go_simp
                      refine hK _ ?_
                      clear hK K
                      refine hl_pure (fun K hK => ?_)
                      go_simp
                      refine hK _ ?_
                      clear hK K
                      refine hl_quiet (fun K hK => ?_)
                      go_simp
                      refine hK _ ?_
                      clear hK K
                      refine hl_pure (fun K hK => ?_)
                      go_simp
                      refine hK _ ?_
                      clear hK K
                      refine hl_pure (fun K hK => ?_)
                      go_simp
                      refine hK _ ?_
                      clear hK K
                      refine hl_pure (fun K hK => ?_)
                      go_simp
                      refine hK _ ?_
                      clear hK K
                      refine hl_pure (fun K hK => ?_)
                      go_simp
                      refine hK _ ?_
                      clear hK K
                      refine hl_quiet (fun K hK => ?_)
                      go_simp
                      refine hK _ ?_
                      clear hK K
                      refine hl_pure (fun K hK => ?_)
                      go_simp
                      refine hK _ ?_
                      clear hK K
                      refine hl_pure (fun K hK => ?_)
                      go_simp
                      refine hK _ ?_
                      clear hK K
                      refine hl_pure (fun K hK => ?_)
                      go_simp
                      refine hK _ ?_
                      clear hK K
                      refine hl_nil ?_
                      intro w4 y4 K hK
                      have M4 := M3.ext y4
                      have e4 := cellsAt_at M4
                      have s4 := M4.lt
                      have d04 := (y4.facts.1 _ _ hb3).trans d0
                      have d14 := (y4.facts.1 _ _ hb3).trans d1
                      have hb4 := Nat.lt_of_lt_of_le hb3 y4.size
                      go_wp2_with fail
                      refine (HCP.out _).mono ?_
                      rintro e w5 ⟨rfl, hx5⟩
                      go_wp2_with fail
                      first | refine fin_ret rfl (fun K hK => ?_) | refine fin_norm rfl (fun K hK => ?_)
                      simp [results, Try.results10, go_sem, rsat]
                      try go_simp
                      refine hK _ ?_
                      clear hK K
                      rw [HG.out]
                      exact ⟨rfl, (hx3.trans y4).trans hx5⟩
              · have CI := rin7_c rt 0 1125899906842624
                rw [show inr rt 0 1125899906842624 = false by cases hq : inr rt 0 1125899906842624; rfl; exact absurd (inr_of hq) hti] at CI
                have HCI := Lib.hid CI
                rw [if_pos (by omega)] at hg
                clear CI hlast
                have hr9 : R = (9, ((k : Nat) : Int)) := by rw [HR2.out, hg]; rfl
                have HG := Lib.hid hr9
                clear hg hr9
                go_wp2_with fail
                refine wp_region_x 28 [0, 1, 0, 0, 0, 1, 1, 0, 0, 0, 0, 0, 0, 1, 0, 0, 0, 1, 0, 1, 0, 0, 0, 0, 1, 0, 0, 0] (by kernel_rfl) (by kernel_rfl) (by kernel_rfl) ?_
                simp only [List.take_succ_cons, List.take_zero, List.drop_succ_cons, List.drop_zero]
                refine hl_pure (fun K hK => ?_)
                go_simp
                refine hK _ ?_
                clear hK K
                refine hl_quiet (fun K hK => ?_)
                go_simp
                refine hK _ ?_
                clear hK K
                refine hl_pure (fun K hK => ?_)
                go_simp
                refine hK _ ?_
                clear hK K
                refine hl_pure (fun K hK => ?_)
                go_simp
                refine hK _ ?_
                clear hK K
                refine hl_pure (fun K hK => ?_)
                go_simp
                refine hK _ ?_
                clear hK K
                refine hl_quiet (fun K hK => ?_)
                go_simp
                refine hK _ ?_
                clear hK K
                refine hl_quiet (fun K hK => ?_)
                go_simp
                first
                  | (refine hK _ ?_; clear hK K)
                  | (apply Exists.intro; refine ⟨fun x => ?_, hK _ ?_⟩
                     · (exact HCI.out _)
                     clear hK K)
                refine hl_pure (fun K hK => ?_)
                go_simp
                refine hK _ ?_
                clear hK K
                refine hl_pure (fun K hK => ?_)
                go_simp
                refine hK _ ?_
                clear hK K
                refine hl_pure (fun K hK => ?_)
                go_simp
                refine hK _ ?_
                clear hK K
                refine hl_pure (fun K hK => ?_)
                go_simp
                refine hK _ ?_
                clear hK K
                refine hl_pure (fun K hK => ?_)
                go_simp
                refine hK _ ?_
                clear hK K
                refine hl_pure (fun K hK => ?_)
                go_simp
                refine hK _ ?_
                clear hK K
                refine hl_quiet (fun K hK => ?_)
                go_simp
                refine hK _ ?_
                clear hK K
                refine hl_pure (fun K hK => ?_)
                go_simp
                refine hK _ ?_
                clear hK K
                refine hl_pure (fun K hK => ?_)
                go_simp
                refine hK _ ?_
                clear hK K
                refine hl_pure (fun K hK => ?_)
                go_simp
                refine hK _ ?_
                clear hK K
                refine hl_quiet (fun K hK => ?_)
                go_simp
                refine hK _ ?_
                clear hK K
                refine hl_pure (fun K hK => ?_)
                go_simp
                refine hK _ ?_
                clear hK K
                refine hl_quiet (fun K hK => ?_)
                go_simp
                refine hK _ ?_
                clear hK K
                refine hl_pure (fun K hK => ?_)
                go_simp
                refine hK _ ?_
                clear hK K
                refine hl_pure (fun K hK => ?_)
                go_simp
                refine hK _ ?_
                clear hK K
                refine hl_pure (fun K hK => ?_)
                go_simp
                refine hK _ ?_
                clear hK K
                refine hl_pure (fun K hK => ?_)
                go_simp
                refine hK _ ?_
                clear hK K
                refine hl_quiet (fun K hK => ?_)
                go_simp
                refine hK _ ?_
                clear hK K
                refine hl_pure (fun K hK => ?_)
                go_simp
                refine hK _ ?_
                clear hK K
                refine hl_pure (fun K hK => ?_)
                go_simp
                refine hK _ ?_
                clear hK K
                refine hl_pure (fun K hK => ?_)
                go_simp
                refine hK _ ?_
                clear hK K
                refine hl_nil ?_
                intro w4 y4 K hK
                go_wp2_with fail
                first | refine fin_ret rfl (fun K hK => ?_) | refine fin_norm rfl (fun K hK => ?_)
                simp [results, Try.results10, go_sem, rsat]
                try go_simp
                refine hK _ ?_
                clear hK K
                rw [HG.out]
                exact ⟨rfl, hx3.trans y4⟩
            · obtain rfl : k = x.t.length := by omega
              rw [List.drop_length, tabI] at hg
              have hr3 : R = (restI x, 0) := by rw [HR2.out, hg]; rfl
              rw [rest_is] at hr3
              have HR3 := Lib.hid hr3
              clear hg hr3
              have C0 := rin7_c x.ix 1 1099511627776
              have C1 := rin7_c x.f1 1 9999
              have C2 := rin7_c x.f2 1 9999
              have C3 := rin7_c x.f3 1 9999
              have C4 := rticks_c x.h1
              have C5 := rticks_c x.h2
              cases q0 : inr x.ix 1 1099511627776 with
              | false =>
                rw [q0] at C0
                have HC0 := Lib.hid C0
                have HC1 := Lib.hid C1
                have HC2 := Lib.hid C2
                have HC3 := Lib.hid C3
                have HC4 := Lib.hid C4
                have HC5 := Lib.hid C5
                clear C0 C1 C2 C3 C4 C5
                have hb : restB x = false := by unfold restB; simp only [q0, Bool.false_and, Bool.and_false, Bool.true_and]
                have hrr : R = (9, 0) := by rw [HR3.out, hb]; rfl
                have HRR := Lib.hid hrr
                clear hb hrr
                go_wp2_with fail
                refine (HC0.out _).mono ?_
                rintro e w3 ⟨rfl, x3⟩
                have X3 := M3.ext x3
                have f3 := cellsAt_at X3
                have t3 := X3.lt
                have z3 := hx3.trans x3
                go_wp2_with fail
                first | refine fin_ret rfl (fun K hK => ?_) | refine fin_norm rfl (fun K hK => ?_)
                simp [results, Try.results10, go_sem, rsat]
                try go_simp
                refine hK _ ?_
                clear hK K
                rw [HRR.out]
                exact ⟨rfl, z3⟩
              | true =>
                rw [q0] at C0
                cases q1 : inr x.f1 1 9999 with
                | false =>
                  rw [q1] at C1
                  have HC0 := Lib.hid C0
                  have HC1 := Lib.hid C1
                  have HC2 := Lib.hid C2
                  have HC3 := Lib.hid C3
                  have HC4 := Lib.hid C4
                  have HC5 := Lib.hid C5
                  clear C0 C1 C2 C3 C4 C5
                  have hb : restB x = false := by unfold restB; simp only [q0, q1, Bool.false_and, Bool.and_false, Bool.true_and]
                  have hrr : R = (9, 0) := by rw [HR3.out, hb]; rfl
                  have HRR := Lib.hid hrr
                  clear hb hrr
                  go_wp2_with fail
                  refine (HC0.out _).mono ?_
                  rintro e w3 ⟨rfl, x3⟩
                  have X3 := M3.ext x3
                  have f3 := cellsAt_at X3
                  have t3 := X3.lt
                  have z3 := hx3.trans x3
                  go_wp2_with fail
                  refine wp_loop_rounds 4 ?_
                  rw [rounds_succ]
                  go_wp2_with fail
                  refine wp_region_x 22 [0, 0, 0, 1, 1, 0, 0, 0, 0, 0, 0, 0, 0, 1, 0, 0, 0, 0, 1, 0, 0, 0] (by kernel_rfl) (by kernel_rfl) (by kernel_rfl) ?_
                  simp only [List.take_succ_cons, List.take_zero, List.drop_succ_cons, List.drop_zero]
                  refine hl_pure (fun K hK => ?_)
                  go_simp
                  refine hK _ ?_
                  clear hK K
                  refine hl_pure (fun K hK => ?_)
                  go_simp
                  refine hK _ ?_
                  clear hK K
                  refine hl_pure (fun K hK => ?_)
                  go_simp
                  refine hK _ ?_
                  clear hK K
                  refine hl_quiet (fun K hK => ?_)
                  go_simp
                  refine hK _ ?_
                  clear hK K
                  refine hl_quiet (fun K hK => ?_)
                  go_simp
                  first
                    | (refine hK _ ?_; clear hK K)
                    | (apply Exists.intro; refine ⟨fun x => ?_, hK _ ?_⟩
                       · (exact HC1.out _)
                       clear hK K)
                  refine hl_pure (fun K hK => ?_)
                  go_simp
                  refine hK _ ?_
                  clear hK K
                  refine hl_pure (fun K hK => ?_)
                  go_simp
                  refine hK _ ?_
                  clear hK K
                  refine hl_pure (fun K hK => ?_)
                  go_simp
                  refine hK _ ?_
                  clear hK K
                  refine hl_pure (fun K hK => ?_)
                  go_simp
                  refine hK _ ?_
                  clear hK K
                  refine hl_pure (fun K hK => ?_)
                  go_simp
                  refine hK _ ?_
                  clear hK K
                  refine hl_pure (fun K hK => ?_)
                  go_simp
                  refine hK _ ?_
                  clear hK K
                  refine hl_pure (fun K hK => ?_)
                  go_simp
                  refine hK _ ?_
                  clear hK K
                  refine hl_pure (fun K hK => ?_)
                  go_simp
                  refine hK _ ?_
                  clear hK K
                  refine hl_quiet (fun K hK => ?_)
                  go_simp
                  refine hK _ ?_
                  clear hK K
                  refine hl_pure (fun K hK => ?_)
                  go_simp
                  refine hK _ ?_
                  clear hK K
                  refine hl_pure (fun K hK => ?_)
                  go_simp
                  refine hK _ ?_
                  clear hK K
                  refine hl_pure (fun K hK => ?_)
                  go_simp
                  refine hK _ ?_
                  clear hK K
                  refine hl_pure (fun K hK => ?_)
                  go_simp
                  refine hK _ ?_
                  clear hK K
                  refine hl_quiet (fun K hK => ?_)
                  go_simp
                  refine hK _ ?_
                  clear hK K
                  refine hl_pure (fun K hK => ?_)
                  go_simp
                  refine hK _ ?_
                  clear hK K
                  refine hl_pure (fun K hK => ?_)
                  go_simp
                  refine hK _ ?_
                  clear hK K
                  refine hl_pure (fun K hK => ?_)
                  go_simp
                  refine hK _ ?_
                  clear hK K
                  refine hl_nil ?_
                  intro w4 x4 K hK
                  have X4 := X3.ext x4
                  have f4 := cellsAt_at X4
                  have t4 := X4.lt
                  have z4 := z3.trans x4
                  go_wp2_with fail
                  first | refine fin_ret rfl (fun K hK => ?_) | refine fin_norm rfl (fun K hK => ?_)
                  simp [results, Try.results10, go_sem, rsat]
                  try go_simp
                  refine hK _ ?_
                  clear hK K
                  rw [HRR.out]
                  exact ⟨rfl, z4⟩
                | true =>
                  rw [q1] at C1
                  cases q2 : inr x.f2 1 9999 with
                  | false =>
                    rw [q2] at C2
                    have HC0 := Lib.hid C0
                    have HC1 := Lib.hid C1
                    have HC2 := Lib.hid C2
                    have HC3 := Lib.hid C3
                    have HC4 := Lib.hid C4
                    have HC5 := Lib.hid C5
                    clear C0 C1 C2 C3 C4 C5
                    have hb : restB x = false := by unfold restB; simp only [q0, q1, q2, Bool.false_and, Bool.and_false, Bool.true_and]
                    have hrr : R = (9, 0) := by rw [HR3.out, hb]; rfl
                    have HRR := Lib.hid hrr
                    clear hb hrr
                    go_wp2_with fail
                    refine (HC0.out _).mono ?_
                    rintro e w3 ⟨rfl, x3⟩
                    have X3 := M3.ext x3
                    have f3 := cellsAt_at X3
                    have t3 := X3.lt
                    have z3 := hx3.trans x3
                    go_wp2_with fail
                    refine wp_loop_rounds 4 ?_
                    rw [rounds_succ]
                    go_wp2_with fail
                    refine wp_region_x 22 [0, 0, 0, 1, 1, 0, 0, 0, 0, 0, 0, 0, 0, 1, 0, 0, 0, 0, 1, 0, 0, 0] (by kernel_rfl) (by kernel_rfl) (by kernel_rfl) ?_
                    simp only [List.take_succ_cons, List.take_zero, List.drop_succ_cons, List.drop_zero]
                    refine hl_pure (fun K hK => ?_)
                    go_simp
                    refine hK _ ?_
                    clear hK K
                    refine hl_pure (fun K hK => ?_)
                    go_simp
                    refine hK _ ?_
                    clear hK K
                    refine hl_pure (fun K hK => ?_)
                    go_simp
                    refine hK _ ?_
                    clear hK K
                    refine hl_quiet (fun K hK => ?_)
                    go_simp
                    refine hK _ ?_
                    clear hK K
                    refine hl_quiet (fun K hK => ?_)
                    go_simp
                    first
                      | (refine hK _ ?_; clear hK K)
                      | (apply Exists.intro; refine ⟨fun x => ?_, hK _ ?_⟩
                         · (exact HC1.out _)
                         clear hK K)
                    refine hl_pure (fun K hK => ?_)
                    go_simp
                    refine hK _ ?_
                    clear hK K
                    refine hl_pure (fun K hK => ?_)
                    go_simp
                    refine hK _ ?_
                    clear hK K
                    refine hl_pure (fun K hK => ?_)
                    go_simp
                    refine hK _ ?_
                    clear hK K
                    refine hl_pure (fun K hK => ?_)
                    go_simp
                    refine hK _ ?_
                    clear hK K
                    refine hl_pure (fun K hK => ?_)
                    go_simp
                    refine hK _ ?_
                    clear hK K
                    refine hl_pure (fun K hK => ?_)
                    go_simp
                    refine hK _ ?_
                    clear hK K
                    refine hl_pure (fun K hK => ?_)
                    go_simp
                    refine hK _ ?_
                    clear hK K
                    refine hl_pure (fun K hK => ?_)
                    go_simp
                    refine hK _ ?_
                    clear hK K
                    refine hl_quiet (fun K hK => ?_)
                    go_simp
                    refine hK _ ?_
                    clear hK K
                    refine hl_pure (fun K hK => ?_)
                    go_simp
                    refine hK _ ?_
                    clear hK K
                    refine hl_pure (fun K hK => ?_)
                    go_simp
                    refine hK _ ?_
                    clear hK K
                    refine hl_pure (fun K hK => ?_)
                    go_simp
                    refine hK _ ?_
                    clear hK K
                    refine hl_pure (fun K hK => ?_)
                    go_simp
                    refine hK _ ?_
                    clear hK K
                    refine hl_quiet (fun K hK => ?_)
                    go_simp
                    refine hK _ ?_
                    clear hK K
                    refine hl_pure (fun K hK => ?_)
                    go_simp
                    refine hK _ ?_
                    clear hK K
                    refine hl_pure (fun K hK => ?_)
                    go_simp
                    refine hK _ ?_
                    clear hK K
                    refine hl_pure (fun K hK => ?_)
                    go_simp
                    refine hK _ ?_
                    clear hK K
                    refine hl_nil ?_
                    intro w4 x4 K hK
                    have X4 := X3.ext x4
                    have f4 := cellsAt_at X4
                    have t4 := X4.lt
                    have z4 := z3.trans x4
                    go_wp2_with fail
                    rw [rounds_succ]
                    go_wp2_with fail
                    refine wp_region_x 22 [0, 0, 0, 1, 1, 0, 0, 0, 0, 0, 0, 0, 0, 1, 0, 0, 0, 0, 1, 0, 0, 0] (by kernel_rfl) (by kernel_rfl) (by kernel_rfl) ?_
                    simp only [List.take_succ_cons, List.take_zero, List.drop_succ_cons, List.drop_zero]
                    refine hl_pure (fun K hK => ?_)
                    go_simp
                    refine hK _ ?_
                    clear hK K
                    refine hl_pure (fun K hK => ?_)
                    go_simp
                    refine hK _ ?_
                    clear hK K
                    refine hl_pure (fun K hK => ?_)
                    go_simp
                    refine hK _ ?_
                    clear hK K
                    refine hl_quiet (fun K hK => ?_)
                    go_simp
                    refine hK _ ?_
                    clear hK K
                    refine hl_quiet (fun K hK => ?_)
                    go_simp
                    first
                      | (refine hK _ ?_; clear hK K)
                      | (apply Exists.intro; refine ⟨fun x => ?_, hK _ ?_⟩
                         · (exact HC2.out _)
                         clear hK K)
                    refine hl_pure (fun K hK => ?_)
                    go_simp
                    refine hK _ ?_
                    clear hK K
                    refine hl_pure (fun K hK => ?_)
                    go_simp
                    refine hK _ ?_
                    clear hK K
                    refine hl_pure (fun K hK => ?_)
                    go_simp
                    refine hK _ ?_
                    clear hK K
                    refine hl_pure (fun K hK => ?_)
                    go_simp
                    refine hK _ ?_
                    clear hK K
                    refine hl_pure (fun K hK => ?_)
                    go_simp
                    refine hK _ ?_
                    clear hK K
                    refine hl_pure (fun K hK => ?_)
                    go_simp
                    refine hK _ ?_
                    clear hK K
                    refine hl_pure (fun K hK => ?_)
                    go_simp
                    refine hK _ ?_
                    clear hK K
                    refine hl_pure (fun K hK => ?_)
                    go_simp
                    refine hK _ ?_
                    clear hK K
                    refine hl_quiet (fun K hK => ?_)
                    go_simp
                    refine hK _ ?_
                    clear hK K
                    refine hl_pure (fun K hK => ?_)
                    go_simp
                    refine hK _ ?_
                    clear hK K
                    refine hl_pure (fun K hK => ?_)
                    go_simp
                    refine hK _ ?_
                    clear hK K
                    refine hl_pure (fun K hK => ?_)
                    go_simp
                    refine hK _ ?_
                    clear hK K
                    refine hl_pure (fun K hK => ?_)
                    go_simp
                    refine hK _ ?_
                    clear hK K
                    refine hl_quiet (fun K hK => ?_)
                    go_simp
                    refine hK _ ?_
                    clear hK K
                    refine hl_pure (fun K hK => ?_)
                    go_simp
                    refine hK _ ?_
                    clear hK K
                    refine hl_pure (fun K hK => ?_)
                    go_simp
                    refine hK _ ?_
                    clear hK K
                    refine hl_pure (fun K hK => ?_)
                    go_simp
                    refine hK _ ?_
                    clear hK K
                    refine hl_nil ?_
                    intro w5 x5 K hK
                    have X5 := X4.ext x5
                    have f5 := cellsAt_at X5
                    have t5 := X5.lt
                    have z5 := z4.trans x5
                    go_wp2_with fail
                    first | refine fin_ret rfl (fun K hK => ?_) | refine fin_norm rfl (fun K hK => ?_)
                    simp [results, Try.results10, go_sem, rsat]
                    try go_simp
                    refine hK _ ?_
                    clear hK K
                    rw [HRR.out]
                    exact ⟨rfl, z5⟩
                  | true =>
                    rw [q2] at C2
                    by_cases q3 : x.f1 < x.f2
                    · have q3d : decide (x.f1 < x.f2) = true := decide_eq_true q3
                      cases q4 : inr x.f3 1 9999 with
                      | false =>
                        rw [q4] at C3
                        have HC0 := Lib.hid C0
                        have HC1 := Lib.hid C1
                        have HC2 := Lib.hid C2
                        have HC3 := Lib.hid C3
                        have HC4 := Lib.hid C4
                        have HC5 := Lib.hid C5
                        clear C0 C1 C2 C3 C4 C5
                        have hb : restB x = false := by unfold restB; simp only [q0, q1, q2, q3d, q4, Bool.false_and, Bool.and_false, Bool.true_and]
                        have hrr : R = (9, 0) := by rw [HR3.out, hb]; rfl
                        have HRR := Lib.hid hrr
                        clear hb hrr
                        go_wp2_with fail
                        refine (HC0.out _).mono ?_
                        rintro e w3 ⟨rfl, x3⟩
                        have X3 := M3.ext x3
                        have f3 := cellsAt_at X3
                        have t3 := X3.lt
                        have z3 := hx3.trans x3
                        go_wp2_with fail
                        refine wp_loop_rounds 4 ?_
                        rw [rounds_succ]
                        go_wp2_with fail
                        refine wp_region_x 22 [0, 0, 0, 1, 1, 0, 0, 0, 0, 0, 0, 0, 0, 1, 0, 0, 0, 0, 1, 0, 0, 0] (by kernel_rfl) (by kernel_rfl) (by kernel_rfl) ?_
                        simp only [List.take_succ_cons, List.take_zero, List.drop_succ_cons, List.drop_zero]
                        refine hl_pure (fun K hK => ?_)
                        go_simp
                        refine hK _ ?_
                        clear hK K
                        refine hl_pure (fun K hK => ?_)
                        go_simp
                        refine hK _ ?_
                        clear hK K
                        refine hl_pure (fun K hK => ?_)
                        go_simp
                        refine hK _ ?_
                        clear hK K
                        refine hl_quiet (fun K hK => ?_)
                        go_simp
                        refine hK _ ?_
                        clear hK K
                        refine hl_quiet (fun K hK => ?_)
                        go_simp
                        first
                          | (refine hK _ ?_; clear hK K)
                          | (apply Exists.intro; refine ⟨fun x => ?_, hK _ ?_⟩
                             · (exact HC1.out _)
                             clear hK K)
                        refine hl_pure (fun K hK => ?_)
                        go_simp
                        refine hK _ ?_
                        clear hK K
                        refine hl_pure (fun K hK => ?_)
                        go_simp
                        refine hK _ ?_
                        clear hK K
                        refine hl_pure (fun K hK => ?_)
                        go_simp
                        refine hK _ ?_
                        clear hK K
                        refine hl_pure (fun K hK => ?_)
                        go_simp
                        refine hK _ ?_
                        clear hK K
                        refine hl_pure (fun K hK => ?_)
                        go_simp
                        refine hK _ ?_
                        clear hK K
                        refine hl_pure (fun K hK => ?_)
                        go_simp
                        refine hK _ ?_
                        clear hK K
                        refine hl_pure (fun K hK => ?_)
                        go_simp
                        refine hK _ ?_
                        clear hK K
                        refine hl_pure (fun K hK => ?_)
                        go_simp
                        refine hK _ ?_
                        clear hK K
                        refine hl_quiet (fun K hK => ?_)
                        go_simp
                        refine hK _ ?_
                        clear hK K
                        refine hl_pure (fun K hK => ?_)
                        go_simp
                        refine hK _ ?_
                        clear hK K
                        refine hl_pure (fun K hK => ?_)
                        go_simp
                        refine hK _ ?_
                        clear hK K
                        refine hl_pure (fun K hK => ?_)
                        go_simp
                        refine hK _ ?_
                        clear hK K
                        refine hl_pure (fun K hK => ?_)
                        go_simp
                        refine hK _ ?_
                        clear hK K
                        refine hl_quiet (fun K hK => ?_)
                        go_simp
                        refine hK _ ?_
                        clear hK K
                        refine hl_pure (fun K hK => ?_)
                        go_simp
                        refine hK _ ?_
                        clear hK K
                        refine hl_pure (fun K hK => ?_)
                        go_simp
                        refine hK _ ?_
                        clear hK K
                        refine hl_pure (fun K hK => ?_)
                        go_simp
                        refine hK _ ?_
                        clear hK K
                        refine hl_nil ?_
                        intro w4 x4 K hK
                        have X4 := X3.ext x4
                        have f4 := cellsAt_at X4
                        have t4 := X4.lt
                        have z4 := z3.trans x4
                        go_wp2_with fail
                        rw [rounds_succ]
                        go_wp2_with fail
                        refine wp_region_x 22 [0, 0, 0, 1, 1, 0, 0, 0, 0, 0, 0, 0, 0, 1, 0, 0, 0, 0, 1, 0, 0, 0] (by kernel_rfl) (by kernel_rfl) (by kernel_rfl) ?_
                        simp only [List.take_succ_cons, List.take_zero, List.drop_succ_cons, List.drop_zero]
                        refine hl_pure (fun K hK => ?_)
                        go_simp
                        refine hK _ ?_
                        clear hK K
                        refine hl_pure (fun K hK => ?_)
                        go_simp
                        refine hK _ ?_
                        clear hK K
                        refine hl_pure (fun K hK => ?_)
                        go_simp
                        refine hK _ ?_
                        clear hK K
                        refine hl_quiet (fun K hK => ?_)
                        go_simp
                        refine hK _ ?_
                        clear hK K
                        refine hl_quiet (fun K hK => ?_)
                        go_simp
                        first
                          | (refine hK _ ?_; clear hK K)
                          | (apply Exists.intro; refine ⟨fun x => ?_, hK _ ?_⟩
                             · (exact HC2.out _)
                             clear hK K)
                        refine hl_pure (fun K hK => ?_)
                        go_simp
                        refine hK _ ?_
                        clear hK K
                        refine hl_pure (fun K hK => ?_)
                        go_simp
                        refine hK _ ?_
                        clear hK K
                        refine hl_pure (fun K hK => ?_)
                        go_simp
                        refine hK _ ?_
                        clear hK K
                        refine hl_pure (fun K hK => ?_)
                        go_simp
                        refine hK _ ?_
                        clear hK K
                        refine hl_pure (fun K hK => ?_)
                        go_simp
                        refine hK _ ?_
                        clear hK K
                        refine hl_pure (fun K hK => ?_)
                        go_simp
                        refine hK _ ?_
                        clear hK K
                        refine hl_pure (fun K hK => ?_)
                        go_simp
                        refine hK _ ?_
                        clear hK K
                        refine hl_pure (fun K hK => ?_)
                        go_simp
                        refine hK _ ?_
                        clear hK K
                        refine hl_quiet (fun K hK => ?_)
                        go_simp
                        refine hK _ ?_
                        clear hK K
                        refine hl_pure (fun K hK => ?_)
                        go_simp
                        refine hK _ ?_
                        clear hK K
                        refine hl_pure (fun K hK => ?_)
                        go_simp
                        refine hK _ ?_
                        clear hK K
                        refine hl_pure (fun K hK => ?_)
                        go_simp
                        refine hK _ ?_
                        clear hK K
                        refine hl_pure (fun K hK => ?_)
                        go_simp
                        refine hK _ ?_
                        clear hK K
                        refine hl_quiet (fun K hK => ?_)
                        go_simp
                        refine hK _ ?_
                        clear hK K
                        refine hl_pure (fun K hK => ?_)
                        go_simp
                        refine hK _ ?_
                        clear hK K
                        refine hl_pure (fun K hK => ?_)
                        go_simp
                        refine hK _ ?_
                        clear hK K
                        refine hl_pure (fun K hK => ?_)
                        go_simp
                        refine hK _ ?_
                        clear hK K
                        refine hl_nil ?_
                        intro w5 x5 K hK
                        have X5 := X4.ext x5
                        have f5 := cellsAt_at X5
                        have t5 := X5.lt
                        have z5 := z4.trans x5
                        go_wp2_with fail
                        rw [rounds_succ]
                        go_wp2_with fail
                        refine wp_region_x 22 [0, 0, 0, 1, 1, 0, 0, 0, 0, 0, 0, 0, 0, 1, 0, 0, 0, 0, 1, 0, 0, 0] (by kernel_rfl) (by kernel_rfl) (by kernel_rfl) ?_
                        simp only [List.take_succ_cons, List.take_zero, List.drop_succ_cons, List.drop_zero]
                        refine hl_pure (fun K hK => ?_)
                        go_simp
                        refine hK _ ?_
                        clear hK K
                        refine hl_pure (fun K hK => ?_)
                        go_simp
                        refine hK _ ?_
                        clear hK K
                        refine hl_pure (fun K hK => ?_)
                        go_simp
                        refine hK _ ?_
                        clear hK K
                        refine hl_quiet (fun K hK => ?_)
                        go_simp
                        refine hK _ ?_
                        clear hK K
                        refine hl_quiet (fun K hK => ?_)
                        go_simp
                        first
                          | (refine hK _ ?_; clear hK K)
                          | (apply Exists.intro; refine ⟨fun x => ?_, hK _ ?_⟩
                             · (exact HC3.out _)
                             clear hK K)
                        refine hl_pure (fun K hK => ?_)
                        go_simp
                        refine hK _ ?_
                        clear hK K
                        refine hl_pure (fun K hK => ?_)
                        go_simp
                        refine hK _ ?_
                        clear hK K
                        refine hl_pure (fun K hK => ?_)
                        go_simp
                        refine hK _ ?_
                        clear hK K
                        refine hl_pure (fun K hK => ?_)
                        go_simp
                        refine hK _ ?_
                        clear hK K
                        refine hl_pure (fun K hK => ?_)
                        go_simp
                        refine hK _ ?_
                        clear hK K
                        refine hl_pure (fun K hK => ?_)
                        go_simp
                        refine hK _ ?_
                        clear hK K
                        refine hl_pure (fun K hK => ?_)
                        go_simp
                        refine hK _ ?_
                        clear hK K
                        refine hl_pure (fun K hK => ?_)
                        go_simp
                        refine hK _ ?_
                        clear hK K
                        refine hl_quiet (fun K hK => ?_)
                        go_simp
                        refine hK _ ?_
                        clear hK K
                        refine hl_pure (fun K hK => ?_)
                        go_simp
                        refine hK _ ?_
                        clear hK K
                        refine hl_pure (fun K hK => ?_)
                        go_simp
                        refine hK _ ?_
                        clear hK K
                        refine hl_pure (fun K hK => ?_)
                        go_simp
                        refine hK _ ?_
                        clear hK K
                        refine hl_pure (fun K hK => ?_)
                        go_simp
                        refine hK _ ?_
                        clear hK K
                        refine hl_quiet (fun K hK => ?_)
                        go_simp
                        refine hK _ ?_
                        clear hK K
                        refine hl_pure (fun K hK => ?_)
                        go_simp
                        refine hK _ ?_
                        clear hK K
                        refine hl_pure (fun K hK => ?_)
                        go_simp
                        refine hK _ ?_
                        clear hK K
                        refine hl_pure (fun K hK => ?_)
                        go_simp
                        refine hK _ ?_
                        clear hK K
                        refine hl_nil ?_
                        intro w6 x6 K hK
                        have X6 := X5.ext x6
                        have f6 := cellsAt_at X6
                        have t6 := X6.lt
                        have z6 := z5.trans x6
                        go_wp2_with fail
                        first | refine fin_ret rfl (fun K hK => ?_) | refine fin_norm rfl (fun K hK => ?_)
                        simp [results, Try.results10, go_sem, rsat]
                        try go_simp
                        refine hK _ ?_
                        clear hK K
                        rw [HRR.out]
                        exact ⟨rfl, z6⟩
                      | true =>
                        rw [q4] at C3
                        by_cases q5 : x.f2 < x.f3
                        · have q5d : decide (x.f2 < x.f3) = true := decide_eq_true q5
                          cases q6 : inr x.h1 1 1099511627776 with
                          | false =>
                            rw [q6] at C4
                            have HC0 := Lib.hid C0
                            have HC1 := Lib.hid C1
                            have HC2 := Lib.hid C2
                            have HC3 := Lib.hid C3
                            have HC4 := Lib.hid C4
                            have HC5 := Lib.hid C5
                            clear C0 C1 C2 C3 C4 C5
                            have hb : restB x = false := by unfold restB; simp only [q0, q1, q2, q3d, q4, q5d, q6, Bool.false_and, Bool.and_false, Bool.true_and]
                            have hrr : R = (9, 0) := by rw [HR3.out, hb]; rfl
                            have HRR := Lib.hid hrr
                            clear hb hrr
                            go_wp2_with fail
                            refine (HC0.out _).mono ?_
                            rintro e w3 ⟨rfl, x3⟩
                            have X3 := M3.ext x3
                            have f3 := cellsAt_at X3
                            have t3 := X3.lt
                            have z3 := hx3.trans x3
                            go_wp2_with fail
                            refine wp_loop_rounds 4 ?_
                            rw [rounds_succ]
                            go_wp2_with fail
                            refine wp_region_x 22 [0, 0, 0, 1, 1, 0, 0, 0, 0, 0, 0, 0, 0, 1, 0, 0, 0, 0, 1, 0, 0, 0] (by kernel_rfl) (by kernel_rfl) (by kernel_rfl) ?_
                            simp only [List.take_succ_cons, List.take_zero, List.drop_succ_cons, List.drop_zero]
                            refine hl_pure (fun K hK => ?_)
                            go_simp
                            refine hK _ ?_
                            clear hK K
                            refine hl_pure (fun K hK => ?_)
                            go_simp
                            refine hK _ ?_
                            clear hK K
                            refine hl_pure (fun K hK => ?_)
                            go_simp
                            refine hK _ ?_
                            clear hK K
                            refine hl_quiet (fun K hK => ?_)
                            go_simp
                            refine hK _ ?_
                            clear hK K
                            refine hl_quiet (fun K hK => ?_)
                            go_simp
                            first
                              | (refine hK _ ?_; clear hK K)
                              | (apply Exists.intro; refine ⟨fun x => ?_, hK _ ?_⟩
                                 · (exact HC1.out _)
                                 clear hK K)
                            refine hl_pure (fun K hK => ?_)
                            go_simp
                            refine hK _ ?_
                            clear hK K
                            refine hl_pure (fun K hK => ?_)
                            go_simp
                            refine hK _ ?_
                            clear hK K
                            refine hl_pure (fun K hK => ?_)
                            go_simp
                            refine hK _ ?_
                            clear hK K
                            refine hl_pure (fun K hK => ?_)
                            go_simp
                            refine hK _ ?_
                            clear hK K
                            refine hl_pure (fun K hK => ?_)
                            go_simp
                            refine hK _ ?_
                            clear hK K
                            refine hl_pure (fun K hK => ?_)
                            go_simp
                            refine hK _ ?_
                            clear hK K
                            refine hl_pure (fun K hK => ?_)
                            go_simp
                            refine hK _ ?_
                            clear hK K
                            refine hl_pure (fun K hK => ?_)
                            go_simp
                            refine hK _ ?_
                            clear hK K
                            refine hl_quiet (fun K hK => ?_)
                            go_simp
                            refine hK _ ?_
                            clear hK K
                            refine hl_pure (fun K hK => ?_)
                            go_simp
                            refine hK _ ?_
                            clear hK K
                            refine hl_pure (fun K hK => ?_)
                            go_simp
                            refine hK _ ?_
                            clear hK K
                            refine hl_pure (fun K hK => ?_)
                            go_simp
                            refine hK _ ?_
                            clear hK K
                            refine hl_pure (fun K hK => ?_)
                            go_simp
                            refine hK _ ?_
                            clear hK K
                            refine hl_quiet (fun K hK => ?_)
                            go_simp
                            refine hK _ ?_
                            clear hK K
                            refine hl_pure (fun K hK => ?_)
                            go_simp
                            refine hK _ ?_
                            clear hK K
                            refine hl_pure (fun K hK => ?_)
                            go_simp
                            refine hK _ ?_
                            clear hK K
                            refine hl_pure (fun K hK => ?_)
                            go_simp
                            refine hK _ ?_
                            clear hK K
                            refine hl_nil ?_
                            intro w4 x4 K hK
                            have X4 := X3.ext x4
                            have f4 := cellsAt_at X4
                            have t4 := X4.lt
                            have z4 := z3.trans x4
                            go_wp2_with fail
                            rw [rounds_succ]
                            go_wp2_with fail
                            refine wp_region_x 22 [0, 0, 0, 1, 1, 0, 0, 0, 0, 0, 0, 0, 0, 1, 0, 0, 0, 0, 1, 0, 0, 0] (by kernel_rfl) (by kernel_rfl) (by kernel_rfl) ?_
                            simp only [List.take_succ_cons, List.take_zero, List.drop_succ_cons, List.drop_zero]
                            refine hl_pure (fun K hK => ?_)
                            go_simp
                            refine hK _ ?_
                            clear hK K
                            refine hl_pure (fun K hK => ?_)
                            go_simp
                            refine hK _ ?_
                            clear hK K
                            refine hl_pure (fun K hK => ?_)
                            go_simp
                            refine hK _ ?_
                            clear hK K
                            refine hl_quiet (fun K hK => ?_)
                            go_simp
                            refine hK _ ?_
                            clear hK K
                            refine hl_quiet (fun K hK => ?_)
                            go_simp
                            first
                              | (refine hK _ ?_; clear hK K)
                              | (apply Exists.intro; refine ⟨fun x => ?_, hK _ ?_⟩
                                 · (exact HC2.out _)
                                 clear hK K)
                            refine hl_pure (fun K hK => ?_)
                            go_simp
                            refine hK _ ?_
                            clear hK K
                            refine hl_pure (fun K hK => ?_)
                            go_simp
                            refine hK _ ?_
                            clear hK K
                            refine hl_pure (fun K hK => ?_)
                            go_simp
                            refine hK _ ?_
                            clear hK K
                            refine hl_pure (fun K hK => ?_)
                            go_simp
                            refine hK _ ?_
                            clear hK K
                            refine hl_pure (fun K hK => ?_)
                            go_simp
                            refine hK _ ?_
                            clear hK K
                            refine hl_pure (fun K hK => ?_)
                            go_simp
                            refine hK _ ?_
                            clear hK K
                            refine hl_pure (fun K hK => ?_)
                            go_simp
                            refine hK _ ?_
                            clear hK K
                            refine hl_pure (fun K hK => ?_)
                            go_simp
                            refine hK _ ?_
                            clear hK K
                            refine hl_quiet (fun K hK => ?_)
                            go_simp
                            refine hK _ ?_
                            clear hK K
                            refine hl_pure (fun K hK => ?_)
                            go_simp
                            refine hK _ ?_
                            clear hK K
                            refine hl_pure (fun K hK => ?_)
                            go_simp
                            refine hK _ ?_
                            clear hK K
                            refine hl_pure (fun K hK => ?_)
                            go_simp
                            refine hK _ ?_
                            clear hK K
                            refine hl_pure (fun K hK => ?_)
                            go_simp
                            refine hK _ ?_
                            clear hK K
                            refine hl_quiet (fun K hK => ?_)
                            go_simp
                            refine hK _ ?_
                            clear hK K
                            refine hl_pure (fun K hK => ?_)
                            go_simp
                            refine hK _ ?_
                            clear hK K
                            refine hl_pure (fun K hK => ?_)
                            go_simp
                            refine hK _ ?_
                            clear hK K
                            refine hl_pure (fun K hK => ?_)
                            go_simp
                            refine hK _ ?_
                            clear hK K
                            refine hl_nil ?_
                            intro w5 x5 K hK
                            have X5 := X4.ext x5
                            have f5 := cellsAt_at X5
                            have t5 := X5.lt
                            have z5 := z4.trans x5
                            go_wp2_with fail
                            rw [rounds_succ]
                            go_wp2_with fail
                            refine wp_region_x 22 [0, 0, 0, 1, 1, 0, 0, 0, 0, 0, 0, 0, 0, 1, 0, 0, 0, 0, 1, 0, 0, 0] (by kernel_rfl) (by kernel_rfl) (by kernel_rfl) ?_
                            simp only [List.take_succ_cons, List.take_zero, List.drop_succ_cons, List.drop_zero]
                            refine hl_pure (fun K hK => ?_)
                            go_simp
                            refine hK _ ?_
                            clear hK K
                            refine hl_pure (fun K hK => ?_)
                            go_simp
                            refine hK _ ?_
                            clear hK K
                            refine hl_pure (fun K hK => ?_)
                            go_simp
                            refine hK _ ?_
                            clear hK K
                            refine hl_quiet (fun K hK => ?_)
                            go_simp
                            refine hK _ ?_
                            clear hK K
                            refine hl_quiet (fun K hK => ?_)
                            go_simp
                            first
                              | (refine hK _ ?_; clear hK K)
                              | (apply Exists.intro; refine ⟨fun x => ?_, hK _ ?_⟩
                                 · (exact HC3.out _)
                                 clear hK K)
                            refine hl_pure (fun K hK => ?_)
                            go_simp
                            refine hK _ ?_
                            clear hK K
                            refine hl_pure (fun K hK => ?_)
                            go_simp
                            refine hK _ ?_
                            clear hK K
                            refine hl_pure (fun K hK => ?_)
                            go_simp
                            refine hK _ ?_
                            clear hK K
                            refine hl_pure (fun K hK => ?_)
                            go_simp
                            refine hK _ ?_
                            clear hK K
                            refine hl_pure (fun K hK => ?_)
                            go_simp
                            refine hK _ ?_
                            clear hK K
                            refine hl_pure (fun K hK => ?_)
                            go_simp
                            refine hK _ ?_
                            clear hK K
                            refine hl_pure (fun K hK => ?_)
                            go_simp
                            refine hK _ ?_
                            clear hK K
                            refine hl_pure (fun K hK => ?_)
                            go_simp
                            refine hK _ ?_
                            clear hK K
                            refine hl_quiet (fun K hK => ?_)
                            go_simp
                            refine hK _ ?_
                            clear hK K
                            refine hl_pure (fun K hK => ?_)
                            go_simp
                            refine hK _ ?_
                            clear hK K
                            refine hl_pure (fun K hK => ?_)
                            go_simp
                            refine hK _ ?_
                            clear hK K
                            refine hl_pure (fun K hK => ?_)
                            go_simp
                            refine hK _ ?_
                            clear hK K
                            refine hl_pure (fun K hK => ?_)
                            go_simp
                            refine hK _ ?_
                            clear hK K
                            refine hl_quiet (fun K hK => ?_)
                            go_simp
                            refine hK _ ?_
                            clear hK K
                            refine hl_pure (fun K hK => ?_)
                            go_simp
                            refine hK _ ?_
                            clear hK K
                            refine hl_pure (fun K hK => ?_)
                            go_simp
                            refine hK _ ?_
                            clear hK K
                            refine hl_pure (fun K hK => ?_)
                            go_simp
                            refine hK _ ?_
                            clear hK K
                            refine hl_nil ?_
                            intro w6 x6 K hK
                            have X6 := X5.ext x6
                            have f6 := cellsAt_at X6
                            have t6 := X6.lt
                            have z6 := z5.trans x6
                            go_wp2_with fail
                            rw [rounds_succ]
                            go_wp2_with fail
                            refine (HC4.out _).mono ?_
                            rintro e w7 ⟨rfl, x7⟩
                            have X7 := X6.ext x7
                            have f7 := cellsAt_at X7
                            have t7 := X7.lt
                            have z7 := z6.trans x7
                            go_wp2_with fail
                            first | refine fin_ret rfl (fun K hK => ?_) | refine fin_norm rfl (fun K hK => ?_)
                            simp [results, Try.results10, go_sem, rsat]
                            try go_simp
                            refine hK _ ?_
                            clear hK K
                            rw [HRR.out]
                            exact ⟨rfl, z7⟩
                          | true =>
                            rw [q6] at C4
                            cases q7 : inr x.h2 1 1099511627776 with
                            | false =>
                              rw [q7] at C5
                              have HC0 := Lib.hid C0
                              have HC1 := Lib.hid C1
                              have HC2 := Lib.hid C2
                              have HC3 := Lib.hid C3
                              have HC4 := Lib.hid C4
                              have HC5 := Lib.hid C5
                              clear C0 C1 C2 C3 C4 C5
                              have hb : restB x = false := by unfold restB; simp only [q0, q1, q2, q3d, q4, q5d, q6, q7, Bool.false_and, Bool.and_false, Bool.true_and]
                              have hrr : R = (9, 0) := by rw [HR3.out, hb]; rfl
                              have HRR := Lib.hid hrr
                              clear hb hrr
                              go_wp2_with fail
                              refine (HC0.out _).mono ?_
                              rintro e w3 ⟨rfl, x3⟩
                              have X3 := M3.ext x3
                              have f3 := cellsAt_at X3
                              have t3 := X3.lt
                              have z3 := hx3.trans x3
                              go_wp2_with fail
                              refine wp_loop_rounds 4 ?_
                              rw [rounds_succ]
                              go_wp2_with fail
                              refine wp_region_x 22 [0, 0, 0, 1, 1, 0, 0, 0, 0, 0, 0, 0, 0, 1, 0, 0, 0, 0, 1, 0, 0, 0] (by kernel_rfl) (by kernel_rfl) (by kernel_rfl) ?_
                              simp only [List.take_succ_cons, List.take_zero, List.drop_succ_cons, List.drop_zero]
                              refine hl_pure (fun K hK => ?_)
                              go_simp
                              refine hK _ ?_
                              clear hK K
                              refine hl_pure (fun K hK => ?_)
                              go_simp
                              refine hK _ ?_
                              clear hK K
                              refine hl_pure (fun K hK => ?_)
                              go_simp
                              refine hK _ ?_
                              clear hK K
                              refine hl_quiet (fun K hK => ?_)
                              go_simp
                              refine hK _ ?_
                              clear hK K
                              refine hl_quiet (fun K hK => ?_)
                              go_simp
                              first
                                | (refine hK _ ?_; clear hK K)
                                | (apply Exists.intro; refine ⟨fun x => ?_, hK _ ?_⟩
                                   · (exact HC1.out _)
                                   clear hK K)
                              refine hl_pure (fun K hK => ?_)
                              go_simp
                              refine hK _ ?_
                              clear hK K
                              refine hl_pure (fun K hK => ?_)
                              go_simp
                              refine hK _ ?_
                              clear hK K
                              refine hl_pure (fun K hK => ?_)
                              go_simp
                              refine hK _ ?_
                              clear hK K
                              refine hl_pure (fun K hK => ?_)
                              go_simp
                              refine hK _ ?_
                              clear hK K
                              refine hl_pure (fun K hK => ?_)
                              go_simp
                              refine hK _ ?_
                              clear hK K
                              refine hl_pure (fun K hK => ?_)
                              go_simp
                              refine hK _ ?_
                              clear hK K
                              refine hl_pure (fun K hK => ?_)
                              go_simp
                              refine hK _ ?_
                              clear hK K
                              refine hl_pure (fun K hK => ?_)
                              go_simp
                              refine hK _ ?_
                              clear hK K
                              refine hl_quiet (fun K hK => ?_)
                              go_simp
                              refine hK _ ?_
                              clear hK K
                              refine hl_pure (fun K hK => ?_)
                              go_simp
                              refine hK _ ?_
                              clear hK K
                              refine hl_pure (fun K hK => ?_)
                              go_simp
                              refine hK _ ?_
                              clear hK K
                              refine hl_pure (fun K hK => ?_)
                              go_simp
                              refine hK _ ?_
                              clear hK K
                              refine hl_pure (fun K hK => ?_)
                              go_simp
                              refine hK _ ?_
                              clear hK K
                              refine hl_quiet (fun K hK => ?_)
                              go_simp
                              refine hK _ ?_
                              clear hK K
                              refine hl_pure (fun K hK => ?_)
                              go_simp
                              refine hK _ ?_
                              clear hK K
                              refine hl_pure (fun K hK => ?_)
                              go_simp
                              refine hK _ ?_
                              clear hK K
                              refine hl_pure (fun K hK => ?_)
                              go_simp
                              refine hK _ ?_
                              clear hK K
                              refine hl_nil ?_
                              intro w4 x4 K hK
                              have X4 := X3.ext x4
                              have f4 := cellsAt_at X4
                              have t4 := X4.lt
                              have z4 := z3.trans x4
                              go_wp2_with fail
                              rw [rounds_succ]
                              go_wp2_with fail
                              refine wp_region_x 22 [0, 0, 0, 1, 1, 0, 0, 0, 0, 0, 0, 0, 0, 1, 0, 0, 0, 0, 1, 0, 0, 0] (by kernel_rfl) (by kernel_rfl) (by kernel_rfl) ?_
                              simp only [List.take_succ_cons, List.take_zero, List.drop_succ_cons, List.drop_zero]
                              refine hl_pure (fun K hK => ?_)
                              go_simp
                              refine hK _ ?_
                              clear hK K
                              refine hl_pure (fun K hK => ?_)
                              go_simp
                              refine hK _ ?_
                              clear hK K
                              refine hl_pure (fun K hK => ?_)
                              go_simp
                              refine hK _ ?_
                              clear hK K
                              refine hl_quiet (fun K hK => ?_)
                              go_simp
                              refine hK _ ?_
                              clear hK K
                              refine hl_quiet (fun K hK => ?_)
                              go_simp
                              first
                                | (refine hK _ ?_; clear hK K)
                                | (apply Exists.intro; refine ⟨fun x => ?_, hK _ ?_⟩
                                   · (exact HC2.out _)
                                   clear hK K)
                              refine hl_pure (fun K hK => ?_)
                              go_simp
                              refine hK _ ?_
                              clear hK K
                              refine hl_pure (fun K hK => ?_)
                              go_simp
                              refine hK _ ?_
                              clear hK K
                              refine hl_pure (fun K hK => ?_)
                              go_simp
                              refine hK _ ?_
                              clear hK K
                              refine hl_pure (fun K hK => ?_)
                              go_simp
                              refine hK _ ?_
                              clear hK K
                              refine hl_pure (fun K hK => ?_)
                              go_simp
                              refine hK _ ?_
                              clear hK K
                              refine hl_pure (fun K hK => ?_)
                              go_simp
                              refine hK _ ?_
                              clear hK K
                              refine hl_pure (fun K hK => ?_)
                              go_simp
                              refine hK _ ?_
                              clear hK K
                              refine hl_pure (fun K hK => ?_)
                              go_simp
                              refine hK _ ?_
                              clear hK K
                              refine hl_quiet (fun K hK => ?_)
                              go_simp
                              refine hK _ ?_
                              clear hK K
                              refine hl_pure (fun K hK => ?_)
                              go_simp
                              refine hK _ ?_
                              clear hK K
                              refine hl_pure (fun K hK => ?_)
                              go_simp
                              refine hK _ ?_
                              clear hK K
                              refine hl_pure (fun K hK => ?_)
                              go_simp
                              refine hK _ ?_
                              clear hK K
                              refine hl_pure (fun K hK => ?_)
                              go_simp
                              refine hK _ ?_
                              clear hK K
                              refine hl_quiet (fun K hK => ?_)
                              go_simp
                              refine hK _ ?_
                              clear hK K
                              refine hl_pure (fun K hK => ?_)
                              go_simp
                              refine hK _ ?_
                              clear hK K
                              refine hl_pure (fun K hK => ?_)
                              go_simp
                              refine hK _ ?_
                              clear hK K
                              refine hl_pure (fun K hK => ?_)
                              go_simp
                              refine hK _ ?_
                              clear hK K
                              refine hl_nil ?_
                              intro w5 x5 K hK
                              have X5 := X4.ext x5
                              have f5 := cellsAt_at X5
                              have t5 := X5.lt
                              have z5 := z4.trans x5
                              go_wp2_with fail
                              rw [rounds_succ]
                              go_wp2_with fail
                              refine wp_region_x 22 [0, 0, 0, 1, 1, 0, 0, 0, 0, 0, 0, 0, 0, 1, 0, 0, 0, 0, 1, 0, 0, 0] (by kernel_rfl) (by kernel_rfl) (by kernel_rfl) ?_
                              simp only [List.take_succ_cons, List.take_zero, List.drop_succ_cons, List.drop_zero]
                              refine hl_pure (fun K hK => ?_)
                              go_simp
                              refine hK _ ?_
                              clear hK K
                              refine hl_pure (fun K hK => ?_)
                              go_simp
                              refine hK _ ?_
                              clear hK K
                              refine hl_pure (fun K hK => ?_)
                              go_simp
                              refine hK _ ?_
                              clear hK K
                              refine hl_quiet (fun K hK => ?_)
                              go_simp
                              refine hK _ ?_
                              clear hK K
                              refine hl_quiet (fun K hK => ?_)
                              go_simp
                              first
                                | (refine hK _ ?_; clear hK K)
                                | (apply Exists.intro; refine ⟨fun x => ?_, hK _ ?_⟩
                                   · (exact HC3.out _)
                                   clear hK K)
                              refine hl_pure (fun K hK => ?_)
                              go_simp
                              refine hK _ ?_
                              clear hK K
                              refine hl_pure (fun K hK => ?_)
                              go_simp
                              refine hK _ ?_
                              clear hK K
                              refine hl_pure (fun K hK => ?_)
                              go_simp
                              refine hK _ ?_
                              clear hK K
                              refine hl_pure (fun K hK => ?_)
                              go_simp
                              refine hK _ ?_
                              clear hK K
                              refine hl_pure (fun K hK => ?_)
                              go_simp
                              refine hK _ ?_
                              clear hK K
                              refine hl_pure (fun K hK => ?_)
                              go_simp
                              refine hK _ ?_
                              clear hK K
                              refine hl_pure (fun K hK => ?_)
                              go_simp
                              refine hK _ ?_
                              clear hK K
                              refine hl_pure (fun K hK => ?_)
                              go_simp
                              refine hK _ ?_
                              clear hK K
                              refine hl_quiet (fun K hK => ?_)
                              go_simp
                              refine hK _ ?_
                              clear hK K
                              refine hl_pure (fun K hK => ?_)
                              go_simp
                              refine hK _ ?_
                              clear hK K
                              refine hl_pure (fun K hK => ?_)
                              go_simp
                              refine hK _ ?_
                              clear hK K
                              refine hl_pure (fun K hK => ?_)
                              go_simp
                              refine hK _ ?_
                              clear hK K
                              refine hl_pure (fun K hK => ?_)
                              go_simp
                              refine hK _ ?_
                              clear hK K
                              refine hl_quiet (fun K hK => ?_)
                              go_simp
                              refine hK _ ?_
                              clear hK K
                              refine hl_pure (fun K hK => ?_)
                              go_simp
                              refine hK _ ?_
                              clear hK K
                              refine hl_pure (fun K hK => ?_)
                              go_simp
                              refine hK _ ?_
                              clear hK K
                              refine hl_pure (fun K hK => ?_)
                              go_simp
                              refine hK _ ?_
                              clear hK K
                              refine hl_nil ?_
                              intro w6 x6 K hK
                              have X6 := X5.ext x6
                              have f6 := cellsAt_at X6
                              have t6 := X6.lt
                              have z6 := z5.trans x6
                              go_wp2_with fail
                              rw [rounds_succ]
                              go_wp2_with fail
                              refine (HC4.out _).mono ?_
                              rintro e w7 ⟨rfl, x7⟩
                              have X7 := X6.ext x7
                              have f7 := cellsAt_at X7
                              have t7 := X7.lt
                              have z7 := z6.trans x7
                              go_wp2_with fail
                              refine (HC5.out _).mono ?_
                              rintro e w8 ⟨rfl, x8⟩
                              have X8 := X7.ext x8
                              have f8 := cellsAt_at X8
                              have t8 := X8.lt
                              have z8 := z7.trans x8
                              go_wp2_with fail
                              first | refine fin_ret rfl (fun K hK => ?_) | refine fin_norm rfl (fun K hK => ?_)
                              simp [results, Try.results10, go_sem, rsat]
                              try go_simp
                              refine hK _ ?_
                              clear hK K
                              rw [HRR.out]
                              exact ⟨rfl, z8⟩
                            | true =>
                              rw [q7] at C5
                              have HC0 := Lib.hid C0
                              have HC1 := Lib.hid C1
                              have HC2 := Lib.hid C2
                              have HC3 := Lib.hid C3
                              have HC4 := Lib.hid C4
                              have HC5 := Lib.hid C5
                              clear C0 C1 C2 C3 C4 C5
                              have hb : restB x = true := by unfold restB; simp only [q0, q1, q2, q3d, q4, q5d, q6, q7, Bool.and_self, Bool.true_and]
                              have hrr : R = (0, 0) := by rw [HR3.out, hb]; rfl
                              have HRR := Lib.hid hrr
                              clear hb hrr
                              go_wp2_with fail
                              refine (HC0.out _).mono ?_
                              rintro e w3 ⟨rfl, x3⟩
                              have X3 := M3.ext x3
                              have f3 := cellsAt_at X3
                              have t3 := X3.lt
                              have z3 := hx3.trans x3
                              go_wp2_with fail
                              refine wp_loop_rounds 4 ?_
                              rw [rounds_succ]
                              go_wp2_with fail
                              refine wp_region_x 22 [0, 0, 0, 1, 1, 0, 0, 0, 0, 0, 0, 0, 0, 1, 0, 0, 0, 0, 1, 0, 0, 0] (by kernel_rfl) (by kernel_rfl) (by kernel_rfl) ?_
                              simp only [List.take_succ_cons, List.take_zero, List.drop_succ_cons, List.drop_zero]
                              refine hl_pure (fun K hK => ?_)
                              go_simp
                              refine hK _ ?_
                              clear hK K
                              refine hl_pure (fun K hK => ?_)
                              go_simp
                              refine hK _ ?_
                              clear hK K
                              refine hl_pure (fun K hK => ?_)
                              go_simp
                              refine hK _ ?_
                              clear hK K
                              refine hl_quiet (fun K hK => ?_)
                              go_simp
                              refine hK _ ?_
                              clear hK K
                              refine hl_quiet (fun K hK => ?_)
                              go_simp
                              first
                                | (refine hK _ ?_; clear hK K)
                                | (apply Exists.intro; refine ⟨fun x => ?_, hK _ ?_⟩
                                   · (exact HC1.out _)
                                   clear hK K)
                              refine hl_pure (fun K hK => ?_)
                              go_simp
                              refine hK _ ?_
                              clear hK K
                              refine hl_pure (fun K hK => ?_)
                              go_simp
                              refine hK _ ?_
                              clear hK K
                              refine hl_pure (fun K hK => ?_)
                              go_simp
                              refine hK _ ?_
                              clear hK K
                              refine hl_pure (fun K hK => ?_)
                              go_simp
                              refine hK _ ?_
                              clear hK K
                              refine hl_pure (fun K hK => ?_)
                              go_simp
                              refine hK _ ?_
                              clear hK K
                              refine hl_pure (fun K hK => ?_)
                              go_simp
                              refine hK _ ?_
                              clear hK K
                              refine hl_pure (fun K hK => ?_)
                              go_simp
                              refine hK _ ?_
                              clear hK K
                              refine hl_pure (fun K hK => ?_)
                              go_simp
                              refine hK _ ?_
                              clear hK K
                              refine hl_quiet (fun K hK => ?_)
                              go_simp
                              refine hK _ ?_
                              clear hK K
                              refine hl_pure (fun K hK => ?_)
                              go_simp
                              refine hK _ ?_
                              clear hK K
                              refine hl_pure (fun K hK => ?_)
                              go_simp
                              refine hK _ ?_
                              clear hK K
                              refine hl_pure (fun K hK => ?_)
                              go_simp
                              refine hK _ ?_
                              clear hK K
                              refine hl_pure (fun K hK => ?_)
                              go_simp
                              refine hK _ ?_
                              clear hK K
                              refine hl_quiet (fun K hK => ?_)
                              go_simp
                              refine hK _ ?_
                              clear hK K
                              refine hl_pure (fun K hK => ?_)
                              go_simp
                              refine hK _ ?_
                              clear hK K
                              refine hl_pure (fun K hK => ?_)
                              go_simp
                              refine hK _ ?_
                              clear hK K
                              refine hl_pure (fun K hK => ?_)
                              go_simp
                              refine hK _ ?_
                              clear hK K
                              refine hl_nil ?_
                              intro w4 x4 K hK
                              have X4 := X3.ext x4
                              have f4 := cellsAt_at X4
                              have t4 := X4.lt
                              have z4 := z3.trans x4
                              go_wp2_with fail
                              rw [rounds_succ]
                              go_wp2_with fail
                              refine wp_region_x 22 [0, 0, 0, 1, 1, 0, 0, 0, 0, 0, 0, 0, 0, 1, 0, 0, 0, 0, 1, 0, 0, 0] (by kernel_rfl) (by kernel_rfl) (by kernel_rfl) ?_
                              simp only [List.take_succ_cons, List.take_zero, List.drop_succ_cons, List.drop_zero]
                              refine hl_pure (fun K hK => ?_)
                              go_simp
                              refine hK _ ?_
                              clear hK K
                              refine hl_pure (fun K hK => ?_)
                              go_simp
                              refine hK _ ?_
                              clear hK K
                              refine hl_pure (fun K hK => ?_)
                              go_simp
                              refine hK _ ?_
                              clear hK K
                              refine hl_quiet (fun K hK => ?_)
                              go_simp
                              refine hK _ ?_
                              clear hK K
                              refine hl_quiet (fun K hK => ?_)
                              go_simp
                              first
                                | (refine hK _ ?_; clear hK K)
                                | (apply Exists.intro; refine ⟨fun x => ?_, hK _ ?_⟩
                                   · (exact HC2.out _)
                                   clear hK K)
                              refine hl_pure (fun K hK => ?_)
                              go_simp
                              refine hK _ ?_
                              clear hK K
                              refine hl_pure (fun K hK => ?_)
                              go_simp
                              refine hK _ ?_
                              clear hK K
                              refine hl_pure (fun K hK => ?_)
                              go_simp
                              refine hK _ ?_
                              clear hK K
                              refine hl_pure (fun K hK => ?_)
                              go_simp
                              refine hK _ ?_
                              clear hK K
                              refine hl_pure (fun K hK => ?_)
                              go_simp
                              refine hK _ ?_
                              clear hK K
                              refine hl_pure (fun K hK => ?_)
                              go_simp
                              refine hK _ ?_
                              clear hK K
                              refine hl_pure (fun K hK => ?_)
                              go_simp
                              refine hK _ ?_
                              clear hK K
                              refine hl_pure (fun K hK => ?_)
                              go_simp
                              refine hK _ ?_
                              clear hK K
                              refine hl_quiet (fun K hK => ?_)
                              go_simp
                              refine hK _ ?_
                              clear hK K
                              refine hl_pure (fun K hK => ?_)
                              go_simp
                              refine hK _ ?_
                              clear hK K
                              refine hl_pure (fun K hK => ?_)
                              go_simp
                              refine hK _ ?_
                              clear hK K
                              refine hl_pure (fun K hK => ?_)
                              go_simp
                              refine hK _ ?_
                              clear hK K
                              refine hl_pure (fun K hK => ?_)
                              go_simp
                              refine hK _ ?_
                              clear hK K
                              refine hl_quiet (fun K hK => ?_)
                              go_simp
                              refine hK _ ?_
                              clear hK K
                              refine hl_pure (fun K hK => ?_)
                              go_simp
                              refine hK _ ?_
                              clear hK K
                              refine hl_pure (fun K hK => ?_)
                              go_simp
                              refine hK _ ?_
                              clear hK K
                              refine hl_pure (fun K hK => ?_)
                              go_simp
                              refine hK _ ?_
                              clear hK K
                              refine hl_nil ?_
                              intro w5 x5 K hK
                              have X5 := X4.ext x5
                              have f5 := cellsAt_at X5
                              have t5 := X5.lt
                              have z5 := z4.trans x5
                              go_wp2_with fail
                              rw [rounds_succ]
                              go_wp2_with fail
                              refine wp_region_x 22 [0, 0, 0, 1, 1, 0, 0, 0, 0, 0, 0, 0, 0, 1, 0, 0, 0, 0, 1, 0, 0, 0] (by kernel_rfl) (by kernel_rfl) (by kernel_rfl) ?_
                              simp only [List.take_succ_cons, List.take_zero, List.drop_succ_cons, List.drop_zero]
                              refine hl_pure (fun K hK => ?_)
                              go_simp
                              refine hK _ ?_
                              clear hK K
                              refine hl_pure (fun K hK => ?_)
                              go_simp
                              refine hK _ ?_
                              clear hK K
                              refine hl_pure (fun K hK => ?_)
                              go_simp
                              refine hK _ ?_
                              clear hK K
                              refine hl_quiet (fun K hK => ?_)
                              go_simp
                              refine hK _ ?_
                              clear hK K
                              refine hl_quiet (fun K hK => ?_)
                              go_simp
                              first
                                | (refine hK _ ?_; clear hK K)
                                | (apply Exists.intro; refine ⟨fun x => ?_, hK _ ?_⟩
                                   · (exact HC3.out _)
                                   clear hK K)
                              refine hl_pure (fun K hK => ?_)
                              go_simp
                              refine hK _ ?_
                              clear hK K
                              refine hl_pure (fun K hK => ?_)
                              go_simp
                              refine hK _ ?_
                              clear hK K
                              refine hl_pure (fun K hK => ?_)
                              go_simp
                              refine hK _ ?_
                              clear hK K
                              refine hl_pure (fun K hK => ?_)
                              go_simp
                              refine hK _ ?_
                              clear hK K
                              refine hl_pure (fun K hK => ?_)
                              go_simp
                              refine hK _ ?_
                              clear hK K
                              refine hl_pure (fun K hK => ?_)
                              go_simp
                              refine hK _ ?_
                              clear hK K
                              refine hl_pure (fun K hK => ?_)
                              go_simp
                              refine hK _ ?_
                              clear hK K
                              refine hl_pure (fun K hK => ?_)
                              go_simp
                              refine hK _ ?_
                              clear hK K
                              refine hl_quiet (fun K hK => ?_)
                              go_simp
                              refine hK _ ?_
                              clear hK K
                              refine hl_pure (fun K hK => ?_)
                              go_simp
                              refine hK _ ?_
                              clear hK K
                              refine hl_pure (fun K hK => ?_)
                              go_simp
                              refine hK _ ?_
                              clear hK K
                              refine hl_pure (fun K hK => ?_)
                              go_simp
                              refine hK _ ?_
                              clear hK K
                              refine hl_pure (fun K hK => ?_)
                              go_simp
                              refine hK _ ?_
                              clear hK K
                              refine hl_quiet (fun K hK => ?_)
                              go_simp
                              refine hK _ ?_
                              clear hK K
                              refine hl_pure (fun K hK => ?_)
                              go_simp
                              refine hK _ ?_
                              clear hK K
                              refine hl_pure (fun K hK => ?_)
                              go_simp
                              refine hK _ ?_
                              clear hK K
                              refine hl_pure (fun K hK => ?_)
                              go_simp
                              refine hK _ ?_
                              clear hK K
                              refine hl_nil ?_
                              intro w6 x6 K hK
                              have X6 := X5.ext x6
                              have f6 := cellsAt_at X6
                              have t6 := X6.lt
                              have z6 := z5.trans x6
                              go_wp2_with fail
                              rw [rounds_succ]
                              go_wp2_with fail
                              refine (HC4.out _).mono ?_
                              rintro e w7 ⟨rfl, x7⟩
                              have X7 := X6.ext x7
                              have f7 := cellsAt_at X7
                              have t7 := X7.lt
                              have z7 := z6.trans x7
                              go_wp2_with fail
                              refine (HC5.out _).mono ?_
                              rintro e w8 ⟨rfl, x8⟩
                              have X8 := X7.ext x8
                              have f8 := cellsAt_at X8
                              have t8 := X8.lt
                              have z8 := z7.trans x8
                              go_wp2_with fail
                              first | refine fin_ret rfl (fun K hK => ?_) | refine fin_norm rfl (fun K hK => ?_)
                              simp [results, Try.results10, go_sem, rsat]
                              try go_simp
                              refine hK _ ?_
                              clear hK K
                              rw [HRR.out]
                              exact ⟨rfl, z8⟩
                        · have q5d : decide (x.f2 < x.f3) = false := decide_eq_false q5
                          have q5e : x.f3 ≤ x.f2 := by omega
                          have HC0 := Lib.hid C0
                          have HC1 := Lib.hid C1
                          have HC2 := Lib.hid C2
                          have HC3 := Lib.hid C3
                          have HC4 := Lib.hid C4
                          have HC5 := Lib.hid C5
                          clear C0 C1 C2 C3 C4 C5
                          have hb : restB x = false := by unfold restB; simp only [q0, q1, q2, q3d, q4, q5d, Bool.false_and, Bool.and_false, Bool.true_and]
                          have hrr : R = (9, 0) := by rw [HR3.out, hb]; rfl
                          have HRR := Lib.hid hrr
                          clear hb hrr
                          go_wp2_with fail
                          refine (HC0.out _).mono ?_
                          rintro e w3 ⟨rfl, x3⟩
                          have X3 := M3.ext x3
                          have f3 := cellsAt_at X3
                          have t3 := X3.lt
                          have z3 := hx3.trans x3
                          go_wp2_with fail
                          refine wp_loop_rounds 4 ?_
                          rw [rounds_succ]
                          go_wp2_with fail
                          refine wp_region_x 22 [0, 0, 0, 1, 1, 0, 0, 0, 0, 0, 0, 0, 0, 1, 0, 0, 0, 0, 1, 0, 0, 0] (by kernel_rfl) (by kernel_rfl) (by kernel_rfl) ?_
                          simp only [List.take_succ_cons, List.take_zero, List.drop_succ_cons, List.drop_zero]
                          refine hl_pure (fun K hK => ?_)
                          go_simp
                          refine hK _ ?_
                          clear hK K
                          refine hl_pure (fun K hK => ?_)
                          go_simp
                          refine hK _ ?_
                          clear hK K
                          refine hl_pure (fun K hK => ?_)
                          go_simp
                          refine hK _ ?_
                          clear hK K
                          refine hl_quiet (fun K hK => ?_)
                          go_simp
                          refine hK _ ?_
                          clear hK K
                          refine hl_quiet (fun K hK => ?_)
                          go_simp
                          first
                            | (refine hK _ ?_; clear hK K)
                            | (apply Exists.intro; refine ⟨fun x => ?_, hK _ ?_⟩
                               · (exact HC1.out _)
                               clear hK K)
                          refine hl_pure (fun K hK => ?_)
                          go_simp
                          refine hK _ ?_
                          clear hK K
                          refine hl_pure (fun K hK => ?_)
                          go_simp
                          refine hK _ ?_
                          clear hK K
                          refine hl_pure (fun K hK => ?_)
                          go_simp
                          refine hK _ ?_
                          clear hK K
                          refine hl_pure (fun K hK => ?_)
                          go_simp
                          refine hK _ ?_
                          clear hK K
                          refine hl_pure (fun K hK => ?_)
                          go_simp
                          refine hK _ ?_
                          clear hK K
                          refine hl_pure (fun K hK => ?_)
                          go_simp
                          refine hK _ ?_
                          clear hK K
                          refine hl_pure (fun K hK => ?_)
                          go_simp
                          refine hK _ ?_
                          clear hK K
                          refine hl_pure (fun K hK => ?_)
                          go_simp
                          refine hK _ ?_
                          clear hK K
                          refine hl_quiet (fun K hK => ?_)
                          go_simp
                          refine hK _ ?_
                          clear hK K
                          refine hl_pure (fun K hK => ?_)
                          go_simp
                          refine hK _ ?_
                          clear hK K
                          refine hl_pure (fun K hK => ?_)
                          go_simp
                          refine hK _ ?_
                          clear hK K
                          refine hl_pure (fun K hK => ?_)
                          go_simp
                          refine hK _ ?_
                          clear hK K
                          refine hl_pure (fun K hK => ?_)
                          go_simp
                          refine hK _ ?_
                          clear hK K
                          refine hl_quiet (fun K hK => ?_)
                          go_simp
                          refine hK _ ?_
                          clear hK K
                          refine hl_pure (fun K hK => ?_)
                          go_simp
                          refine hK _ ?_
                          clear hK K
                          refine hl_pure (fun K hK => ?_)
                          go_simp
                          refine hK _ ?_
                          clear hK K
                          refine hl_pure (fun K hK => ?_)
                          go_simp
                          refine hK _ ?_
                          clear hK K
                          refine hl_nil ?_
                          intro w4 x4 K hK
                          have X4 := X3.ext x4
                          have f4 := cellsAt_at X4
                          have t4 := X4.lt
                          have z4 := z3.trans x4
                          go_wp2_with fail
                          rw [rounds_succ]
                          go_wp2_with fail
                          refine wp_region_x 22 [0, 0, 0, 1, 1, 0, 0, 0, 0, 0, 0, 0, 0, 1, 0, 0, 0, 0, 1, 0, 0, 0] (by kernel_rfl) (by kernel_rfl) (by kernel_rfl) ?_
                          simp only [List.take_succ_cons, List.take_zero, List.drop_succ_cons, List.drop_zero]
                          refine hl_pure (fun K hK => ?_)
                          go_simp
                          refine hK _ ?_
                          clear hK K
                          refine hl_pure (fun K hK => ?_)
                          go_simp
                          refine hK _ ?_
                          clear hK K
                          refine hl_pure (fun K hK => ?_)
                          go_simp
                          refine hK _ ?_
                          clear hK K
                          refine hl_quiet (fun K hK => ?_)
                          go_simp
                          refine hK _ ?_
                          clear hK K
                          refine hl_quiet (fun K hK => ?_)
                          go_simp
                          first
                            | (refine hK _ ?_; clear hK K)
                            | (apply Exists.intro; refine ⟨fun x => ?_, hK _ ?_⟩
                               · (exact HC2.out _)
                               clear hK K)
                          refine hl_pure (fun K hK => ?_)
                          go_simp
                          refine hK _ ?_
                          clear hK K
                          refine hl_pure (fun K hK => ?_)
                          go_simp
                          refine hK _ ?_
                          clear hK K
                          refine hl_pure (fun K hK => ?_)
                          go_simp
                          refine hK _ ?_
                          clear hK K
                          refine hl_pure (fun K hK => ?_)
                          go_simp
                          refine hK _ ?_
                          clear hK K
                          refine hl_pure (fun K hK => ?_)
                          go_simp
                          refine hK _ ?_
                          clear hK K
                          refine hl_pure (fun K hK => ?_)
                          go_simp
                          refine hK _ ?_
                          clear hK K
                          refine hl_pure (fun K hK => ?_)
                          go_simp
                          refine hK _ ?_
                          clear hK K
                          refine hl_pure (fun K hK => ?_)
                          go_simp
                          refine hK _ ?_
                          clear hK K
                          refine hl_quiet (fun K hK => ?_)
                          go_simp
                          refine hK _ ?_
                          clear hK K
                          refine hl_pure (fun K hK => ?_)
                          go_simp
                          refine hK _ ?_
                          clear hK K
                          refine hl_pure (fun K hK => ?_)
                          go_simp
                          refine hK _ ?_
                          clear hK K
                          refine hl_pure (fun K hK => ?_)
                          go_simp
                          refine hK _ ?_
                          clear hK K
                          refine hl_pure (fun K hK => ?_)
                          go_simp
                          refine hK _ ?_
                          clear hK K
                          refine hl_quiet (fun K hK => ?_)
                          go_simp
                          refine hK _ ?_
                          clear hK K
                          refine hl_pure (fun K hK => ?_)
                          go_simp
                          refine hK _ ?_
                          clear hK K
                          refine hl_pure (fun K hK => ?_)
                          go_simp
                          refine hK _ ?_
                          clear hK K
                          refine hl_pure (fun K hK => ?_)
                          go_simp
                          refine hK _ ?_
                          clear hK K
                          refine hl_nil ?_
                          intro w5 x5 K hK
                          have X5 := X4.ext x5
                          have f5 := cellsAt_at X5
                          have t5 := X5.lt
                          have z5 := z4.trans x5
                          go_wp2_with fail
                          rw [rounds_succ]
                          go_wp2_with fail
                          refine wp_region_x 22 [0, 0, 0, 1, 1, 0, 0, 0, 0, 0, 0, 0, 0, 1, 0, 0, 0, 0, 1, 0, 0, 0] (by kernel_rfl) (by kernel_rfl) (by kernel_rfl) ?_
                          simp only [List.take_succ_cons, List.take_zero, List.drop_succ_cons, List.drop_zero]
                          refine hl_pure (fun K hK => ?_)
                          go_simp
                          refine hK _ ?_
                          clear hK K
                          refine hl_pure (fun K hK => ?_)
                          go_simp
                          refine hK _ ?_
                          clear hK K
                          refine hl_pure (fun K hK => ?_)
                          go_simp
                          refine hK _ ?_
                          clear hK K
                          refine hl_quiet (fun K hK => ?_)
                          go_simp
                          refine hK _ ?_
                          clear hK K
                          refine hl_quiet (fun K hK => ?_)
                          go_simp
                          first
                            | (refine hK _ ?_; clear hK K)
                            | (apply Exists.intro; refine ⟨fun x => ?_, hK _ ?_⟩
                               · (exact HC3.out _)
                               clear hK K)
                          refine hl_pure (fun K hK => ?_)
                          go_simp
                          refine hK _ ?_
                          clear hK K
                          refine hl_pure (fun K hK => ?_)
                          go_simp
                          refine hK _ ?_
                          clear hK K
                          refine hl_pure (fun K hK => ?_)
                          go_simp
                          refine hK _ ?_
                          clear hK K
                          refine hl_pure (fun K hK => ?_)
                          go_simp
                          refine hK _ ?_
                          clear hK K
                          refine hl_pure (fun K hK => ?_)
                          go_simp
                          refine hK _ ?_
                          clear hK K
                          refine hl_pure (fun K hK => ?_)
                          go_simp
                          refine hK _ ?_
                          clear hK K
                          refine hl_pure (fun K hK => ?_)
                          go_simp
                          refine hK _ ?_
                          clear hK K
                          refine hl_pure (fun K hK => ?_)
                          go_simp
                          refine hK _ ?_
                          clear hK K
                          refine hl_quiet (fun K hK => ?_)
                          go_simp
                          refine hK _ ?_
                          clear hK K
                          refine hl_pure (fun K hK => ?_)
                          go_simp
                          refine hK _ ?_
                          clear hK K
                          refine hl_pure (fun K hK => ?_)
                          go_simp
                          refine hK _ ?_
                          clear hK K
                          refine hl_pure (fun K hK => ?_)
                          go_simp
                          refine hK _ ?_
                          clear hK K
                          refine hl_pure (fun K hK => ?_)
                          go_simp
                          refine hK _ ?_
                          clear hK K
                          refine hl_quiet (fun K hK => ?_)
                          go_simp
                          refine hK _ ?_
                          clear hK K
                          refine hl_pure (fun K hK => ?_)
                          go_simp
                          refine hK _ ?_
                          clear hK K
                          refine hl_pure (fun K hK => ?_)
                          go_simp
                          refine hK _ ?_
                          clear hK K
                          refine hl_pure (fun K hK => ?_)
                          go_simp
                          refine hK _ ?_
                          clear hK K
                          refine hl_nil ?_
                          intro w6 x6 K hK
                          have X6 := X5.ext x6
                          have f6 := cellsAt_at X6
                          have t6 := X6.lt
                          have z6 := z5.trans x6
                          go_wp2_with fail
                          first | refine fin_ret rfl (fun K hK => ?_) | refine fin_norm rfl (fun K hK => ?_)
                          simp [results, Try.results10, go_sem, rsat]
                          try go_simp
                          refine hK _ ?_
                          clear hK K
                          rw [HRR.out]
                          exact ⟨rfl, z6⟩
                    · have q3d : decide (x.f1 < x.f2) = false := decide_eq_false q3
                      have q3e : x.f2 ≤ x.f1 := by omega
                      have HC0 := Lib.hid C0
                      have HC1 := Lib.hid C1
                      have HC2 := Lib.hid C2
                      have HC3 := Lib.hid C3
                      have HC4 := Lib.hid C4
                      have HC5 := Lib.hid C5
                      clear C0 C1 C2 C3 C4 C5
                      have hb : restB x = false := by unfold restB; simp only [q0, q1, q2, q3d, Bool.false_and, Bool.and_false, Bool.true_and]
                      have hrr : R = (9, 0) := by rw [HR3.out, hb]; rfl
                      have HRR := Lib.hid hrr
                      clear hb hrr
                      go_wp2_with fail
                      refine (HC0.out _).mono ?_
                      rintro e w3 ⟨rfl, x3⟩
                      have X3 := M3.ext x3
                      have f3 := cellsAt_at X3
                      have t3 := X3.lt
                      have z3 := hx3.trans x3
                      go_wp2_with fail
                      refine wp_loop_rounds 4 ?_
                      rw [rounds_succ]
                      go_wp2_with fail
                      refine wp_region_x 22 [0, 0, 0, 1, 1, 0, 0, 0, 0, 0, 0, 0, 0, 1, 0, 0, 0, 0, 1, 0, 0, 0] (by kernel_rfl) (by kernel_rfl) (by kernel_rfl) ?_
                      simp only [List.take_succ_cons, List.take_zero, List.drop_succ_cons, List.drop_zero]
                      refine hl_pure (fun K hK => ?_)
                      go_simp
                      refine hK _ ?_
                      clear hK K
                      refine hl_pure (fun K hK => ?_)
                      go_simp
                      refine hK _ ?_
                      clear hK K
                      refine hl_pure (fun K hK => ?_)
                      go_simp
                      refine hK _ ?_
                      clear hK K
                      refine hl_quiet (fun K hK => ?_)
                      go_simp
                      refine hK _ ?_
                      clear hK K
                      refine hl_quiet (fun K hK => ?_)
                      go_simp
                      first
                        | (refine hK _ ?_; clear hK K)
                        | (apply Exists.intro; refine ⟨fun x => ?_, hK _ ?_⟩
                           · (exact HC1.out _)
                           clear hK K)
                      refine hl_pure (fun K hK => ?_)
                      go_simp
                      refine hK _ ?_
                      clear hK K
                      refine hl_pure (fun K hK => ?_)
                      go_simp
                      refine hK _ ?_
                      clear hK K
                      refine hl_pure (fun K hK => ?_)
                      go_simp
                      refine hK _ ?_
                      clear hK K
                      refine hl_pure (fun K hK => ?_)
                      go_simp
                      refine hK _ ?_
                      clear hK K
                      refine hl_pure (fun K hK => ?_)
                      go_simp
                      refine hK _ ?_
                      clear hK K
                      refine hl_pure (fun K hK => ?_)
                      go_simp
                      refine hK _ ?_
                      clear hK K
                      refine hl_pure (fun K hK => ?_)
                      go_simp
                      refine hK _ ?_
                      clear hK K
                      refine hl_pure (fun K hK => ?_)
                      go_simp
                      refine hK _ ?_
                      clear hK K
                      refine hl_quiet (fun K hK => ?_)
                      go_simp
                      refine hK _ ?_
                      clear hK K
                      refine hl_pure (fun K hK => ?_)
                      go_simp
                      refine hK _ ?_
                      clear hK K
                      refine hl_pure (fun K hK => ?_)
                      go_simp
                      refine hK _ ?_
                      clear hK K
                      refine hl_pure (fun K hK => ?_)
                      go_simp
                      refine hK _ ?_
                      clear hK K
                      refine hl_pure (fun K hK => ?_)
                      go_simp
                      refine hK _ ?_
                      clear hK K
                      refine hl_quiet (fun K hK => ?_)
                      go_simp
                      refine hK _ ?_
                      clear hK K
                      refine hl_pure (fun K hK => ?_)
                      go_simp
                      refine hK _ ?_
                      clear hK K
                      refine hl_pure (fun K hK => ?_)
                      go_simp
                      refine hK _ ?_
                      clear hK K
                      refine hl_pure (fun K hK => ?_)
                      go_simp
                      refine hK _ ?_
                      clear hK K
                      refine hl_nil ?_
                      intro w4 x4 K hK
                      have X4 := X3.ext x4
                      have f4 := cellsAt_at X4
                      have t4 := X4.lt
                      have z4 := z3.trans x4
                      go_wp2_with fail
                      rw [rounds_succ]
                      go_wp2_with fail
                      refine wp_region_x 22 [0, 0, 0, 1, 1, 0, 0, 0, 0, 0, 0, 0, 0, 1, 0, 0, 0, 0, 1, 0, 0, 0] (by kernel_rfl) (by kernel_rfl) (by kernel_rfl) ?_
                      simp only [List.take_succ_cons, List.take_zero, List.drop_succ_cons, List.drop_zero]
                      refine hl_pure (fun K hK => ?_)
                      go_simp
                      refine hK _ ?_
                      clear hK K
                      refine hl_pure (fun K hK => ?_)
                      go_simp
                      refine hK _ ?_
                      clear hK K
                      refine hl_pure (fun K hK => ?_)
                      go_simp
                      refine hK _ ?_
                      clear hK K
                      refine hl_quiet (fun K hK => ?_)
                      go_simp
                      refine hK _ ?_
                      clear hK K
                      refine hl_quiet (fun K hK => ?_)
                      go_simp
                      first
                        | (refine hK _ ?_; clear hK K)
                        | (apply Exists.intro; refine ⟨fun x => ?_, hK _ ?_⟩
                           · (exact HC2.out _)
                           clear hK K)
                      refine hl_pure (fun K hK => ?_)
                      go_simp
                      refine hK _ ?_
                      clear hK K
                      refine hl_pure (fun K hK => ?_)
                      go_simp
                      refine hK _ ?_
                      clear hK K
                      refine hl_pure (fun K hK => ?_)
                      go_simp
                      refine hK _ ?_
                      clear hK K
                      refine hl_pure (fun K hK => ?_)
                      go_simp
                      refine hK _ ?_
                      clear hK K
                      refine hl_pure (fun K hK => ?_)
                      go_simp
                      refine hK _ ?_
                      clear hK K
                      refine hl_pure (fun K hK => ?_)
                      go_simp
                      refine hK _ ?_
                      clear hK K
                      refine hl_pure (fun K hK => ?_)
                      go_simp
                      refine hK _ ?_
                      clear hK K
                      refine hl_pure (fun K hK => ?_)
                      go_simp
                      refine hK _ ?_
                      clear hK K
                      refine hl_quiet (fun K hK => ?_)
                      go_simp
                      refine hK _ ?_
                      clear hK K
                      refine hl_pure (fun K hK => ?_)
                      go_simp
                      refine hK _ ?_
                      clear hK K
                      refine hl_pure (fun K hK => ?_)
                      go_simp
                      refine hK _ ?_
                      clear hK K
                      refine hl_pure (fun K hK => ?_)
                      go_simp
                      refine hK _ ?_
                      clear hK K
                      refine hl_pure (fun K hK => ?_)
                      go_simp
                      refine hK _ ?_
                      clear hK K
                      refine hl_quiet (fun K hK => ?_)
                      go_simp
                      refine hK _ ?_
                      clear hK K
                      refine hl_pure (fun K hK => ?_)
                      go_simp
                      refine hK _ ?_
                      clear hK K
                      refine hl_pure (fun K hK => ?_)
                      go_simp
                      refine hK _ ?_
                      clear hK K
                      refine hl_pure (fun K hK => ?_)
                      go_simp
                      refine hK _ ?_
                      clear hK K
                      refine hl_nil ?_
                      intro w5 x5 K hK
                      have X5 := X4.ext x5
                      have f5 := cellsAt_at X5
                      have t5 := X5.lt
                      have z5 := z4.trans x5
                      go_wp2_with fail
                      first | refine fin_ret rfl (fun K hK => ?_) | refine fin_norm rfl (fun K hK => ?_)
                      simp [results, Try.results10, go_sem, rsat]
                      try go_simp
                      refine hK _ ?_
                      clear hK K
                      rw [HRR.out]
                      exact ⟨rfl, z5⟩
        · have htt : tableI x.t = (9, 0) := by unfold tableI; rw [if_pos ht1]
          have hr2 : R = (9, 0) := by rw [HR1.out, htt]; rfl
          have HR2 := Lib.hid hr2
          clear hr2 htt
          by_cases ht2 : x.t.length < 1
          · go_wp2_with fail
            first | refine fin_ret rfl (fun K hK => ?_) | refine fin_norm rfl (fun K hK => ?_)
            simp [results, Try.results10, go_sem, rsat]
            try go_simp
            refine hK _ ?_
            clear hK K
            rw [HR2.out]
            exact ⟨rfl, hx⟩
          · have ht3 : 20 < x.t.length := by omega
            clear ht1
            go_wp2_with fail
            first | refine fin_ret rfl (fun K hK => ?_) | refine fin_norm rfl (fun K hK => ?_)
            simp [results, Try.results10, go_sem, rsat]
            try go_simp
            refine hK _ ?_
            clear hK K
            rw [HR2.out]
            exact ⟨rfl, hx⟩
  · rw [if_pos (by simpa using hn)]
    by_cases h2 : x.l.length < 1
    ·
      go_enter Try.func10, Try.ntmps10
      go_wp2_with fail
      first | refine fin_ret rfl (fun K hK => ?_) | refine fin_norm rfl (fun K hK => ?_)
      simp [results, Try.results10, go_sem, rsat]
      try go_simp
      refine hK _ ?_
      clear hK K
      exact ⟨rfl, (by repeat (first | (with_reducible exact Ext.refl _) | (with_reducible assumption) | (with_reducible refine Ext.alloc ?_ _) | (with_reducible refine Ext.drew ?_) | (with_reducible refine Ext.drewN ?_ _) | (with_reducible refine Ext.setCell ?_ (by simp; try omega) _) | (with_reducible refine Ext.setRow ?_ (by simp; try omega) _)))⟩
    · have h3 : 8 < x.l.length := by omega
      clear hn
      go_enter Try.func10, Try.ntmps10
      go_wp2_with fail
      first | refine fin_ret rfl (fun K hK => ?_) | refine fin_norm rfl (fun K hK => ?_)
      simp [results, Try.results10, go_sem, rsat]
      try go_simp
      refine hK _ ?_
      clear hK K
      exact ⟨rfl, (by repeat (first | (with_reducible exact Ext.refl _) | (with_reducible assumption) | (with_reducible refine Ext.alloc ?_ _) | (with_reducible refine Ext.drew ?_) | (with_reducible refine Ext.drewN ?_ _) | (with_reducible refine Ext.setCell ?_ (by simp; try omega) _) | (with_reducible refine Ext.setRow ?_ (by simp; try omega) _)))⟩
end Go.Proofs.Ytfbpmngdamaobaa
