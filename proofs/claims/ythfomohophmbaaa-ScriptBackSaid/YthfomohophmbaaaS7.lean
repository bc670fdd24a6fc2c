/- Law ScriptEncodes. No condition. -/
import Derived.Test.YthfomohophmbaaaS6
namespace Go.Proofs.Ythfomohophmbaaa
open Go.RowKit
attribute [local go_sem] Later.cell QUpon_value QUpon_enter MUpon_value run_eql_slice_nil Same.cell
attribute [local go_sem ↓ high] loadStp_is storeStp_is
attribute [local go_sem] run_loadStp run_loadStp_at run_storeStp one_int one_bool one_slice one_ptr one_str setRow_new setRow_past cell_ca frozen_ca cellsAt_alloc_at cellsAt_alloc_past cellsAt_drew cellsAt_later cellsAt_setCell cellsAt_set_same cellsAt_setRow_same cellsAt_setRow_far subAt_alloc subAt_drew subAt_later subAt_setCell subAt_setRow ltn_2 ltn_3 ltn_4 ltn_5
theorem Bs.none_at (W : World) : (⟨none, 0, []⟩ : Bs).At W := ⟨Nat.le_refl _, Nat.zero_le _, ⟨rfl, fun h => absurd h (by decide)⟩, fun x hx => by cases hx⟩
set_option maxHeartbeats 4000000 in
set_option maxRecDepth 100000 in
theorem alive_c29 (w : World) : Calls Try.prog 8 #[] w fun e w' => e = .returned (.bool true) ∧ Ext w w' := by
  have hF : encSF [⟨2, 0, 1, ⟨none, 0, []⟩⟩] = 0 := rfl
  have hL : encSL [⟨2, 0, 1, ⟨none, 0, []⟩⟩] = [1, 2, 0, 0, 0, 0, 0, 0, 0, 2] := by
    show numB 1 ++ _ = _
    rw [numB_small (by decide)]
    decide
  have hT : ticksF 0 [⟨2, 0, 4, ⟨none, 0, []⟩⟩, ⟨2, 0, -1, ⟨none, 0, []⟩⟩] = (4, true) := by decide
  have C1 := fun W h => sencode_c ⟨some ⟨w.heap.size, 0, none⟩, 1, [⟨2, 0, 1, ⟨none, 0, []⟩⟩]⟩ W h
  unfold EncS at C1
  simp only [hF, hL] at C1
  have C2 := fun g W h => sticks_c ⟨some ⟨g, 0, none⟩, 2, [⟨2, 0, 4, ⟨none, 0, []⟩⟩, ⟨2, 0, -1, ⟨none, 0, []⟩⟩]⟩ W h
  simp only [hT] at C2
  have HC1 := Lib.hid C1
  have HC2 := Lib.hid C2
  clear C1 C2 hF hL hT
  go_enter Try.func8, Try.ntmps8
  go_wp2_with fail
  refine (HC1.out _ ⟨Nat.le_refl _, show (_ : Nat) ≤ maxLen by simp [maxLen], Src.at (At.new _ _ _) rfl, ?_⟩).mono ?_
  · intro p hp
    obtain rfl := List.mem_singleton.1 hp
    exact ⟨⟨by decide, by decide⟩, ⟨by decide, by decide⟩, ⟨by decide, by decide⟩, Bs.none_at _⟩
  rintro e w1 ⟨hx1, v, rfl, A, c, rfl, R, F⟩
  have x1 : Ext w w1 := Ext.trans (by repeat (first | (with_reducible exact Ext.refl _) | (with_reducible assumption) | (with_reducible refine Ext.alloc ?_ _) | (with_reducible refine Ext.drew ?_) | (with_reducible refine Ext.drewN ?_ _) | (with_reducible refine Ext.setCell ?_ (by simp; try omega) _) | (with_reducible refine Ext.setRow ?_ (by simp; try omega) _))) hx1
  obtain ⟨b, off, cur, rfl, _⟩ := R.at_ (by have := R.le; simp at this; omega)
  have e0 : w1.cell? ⟨b, off, none⟩ = some (.int .u8 1) := R.cell rfl (j := 0) (by decide)
  have e1 : w1.cell? ⟨b, off + 1, none⟩ = some (.int .u8 2) := R.cell rfl (j := 1) (by decide)
  have e9 : w1.cell? ⟨b, off + 9, none⟩ = some (.int .u8 2) := R.cell rfl (j := 9) (by decide)
  have sb := cell_lt e1
  simp only at sb
  clear R F
  simp only [List.length_cons, List.length_nil]
  go_wp2_with fail
  refine (HC2.out _ _ ⟨Nat.le_refl _, show (_ : Nat) ≤ maxLen by simp [maxLen], Src.at (At.new _ _ _) rfl, ?_⟩).mono ?_
  · intro p hp
    rcases List.mem_cons.1 hp with rfl | hp
    · exact ⟨⟨by decide, by decide⟩, ⟨by decide, by decide⟩, ⟨by decide, by decide⟩, Bs.none_at _⟩
    · obtain rfl := List.mem_singleton.1 hp
      exact ⟨⟨by decide, by decide⟩, ⟨by decide, by decide⟩, ⟨by decide, by decide⟩, Bs.none_at _⟩
  rintro e w2 ⟨rfl, hx2⟩
  have x2 : Ext w1 w2 := Ext.trans (by repeat (first | (with_reducible exact Ext.refl _) | (with_reducible assumption) | (with_reducible refine Ext.alloc ?_ _) | (with_reducible refine Ext.drew ?_) | (with_reducible refine Ext.drewN ?_ _) | (with_reducible refine Ext.setCell ?_ (by simp; try omega) _) | (with_reducible refine Ext.setRow ?_ (by simp; try omega) _))) hx2
  have d0 := (x2.facts.1 b off sb).trans e0
  have d1 := (x2.facts.1 b (off + 1) sb).trans e1
  have d9 := (x2.facts.1 b (off + 9) sb).trans e9
  clear e0 e1 e9
  go_wp2_with fail
  first | refine fin_ret rfl (fun K hK => ?_) | refine fin_norm rfl (fun K hK => ?_)
  simp [results, Try.results8, go_sem, rsat]
  try go_simp
  refine hK _ ?_
  clear hK K
  exact ⟨rfl, x1.trans x2⟩
set_option maxHeartbeats 8000000 in
set_option maxRecDepth 100000 in
theorem scriptencodes_c (x y : Sts) (w : World) (hx : x.At w) (hy : y.At w) : Calls Try.prog 3 #[x.v, y.v] w fun e w' => e = .returned (.bool true) ∧ Ext w w' := by
  have L1 := fun W (h : Ext w W) => light29_c x W (hx.ext h)
  have L2 := fun W (h : Ext w W) => light29_c y W (hy.ext h)
  have HA := Lib.hid alive_c29
  cases h1 : lightS x.l with
  | false =>
    rw [h1] at L1
    have H1 := Lib.hid L1
    clear L1 L2 h1
    unfold Sts.v at *
    go_enter Try.func3, Try.ntmps3
    go_wp2_with fail
    refine (H1.out _ (Ext.refl w)).mono ?_
    rintro e w1 ⟨rfl, hx1⟩
    go_wp2_with fail
    refine (HA.out _).mono ?_
    rintro e w2 ⟨rfl, hx2⟩
    go_wp2_with fail
    first | refine fin_ret rfl (fun K hK => ?_) | refine fin_norm rfl (fun K hK => ?_)
    simp [results, Try.results3, go_sem, rsat]
    try go_simp
    refine hK _ ?_
    clear hK K
    exact ⟨rfl, hx1.trans hx2⟩
  | true =>
    rw [h1] at L1
    cases h2 : lightS y.l with
    | false =>
      rw [h2] at L2
      have H1 := Lib.hid L1
      have H2 := Lib.hid L2
      clear L1 L2 h1 h2
      unfold Sts.v at *
      go_enter Try.func3, Try.ntmps3
      go_wp2_with fail
      refine (H1.out _ (Ext.refl w)).mono ?_
      rintro e w1 ⟨rfl, hx1⟩
      go_wp2_with fail
      refine (H2.out _ hx1).mono ?_
      rintro e w2 ⟨rfl, hx2⟩
      go_wp2_with fail
      refine (HA.out _).mono ?_
      rintro e w3 ⟨rfl, hx3⟩
      go_wp2_with fail
      first | refine fin_ret rfl (fun K hK => ?_) | refine fin_norm rfl (fun K hK => ?_)
      simp [results, Try.results3, go_sem, rsat]
      try go_simp
      refine hK _ ?_
      clear hK K
      exact ⟨rfl, (hx1.trans hx2).trans hx3⟩
    | true =>
      rw [h2] at L2
      have C1 := fun W (h : Ext w W) => sencode_c x W (hx.ext h)
      have C2 := fun W (h : Ext w W) => rsencode_c x W (hx.ext h)
      have C3 := fun W (h : Ext w W) => sticks_c x W (hx.ext h)
      have C4 := fun W (h : Ext w W) => rsticks_c x W (hx.ext h)
      have C5 := fun W (h : Ext w W) => ssame_c x y W (hx.ext h) (hy.ext h)
      have C6 := fun W (h : Ext w W) => rssame_c x y W (hx.ext h) (hy.ext h)
      unfold EncS at C1 C2
      have hby := encSL_byt hx.ok
      have hlm : x.l.length ≤ 9223372036854775807 := by have := hx.le; have := hx.max; unfold maxLen at this; omega
      generalize encSF x.l = f at C1 C2
      generalize encSL x.l = L at C1 C2 hby
      generalize ticksF 0 x.l = t at C3 C4
      generalize sameS x.l y.l = sm at C5 C6
      have hff : (f == f) = true := by simp
      have htt : (t.1 == t.1) = true := by simp
      have htt2 : (t.2 == t.2) = true := by simp
      have hss : (sm == sm) = true := by simp
      have H1 := Lib.hid L1
      have H2 := Lib.hid L2
      have HC1 := Lib.hid C1
      have HC2 := Lib.hid C2
      have HC3 := Lib.hid C3
      have HC4 := Lib.hid C4
      have HC5 := Lib.hid C5
      have HC6 := Lib.hid C6
      have HBY := Lib.hid hby
      clear L1 L2 h1 h2 C1 C2 C3 C4 C5 C6 hby
      obtain ⟨A, c, l⟩ := x
      unfold Sts.v at *
      simp only at hlm ⊢
      go_enter Try.func3, Try.ntmps3
      go_wp2_with fail
      refine (H1.out _ (Ext.refl w)).mono ?_
      rintro e w1 ⟨rfl, hx1⟩
      go_wp2_with fail
      refine (H2.out _ hx1).mono ?_
      rintro e w2 ⟨rfl, hx2⟩
      have x2 := hx1.trans hx2
      go_wp2_with fail
      refine (HC1.out _ x2).mono ?_
      rintro e w3 ⟨hx3, v3, rfl, A3, c3, rfl, R3, F3⟩
      have x3 := x2.trans hx3
      go_wp2_with fail
      refine (HC2.out _ x3).mono ?_
      rintro e w4 ⟨hx4, v4, rfl, A4, c4, rfl, R4, F4⟩
      have x4 := x3.trans hx4
      have R34 := R3.ext hx4
      clear R3 F3 F4 hx1 hx2 hx3 hx4 x2 x3
      go_wp2_with fail
      go_loopw [9] (fun i wr => ∃ (k : Nat), i = .int .i64 k ∧ k ≤ l.length ∧ Ext w4 wr) (fun i _ => l.length - (intOf i).toNat)
      case atStart => exact ⟨0, rfl, by omega, Ext.refl _⟩
      case round =>
        obtain ⟨k, rfl, hk, hxr⟩ := hrel
        have yr := x4.trans hxr
        by_cases hgo : k < l.length ∧ k < 100
        · obtain ⟨hlt, h100⟩ := hgo
          obtain ⟨b, off, hA, hb, hs⟩ := hx.elem k hlt
          simp only at hA hs
          subst hA
          generalize l[k] = p at hs
          obtain ⟨kd, sy, n, ⟨RA, Rc, rx⟩⟩ := p
          have hs1 := (subAt_ext yr hb).trans hs
          have hbr : b < wr.heap.size := Nat.lt_of_lt_of_le hb yr.size
          simp only [Sp.cells, Bs.v] at hs1
          have D1 := sright_c kd sy n RA Rc rx.length
          have D2 := rright29_c kd sy n RA Rc rx.length
          generalize rightS kd sy n rx.length = r at D1 D2
          have hrr : (r != r) = false := by simp
          have HD1 := Lib.hid D1
          have HD2 := Lib.hid D2
          clear D1 D2 hs
          go_wp2_with fail
          refine wp_region_x 11 [0, 0, 0, 1, 1, 0, 0, 0, 1, 1, 0] (by kernel_rfl) (by kernel_rfl) (by kernel_rfl) ?_
          simp only [List.take_succ_cons, List.take_zero, List.drop_succ_cons, List.drop_zero]
          refine hl_pure (fun K hK => ?_)
          go_simp
          refine hK _ ?_
          clear hK K
          refine hl_pure (fun K hK => ?_)
          go_simp
          refine hK _ ?_
          clear hK K
          refine hl_pure (fun K hK => ?_)
          go_simp
          refine hK _ ?_
          clear hK K
          refine hl_quiet (fun K hK => ?_)
          go_simp
          refine hK _ ?_
          clear hK K
          refine hl_quiet (fun K hK => ?_)
          go_simp
          first
            | (refine hK _ ?_; clear hK K)
            | (apply Exists.intro; refine ⟨fun x => ?_, hK _ ?_⟩
               · (exact HD1.out _)
               clear hK K)
          refine hl_pure (fun K hK => ?_)
          go_simp
          refine hK _ ?_
          clear hK K
          refine hl_pure (fun K hK => ?_)
          go_simp
          refine hK _ ?_
          clear hK K
          refine hl_pure (fun K hK => ?_)
          go_simp
          refine hK _ ?_
          clear hK K
          refine hl_quiet (fun K hK => ?_)
          go_simp
          refine hK _ ?_
          clear hK K
          refine hl_quiet (fun K hK => ?_)
          go_simp
          first
            | (refine hK _ ?_; clear hK K)
            | (apply Exists.intro; refine ⟨fun x => ?_, hK _ ?_⟩
               · (exact HD2.out _)
               clear hK K)
          refine hl_pure (fun K hK => ?_)
          go_simp
          refine hK _ ?_
          clear hK K
          refine hl_nil ?_
          intro w5 hxw5 K hK
          have xw5 : Ext w w5 := Ext.trans (by repeat (first | (with_reducible exact Ext.refl _) | (with_reducible assumption) | (with_reducible refine Ext.alloc ?_ _) | (with_reducible refine Ext.drew ?_) | (with_reducible refine Ext.drewN ?_ _) | (with_reducible refine Ext.setCell ?_ (by simp; try omega) _) | (with_reducible refine Ext.setRow ?_ (by simp; try omega) _))) hxw5
          obtain ⟨hcw5, hfw5⟩ := hxw5.facts
          have hsw5 := hxw5.size
          try simp only [World.size_drew, World.size_alloc, World.size_setCell] at hsw5 hcw5 hfw5
          go_wp2_with fail
          go_roundw
          case rel => exact ⟨k + 1, by go_num, by omega, hxr.trans hxw5⟩
          case measure => simp [intOf]; omega
        · have R3 := R34.ext hxr
          have R5 := R4.ext hxr
          clear R34 R4
          have fin : ∀ W, W = wr → True := fun _ _ => trivial
          clear fin
          by_cases hlt : k < l.length
          · have h100 : ¬ k < 100 := fun h => hgo ⟨hlt, h⟩
            clear hgo
            go_wp2_with fail
            refine (HC3.out _ yr).mono ?_
            rintro e w5 ⟨rfl, hx5⟩
            go_wp2_with fail
            refine (HC4.out _ (yr.trans hx5)).mono ?_
            rintro e w6 ⟨rfl, hx6⟩
            have y6 := hx5.trans hx6
            have CS := same_c A3 A4 _ _ c3 c4 L L w6 (R3.ext y6).src (R5.ext y6).src HBY.out HBY.out
            rw [decide_eq_true rfl] at CS
            go_wp2_with fail
            refine CS.mono ?_
            rintro e w7 ⟨rfl, hx7⟩
            have y7 := yr.trans (y6.trans hx7)
            go_wp2_with fail
            refine (HC5.out _ y7).mono ?_
            rintro e w8 ⟨rfl, hx8⟩
            have y8 := y7.trans hx8
            go_wp2_with fail
            refine (HC6.out _ y8).mono ?_
            rintro e w9 ⟨rfl, hx9⟩
            have y9 := y8.trans hx9
            go_wp2_with fail
            refine (HA.out _).mono ?_
            rintro e w10 ⟨rfl, hx10⟩
            go_wp2_with fail
            first | refine fin_ret rfl (fun K hK => ?_) | refine fin_norm rfl (fun K hK => ?_)
            simp [results, Try.results3, go_sem, rsat]
            try go_simp
            refine hK _ ?_
            clear hK K
            exact ⟨rfl, y9.trans hx10⟩
          · obtain rfl : k = l.length := by omega
            clear hgo hlt
            go_wp2_with fail
            refine (HC3.out _ yr).mono ?_
            rintro e w5 ⟨rfl, hx5⟩
            go_wp2_with fail
            refine (HC4.out _ (yr.trans hx5)).mono ?_
            rintro e w6 ⟨rfl, hx6⟩
            have y6 := hx5.trans hx6
            have CS := same_c A3 A4 _ _ c3 c4 L L w6 (R3.ext y6).src (R5.ext y6).src HBY.out HBY.out
            rw [decide_eq_true rfl] at CS
            go_wp2_with fail
            refine CS.mono ?_
            rintro e w7 ⟨rfl, hx7⟩
            have y7 := yr.trans (y6.trans hx7)
            go_wp2_with fail
            refine (HC5.out _ y7).mono ?_
            rintro e w8 ⟨rfl, hx8⟩
            have y8 := y7.trans hx8
            go_wp2_with fail
            refine (HC6.out _ y8).mono ?_
            rintro e w9 ⟨rfl, hx9⟩
            have y9 := y8.trans hx9
            go_wp2_with fail
            refine (HA.out _).mono ?_
            rintro e w10 ⟨rfl, hx10⟩
            go_wp2_with fail
            first | refine fin_ret rfl (fun K hK => ?_) | refine fin_norm rfl (fun K hK => ?_)
            simp [results, Try.results3, go_sem, rsat]
            try go_simp
            refine hK _ ?_
            clear hK K
            exact ⟨rfl, y9.trans hx10⟩
end Go.Proofs.Ythfomohophmbaaa
