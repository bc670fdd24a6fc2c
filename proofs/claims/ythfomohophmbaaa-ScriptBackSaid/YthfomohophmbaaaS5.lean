/- Steps (layer 29): Encode by the document; the sum of ticks, by both. No condition. -/
import Derived.Test.YthfomohophmbaaaS4
import Derived.Test.YthfomohophmbaaaF4
namespace Go.Proofs.Ythfomohophmbaaa
open Go.RowKit
attribute [local go_sem] Later.cell QUpon_value QUpon_enter MUpon_value run_eql_slice_nil Same.cell
attribute [local go_sem ↓ high] loadStp_is storeStp_is
attribute [local go_sem] run_loadStp run_loadStp_at run_storeStp one_int one_bool one_slice one_ptr one_str setRow_new setRow_past cell_ca frozen_ca cellsAt_alloc_at cellsAt_alloc_past cellsAt_drew cellsAt_later cellsAt_setCell cellsAt_set_same cellsAt_setRow_same cellsAt_setRow_far subAt_alloc subAt_drew subAt_later subAt_setCell subAt_setRow ltn_2 ltn_3 ltn_4 ltn_5
set_option maxHeartbeats 8000000 in
set_option maxRecDepth 100000 in
theorem rsencode_c (x : Sts) (w : World) (h : x.At w) : Calls Try.prog 10 #[x.v] w fun e w' => EncS x.l w e w' := by
  unfold Sts.v EncS
  obtain ⟨A, c, l⟩ := x
  have hlm : l.length ≤ 9223372036854775807 := by have := h.le; have := h.max; unfold maxLen at this; simp only at *; omega
  simp only at hlm ⊢
  by_cases hl : 2000 < l.length
  · have e1 : encSF l = 9 := if_pos hl
    have e2 : encSL l = [] := if_pos hl
    have hli : (2000 : Int) < (l.length : Int) := by omega
    rw [e1, e2]
    clear h e1 e2
    go_enter Try.func10, Try.ntmps10
    go_wp2_with fail
    first | refine fin_ret rfl (fun K hK => ?_) | refine fin_norm rfl (fun K hK => ?_)
    simp [results, Try.results10, go_sem, rsat]
    try go_simp
    refine hK _ ?_
    clear hK K
    exact ⟨(by repeat (first | (with_reducible exact Ext.refl _) | (with_reducible assumption) | (with_reducible refine Ext.alloc ?_ _) | (with_reducible refine Ext.drew ?_) | (with_reducible refine Ext.drewN ?_ _) | (with_reducible refine Ext.setCell ?_ (by simp; try omega) _) | (with_reducible refine Ext.setRow ?_ (by simp; try omega) _))), _, rfl, Own.nil _ _⟩
  have hli : ¬ (2000 : Int) < (l.length : Int) := by omega
  have ew : IntKind.u64.wrap ((l.length : Nat) : Int) = ((l.length : Nat) : Int) := by rw [IntKind.wrap_u64]; omega
  have hno0 : okS l = false → encSF l = 1 ∧ encSL l = [] := fun h => by unfold encSF encSL; rw [if_neg hl, if_neg hl, h]; exact ⟨rfl, rfl⟩
  have hok0 : okS l = true → encSF l = 0 ∧ encSL l = numB l.length ++ formsS l := fun h => by unfold encSF encSL; rw [if_neg hl, if_neg hl, h]; exact ⟨rfl, rfl⟩
  generalize encSF l = fr at hno0 hok0 ⊢
  generalize encSL l = Lr at hno0 hok0 ⊢
  have HNO0 := Lib.hid hno0
  have HOK0 := Lib.hid hok0
  clear hno0 hok0
  have n1 := numB_len64 (n := l.length) (by omega)
  go_enter Try.func10, Try.ntmps10
  go_wp2_with fail
  refine (rnum_c l.length (by omega) _).mono ?_
  rintro e w1 ⟨x1, v1, rfl, O1⟩
  go_wp2_with fail
  go_loopw [4, 5] (fun v i wr => ∃ (k : Nat), i = .int .i64 k ∧ k ≤ l.length ∧ Own w wr v (numB l.length ++ formsS (l.take k)) ∧ Ext w wr ∧ okS (l.take k) = true) (fun _ i _ => l.length - (intOf i).toNat)
  case atStart => exact ⟨0, rfl, by omega, by simpa [formsS] using O1, x1, rfl⟩
  case round =>
    obtain ⟨k, rfl, hk, hO, hx, hok⟩ := hrel
    clear O1 x1
    by_cases hlt : k < l.length
    · obtain ⟨b, off, hA, hb, hs⟩ := h.elem k hlt
      simp only at hA hs
      subst hA
      have hft := formsS_take hlt
      have hot := okS_take hlt
      have hno := okS_no hlt
      have pok := h.ok l[k] (List.getElem_mem _)
      have hbl : (numB l.length ++ formsS (l.take k)).length ≤ 200000 := by
        have := formsS_len hok
        rw [List.length_take] at this
        rw [List.length_append]; omega
      generalize l[k] = p at hs hft hot hno pok
      obtain ⟨kd, sy, n, ⟨RA, Rc, rx⟩⟩ := p
      have hs1 := (subAt_ext hx hb).trans hs
      have hbr : b < wr.heap.size := Nat.lt_of_lt_of_le hb hx.size
      have pn := pok.n
      have psr := pok.raw.src
      unfold Sp.right at hot hno
      unfold Sp.form at hft
      simp only [Sp.cells, Bs.v] at hs1 pn psr hft hot hno
      have C1 := rright29_c kd sy n RA Rc rx.length
      have hnw : b ≠ wr.heap.size := by omega
      clear hs pok
      cases hr : rightS kd sy n rx.length with
      | false =>
        have hno1 := hno hr
        have HNO := Lib.hid hno1
        rw [hr] at C1
        have HC1 := Lib.hid C1
        clear C1 hft hot hno hr hno1
        go_wp2_with fail
        refine (HC1.out _).mono ?_
        rintro e w2 ⟨rfl, hx2⟩
        go_wp2_with fail
        first | refine fin_ret rfl (fun K hK => ?_) | refine fin_norm rfl (fun K hK => ?_)
        simp [results, Try.results10, go_sem, rsat]
        try go_simp
        refine hK _ ?_
        clear hK K
        obtain ⟨rfl, rfl⟩ := HNO0.out HNO.out
        exact ⟨hx.trans hx2, _, rfl, Own.nil _ _⟩
      | true =>
        rw [hok, hr] at hot
        rw [hr] at C1
        have HC1 := Lib.hid C1
        have HOT := Lib.hid hot
        have C2 := fun W hS => rform29_c kd sy n RA Rc rx pn hr W hS
        have HC2 := Lib.hid C2
        have hfl := formS_len hr
        clear C1 C2 hno hot hok hr
        obtain ⟨bs, hbs⟩ : ∃ bs, bs = numB l.length ++ formsS (l.take k) := ⟨_, rfl⟩
        rw [← hbs] at hO hbl
        have hft2 : numB l.length ++ formsS (l.take (k + 1)) = bs ++ formS kd sy n rx := by rw [hbs, hft, List.append_assoc]
        have HFT := Lib.hid hft2
        clear hbs hft hft2
        go_wp2_with fail
        refine (HC1.out _).mono ?_
        rintro e w2 ⟨rfl, hx2⟩
        have hs2 := (subAt_ext hx2 hbr).trans hs1
        have hbr2 : b < w2.heap.size := Nat.lt_of_lt_of_le hbr hx2.size
        have y2 := hx.trans hx2
        have O2 := hO.ext hx2
        clear hs1 hO hx2
        go_wp2_with fail
        refine (HC2.out _ (psr.ext y2)).mono ?_
        rintro e w3 ⟨hx3, v3, rfl, A3, c3, rfl, R3, F3⟩
        have O3 := O2.ext hx3
        have y3 := y2.trans hx3
        clear O2
        generalize formS kd sy n rx = fs at hfl HFT R3 F3 ⊢
        obtain ⟨A4, c4, rfl, R4, F4⟩ := O3
        have O4 : Own w w3 (.slice A4 bs.length c4) bs := ⟨A4, c4, rfl, R4, F4⟩
        go_wp2_with (at_builtin; refine wpList_rowcat rfl _ _ 25 5 1 1 (.int .u8 0) rfl Try.underlying25 u8Info rfl (by decide) _ _ _ _ _ rfl R4 _ _ _ _ rfl R3.src (bc_one _) (by unfold maxLen; omega) (by omega) ?_)
        intro A5 c5 w5 R5 hC5 hf5
        obtain ⟨O5, y5⟩ := Own.app2 (ns := fs) O4 y3 (Ext.refl _) hC5 R5 rfl rfl hf5
        go_wp2_with fail
        go_roundw
        case rel => exact ⟨k + 1, by go_num, by omega, by rw [HFT.out]; exact O5, y5, HOT.out⟩
        case measure => simp [intOf]; omega
    · obtain rfl : k = l.length := by omega
      rw [List.take_length] at hO hok
      have HOK := Lib.hid hok
      clear hok
      go_wp2_with fail
      first | refine fin_ret rfl (fun K hK => ?_) | refine fin_norm rfl (fun K hK => ?_)
      simp [results, Try.results10, go_sem, rsat]
      try go_simp
      refine hK _ ?_
      clear hK K
      obtain ⟨rfl, rfl⟩ := HOK0.out HOK.out
      exact ⟨hx, _, rfl, hO⟩
/-- The sum of ticks. -/
def ticksF : Int → List Sp → Int × Bool
  | acc, [] => (acc, true)
  | acc, p :: l => if p.kind ≠ 2 ∨ p.n < 0 then ticksF acc l else if I64 (acc + p.n) then ticksF (acc + p.n) l else (0, false)
theorem ticksF_drop {l : List Sp} {k : Nat} (h : k < l.length) (acc : Int) : ticksF acc (l.drop k) = if l[k].kind ≠ 2 ∨ l[k].n < 0 then ticksF acc (l.drop (k + 1)) else if I64 (acc + l[k].n) then ticksF (acc + l[k].n) (l.drop (k + 1)) else (0, false) := by
  rw [List.drop_eq_getElem_cons h]
  rfl
set_option maxHeartbeats 8000000 in
set_option maxRecDepth 100000 in
theorem sticks_c (x : Sts) (w : World) (h : x.At w) : Calls Try.prog 13 #[x.v] w fun e w' => e = .returned (.tuple #[.int .i64 (ticksF 0 x.l).1, .bool (ticksF 0 x.l).2]) ∧ Ext w w' := by
  unfold Sts.v
  obtain ⟨A, c, l⟩ := x
  have hlm : l.length ≤ 9223372036854775807 := by have := h.le; have := h.max; unfold maxLen at this; simp only at *; omega
  simp only at hlm ⊢
  obtain ⟨R, hR⟩ : ∃ R, R = ticksF 0 l := ⟨_, rfl⟩
  rw [← hR]
  have HR := Lib.hid hR
  clear hR
  go_enter Try.func13, Try.ntmps13
  go_wp2_with fail
  go_loopw [2, 3, 8] (fun s is i wr => ∃ (k : Nat) (acc : Int) (u : Bool), i = .int .i64 k ∧ s = .int .i64 acc ∧ is = .bool u ∧ k ≤ l.length ∧ I64 acc ∧ ticksF 0 l = ticksF acc (l.drop k) ∧ Ext w wr) (fun _ _ i _ => l.length - (intOf i).toNat)
  case atStart => exact ⟨0, 0, false, rfl, rfl, rfl, by omega, by decide, by simp, Ext.refl _⟩
  case round =>
    obtain ⟨k, acc, u, rfl, rfl, rfl, hk, hacc, ht, hx⟩ := hrel
    by_cases hlt : k < l.length
    · obtain ⟨b, off, hA, hb, hs⟩ := h.elem k hlt
      simp only at hA hs
      subst hA
      rw [ticksF_drop hlt] at ht
      have pok := h.ok l[k] (List.getElem_mem _)
      generalize l[k] = p at hs ht pok
      obtain ⟨kd, sy, n, ⟨RA, Rc, rx⟩⟩ := p
      have hs1 := (subAt_ext hx hb).trans hs
      have hbr : b < wr.heap.size := Nat.lt_of_lt_of_le hb hx.size
      have pn := pok.n
      simp only [Sp.cells, Bs.v] at hs1 pn ht
      have hnw : b ≠ wr.heap.size := by omega
      clear hs pok
      by_cases hk2 : kd = 2
      · subst hk2
        by_cases hn0 : n < 0
        · rw [if_pos (.inr hn0)] at ht
          have HT := Lib.hid ht
          clear ht
          go_wp2_with fail
          go_roundw
          case rel => exact ⟨k + 1, acc, u, by go_num, rfl, rfl, by omega, hacc, HT.out, (by repeat (first | (with_reducible exact Ext.refl _) | (with_reducible assumption) | (with_reducible refine Ext.alloc ?_ _) | (with_reducible refine Ext.drew ?_) | (with_reducible refine Ext.drewN ?_ _) | (with_reducible refine Ext.setCell ?_ (by simp; try omega) _) | (with_reducible refine Ext.setRow ?_ (by simp; try omega) _)))⟩
          case measure => simp [intOf]; omega
        · rw [if_neg (by omega)] at ht
          have C := fadd_c acc n hacc pn
          by_cases hi : I64 (acc + n)
          · rw [if_pos hi] at ht
            rw [chk64_yes hi] at C
            have HT := Lib.hid ht
            have HC := Lib.hid C
            clear ht C
            go_wp2_with fail
            refine (HC.out _).mono ?_
            rintro e w2 ⟨rfl, hx2⟩
            go_wp2_with fail
            go_roundw
            case rel => exact ⟨k + 1, acc + n, true, by go_num, rfl, rfl, by omega, hi, HT.out, Ext.trans (by repeat (first | (with_reducible exact Ext.refl _) | (with_reducible assumption) | (with_reducible refine Ext.alloc ?_ _) | (with_reducible refine Ext.drew ?_) | (with_reducible refine Ext.drewN ?_ _) | (with_reducible refine Ext.setCell ?_ (by simp; try omega) _) | (with_reducible refine Ext.setRow ?_ (by simp; try omega) _))) hx2⟩
            case measure => simp [intOf]; omega
          · rw [if_neg hi] at ht
            rw [chk64_no hi] at C
            have HT := Lib.hid ht
            have HC := Lib.hid C
            clear ht C hi
            go_wp2_with fail
            refine (HC.out _).mono ?_
            rintro e w2 ⟨rfl, hx2⟩
            go_wp2_with fail
            first | refine fin_ret rfl (fun K hK => ?_) | refine fin_norm rfl (fun K hK => ?_)
            simp [results, Try.results13, go_sem, rsat]
            try go_simp
            refine hK _ ?_
            clear hK K
            exact ⟨by rw [HR.out, HT.out], Ext.trans (by repeat (first | (with_reducible exact Ext.refl _) | (with_reducible assumption) | (with_reducible refine Ext.alloc ?_ _) | (with_reducible refine Ext.drew ?_) | (with_reducible refine Ext.drewN ?_ _) | (with_reducible refine Ext.setCell ?_ (by simp; try omega) _) | (with_reducible refine Ext.setRow ?_ (by simp; try omega) _))) hx2⟩
      · rw [if_pos (.inl hk2)] at ht
        have HT := Lib.hid ht
        have hkb : (kd != 2) = true := bne_iff_ne.2 hk2
        clear ht hk2
        go_wp2_with fail
        go_roundw
        case rel => exact ⟨k + 1, acc, u, by go_num, rfl, rfl, by omega, hacc, HT.out, (by repeat (first | (with_reducible exact Ext.refl _) | (with_reducible assumption) | (with_reducible refine Ext.alloc ?_ _) | (with_reducible refine Ext.drew ?_) | (with_reducible refine Ext.drewN ?_ _) | (with_reducible refine Ext.setCell ?_ (by simp; try omega) _) | (with_reducible refine Ext.setRow ?_ (by simp; try omega) _)))⟩
        case measure => simp [intOf]; omega
    · obtain rfl : k = l.length := by omega
      rw [List.drop_length] at ht
      have HT := Lib.hid ht
      clear ht
      go_wp2_with fail
      first | refine fin_ret rfl (fun K hK => ?_) | refine fin_norm rfl (fun K hK => ?_)
      simp [results, Try.results13, go_sem, rsat]
      try go_simp
      refine hK _ ?_
      clear hK K
      exact ⟨by rw [HR.out, HT.out]; rfl, (by repeat (first | (with_reducible exact Ext.refl _) | (with_reducible assumption) | (with_reducible refine Ext.alloc ?_ _) | (with_reducible refine Ext.drew ?_) | (with_reducible refine Ext.drewN ?_ _) | (with_reducible refine Ext.setCell ?_ (by simp; try omega) _) | (with_reducible refine Ext.setRow ?_ (by simp; try omega) _)))⟩
set_option maxHeartbeats 8000000 in
set_option maxRecDepth 100000 in
theorem rsticks_c (x : Sts) (w : World) (h : x.At w) : Calls Try.prog 14 #[x.v] w fun e w' => e = .returned (.tuple #[.int .i64 (ticksF 0 x.l).1, .bool (ticksF 0 x.l).2]) ∧ Ext w w' := by
  unfold Sts.v
  obtain ⟨A, c, l⟩ := x
  have hlm : l.length ≤ 9223372036854775807 := by have := h.le; have := h.max; unfold maxLen at this; simp only at *; omega
  simp only at hlm ⊢
  obtain ⟨R, hR⟩ : ∃ R, R = ticksF 0 l := ⟨_, rfl⟩
  rw [← hR]
  have HR := Lib.hid hR
  clear hR
  go_enter Try.func14, Try.ntmps14
  go_wp2_with fail
  go_loopw [4, 5] (fun s i wr => ∃ (k : Nat) (acc : Int), i = .int .i64 k ∧ s = .int .i64 acc ∧ k ≤ l.length ∧ I64 acc ∧ ticksF 0 l = ticksF acc (l.drop k) ∧ Ext w wr) (fun _ i _ => l.length - (intOf i).toNat)
  case atStart => exact ⟨0, 0, rfl, rfl, by omega, by decide, by simp, Ext.refl _⟩
  case round =>
    obtain ⟨k, acc, rfl, rfl, hk, hacc, ht, hx⟩ := hrel
    by_cases hlt : k < l.length
    · obtain ⟨b, off, hA, hb, hc⟩ := h.cell (by simp only; omega)
      simp only at hA hc
      subst hA
      rw [ticksF_drop hlt] at ht
      have c0 := (hx.facts.1 _ _ hb).trans (hc k hlt 0 (by decide))
      have c2 := (hx.facts.1 _ _ hb).trans (hc k hlt 2 (by decide))
      have pok := h.ok l[k] (List.getElem_mem _)
      generalize l[k] = p at ht pok c0 c2
      obtain ⟨kd, sy, n, ⟨RA, Rc, rx⟩⟩ := p
      have hbr : b < wr.heap.size := Nat.lt_of_lt_of_le hb hx.size
      have pn := pok.n
      simp only [Sp.cells, List.getElem?_cons_succ, List.getElem?_cons_zero, Nat.add_zero, ← Nat.add_assoc] at pn ht c0 c2
      clear pok hc
      by_cases hk2 : kd = 2
      · subst hk2
        by_cases hn0 : n < 0
        · rw [if_pos (.inr hn0)] at ht
          have HT := Lib.hid ht
          clear ht
          go_wp2_with fail
          go_roundw
          case rel => exact ⟨k + 1, acc, by go_num, rfl, by omega, hacc, HT.out, (by repeat (first | (with_reducible exact Ext.refl _) | (with_reducible assumption) | (with_reducible refine Ext.alloc ?_ _) | (with_reducible refine Ext.drew ?_) | (with_reducible refine Ext.drewN ?_ _) | (with_reducible refine Ext.setCell ?_ (by simp; try omega) _) | (with_reducible refine Ext.setRow ?_ (by simp; try omega) _)))⟩
          case measure => simp [intOf]; omega
        · rw [if_neg (by omega)] at ht
          have C := rfadd_c acc n hacc pn
          by_cases hi : I64 (acc + n)
          · rw [if_pos hi] at ht
            rw [chk64_yes hi] at C
            have HT := Lib.hid ht
            have HC := Lib.hid C
            clear ht C
            go_wp2_with fail
            refine (HC.out _).mono ?_
            rintro e w2 ⟨rfl, hx2⟩
            go_wp2_with fail
            go_roundw
            case rel => exact ⟨k + 1, acc + n, by go_num, rfl, by omega, hi, HT.out, Ext.trans (by repeat (first | (with_reducible exact Ext.refl _) | (with_reducible assumption) | (with_reducible refine Ext.alloc ?_ _) | (with_reducible refine Ext.drew ?_) | (with_reducible refine Ext.drewN ?_ _) | (with_reducible refine Ext.setCell ?_ (by simp; try omega) _) | (with_reducible refine Ext.setRow ?_ (by simp; try omega) _))) hx2⟩
            case measure => simp [intOf]; omega
          · rw [if_neg hi] at ht
            rw [chk64_no hi] at C
            have HT := Lib.hid ht
            have HC := Lib.hid C
            clear ht C hi
            go_wp2_with fail
            refine (HC.out _).mono ?_
            rintro e w2 ⟨rfl, hx2⟩
            go_wp2_with fail
            first | refine fin_ret rfl (fun K hK => ?_) | refine fin_norm rfl (fun K hK => ?_)
            simp [results, Try.results14, go_sem, rsat]
            try go_simp
            refine hK _ ?_
            clear hK K
            exact ⟨by rw [HR.out, HT.out], Ext.trans (by repeat (first | (with_reducible exact Ext.refl _) | (with_reducible assumption) | (with_reducible refine Ext.alloc ?_ _) | (with_reducible refine Ext.drew ?_) | (with_reducible refine Ext.drewN ?_ _) | (with_reducible refine Ext.setCell ?_ (by simp; try omega) _) | (with_reducible refine Ext.setRow ?_ (by simp; try omega) _))) hx2⟩
      · rw [if_pos (.inl hk2)] at ht
        have HT := Lib.hid ht
        have hkb : (kd != 2) = true := bne_iff_ne.2 hk2
        clear ht hk2
        go_wp2_with fail
        go_roundw
        case rel => exact ⟨k + 1, acc, by go_num, rfl, by omega, hacc, HT.out, (by repeat (first | (with_reducible exact Ext.refl _) | (with_reducible assumption) | (with_reducible refine Ext.alloc ?_ _) | (with_reducible refine Ext.drew ?_) | (with_reducible refine Ext.drewN ?_ _) | (with_reducible refine Ext.setCell ?_ (by simp; try omega) _) | (with_reducible refine Ext.setRow ?_ (by simp; try omega) _)))⟩
        case measure => simp [intOf]; omega
    · obtain rfl : k = l.length := by omega
      rw [List.drop_length] at ht
      have HT := Lib.hid ht
      clear ht
      go_wp2_with fail
      first | refine fin_ret rfl (fun K hK => ?_) | refine fin_norm rfl (fun K hK => ?_)
      simp [results, Try.results14, go_sem, rsat]
      try go_simp
      refine hK _ ?_
      clear hK K
      exact ⟨by rw [HR.out, HT.out]; rfl, (by repeat (first | (with_reducible exact Ext.refl _) | (with_reducible assumption) | (with_reducible refine Ext.alloc ?_ _) | (with_reducible refine Ext.drew ?_) | (with_reducible refine Ext.drewN ?_ _) | (with_reducible refine Ext.setCell ?_ (by simp; try omega) _) | (with_reducible refine Ext.setRow ?_ (by simp; try omega) _)))⟩
end Go.Proofs.Ythfomohophmbaaa
