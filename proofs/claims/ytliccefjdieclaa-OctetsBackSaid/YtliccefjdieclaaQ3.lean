/- Law OctetsPuts. No condition. -/
import Derived.Test.YtliccefjdieclaaQ2
namespace Go.Proofs.Ytliccefjdieclaa
open Go.RowKit
attribute [local go_sem] Later.cell QUpon_value QUpon_enter MUpon_value run_eql_slice_nil
attribute [local go_sem ↓ high] loadPt_is storePt_is loadPrt_is storePrt_is
attribute [local go_sem] run_loadPt run_loadPt_at run_storePt run_loadPrt run_loadPrt_at run_storePrt one_int one_bool one_slice one_ptr one_str setRow_new setRow_past cell_ca frozen_ca cellsAt_alloc_at cellsAt_alloc_past cellsAt_drew cellsAt_later cellsAt_setCell cellsAt_set_same cellsAt_setRow_same cellsAt_setRow_far subAt_alloc subAt_drew subAt_later subAt_setCell subAt_setRow ltn_2 ltn_3 ltn_4 ltn_5
theorem ptr_same (b : Nat) (w : World) : (binOp .neq 26 (.pointer (some ⟨b, 0, none⟩)) (.pointer (some ⟨b, 0, none⟩))).run Try.prog w = .ok (.bool false) w := by
  have e : ∀ d, (Op.equalIn (d + 1) 26 (.pointer (some ⟨b, 0, none⟩)) (.pointer (some ⟨b, 0, none⟩))).run Try.prog w = .ok true w := fun d => by
    have hs : ∀ w, (sizeOf 25).run Try.prog w = .ok 1 w := fun w => by kernel_rfl
    simp [Op.equalIn, run_underlying Try.underlying26, hs, sameAddr]
  have e2 : (Op.equalIn Op.maxDepth 26 (.pointer (some ⟨b, 0, none⟩)) (.pointer (some ⟨b, 0, none⟩))).run Try.prog w = .ok true w := e 9999
  simp only [binOp, Op.equal]
  simp [e2]
attribute [local go_sem] ptr_same
def lightB (l : List Pt) : Bool := decide (l.length ≤ 40) && l.all (fun p => decide (p.raw.xs.length ≤ 60))
theorem Pts.At.sub {x : Pts} {w : World} (h : x.At w) {b off : Nat} (hA : x.A = some ⟨b, off, none⟩) (i : Nat) (hi : i < x.l.length) : subAt w b (off + i * 5) 5 = (x.l[i].cells).toArray := by
  obtain ⟨b', off', hA', _, hc⟩ := h.cell (by omega)
  rw [hA] at hA'
  injection hA' with hA'
  injection hA' with h1 h2
  subst h1 h2
  exact subAt_is rfl (fun j hj => by rw [Nat.add_assoc]; exact hc i hi j hj)
theorem Pts.At.elem {x : Pts} {w : World} (h : x.At w) (k : Nat) (hk : k < x.l.length) : ∃ b off, x.A = some ⟨b, off, none⟩ ∧ b < w.heap.size ∧ subAt w b (off + k * 5) 5 = #[.int .i64 x.l[k].kind, .int .i64 x.l[k].size, .int .u64 (x.l[k].n : Int), .int .i64 x.l[k].s, .slice x.l[k].raw.A x.l[k].raw.xs.length x.l[k].raw.c] := by
  obtain ⟨b, off, hA, hb, _⟩ := h.cell (by omega)
  exact ⟨b, off, hA, hb, h.sub hA k hk⟩
set_option maxHeartbeats 1000000 in
theorem light_c (x : Pts) (w : World) (h : x.At w) : Calls Try.prog 12 #[.slice x.A x.l.length x.c] w fun e w' => e = .returned (.bool (lightB x.l)) ∧ Ext w w' := by
  unfold lightB
  have hcell := h.cell
  obtain ⟨A, c, l⟩ := x
  simp only at hcell ⊢
  by_cases h40 : l.length ≤ 40
  · rw [decide_eq_true h40, Bool.true_and]
    go_enter Try.func12, Try.ntmps12
    go_wp2_with fail
    go_loopw [3] (fun i wr => ∃ k : Nat, i = .int .i64 k ∧ k ≤ l.length ∧ (∀ j, (hj : j < l.length) → j < k → l[j].raw.xs.length ≤ 60) ∧ wr = w) (fun i _ => l.length - (intOf i).toNat)
    case atStart => exact ⟨0, rfl, by omega, fun j _ h => absurd h (by omega), rfl⟩
    case round =>
      obtain ⟨k, rfl, hk, hall, rfl⟩ := hrel
      by_cases hlt : k < l.length
      · obtain ⟨b, off, rfl, hb, hc⟩ := hcell (by omega)
        have e4 := hc k hlt 4 (by decide)
        simp only [Pt.cells, List.getElem?_cons_succ, List.getElem?_cons_zero] at e4
        have e4' : wr.cell? ⟨b, off + k * 5 + 4, none⟩ = some (Bs.v l[k].raw) := by rw [Nat.add_assoc]; exact e4
        unfold Bs.v at e4 e4'
        by_cases hr : l[k].raw.xs.length ≤ 60
        · have hall2 : ∀ j, (hj : j < l.length) → j < k + 1 → l[j].raw.xs.length ≤ 60 := fun j hj hj2 => by
            by_cases h1 : j < k
            · exact hall j hj h1
            · obtain rfl : j = k := by omega
              exact hr
          generalize l[k].raw = q at e4 e4' hr
          clear hc
          go_wp2_with fail
          go_roundw
          case rel => exact ⟨k + 1, by go_num, by omega, hall2, by first | rfl | trivial⟩
          case measure => simp [intOf]; omega
        · have hne : l.all (fun p => decide (p.raw.xs.length ≤ 60)) = false := by
            rw [List.all_eq_false]
            exact ⟨l[k], List.getElem_mem _, by simpa using hr⟩
          have HN := Lib.hid hne
          generalize l[k].raw = q at e4 e4' hr
          clear hc hne
          go_wp2_with fail
          first | refine fin_ret rfl (fun K hK => ?_) | refine fin_norm rfl (fun K hK => ?_)
          simp [results, Try.results12, go_sem, rsat]
          try go_simp
          refine hK _ ?_
          clear hK K
          rw [HN.out]
          exact ⟨rfl, (by repeat (first | (with_reducible exact Ext.refl _) | (with_reducible assumption) | (with_reducible refine Ext.alloc ?_ _) | (with_reducible refine Ext.drew ?_) | (with_reducible refine Ext.drewN ?_ _) | (with_reducible refine Ext.setCell ?_ (by simp; try omega) _) | (with_reducible refine Ext.setRow ?_ (by simp; try omega) _)))⟩
      · obtain rfl : k = l.length := by omega
        have hne : l.all (fun p => decide (p.raw.xs.length ≤ 60)) = true := by
          rw [List.all_eq_true]
          intro p hp
          obtain ⟨j, hj, rfl⟩ := List.mem_iff_getElem.1 hp
          exact decide_eq_true (hall j hj hj)
        have HN := Lib.hid hne
        clear hne hcell
        go_wp2_with fail
        first | refine fin_ret rfl (fun K hK => ?_) | refine fin_norm rfl (fun K hK => ?_)
        simp [results, Try.results12, go_sem, rsat]
        try go_simp
        refine hK _ ?_
        clear hK K
        rw [HN.out]
        exact ⟨rfl, (by repeat (first | (with_reducible exact Ext.refl _) | (with_reducible assumption) | (with_reducible refine Ext.alloc ?_ _) | (with_reducible refine Ext.drew ?_) | (with_reducible refine Ext.drewN ?_ _) | (with_reducible refine Ext.setCell ?_ (by simp; try omega) _) | (with_reducible refine Ext.setRow ?_ (by simp; try omega) _)))⟩
  · rw [decide_eq_false h40, Bool.false_and]
    clear hcell
    go_enter Try.func12, Try.ntmps12
    go_wp2_with fail
    first | refine fin_ret rfl (fun K hK => ?_) | refine fin_norm rfl (fun K hK => ?_)
    simp [results, Try.results12, go_sem, rsat]
    try go_simp
    refine hK _ ?_
    clear hK K
    exact ⟨rfl, (by repeat (first | (with_reducible exact Ext.refl _) | (with_reducible assumption) | (with_reducible refine Ext.alloc ?_ _) | (with_reducible refine Ext.drew ?_) | (with_reducible refine Ext.drewN ?_ _) | (with_reducible refine Ext.setCell ?_ (by simp; try omega) _) | (with_reducible refine Ext.setRow ?_ (by simp; try omega) _)))⟩
theorem lightB_of {l : List Pt} (h : lightB l = true) : l.length ≤ 40 ∧ ∀ p ∈ l, p.raw.xs.length ≤ 60 := by
  unfold lightB at h
  simp only [Bool.and_eq_true, decide_eq_true_eq, List.all_eq_true] at h
  exact h
def Pt.form (p : Pt) : List Int := formP p.kind p.size p.n p.s p.raw.xs
def forms (l : List Pt) : List Int := l.flatMap Pt.form
theorem forms_byt {l : List Pt} {w : World} (h : ∀ p ∈ l, p.Ok w) : Byt (forms l) := by
  intro x hx
  obtain ⟨p, hp, hx⟩ := List.mem_flatMap.1 hx
  exact formP_byt (h p hp).raw.byt x hx
theorem forms_len {l : List Pt} (h : ∀ p ∈ l, p.n < 18446744073709551616 ∧ p.raw.xs.length ≤ 60) : (forms l).length ≤ 70 * l.length := by
  induction l with
  | nil => simp [forms]
  | cons p l ih =>
    have h1 := ih (fun q hq => h q (by simp [hq]))
    have h2 := h p (by simp)
    have h3 := formP_len (k := p.kind) (z := p.size) (n := p.n) (s := p.s) (xs := p.raw.xs) h2.1
    have h4 : (forms (p :: l)).length = (formP p.kind p.size p.n p.s p.raw.xs).length + (forms l).length := by unfold forms; rw [List.flatMap_cons, List.length_append]; rfl
    rw [h4, List.length_cons]
    omega
theorem forms_take {l : List Pt} {k : Nat} (h : k < l.length) : forms (l.take (k + 1)) = forms (l.take k) ++ l[k].form := by
  unfold forms
  rw [List.take_add_one, List.getElem?_eq_getElem h, List.flatMap_append]
  simp
theorem Own.chgD {w0 w w' : World} {A : Option Addr} {n c : Nat} {bs : List Int} {m : List Nat} (h : Own w0 w (.slice A n c) bs) (hx : Chg w w' m) (hd : ∀ g ∈ ablk A, g ∉ m) : Own w0 w' (.slice A n c) bs := by
  obtain ⟨A1, c1, h1, hR, hf⟩ := h
  injection h1 with h1 h2 h3
  subst h1 h2 h3
  exact ⟨A, c, rfl, hR.chg hx hd, fun k hk => ⟨(hf k hk).1, Nat.lt_of_lt_of_le (hf k hk).2 hx.size⟩⟩
theorem Chg.extOf {w0 a b : World} {m : List Nat} (h : Chg a b m) (hx : Ext w0 a) (hm : ∀ i ∈ m, w0.heap.size ≤ i) : Ext w0 b := (Chg.step (Chg.of_ext hx []) h (fun i hi => .inr (hm i hi))).ext (by simp)
set_option maxHeartbeats 2000000 in
set_option maxRecDepth 100000 in
theorem octetsputs_c (x : Pts) (w : World) (h : x.At w) : Calls Try.prog 4 #[x.v] w fun e w' => e = .returned (.bool true) ∧ Ext w w' := by
  unfold Pts.v
  have CL := light_c x w h
  cases hL : lightB x.l with
  | false =>
    rw [hL] at CL
    go_enter Try.func4, Try.ntmps4
    go_wp2_with fail
    refine CL.mono ?_
    rintro e w1 ⟨rfl, hx1⟩
    go_wp2_with fail
    refine (alive_c _).mono ?_
    rintro e w2 ⟨rfl, hx2⟩
    go_wp2_with fail
    first | refine fin_ret rfl (fun K hK => ?_) | refine fin_norm rfl (fun K hK => ?_)
    simp [results, Try.results4, go_sem, rsat]
    try go_simp
    refine hK _ ?_
    clear hK K
    exact ⟨rfl, hx1.trans hx2⟩
  | true =>
    obtain ⟨l40, l60⟩ := lightB_of hL
    rw [hL] at CL
    have hbl := fun k => forms_len (l := x.l.take k)
    obtain ⟨A, c, l⟩ := x
    simp only at hbl l40 l60 CL ⊢
    have hnn : ∀ p ∈ l, p.n < 18446744073709551616 := fun p hp => (h.ok p hp).n
    have hfb : ∀ k, (forms (l.take k)).length ≤ 2800 := fun k => by
      have := hbl k (fun p hp => ⟨hnn p (List.mem_of_mem_take hp), l60 p (List.mem_of_mem_take hp)⟩)
      rw [List.length_take] at this
      omega
    have hfy : ∀ k, Byt (forms (l.take k)) := fun k => forms_byt (w := w) (fun p hp => h.ok p (List.mem_of_mem_take hp))
    clear hL hbl
    go_enter Try.func4, Try.ntmps4
    go_wp2_with fail
    refine CL.mono ?_
    rintro e w1 ⟨rfl, hx1⟩
    go_wp2_with fail
    obtain ⟨g, hg⟩ : ∃ g, g = w1.heap.size := ⟨_, rfl⟩
    rw [← hg]
    have hG : At (w1.alloc (.cells #[.slice none 0 0] 25)) g 25 #[.slice none 0 0] := hg ▸ At.new _ _ _
    have hx2 : Ext w (w1.alloc (.cells #[.slice none 0 0] 25)) := hx1.alloc _
    have hgw : w.heap.size ≤ g := by rw [hg]; exact hx1.size
    have HG := Lib.hid hg
    clear hg
    go_loopw [5, 6] (fun v i wr => ∃ (k : Nat) (A1 B1 : Option Addr) (c1 : Nat), i = .int .i64 k ∧ k ≤ l.length ∧ v = .slice B1 (forms (l.take k)).length c1 ∧ Own w wr v (forms (l.take k)) ∧ Wr wr g A1 (forms (l.take k)) ∧ Ext w wr ∧ (∀ j ∈ ablk A1, w.heap.size ≤ j ∧ j ∉ ablk B1) ∧ (∀ j ∈ ablk B1, j ≠ g)) (fun _ i _ => l.length - (intOf i).toNat)
    case atStart => exact ⟨0, none, none, 0, rfl, by omega, rfl, Own.nil _ _, Wr.new hG, hx2, by simp [ablk], by simp [ablk]⟩
    case round =>
      obtain ⟨k, A1, B1, c1, rfl, hk, rfl, ho, hW, hx, hd1, hd2⟩ := hrel
      by_cases hlt : k < l.length
      · obtain ⟨b, off, hA, hb, hs⟩ := h.elem k hlt
        simp only at hA hs
        subst hA
        have hft := forms_take hlt
        have pok := h.ok l[k] (List.getElem_mem _)
        have prl := l60 l[k] (List.getElem_mem _)
        have hf1 := hfb (k + 1)
        have hy1 := hfy (k + 1)
        unfold Pt.form at hft
        generalize l[k] = p at hs hft pok prl
        have hf0 := hfb k
        generalize hds : forms (l.take k) = ds at *
        have HDS := Lib.hid hds
        rw [hft] at hf1 hy1
        have HFT := Lib.hid hft
        clear hds hft
        obtain ⟨kd, sz, n, s, ⟨RA, Rc, rx⟩⟩ := p
        simp only at hs hf1 hy1 pok prl HFT
        have hgl := hW.ex.choose_spec.1.lt
        have hs1 := (subAt_ext hx hb).trans hs
        go_wp2_with fail
        refine (formp_c kd sz n s RA Rc rx pok.n pok.s _ (pok.raw.src.ext hx)).mono ?_
        rintro e w2 ⟨hx2, v2, rfl, A2, c2, rfl, S2⟩
        have o2 := ho.ext hx2
        have W2 := hW.ext hx2
        obtain ⟨hn2, Q2, G2⟩ := o2.open_
        have hfl : (formP kd sz n s rx).length ≤ 2800 := by rw [List.length_append] at hf1; omega
        clear hn2
        go_wp2_with (at_builtin; refine wpList_rowcat rfl _ _ 23 5 1 1 (.int .u8 0) rfl Try.underlying23 u8Info rfl (by decide) _ _ _ _ _ rfl Q2 _ _ _ _ rfl S2 (bc_one _) (by unfold maxLen; omega) (by omega) ?_)
        intro D3 f3 z3 S3 hC3 hf3
        obtain ⟨o3, y3⟩ := Own.app2 (ns := formP kd sz n s rx) o2 (hx.trans hx2) (Ext.refl _) hC3 S3 rfl rfl hf3
        have W3 := W2.chg hC3 (fun hm => hd2 _ hm rfl) (fun j hj => (hd1 j hj).2)
        have hs3 := (subAt_ext y3 hb).trans hs
        have hgz := W3.ex.choose_spec.1.lt
        have hdA : ∀ j ∈ ablk D3, j ≠ g ∧ j ∉ ablk A1 := fun j hj => by
          rcases hf3 j hj with h1 | h1
          · exact ⟨hd2 j h1, fun h2 => (hd1 j h2).2 h1⟩
          · have hg2 := W2.ex.choose_spec.1.lt
            exact ⟨by omega, fun h2 => by have := (W2.alt j h2).1; omega⟩
        have hdz : ∀ j ∈ ablk D3, j < z3.heap.size := fun j hj => by
          rcases hf3 j hj with h1 | h1
          · have := (G2 j h1).2; have := hC3.size; omega
          · omega
        clear hs1 Q2 S2 S3 hC3 hf3 o2 W2 G2
        go_wp2_with fail
        refine (putp_c g A1 ds kd sz n s RA Rc rx pok.n pok.s pok.raw.byt _ W3 (pok.raw.src.ext y3) (by omega)).mono ?_
        rintro e w4 ⟨rfl, A4, P4⟩
        have y4 : Ext w w4 := P4.chg.extOf y3 (fun i hi => by
          rcases List.mem_cons.1 hi with rfl | h1
          · exact hgw
          · exact (hd1 i h1).1)
        have o4 := o3.chgD P4.chg (fun j hj hm => by
          rcases List.mem_cons.1 hm with h1 | h1
          · exact (hdA j hj).1 h1
          · exact (hdA j hj).2 h1)
        have hs4 := (subAt_ext y4 hb).trans hs
        go_wp2_with fail
        refine (putp_nil kd sz n s RA _ Rc _).mono ?_
        rintro e w5 ⟨rfl, hx5⟩
        go_wp2_with fail
        refine (bytes_c g A4 _ _ (P4.wr.ext hx5) (by omega)).mono ?_
        rintro e w6 ⟨hx6, v6, rfl, o6⟩
        obtain ⟨A6, c6, rfl, R6, _⟩ := o6
        have o46 := (o4.ext hx5).ext hx6
        obtain ⟨hn4, Q4, G4⟩ := o46.open_
        have S4 := Q4.src
        have C7 := same_c A6 D3 _ _ c6 f3 (ds ++ formP kd sz n s rx) (ds ++ formP kd sz n s rx) w6 R6.src S4 hy1 hy1
        rw [List.length_append] at C7
        have HN4 := Lib.hid hn4
        clear hn4
        go_wp2_with fail
        refine C7.mono ?_
        rintro e w7 ⟨rfl, hx7⟩
        go_wp2_with fail
        go_roundw
        case rel =>
          refine ⟨k + 1, A4, D3, f3, by go_num, by omega, ?_, ?_, ?_, ((y4.trans hx5).trans hx6).trans hx7, fun j hj => ?_, fun j hj => (hdA j hj).1⟩
          · rw [HFT.out, List.length_append]
          · rw [HFT.out]; exact o46.ext hx7
          · rw [HFT.out]; exact ((P4.wr.ext hx5).ext hx6).ext hx7
          · rcases P4.fresh j hj with h1 | h1
            · exact ⟨(hd1 j h1).1, fun h2 => (hdA j h2).2 h1⟩
            · exact ⟨Nat.le_trans y3.size h1, fun h2 => by have := hdz j h2; omega⟩
        case measure => simp [intOf]; omega
      · obtain rfl : k = l.length := by omega
        go_wp2_with fail
        refine (bytes_nil _).mono ?_
        rintro e w2 ⟨rfl, hx2⟩
        go_wp2_with fail
        refine (alive_c _).mono ?_
        rintro e w3 ⟨rfl, hx3⟩
        go_wp2_with fail
        first | refine fin_ret rfl (fun K hK => ?_) | refine fin_norm rfl (fun K hK => ?_)
        simp [results, Try.results4, go_sem, rsat]
        try go_simp
        refine hK _ ?_
        clear hK K
        exact ⟨rfl, (hx.trans hx2).trans hx3⟩
end Go.Proofs.Ytliccefjdieclaa
