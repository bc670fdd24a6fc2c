/- Steps (layer 29): Encode, by the program. No condition. -/
import Derived.Test.YthfomohophmbaaaSC
namespace Go.Proofs.Ythfomohophmbaaa
open Go.RowKit
attribute [local go_sem] Later.cell QUpon_value QUpon_enter MUpon_value run_eql_slice_nil Same.cell
attribute [local go_sem ↓ high] loadStp_is storeStp_is
attribute [local go_sem] run_loadStp run_loadStp_at run_storeStp one_int one_bool one_slice one_ptr one_str setRow_new setRow_past cell_ca frozen_ca cellsAt_alloc_at cellsAt_alloc_past cellsAt_drew cellsAt_later cellsAt_setCell cellsAt_set_same cellsAt_setRow_same cellsAt_setRow_far subAt_alloc subAt_drew subAt_later subAt_setCell subAt_setRow ltn_2 ltn_3 ltn_4 ltn_5
def Sp.right (p : Sp) : Bool := rightS p.kind p.sym p.n p.raw.xs.length
def Sp.form (p : Sp) : List Int := formS p.kind p.sym p.n p.raw.xs
def formsS (l : List Sp) : List Int := l.flatMap Sp.form
def okS (l : List Sp) : Bool := l.all Sp.right
theorem formsS_take {l : List Sp} {k : Nat} (h : k < l.length) : formsS (l.take (k + 1)) = formsS (l.take k) ++ l[k].form := by
  unfold formsS
  rw [List.take_succ_eq_append_getElem h, List.flatMap_append]
  simp
theorem okS_take {l : List Sp} {k : Nat} (h : k < l.length) : okS (l.take (k + 1)) = (okS (l.take k) && l[k].right) := by
  unfold okS
  rw [List.take_succ_eq_append_getElem h, List.all_append]
  simp
theorem okS_no {l : List Sp} {k : Nat} (h : k < l.length) (hr : l[k].right = false) : okS l = false := by
  unfold okS
  rw [List.all_eq_false]
  exact ⟨l[k], List.getElem_mem h, by simp [hr]⟩
theorem formsS_len {l : List Sp} (h : okS l = true) : (formsS l).length ≤ l.length * 80 := by
  induction l with
  | nil => simp [formsS]
  | cons p l ih =>
    unfold okS at h
    rw [List.all_cons, Bool.and_eq_true] at h
    have h1 := ih h.2
    have h2 := formS_len (xs := p.raw.xs) h.1
    have e : formsS (p :: l) = p.form ++ formsS l := rfl
    rw [e, List.length_append, List.length_cons]
    unfold Sp.form
    omega
theorem formsS_byt {w : World} {l : List Sp} (hok : ∀ p ∈ l, p.Ok w) (h : okS l = true) : Byt (formsS l) := by
  intro x hx
  unfold formsS at hx
  rw [List.mem_flatMap] at hx
  obtain ⟨p, hp, hx⟩ := hx
  have hr : p.right = true := by unfold okS at h; exact List.all_eq_true.1 h p hp
  exact formS_byt (hok p hp).raw.byt hr x hx
theorem Chg.extOf9 {w0 a b : World} {m : List Nat} (h : Chg a b m) (hx : Ext w0 a) (hm : ∀ i ∈ m, w0.heap.size ≤ i) : Ext w0 b := (Chg.step (Chg.of_ext hx []) h (fun i hi => .inr (hm i hi))).ext (by simp)
def encSL (l : List Sp) : List Int := if 2000 < l.length then [] else if okS l then numB l.length ++ formsS l else []
def encSF (l : List Sp) : Int := if 2000 < l.length then 9 else if okS l then 0 else 1
theorem encSL_byt {w : World} {l : List Sp} (hok : ∀ p ∈ l, p.Ok w) : Byt (encSL l) := by
  unfold encSL
  split
  · intro x hx; cases hx
  split
  · rename_i h; exact (numB_byt _).app (formsS_byt hok h)
  · intro x hx; cases hx
def EncS (l : List Sp) (w : World) (e : Ending) (w' : World) : Prop := Ext w w' ∧ ∃ v, e = .returned (.tuple #[v, .int .i64 (encSF l)]) ∧ Own w w' v (encSL l)
set_option maxHeartbeats 8000000 in
set_option maxRecDepth 100000 in
theorem sencode_c (x : Sts) (w : World) (h : x.At w) : Calls Try.prog 9 #[x.v] w fun e w' => EncS x.l w e w' := by
  unfold Sts.v EncS
  obtain ⟨A, c, l⟩ := x
  have hlm : l.length ≤ 9223372036854775807 := by have := h.le; have := h.max; unfold maxLen at this; simp only at *; omega
  simp only at hlm ⊢
  by_cases hl : 2000 < l.length
  · have e1 : encSF l = 9 := if_pos hl
    have e2 : encSL l = [] := if_pos hl
    have hli : (2000 : Int) < (l.length : Int) := by omega
    rw [e1, e2]
    clear h e1 e2
    go_enter Try.func9, Try.ntmps9
    go_wp2_with fail
    first | refine fin_ret rfl (fun K hK => ?_) | refine fin_norm rfl (fun K hK => ?_)
    simp [results, Try.results9, go_sem, rsat]
    try go_simp
    refine hK _ ?_
    clear hK K
    exact ⟨(by repeat (first | (with_reducible exact Ext.refl _) | (with_reducible assumption) | (with_reducible refine Ext.alloc ?_ _) | (with_reducible refine Ext.drew ?_) | (with_reducible refine Ext.drewN ?_ _) | (with_reducible refine Ext.setCell ?_ (by simp; try omega) _) | (with_reducible refine Ext.setRow ?_ (by simp; try omega) _))), _, rfl, Own.nil _ _⟩
  have hli : ¬ (2000 : Int) < (l.length : Int) := by omega
  have ew : IntKind.u64.wrap ((l.length : Nat) : Int) = ((l.length : Nat) : Int) := by rw [IntKind.wrap_u64]; omega
  have hno0 : okS l = false → encSF l = 1 ∧ encSL l = [] := fun h => by unfold encSF encSL; rw [if_neg hl, if_neg hl, h]; exact ⟨rfl, rfl⟩
  have hok0 : okS l = true → encSF l = 0 ∧ encSL l = numB l.length ++ formsS l := fun h => by unfold encSF encSL; rw [if_neg hl, if_neg hl, h]; exact ⟨rfl, rfl⟩
  generalize encSF l = fr at hno0 hok0 ⊢
  generalize encSL l = Lr at hno0 hok0 ⊢
  have HNO0 := Lib.hid hno0
  have HOK0 := Lib.hid hok0
  clear hno0 hok0
  have n1 := numB_len64 (n := l.length) (by omega)
  go_enter Try.func9, Try.ntmps9
  go_wp2_with fail
  refine (num_c w.heap.size none [] l.length (by omega) _ (Wr.new (At.new _ _ _)) (by simp)).mono ?_
  rintro e w1 ⟨rfl, A1, P1⟩
  rw [List.nil_append] at P1
  have x1 : Ext w w1 := P1.ext0 ((Ext.refl w).alloc _) (Nat.le_refl _)
  have f1 : ∀ j ∈ ablk A1, w.heap.size ≤ j := fun j hj => by
    rcases P1.fresh j hj with h1 | h1
    · simp [ablk] at h1
    · simp at h1; omega
  have W1 := P1.wr
  clear P1
  go_wp2_with fail
  go_loopw [19] (fun i wr => ∃ (k : Nat) (A2 : Option Addr), i = .int .i64 k ∧ k ≤ l.length ∧ Wr wr w.heap.size A2 (numB l.length ++ formsS (l.take k)) ∧ Ext w wr ∧ (∀ j ∈ ablk A2, w.heap.size ≤ j) ∧ okS (l.take k) = true) (fun i _ => l.length - (intOf i).toNat)
  case atStart => exact ⟨0, A1, rfl, by omega, by simpa [formsS] using W1, x1, f1, rfl⟩
  case round =>
    obtain ⟨k, A2, rfl, hk, hW, hx, hd, hok⟩ := hrel
    clear W1 x1 f1
    by_cases hlt : k < l.length
    · obtain ⟨b, off, hA, hb, hs⟩ := h.elem k hlt
      simp only at hA hs
      subst hA
      have hft := formsS_take hlt
      have hot := okS_take hlt
      have hno := okS_no hlt
      have pok := h.ok l[k] (List.getElem_mem _)
      have hbl : (numB l.length ++ formsS (l.take k)).length ≤ 200000 := by
        have := formsS_len hok
        rw [List.length_take] at this
        rw [List.length_append]; omega
      generalize l[k] = p at hs hft hot hno pok
      obtain ⟨kd, sy, n, ⟨RA, Rc, rx⟩⟩ := p
      have hs1 := (subAt_ext hx hb).trans hs
      have hbr : b < wr.heap.size := Nat.lt_of_lt_of_le hb hx.size
      have pn := pok.n
      have pby := pok.raw.byt
      have psr := pok.raw.src
      unfold Sp.right at hot hno
      unfold Sp.form at hft
      simp only [Sp.cells, Bs.v] at hs1 pn pby psr hft hot hno
      have C1 := sright_c kd sy n RA Rc rx.length
      have hnw : b ≠ wr.heap.size := by omega
      clear hs pok
      cases hr : rightS kd sy n rx.length with
      | false =>
        have hno1 := hno hr
        have HNO := Lib.hid hno1
        rw [hr] at C1
        have HC1 := Lib.hid C1
        clear C1 hft hot hno hr hno1
        go_wp2_with fail
        refine (HC1.out _).mono ?_
        rintro e w2 ⟨rfl, hx2⟩
        go_wp2_with fail
        first | refine fin_ret rfl (fun K hK => ?_) | refine fin_norm rfl (fun K hK => ?_)
        simp [results, Try.results9, go_sem, rsat]
        try go_simp
        refine hK _ ?_
        clear hK K
        obtain ⟨rfl, rfl⟩ := HNO0.out HNO.out
        exact ⟨Ext.trans (by repeat (first | (with_reducible exact Ext.refl _) | (with_reducible assumption) | (with_reducible refine Ext.alloc ?_ _) | (with_reducible refine Ext.drew ?_) | (with_reducible refine Ext.drewN ?_ _) | (with_reducible refine Ext.setCell ?_ (by simp; try omega) _) | (with_reducible refine Ext.setRow ?_ (by simp; try omega) _))) hx2, _, rfl, Own.nil _ _⟩
      | true =>
        rw [hok, hr] at hot
        rw [hr] at C1
        have HC1 := Lib.hid C1
        have HOT := Lib.hid hot
        have hRR := rightS_k hr
        clear C1 hno hot hok
        have hkd := u8_same (x := kd) (by omega)
        obtain ⟨bs, hbs⟩ : ∃ bs, bs = numB l.length ++ formsS (l.take k) := ⟨_, rfl⟩
        rw [← hbs] at hW hbl
        have hft2 : numB l.length ++ formsS (l.take (k + 1)) = bs ++ formS kd sy n rx := by rw [hbs, hft, List.append_assoc]
        have HFT := Lib.hid hft2
        clear hbs hft hft2
        go_wp2_with fail
        refine (HC1.out _).mono ?_
        rintro e w2 ⟨rfl, hx2⟩
        have M2 : At w2 wr.heap.size 31 #[.int .i64 kd, .int .i64 sy, .int .i64 n, .slice RA rx.length Rc] := At.ext (by repeat (first | (with_reducible exact At.new _ _ _) | ((with_reducible refine At.new' _ _ _ _ ?_); simp; done) | (with_reducible assumption) | (with_reducible refine At.drew ?_) | (with_reducible refine At.alloc ?_ _) | (with_reducible apply At.upd) | (with_reducible apply At.setRow) | (with_reducible refine At.rowFar ?_ (by first | (simp; done) | (simp; omega) | omega) _) | ((with_reducible refine At.far ?_ (by first | (simp; done) | (simp; omega) | omega) _)) | (with_reducible rfl) | (simp; done))) hx2
        have X2 : Ext wr w2 := Ext.trans (by repeat (first | (with_reducible exact Ext.refl _) | (with_reducible assumption) | (with_reducible refine Ext.alloc ?_ _) | (with_reducible refine Ext.drew ?_) | (with_reducible refine Ext.drewN ?_ _) | (with_reducible refine Ext.setCell ?_ (by simp; try omega) _) | (with_reducible refine Ext.setRow ?_ (by simp; try omega) _))) hx2
        have W2 := hW.ext X2
        have hgl : w.heap.size < wr.heap.size := hW.ex.choose_spec.1.lt
        have e2 := cellsAt_at M2
        have s2 := M2.lt
        clear hx2
        go_wp2_with fail
        refine (raw_c w.heap.size A2 bs _ [kd] 1 _ (W2.ext ((Ext.refl _).alloc _)) (Src.at (At.new _ _ _) rfl) (by intro y hy; simp at hy; omega) (by simp; omega)).mono ?_
        rintro e w3 ⟨rfl, A3, P3⟩
        have Q3 := P3.extL ((Ext.refl w2).alloc _)
        have M3 := Q3.chg.at M2 (by simp only [List.mem_cons, not_or]; exact ⟨by omega, fun h => by have := (hW.alt _ h).1; omega⟩)
        have e3 := cellsAt_at M3
        have s3 := M3.lt
        clear e2 s2 P3
        have l3 : (bs ++ [kd]).length ≤ 200001 := by simp; omega
        have out : ∀ (W : World) (AN : Option Addr) (ys : List Int), Puts w2 w.heap.size A2 ys W AN → wr.heap.size ∉ w.heap.size :: ablk AN ∧ Ext w W ∧ ∀ j ∈ ablk AN, w.heap.size ≤ j := by
          intro W AN ys Q
          have sM := M2.lt
          refine ⟨?_, Q.chg.extOf9 (hx.trans X2) (fun i hi => by rcases List.mem_cons.1 hi with rfl | h1; exact Nat.le_refl _; exact hd i h1), fun j hj => by rcases Q.fresh j hj with h1 | h1; exact hd j h1; exact Nat.le_trans (hx.trans X2).size h1⟩
          simp only [List.mem_cons, not_or]
          refine ⟨by omega, fun h => ?_⟩
          rcases Q.fresh _ h with h1 | h1
          · have := (hW.alt _ h1).1; omega
          · omega
        have OUT := Lib.hid out
        clear out
        rcases hRR with rfl | hk23 | rfl
        · obtain ⟨rfl, rfl, hrl⟩ := rightS_1 hr
          have hfm : formS 1 0 0 rx = [1] ++ numB rx.length ++ rx := by unfold formS; rw [if_pos rfl]; simp
          rw [hfm] at HFT
          have ewx : IntKind.u64.wrap ((rx.length : Nat) : Int) = ((rx.length : Nat) : Int) := by rw [IntKind.wrap_u64]; omega
          have nx := numB_len64 (n := rx.length) (by omega)
          clear hfm hr hkd
          go_wp2_with fail
          refine gen_world (fun W => W = w3) rfl (fun w4 hF4 => ?_)
          subst hF4
          refine wp_region_s [0, 0, 0, 0, 0, 1, 0, 0, 1] (fun x => ∀ b ∈ [wr.heap.size], x.heap[b]? = w4.heap[b]?) (by kernel_rfl) (by kernel_rfl) ?_
          refine hls_same (fun K hK => ?_)
          go_simp
          refine hK _ ?_
          clear hK K
          refine hls_same (fun K hK => ?_)
          go_simp
          refine hK _ ?_
          clear hK K
          refine hls_same (fun K hK => ?_)
          go_simp
          refine hK _ ?_
          clear hK K
          refine hls_same (fun K hK => ?_)
          go_simp
          refine hK _ ?_
          clear hK K
          refine hls_same (fun K hK => ?_)
          go_simp
          refine hK _ ?_
          clear hK K
          refine hls_skip (by decide) ?_
          refine hls_same (fun K hK => ?_)
          go_simp
          refine hK _ ?_
          clear hK K
          refine hls_same (fun K hK => ?_)
          go_simp
          refine hK _ ?_
          clear hK K
          refine hls_skip (by decide) ?_
          refine hls_nil ?_
          intro w5 hxw5 K hK
          have Q5 := Q3.extR hxw5
          have M5 := M3.ext hxw5
          refine ms_pass ?_
          refine ms_pass ?_
          refine ms_pass ?_
          refine ms_pass ?_
          refine ms_pass ?_
          refine ms_do (by decide) (fun b hb => by simp at hb; subst hb; exact M5.trans M3.symm) (fun K' hK' => ?_)
          go_wp2_with fail
          refine (num_c w.heap.size A3 _ rx.length (by omega) _ Q5.wr (by omega)).mono ?_
          rintro e w6 ⟨rfl, A6, P6⟩
          have Q6 := Q5.trans P6
          have M6 := P6.chg.at M5 (OUT.out _ _ _ Q5).1
          have l6 : (bs ++ [1] ++ numB rx.length).length ≤ 200020 := by rw [List.length_append]; omega
          go_wp2_with fail
          refine ms_pass ?_
          refine ms_pass ?_
          refine ms_do (by decide) (fun b hb => by simp at hb; subst hb; exact M6.trans M3.symm) (fun K' hK' => ?_)
          go_wp2_with fail
          refine (raw_c w.heap.size A6 _ RA rx Rc _ Q6.wr (psr.ext (OUT.out _ _ _ Q6).2.1) pby (by omega)).mono ?_
          rintro e w7 ⟨rfl, A7, P7⟩
          have Q7 := Q6.trans P7
          have M7 : At w7 wr.heap.size 31 #[.int .i64 1, .int .i64 0, .int .i64 0, .slice RA rx.length Rc] := P7.chg.at M6 (OUT.out _ _ _ Q6).1
          go_wp2_with fail
          refine ms_nil (fun b hb => by simp at hb; subst hb; exact M7.trans M3.symm) (hK _ _ ?_)
          go_wp2_with fail
          go_roundw
          case rel => exact ⟨k + 1, A7, by go_num, by omega, by rw [HFT.out, ← List.append_assoc, ← List.append_assoc]; exact Q7.wr, (OUT.out _ _ _ Q7).2.1, (OUT.out _ _ _ Q7).2.2, HOT.out⟩
          case measure => simp [intOf]; omega
        · have hfm : formS kd sy n rx = [kd] ++ intB n := by unfold formS; rw [if_neg (by omega), if_neg (by omega)]; simp
          rw [hfm] at HFT
          have q1 : (kd == 1) = false := beq_eq_false_iff_ne.2 (by omega)
          have q4 : (kd == 4) = false := beq_eq_false_iff_ne.2 (by omega)
          clear hfm hr hkd hk23
          go_wp2_with fail
          refine (int_c w.heap.size A3 _ n pn w3 Q3.wr (by omega)).mono ?_
          rintro e w4 ⟨rfl, A4, P4⟩
          have Q4 := Q3.trans P4
          go_wp2_with fail
          go_roundw
          case rel => exact ⟨k + 1, A4, by go_num, by omega, by rw [HFT.out, ← List.append_assoc]; exact Q4.wr, (OUT.out _ _ _ Q4).2.1, (OUT.out _ _ _ Q4).2.2, HOT.out⟩
          case measure => simp [intOf]; omega
        · obtain ⟨hsy, _⟩ := rightS_4 hr
          have hfm : formS 4 sy n rx = [4] ++ [sy] ++ intB n := by unfold formS; rw [if_neg (by omega), if_pos rfl]; simp
          rw [hfm] at HFT
          have esy := u8_same hsy
          clear hfm hr hkd
          go_wp2_with fail
          refine (raw_c w.heap.size A3 _ _ [sy] 1 _ (Q3.wr.ext ((Ext.refl _).alloc _)) (Src.at (At.new _ _ _) rfl) (by intro y hy; simp at hy; omega) (by simp at l3 ⊢; omega)).mono ?_
          rintro e w4 ⟨rfl, A4, P4⟩
          have Q4 := Q3.trans (P4.extL ((Ext.refl w3).alloc _))
          have M4 : At w4 wr.heap.size 31 #[.int .i64 4, .int .i64 sy, .int .i64 n, .slice RA rx.length Rc] := P4.chg.at (M3.ext ((Ext.refl _).alloc _)) (OUT.out _ _ _ Q3).1
          have e4 := cellsAt_at M4
          have s4 := M4.lt
          clear e3 s3
          go_wp2_with fail
          refine (int_c w.heap.size A4 _ n pn w4 Q4.wr (by simp at l3 ⊢; omega)).mono ?_
          rintro e w5 ⟨rfl, A5, P5⟩
          have Q5 := Q4.trans P5
          go_wp2_with fail
          go_roundw
          case rel => exact ⟨k + 1, A5, by go_num, by omega, by rw [HFT.out, ← List.append_assoc, ← List.append_assoc]; exact Q5.wr, (OUT.out _ _ _ Q5).2.1, (OUT.out _ _ _ Q5).2.2, HOT.out⟩
          case measure => simp [intOf]; omega
    · obtain rfl : k = l.length := by omega
      rw [List.take_length] at hW hok
      have hbl : (numB l.length ++ formsS l).length ≤ 200000 := by
        have := formsS_len hok
        rw [List.length_append]; omega
      have HOK := Lib.hid hok
      clear hok
      go_wp2_with fail
      refine (bytes_c w.heap.size A2 _ _ hW (by omega)).mono ?_
      rintro e w4 ⟨hx4, v, rfl, ho⟩
      go_wp2_with fail
      first | refine fin_ret rfl (fun K hK => ?_) | refine fin_norm rfl (fun K hK => ?_)
      simp [results, Try.results9, go_sem, rsat]
      try go_simp
      refine hK _ ?_
      clear hK K
      obtain ⟨rfl, rfl⟩ := HOK0.out HOK.out
      exact ⟨hx.trans hx4, v, rfl, ho.base hx⟩
end Go.Proofs.Ythfomohophmbaaa
