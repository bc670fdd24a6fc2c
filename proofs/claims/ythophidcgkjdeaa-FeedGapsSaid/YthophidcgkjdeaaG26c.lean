/- Law FeedGaps. No condition. -/
import Derived.Test.YthophidcgkjdeaaG26b
namespace Go.Proofs.Ythophidcgkjdeaa
open Go.RowKit
attribute [local go_sem] Later.cell QUpon_value QUpon_enter MUpon_value run_eql_slice_nil Same.cell
attribute [local go_sem ↓ high] loadMsg_is storeMsg_is
attribute [local go_sem] run_loadMsg run_loadMsg_at run_storeMsg one_int one_bool one_slice one_ptr one_str setRow_new setRow_past cell_ca frozen_ca cellsAt_alloc_at cellsAt_alloc_past cellsAt_drew cellsAt_later cellsAt_setCell cellsAt_set_same cellsAt_setRow_same cellsAt_setRow_far subAt_alloc subAt_drew subAt_later subAt_setCell subAt_setRow ltn_2 ltn_3 ltn_4 ltn_5
set_option maxHeartbeats 1000000 in
theorem same16_c (A B : Option Addr) (c d : Nat) (xs : List Int) (hl : xs.length ≤ 1000) (w : World) (hA : Src w 1 A xs.length (longs xs)) (hB : Src w 1 B xs.length (longs xs)) :
    Calls Try.prog 7 #[.slice A xs.length c, .slice B xs.length d] w fun e w' => e = .returned (.bool true) ∧ Ext w w' := by
  have ebb : ((xs.length : Int) != (xs.length : Int)) = false := by simp
  go_enter Try.func7, Try.ntmps7
  go_wp2_with fail
  go_loopw [5] (fun i wr => ∃ k : Nat, i = .int .i64 k ∧ k ≤ xs.length ∧ Ext w wr) (fun i _ => xs.length - (intOf i).toNat)
  case atStart => exact ⟨0, rfl, by omega, Ext.refl _⟩
  case round =>
    obtain ⟨k, rfl, hk, hx⟩ := hrel
    by_cases hlt : k < xs.length
    · obtain ⟨b, off, rfl, hb, hc⟩ := hA.lt (by omega) (by decide)
      obtain ⟨b2, off2, rfl, hb2, hc2⟩ := hB.lt (by omega) (by decide)
      have e0 : (longs xs)[k]? = some (.int .i64 xs[k]) := by unfold longs; rw [List.getElem?_map, List.getElem?_eq_getElem hlt]; rfl
      have h1 : wr.cell? ⟨b, off + k, none⟩ = some (.int .i64 xs[k]) := (hx.facts.1 _ _ hb).trans ((hc k (by omega)).trans e0)
      have h2 : wr.cell? ⟨b2, off2 + k, none⟩ = some (.int .i64 xs[k]) := (hx.facts.1 _ _ hb2).trans ((hc2 k (by omega)).trans e0)
      have hbr : b < wr.heap.size := Nat.lt_of_lt_of_le hb hx.size
      have hbr2 : b2 < wr.heap.size := Nat.lt_of_lt_of_le hb2 hx.size
      generalize xs[k] = y at h1 h2
      have hkr : (0 : Int) ≤ (k : Int) ∧ (k : Int) < (xs.length : Int) := by omega
      clear hc hc2 e0
      go_wp2_with fail
      refine wp_region_x 9 [0, 0, 0, 1, 0, 0, 0, 1, 0] (by kernel_rfl) (by kernel_rfl) (by kernel_rfl) ?_
      simp only [List.take_succ_cons, List.take_zero, List.drop_succ_cons, List.drop_zero]
      refine hl_pure (fun K hK => ?_)
      go_simp
      refine hK _ ?_
      clear hK K
      refine hl_pure (fun K hK => ?_)
      go_simp
      refine hK _ ?_
      clear hK K
      refine hl_pure (fun K hK => ?_)
      go_simp
      refine hK _ ?_
      clear hK K
      refine hl_quiet (fun K hK => ?_)
      go_simp
      refine hK _ ?_
      clear hK K
      refine hl_pure (fun K hK => ?_)
      go_simp
      refine hK _ ?_
      clear hK K
      refine hl_pure (fun K hK => ?_)
      go_simp
      refine hK _ ?_
      clear hK K
      refine hl_pure (fun K hK => ?_)
      go_simp
      refine hK _ ?_
      clear hK K
      refine hl_quiet (fun K hK => ?_)
      go_simp
      refine hK _ ?_
      clear hK K
      refine hl_pure (fun K hK => ?_)
      go_simp
      refine hK _ ?_
      clear hK K
      refine hl_nil ?_
      intro w3 hx3 K hK
      go_wp2_with fail
      go_roundw
      case rel => exact ⟨k + 1, by go_num, by omega, hx.trans hx3⟩
      case measure => simp [intOf]; omega
    · obtain rfl : k = xs.length := by omega
      go_wp2_with fail
      first | refine fin_ret rfl (fun K hK => ?_) | refine fin_norm rfl (fun K hK => ?_)
      simp [results, Try.results7, go_sem, rsat]
      try go_simp
      refine hK _ ?_
      clear hK K
      exact ⟨rfl, hx⟩
def msgZ : Value := .agg #[.int .i64 0, .int .i64 0, .int .i64 0, .int .i64 0, .int .i64 0, .int .i64 0, .int .i64 0, .int .i64 0, .int .i64 0]
theorem msgInfo : (Try.prog.info? 34).map (fun i => (i.zero, i.size, i.bytes)) = some (some msgZ, 9, 72) := by kernel_rfl
theorem last_c (g : Nat) (A : Option Addr) (n c : Nat) (w : World) (h : At w g 53 #[.slice A n c]) : Calls Try.prog 20 #[.pointer (some ⟨g, 0, none⟩)] w fun e w' => e = .returned (.int .i64 (n : Int)) ∧ Ext w w' := by
  have c0 : w.cell? ⟨g, 0, none⟩ = some (.slice A n c) := h.cell 0
  clear h
  go_enter Try.func20, Try.ntmps20
  go_wp2_with fail
  first | refine fin_ret rfl (fun K hK => ?_) | refine fin_norm rfl (fun K hK => ?_)
  simp [results, Try.results20, go_sem, rsat]
  try go_simp
  refine hK _ ?_
  clear hK K
  exact ⟨rfl, (by repeat (first | (with_reducible exact Ext.refl _) | (with_reducible assumption) | (with_reducible refine Ext.alloc ?_ _) | (with_reducible refine Ext.drew ?_) | (with_reducible refine Ext.drewN ?_ _) | (with_reducible refine Ext.setCell ?_ (by simp; try omega) _) | (with_reducible refine Ext.setRow ?_ (by simp; try omega) _)))⟩
set_option maxHeartbeats 2000000 in
set_option maxRecDepth 100000 in
theorem put_new (g : Nat) (w : World) (h : At w g 53 #[.slice none 0 0]) : Calls Try.prog 11 #[.pointer (some ⟨g, 0, none⟩), .int .i64 7, .agg #[.int .i64 6, .int .i64 0, .int .i64 0, .int .i64 0, .int .i64 0, .int .i64 0, .int .i64 0, .int .i64 0, .int .i64 0]] w
    fun e w' => e = .returned (.tuple #[.agg #[.int .i64 6, .int .i64 0, .int .i64 1, .int .i64 7, .int .i64 0, .int .i64 0, .int .i64 0, .int .i64 0, .int .i64 0], .int .i64 0]) ∧ Chg w w' [g] := by
  have C1 := fun W (hW : At W g 53 #[.slice none 0 0]) => last_c g none 0 0 W hW
  have C2 := right_c ⟨6, 0, 1, 7, 0, 0, 0, 0, 0⟩
  rw [show rightB ⟨6, 0, 1, 7, 0, 0, 0, 0, 0⟩ = true by decide] at C2
  have HC1 := Lib.hid C1
  have HC2 := Lib.hid C2
  clear C1 C2
  have sg := h.lt
  go_enter Try.func11, Try.ntmps11
  go_wp2_with fail
  refine (HC1.out _ (h.ext (by repeat (first | (with_reducible exact Ext.refl _) | (with_reducible assumption) | (with_reducible refine Ext.alloc ?_ _) | (with_reducible refine Ext.drew ?_) | (with_reducible refine Ext.drewN ?_ _) | (with_reducible refine Ext.setCell ?_ (by simp; try omega) _) | (with_reducible refine Ext.setRow ?_ (by simp; try omega) _))))).mono ?_
  rintro e w1 ⟨rfl, hxw1⟩
  have g1 := h.ext (Ext.trans (by repeat (first | (with_reducible exact Ext.refl _) | (with_reducible assumption) | (with_reducible refine Ext.alloc ?_ _) | (with_reducible refine Ext.drew ?_) | (with_reducible refine Ext.drewN ?_ _) | (with_reducible refine Ext.setCell ?_ (by simp; try omega) _) | (with_reducible refine Ext.setRow ?_ (by simp; try omega) _))) hxw1)
  have M_w1 := At.ext (g := w.heap.size) (t := 34) (cs := #[.int .i64 6, .int .i64 0, .int .i64 0, .int .i64 0, .int .i64 0, .int .i64 0, .int .i64 0, .int .i64 0, .int .i64 0]) (by repeat (first | (with_reducible exact At.new _ _ _) | ((with_reducible refine At.new' _ _ _ _ ?_); simp; done) | (with_reducible assumption) | (with_reducible refine At.drew ?_) | (with_reducible refine At.alloc ?_ _) | (with_reducible apply At.upd) | (with_reducible apply At.setRow) | (with_reducible refine At.rowFar ?_ (by first | (simp; done) | (simp; omega) | omega) _) | ((with_reducible refine At.far ?_ (by first | (simp; done) | (simp; omega) | omega) _)) | (with_reducible rfl) | (simp; done))) hxw1
  have R_w1 := At.ext (g := w.heap.size + 1) (t := 34) (cs := #[.int .i64 0, .int .i64 0, .int .i64 0, .int .i64 0, .int .i64 0, .int .i64 0, .int .i64 0, .int .i64 0, .int .i64 0]) (by repeat (first | (with_reducible exact At.new _ _ _) | ((with_reducible refine At.new' _ _ _ _ ?_); simp; done) | (with_reducible assumption) | (with_reducible refine At.drew ?_) | (with_reducible refine At.alloc ?_ _) | (with_reducible apply At.upd) | (with_reducible apply At.setRow) | (with_reducible refine At.rowFar ?_ (by first | (simp; done) | (simp; omega) | omega) _) | ((with_reducible refine At.far ?_ (by first | (simp; done) | (simp; omega) | omega) _)) | (with_reducible rfl) | (simp; done))) hxw1
  have xw1 : Ext w w1 := Ext.trans (by repeat (first | (with_reducible exact Ext.refl _) | (with_reducible assumption) | (with_reducible refine Ext.alloc ?_ _) | (with_reducible refine Ext.drew ?_) | (with_reducible refine Ext.drewN ?_ _) | (with_reducible refine Ext.setCell ?_ (by simp; try omega) _) | (with_reducible refine Ext.setRow ?_ (by simp; try omega) _))) hxw1
  clear hxw1
  have s_M_w1 := M_w1.lt
  have e_M_w1 := cellsAt_at M_w1
  have s_R_w1 := R_w1.lt
  have e_R_w1 := cellsAt_at R_w1
  have lw : w.heap.size + 1 < w1.heap.size := R_w1.lt
  go_wp2_with fail
  obtain ⟨w2, hw2⟩ : ∃ w2 : World, w2 = (w1.setCell ⟨w.heap.size, 3, none⟩ (.int .i64 7)).setCell ⟨w.heap.size, 2, none⟩ (.int .i64 1) := ⟨_, rfl⟩
  have x2 : Ext w w2 := by rw [hw2]; exact ((Ext.setCell xw1 (Nat.le_refl _) _).setCell (Nat.le_refl _) _)
  have M2 : At w2 w.heap.size 34 #[.int .i64 6, .int .i64 0, .int .i64 1, .int .i64 7, .int .i64 0, .int .i64 0, .int .i64 0, .int .i64 0, .int .i64 0] := by rw [hw2]; exact ((M_w1.set 3 _).set 2 _)
  have R2 : At w2 (w.heap.size + 1) 34 #[.int .i64 0, .int .i64 0, .int .i64 0, .int .i64 0, .int .i64 0, .int .i64 0, .int .i64 0, .int .i64 0, .int .i64 0] := by rw [hw2]; exact ((R_w1.far (by simp) _).far (by simp) _)
  have G2 := h.ext x2
  rw [← hw2]
  clear hw2 M_w1 R_w1 e_M_w1 e_R_w1 g1
  refine (HC2.out _).mono ?_
  rintro e w3 ⟨rfl, hx3⟩
  have M3 := M2.ext hx3
  have R3 := R2.ext hx3
  have G3 := G2.ext hx3
  have x3 := x2.trans hx3
  have eM := cellsAt_at M3
  have eR := cellsAt_at R3
  have sM := M3.lt
  have sR := R3.lt
  have sG := G3.lt
  have c0 : w3.cell? ⟨g, 0, none⟩ = some (.slice none 0 0) := G3.cell 0
  have f0 := G3.frozen 0
  go_wp2_with fail
  refine gen_world (fun W => W = w3) rfl (fun w4 hF => ?_)
  subst hF
  refine wp_region_m 7 [0, 0, 0, 0, 1, 1, 2] 6 (MadeS w4 34 1 #[.int .i64 6, .int .i64 0, .int .i64 1, .int .i64 7, .int .i64 0, .int .i64 0, .int .i64 0, .int .i64 0, .int .i64 0]) _ (by kernel_rfl) (by kernel_rfl) rfl (by omega) rfl MadeS.ext ?_
  simp only [List.take_succ_cons, List.take_zero, List.drop_succ_cons, List.drop_zero]
  refine hl_pure (fun K hK => ?_)
  go_simp
  refine hK _ ?_
  clear hK K
  refine hl_pure (fun K hK => ?_)
  go_simp
  refine hK _ ?_
  clear hK K
  refine hl_pure (fun K hK => ?_)
  go_simp
  refine hK _ ?_
  clear hK K
  refine hl_pure (fun K hK => ?_)
  go_simp
  refine hK _ ?_
  clear hK K
  refine hl_quiet (fun K hK => ?_)
  go_simp
  refine hK _ ?_
  clear hK K
  refine hl_quiet (fun K hK => ?_)
  go_simp
  refine hK _ ?_
  clear hK K
  refine hl_make rfl (fun x => by go_simp; exact Later.mades x _ _ _) ?_
  refine hl_nil ?_
  intro u5 w5 hx5 hu5 K hK
  obtain ⟨q5, rfl, hq5, hB5⟩ := hu5
  go_wp2_with (at_builtin; refine wpList_rowcat rfl _ _ 22 34 9 72 msgZ rfl Try.underlying22 msgInfo rfl (by decide) _ none 0 0 [] rfl (Row.nil _ _ _ _) _ 1 1 _ rfl (Src.at hB5 rfl) rfl (by unfold maxLen; omega) (by omega) ?_)
  intro A' c' w6 hR6 hC6 hf6
  have C36 : Ext w4 w6 := hx5.trans (hC6.ext (by simp [ablk]))
  have x6 := x3.trans C36
  have M6 := M3.ext C36
  have R6 := R3.ext C36
  have G6 := G3.ext C36
  have eM6 := cellsAt_at M6
  have eR6 := cellsAt_at R6
  have sM6 := M6.lt
  have sR6 := R6.lt
  have sG6 := G6.lt
  have c6 : w6.cell? ⟨g, 0, none⟩ = some (.slice none 0 0) := G6.cell 0
  have f6 := G6.frozen 0
  have hgM : w.heap.size ≠ g := by omega
  have hgR : w.heap.size + 1 ≠ g := by omega
  clear c0 f0 eM eR sM sR sG M3 R3 G3 hC6 hx5 hB5
  go_wp2_with fail
  obtain ⟨w8, hw8⟩ : ∃ w8 : World, w8 = (w6.setCell ⟨g, 0, none⟩ (.slice A' 1 c')).setRow (w.heap.size + 1) #[.int .i64 6, .int .i64 0, .int .i64 1, .int .i64 7, .int .i64 0, .int .i64 0, .int .i64 0, .int .i64 0, .int .i64 0] := ⟨_, rfl⟩
  have C8 : Chg w w8 [g] := by rw [hw8]; exact (((Chg.of_ext x6 [g]).set (.inl (by simp)) _).setRow (.inr (by simp)) _)
  have R8 : At w8 (w.heap.size + 1) 34 #[.int .i64 6, .int .i64 0, .int .i64 1, .int .i64 7, .int .i64 0, .int .i64 0, .int .i64 0, .int .i64 0, .int .i64 0] := by rw [hw8]; exact (R6.far (by simpa using hgR) _).setRow _
  have e8 := cellsAt_at R8
  have s8 := R8.lt
  rw [← hw8]
  clear hw8 eM6 eR6 c6 f6 M6 R6 G6
  first | refine fin_ret rfl (fun K hK => ?_) | refine fin_norm rfl (fun K hK => ?_)
  simp [results, Try.results11, go_sem, rsat]
  try go_simp
  refine hK _ ?_
  clear hK K
  exact ⟨rfl, C8⟩
theorem Chg.extOf {w0 a b : World} {m : List Nat} (h : Chg a b m) (hx : Ext w0 a) (hm : ∀ i ∈ m, w0.heap.size ≤ i) : Ext w0 b := (Chg.step (Chg.of_ext hx []) h (fun i hi => .inr (hm i hi))).ext (by simp)
theorem fill_len : ∀ (k : Nat) (out : List Int) (n m : Int), (m - n).toNat ≤ k → out.length ≤ 100 → (fillB out n m).length ≤ 100 := by
  intro k
  induction k with
  | zero => intro out n m h1 h2; rw [fill_stop (by omega)]; exact h2
  | succ k ih =>
    intro out n m h1 h2
    by_cases h : n < m ∧ out.length < 100
    · rw [fill_go h]
      exact ih _ _ _ (by omega) (by simp; omega)
    · rw [fill_stop h]; exact h2
theorem gapsG_len : ∀ (l : List Mg) (out : List Int) (p : Int), out.length ≤ 100 → (gapsG out p l).length ≤ 100
  | [], _, _, h => h
  | m :: l, out, p, h => gapsG_len l _ _ (fill_len _ _ _ _ (Nat.le_refl _) h)
theorem gaps_len (l : List Mg) : (gapsL l).length ≤ 1000 := by
  match l with
  | [] => decide
  | m :: l => exact Nat.le_trans (gapsG_len l [] _ (by decide)) (by decide)
theorem gaps3 : gapsL [⟨0, 0, 1, 0, 0, 0, 0, 0, 0⟩, ⟨0, 0, 2, 0, 0, 0, 0, 0, 0⟩, ⟨0, 0, 5, 0, 0, 0, 0, 0, 0⟩] = [3, 4] := by
  have a : fillB [] (1 + 1) 2 = [] := fill_stop (by decide)
  have b : fillB [] (2 + 1) 5 = [3, 4] := by
    rw [fill_go (by decide), fill_go (by decide), fill_stop (by decide)]
    rfl
  simp only [gapsL, gapsG]
  rw [a, b]
set_option maxHeartbeats 2000000 in
set_option maxRecDepth 100000 in
theorem alive_c26 (w : World) : Calls Try.prog 6 #[] w fun e w' => e = .returned (.bool true) ∧ Ext w w' := by
  have C3 := fun W (g : Nat) (hW : At W g 34 #[.int .i64 0, .int .i64 0, .int .i64 1, .int .i64 0, .int .i64 0, .int .i64 0, .int .i64 0, .int .i64 0, .int .i64 0, .int .i64 0, .int .i64 0, .int .i64 2, .int .i64 0, .int .i64 0, .int .i64 0, .int .i64 0, .int .i64 0, .int .i64 0, .int .i64 0, .int .i64 0, .int .i64 5, .int .i64 0, .int .i64 0, .int .i64 0, .int .i64 0, .int .i64 0, .int .i64 0]) =>
    gaps_c (some ⟨g, 0, none⟩) 3 [⟨0, 0, 1, 0, 0, 0, 0, 0, 0⟩, ⟨0, 0, 2, 0, 0, 0, 0, 0, 0⟩, ⟨0, 0, 5, 0, 0, 0, 0, 0, 0⟩] (by decide) W ⟨by decide, by decide, Src.at hW rfl⟩ (fun m hm => by
      simp only [List.mem_cons, List.not_mem_nil, or_false] at hm
      rcases hm with rfl | rfl | rfl <;> (constructor <;> exact ⟨by decide, by decide⟩))
  rw [gaps3] at C3
  have HC3 := Lib.hid C3
  clear C3
  go_enter Try.func6, Try.ntmps6
  go_wp2_with fail
  have CN : Calls Try.prog 10 #[] w fun e w' => e = .returned (.pointer (some ⟨w.heap.size, 0, none⟩)) ∧ w' = w.alloc (.cells #[.slice none 0 0] 53) := by
    go_enter Try.func10, Try.ntmps10
    go_wp2_with fail
    first | refine fin_ret rfl (fun K hK => ?_) | refine fin_norm rfl (fun K hK => ?_)
    simp [results, Try.results10, go_sem, rsat]
    try go_simp
    refine hK _ ?_
    clear hK K
    exact ⟨rfl, rfl⟩
  refine CN.mono ?_
  rintro e w0 ⟨rfl, hw0⟩
  have x0 : Ext w w0 := by rw [hw0]; exact (by repeat (first | (with_reducible exact Ext.refl _) | (with_reducible assumption) | (with_reducible refine Ext.alloc ?_ _) | (with_reducible refine Ext.drew ?_) | (with_reducible refine Ext.drewN ?_ _) | (with_reducible refine Ext.setCell ?_ (by simp; try omega) _) | (with_reducible refine Ext.setRow ?_ (by simp; try omega) _)))
  have G0 : At w0 w.heap.size 53 #[.slice none 0 0] := by rw [hw0]; exact (by repeat (first | (with_reducible exact At.new _ _ _) | ((with_reducible refine At.new' _ _ _ _ ?_); simp; done) | (with_reducible assumption) | (with_reducible refine At.drew ?_) | (with_reducible refine At.alloc ?_ _) | (with_reducible apply At.upd) | (with_reducible apply At.setRow) | (with_reducible refine At.rowFar ?_ (by first | (simp; done) | (simp; omega) | omega) _) | ((with_reducible refine At.far ?_ (by first | (simp; done) | (simp; omega) | omega) _)) | (with_reducible rfl) | (simp; done)))
  clear hw0 CN
  go_wp2_with fail
  refine (put_new w.heap.size w0 G0).mono ?_
  rintro e w1 ⟨rfl, C1⟩
  have x1 : Ext w w1 := C1.extOf x0 (by simp)
  go_wp2_with fail
  obtain ⟨w2, hw2⟩ : ∃ w2 : World, w2 = (w1.alloc (.cells #[.int .i64 6, .int .i64 0, .int .i64 1, .int .i64 7, .int .i64 0, .int .i64 0, .int .i64 0, .int .i64 0, .int .i64 0] 34)).alloc (.cells #[.int .i64 0, .int .i64 0, .int .i64 1, .int .i64 0, .int .i64 0, .int .i64 0, .int .i64 0, .int .i64 0, .int .i64 0, .int .i64 0, .int .i64 0, .int .i64 2, .int .i64 0, .int .i64 0, .int .i64 0, .int .i64 0, .int .i64 0, .int .i64 0, .int .i64 0, .int .i64 0, .int .i64 5, .int .i64 0, .int .i64 0, .int .i64 0, .int .i64 0, .int .i64 0, .int .i64 0] 34) := ⟨_, rfl⟩
  have x2 : Ext w1 w2 := by rw [hw2]; exact (by repeat (first | (with_reducible exact Ext.refl _) | (with_reducible assumption) | (with_reducible refine Ext.alloc ?_ _) | (with_reducible refine Ext.drew ?_) | (with_reducible refine Ext.drewN ?_ _) | (with_reducible refine Ext.setCell ?_ (by simp; try omega) _) | (with_reducible refine Ext.setRow ?_ (by simp; try omega) _)))
  have M2 : At w2 w1.heap.size 34 #[.int .i64 6, .int .i64 0, .int .i64 1, .int .i64 7, .int .i64 0, .int .i64 0, .int .i64 0, .int .i64 0, .int .i64 0] := by rw [hw2]; exact (by repeat (first | (with_reducible exact At.new _ _ _) | ((with_reducible refine At.new' _ _ _ _ ?_); simp; done) | (with_reducible assumption) | (with_reducible refine At.drew ?_) | (with_reducible refine At.alloc ?_ _) | (with_reducible apply At.upd) | (with_reducible apply At.setRow) | (with_reducible refine At.rowFar ?_ (by first | (simp; done) | (simp; omega) | omega) _) | ((with_reducible refine At.far ?_ (by first | (simp; done) | (simp; omega) | omega) _)) | (with_reducible rfl) | (simp; done)))
  have N2 : At w2 (w1.heap.size + 1) 34 #[.int .i64 0, .int .i64 0, .int .i64 1, .int .i64 0, .int .i64 0, .int .i64 0, .int .i64 0, .int .i64 0, .int .i64 0, .int .i64 0, .int .i64 0, .int .i64 2, .int .i64 0, .int .i64 0, .int .i64 0, .int .i64 0, .int .i64 0, .int .i64 0, .int .i64 0, .int .i64 0, .int .i64 5, .int .i64 0, .int .i64 0, .int .i64 0, .int .i64 0, .int .i64 0, .int .i64 0] := by rw [hw2]; exact (by repeat (first | (with_reducible exact At.new _ _ _) | ((with_reducible refine At.new' _ _ _ _ ?_); simp; done) | (with_reducible assumption) | (with_reducible refine At.drew ?_) | (with_reducible refine At.alloc ?_ _) | (with_reducible apply At.upd) | (with_reducible apply At.setRow) | (with_reducible refine At.rowFar ?_ (by first | (simp; done) | (simp; omega) | omega) _) | ((with_reducible refine At.far ?_ (by first | (simp; done) | (simp; omega) | omega) _)) | (with_reducible rfl) | (simp; done)))
  rw [← hw2]
  clear hw2
  refine (HC3.out w2 _ N2).mono ?_
  rintro e w3 ⟨hx3, v, rfl, A3, c3, rfl, R3, F3⟩
  have M3 := M2.ext hx3
  have e3 := cellsAt_at M3
  have s3 := M3.lt
  obtain ⟨b, off, cur, rfl, _⟩ := R3.at_ (by have := R3.le; simp at this; omega)
  have i0 : w3.cell? ⟨b, off, none⟩ = some (.int .i64 3) := R3.cell rfl (j := 0) (by decide)
  have i1 : w3.cell? ⟨b, off + 1, none⟩ = some (.int .i64 4) := R3.cell rfl (j := 1) (by decide)
  clear R3 F3
  simp only [List.length_cons, List.length_nil]
  go_wp2_with fail
  first | refine fin_ret rfl (fun K hK => ?_) | refine fin_norm rfl (fun K hK => ?_)
  simp [results, Try.results6, go_sem, rsat]
  try go_simp
  refine hK _ ?_
  clear hK K
  exact ⟨rfl, (x1.trans x2).trans hx3⟩
set_option maxHeartbeats 2000000 in
set_option maxRecDepth 100000 in
theorem feedgaps_c (x : Mgs) (w : World) (h : x.At w) : Calls Try.prog 3 #[x.v] w fun e w' => e = .returned (.bool true) ∧ Ext w w' := by
  unfold Mgs.v
  have hlm : x.l.length ≤ 9223372036854775807 := by have := h.lies.le; have := h.lies.max; unfold maxLen at this; omega
  by_cases h60 : 60 < x.l.length
  ·
    go_enter Try.func3, Try.ntmps3
    go_wp2_with fail
    refine (alive_c26 _).mono ?_
    rintro e w1 ⟨rfl, hx1⟩
    go_wp2_with fail
    first | refine fin_ret rfl (fun K hK => ?_) | refine fin_norm rfl (fun K hK => ?_)
    simp [results, Try.results3, go_sem, rsat]
    try go_simp
    refine hK _ ?_
    clear hK K
    exact ⟨rfl, hx1⟩
  · have C1 := gaps_c x.A x.c x.l (by omega) w h.lies h.ok
    have C2 := fun W hx => rgaps_c x.A x.c x.l (by omega) W (h.lies.ext hx) h.ok
    have hg : (gapsL x.l).length ≤ 1000 := gaps_len x.l
    generalize gapsL x.l = g at C1 C2 hg
    have HC1 := Lib.hid C1
    have HC2 := Lib.hid C2
    clear C1 C2
    go_enter Try.func3, Try.ntmps3
    go_wp2_with fail
    refine HC1.out.mono ?_
    rintro e w1 ⟨hx1, v1, rfl, o1⟩
    go_wp2_with fail
    refine (HC2.out w1 hx1).mono ?_
    rintro e w2 ⟨hx2, v2, rfl, o2⟩
    obtain ⟨A1, c1, rfl, R1, _⟩ := o1.ext hx2
    obtain ⟨A2, c2, rfl, R2, _⟩ := o2
    go_wp2_with fail
    refine (same16_c A1 A2 c1 c2 g hg w2 R1.src R2.src).mono ?_
    rintro e w3 ⟨rfl, hx3⟩
    go_wp2_with fail
    refine (alive_c26 _).mono ?_
    rintro e w4 ⟨rfl, hx4⟩
    go_wp2_with fail
    first | refine fin_ret rfl (fun K hK => ?_) | refine fin_norm rfl (fun K hK => ?_)
    simp [results, Try.results3, go_sem, rsat]
    try go_simp
    refine hK _ ?_
    clear hK K
    exact ⟨rfl, ((hx1.trans hx2).trans hx3).trans hx4⟩
end Go.Proofs.Ythophidcgkjdeaa
