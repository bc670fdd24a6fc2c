/- Messages (layer 6): Encode. No condition. -/
import Derived.Test.YtndcmjpacailjaaM2
import Derived.Test.YtndcmjpacailjaaL03
import Derived.LoopN
import Derived.Laws.EntriesVeiled
/- Messages (layer 6): Encode, by the program and by the reference; Is. No condition. -/
namespace Go.Proofs.Ytndcmjpacailjaa
open Go.RowKit
attribute [local go_sem] Later.cell QUpon_value QUpon_enter MUpon_value run_eql_slice_nil Same.cell
attribute [local go_sem ↓ high] loadMsg_is storeMsg_is
attribute [local go_sem] run_loadMsg run_loadMsg_at run_storeMsg one_int one_bool one_slice one_ptr one_str setRow_new setRow_past cell_ca frozen_ca cellsAt_alloc_at cellsAt_alloc_past cellsAt_drew cellsAt_later cellsAt_setCell cellsAt_set_same cellsAt_setRow_same cellsAt_setRow_far subAt_alloc subAt_drew subAt_later subAt_setCell subAt_setRow ltn_2 ltn_3 ltn_4 ltn_5
def encL (m : Mg) : List Int := if rightB m then formB m else []
def encF (m : Mg) : Int := if rightB m then 0 else 1
def Enc (m : Mg) (w : World) (e : Ending) (w' : World) : Prop := Ext w w' ∧ ∃ v, e = .returned (.tuple #[v, .int .i64 (encF m)]) ∧ Own w w' v (encL m)
set_option maxHeartbeats 1000000 in
set_option maxRecDepth 100000 in
theorem renc_c (m : Mg) (hO : m.Ok) (w : World) : Calls Try.prog 8 #[.agg #[.int .i64 m.kind, .int .i64 m.sym, .int .i64 m.seq, .int .i64 m.tick, .int .i64 m.id, .int .i64 m.wth, .int .i64 m.price, .int .i64 m.qty, .int .i64 m.code]] w fun e w' => Enc m w e w' := by
  unfold Enc
  have C1 := rright_c m
  unfold encF encL
  by_cases hr : rightB m = true
  · have hF := (right_iff m).1 hr
    simp only [hr, if_true] at C1 ⊢
    have C2 := form_c m hO hF
    clear hr
    have HC1 := Lib.hid C1
    have HC2 := Lib.hid C2
    clear C1 C2
    go_enter Try.func8, Try.ntmps8
    go_wp2_with fail
    refine (HC1.out _).mono ?_
    rintro e w1 ⟨rfl, hxw1⟩
    have xw1 : Ext w w1 := Ext.trans (by repeat (first | (with_reducible exact Ext.refl _) | (with_reducible assumption) | (with_reducible refine Ext.alloc ?_ _) | (with_reducible refine Ext.drew ?_) | (with_reducible refine Ext.drewN ?_ _) | (with_reducible refine Ext.setCell ?_ (by simp; try omega) _) | (with_reducible refine Ext.setRow ?_ (by simp; try omega) _))) hxw1
    have lw1 := xw1.size
    have M_w1 := At.ext (g := w.heap.size) (t := 23) (cs := #[.int .i64 m.kind, .int .i64 m.sym, .int .i64 m.seq, .int .i64 m.tick, .int .i64 m.id, .int .i64 m.wth, .int .i64 m.price, .int .i64 m.qty, .int .i64 m.code]) (by repeat (first | (with_reducible exact At.new _ _ _) | ((with_reducible refine At.new' _ _ _ _ ?_); simp; done) | (with_reducible assumption) | (with_reducible refine At.drew ?_) | (with_reducible refine At.alloc ?_ _) | (with_reducible apply At.upd) | (with_reducible apply At.setRow) | (with_reducible refine At.rowFar ?_ (by first | (simp; done) | (simp; omega) | omega) _) | ((with_reducible refine At.far ?_ (by first | (simp; done) | (simp; omega) | omega) _)) | (with_reducible rfl) | (simp; done))) hxw1
    clear hxw1
    have s_M_w1 := M_w1.lt
    have e_M_w1 := cellsAt_at M_w1
    go_wp2_with fail
    refine (HC2.out _).mono ?_
    rintro e w2 ⟨hx2, v, rfl, ho⟩
    go_wp2_with fail
    first | refine fin_ret rfl (fun K hK => ?_) | refine fin_norm rfl (fun K hK => ?_)
    simp [results, Try.results8, go_sem, rsat]
    try go_simp
    refine hK _ ?_
    clear hK K
    exact ⟨xw1.trans hx2, v, rfl, ho.base xw1⟩
  · simp only [Bool.not_eq_true] at hr
    simp only [hr] at C1 ⊢
    clear hr
    have HC1 := Lib.hid C1
    clear C1
    go_enter Try.func8, Try.ntmps8
    go_wp2_with fail
    refine (HC1.out _).mono ?_
    rintro e w1 ⟨rfl, hxw1⟩
    have xw1 : Ext w w1 := Ext.trans (by repeat (first | (with_reducible exact Ext.refl _) | (with_reducible assumption) | (with_reducible refine Ext.alloc ?_ _) | (with_reducible refine Ext.drew ?_) | (with_reducible refine Ext.drewN ?_ _) | (with_reducible refine Ext.setCell ?_ (by simp; try omega) _) | (with_reducible refine Ext.setRow ?_ (by simp; try omega) _))) hxw1
    have lw1 := xw1.size
    have M_w1 := At.ext (g := w.heap.size) (t := 23) (cs := #[.int .i64 m.kind, .int .i64 m.sym, .int .i64 m.seq, .int .i64 m.tick, .int .i64 m.id, .int .i64 m.wth, .int .i64 m.price, .int .i64 m.qty, .int .i64 m.code]) (by repeat (first | (with_reducible exact At.new _ _ _) | ((with_reducible refine At.new' _ _ _ _ ?_); simp; done) | (with_reducible assumption) | (with_reducible refine At.drew ?_) | (with_reducible refine At.alloc ?_ _) | (with_reducible apply At.upd) | (with_reducible apply At.setRow) | (with_reducible refine At.rowFar ?_ (by first | (simp; done) | (simp; omega) | omega) _) | ((with_reducible refine At.far ?_ (by first | (simp; done) | (simp; omega) | omega) _)) | (with_reducible rfl) | (simp; done))) hxw1
    clear hxw1
    have s_M_w1 := M_w1.lt
    have e_M_w1 := cellsAt_at M_w1
    go_wp2_with fail
    first | refine fin_ret rfl (fun K hK => ?_) | refine fin_norm rfl (fun K hK => ?_)
    simp [results, Try.results8, go_sem, rsat]
    try go_simp
    refine hK _ ?_
    clear hK K
    exact ⟨(by repeat (first | (with_reducible exact Ext.refl _) | (with_reducible assumption) | (with_reducible refine Ext.alloc ?_ _) | (with_reducible refine Ext.drew ?_) | (with_reducible refine Ext.drewN ?_ _) | (with_reducible refine Ext.setCell ?_ (by simp; try omega) _) | (with_reducible refine Ext.setRow ?_ (by simp; try omega) _))), _, rfl, Own.nil _ _⟩
theorem is_c (m : Mg) (k s : Int) (w : World) : Calls Try.prog 12 #[.agg #[.int .i64 m.kind, .int .i64 m.sym, .int .i64 m.seq, .int .i64 m.tick, .int .i64 m.id, .int .i64 m.wth, .int .i64 m.price, .int .i64 m.qty, .int .i64 m.code], .int .i64 k, .int .i64 s] w fun e w' => e = .returned (.bool (decide (m.kind = k) && decide (m.sym = s))) ∧ Ext w w' := by
  by_cases h : m.kind = k
  · have h1 : (m.kind == k) = true := by simp [h]
    have h2 : decide (m.kind = k) = true := by simp [h]
    rw [h2]
    clear h h2
    by_cases h3 : m.sym = s
    · have h4 : (m.sym == s) = true := by simp [h3]
      have h5 : decide (m.sym = s) = true := by simp [h3]
      rw [h5]
      clear h3 h5
      go_enter Try.func12, Try.ntmps12
      go_wp2_with fail
      first | refine fin_ret rfl (fun K hK => ?_) | refine fin_norm rfl (fun K hK => ?_)
      simp [results, Try.results12, go_sem, rsat]
      try go_simp
      refine hK _ ?_
      clear hK K
      exact ⟨rfl, (by repeat (first | (with_reducible exact Ext.refl _) | (with_reducible assumption) | (with_reducible refine Ext.alloc ?_ _) | (with_reducible refine Ext.drew ?_) | (with_reducible refine Ext.drewN ?_ _) | (with_reducible refine Ext.setCell ?_ (by simp; try omega) _) | (with_reducible refine Ext.setRow ?_ (by simp; try omega) _)))⟩
    · have h4 : (m.sym == s) = false := by simp [h3]
      have h5 : decide (m.sym = s) = false := by simp [h3]
      rw [h5]
      clear h3 h5
      go_enter Try.func12, Try.ntmps12
      go_wp2_with fail
      first | refine fin_ret rfl (fun K hK => ?_) | refine fin_norm rfl (fun K hK => ?_)
      simp [results, Try.results12, go_sem, rsat]
      try go_simp
      refine hK _ ?_
      clear hK K
      exact ⟨rfl, (by repeat (first | (with_reducible exact Ext.refl _) | (with_reducible assumption) | (with_reducible refine Ext.alloc ?_ _) | (with_reducible refine Ext.drew ?_) | (with_reducible refine Ext.drewN ?_ _) | (with_reducible refine Ext.setCell ?_ (by simp; try omega) _) | (with_reducible refine Ext.setRow ?_ (by simp; try omega) _)))⟩
  · have h1 : (m.kind == k) = false := by simp [h]
    have h2 : decide (m.kind = k) = false := by simp [h]
    rw [h2, Bool.false_and]
    clear h h2
    go_enter Try.func12, Try.ntmps12
    go_wp2_with fail
    first | refine fin_ret rfl (fun K hK => ?_) | refine fin_norm rfl (fun K hK => ?_)
    simp [results, Try.results12, go_sem, rsat]
    try go_simp
    refine hK _ ?_
    clear hK K
    exact ⟨rfl, (by repeat (first | (with_reducible exact Ext.refl _) | (with_reducible assumption) | (with_reducible refine Ext.alloc ?_ _) | (with_reducible refine Ext.drew ?_) | (with_reducible refine Ext.drewN ?_ _) | (with_reducible refine Ext.setCell ?_ (by simp; try omega) _) | (with_reducible refine Ext.setRow ?_ (by simp; try omega) _)))⟩
theorem ix0 (a b c d : Int) (w : World) : (Instr.index 48 (.agg #[.int .i64 a, .int .i64 b, .int .i64 c, .int .i64 d]) (.int .i64 0)).run Try.prog w = .ok (.int .i64 a) w := by kernel_rfl
theorem ix1 (a b c d : Int) (w : World) : (Instr.index 48 (.agg #[.int .i64 a, .int .i64 b, .int .i64 c, .int .i64 d]) (.int .i64 1)).run Try.prog w = .ok (.int .i64 b) w := by kernel_rfl
theorem ix2 (a b c d : Int) (w : World) : (Instr.index 48 (.agg #[.int .i64 a, .int .i64 b, .int .i64 c, .int .i64 d]) (.int .i64 2)).run Try.prog w = .ok (.int .i64 c) w := by kernel_rfl
theorem ix3 (a b c d : Int) (w : World) : (Instr.index 48 (.agg #[.int .i64 a, .int .i64 b, .int .i64 c, .int .i64 d]) (.int .i64 3)).run Try.prog w = .ok (.int .i64 d) w := by kernel_rfl
set_option maxHeartbeats 2000000 in
set_option maxRecDepth 100000 in
theorem enc_c (m : Mg) (hO : m.Ok) (w : World) : Calls Try.prog 7 #[.agg #[.int .i64 m.kind, .int .i64 m.sym, .int .i64 m.seq, .int .i64 m.tick, .int .i64 m.id, .int .i64 m.wth, .int .i64 m.price, .int .i64 m.qty, .int .i64 m.code]] w fun e w' => Enc m w e w' := by
  unfold Enc
  have C1 := right_c m
  unfold encF encL
  by_cases hr : rightB m = true
  · have hF := (right_iff m).1 hr
    simp only [hr, if_true] at C1 ⊢
    have k1 := u8_id (x := m.kind) (by have := hF.kind; omega)
    have k2 := u8_id hF.sym
    have k3 := u8_id hF.code
    have k4 := u64_id hF.seq
    have k5 := u64_id hF.tick
    have n1 := numB_len64 (n := m.seq.toNat) (by have := hF.seq; omega)
    have n2 := numB_len64 (n := m.tick.toNat) (by have := hF.tick; omega)
    have b3 := byt3 hF
    clear hr
    have HC1 := Lib.hid C1
    clear C1
    go_enter Try.func7, Try.ntmps7
    go_wp2_with fail
    refine (HC1.out _).mono ?_
    rintro e w1 ⟨rfl, hxw1⟩
    have xw1 : Ext w w1 := Ext.trans (by repeat (first | (with_reducible exact Ext.refl _) | (with_reducible assumption) | (with_reducible refine Ext.alloc ?_ _) | (with_reducible refine Ext.drew ?_) | (with_reducible refine Ext.drewN ?_ _) | (with_reducible refine Ext.setCell ?_ (by simp; try omega) _) | (with_reducible refine Ext.setRow ?_ (by simp; try omega) _))) hxw1
    have lw1 := xw1.size
    have M_w1 := At.ext (g := w.heap.size) (t := 23) (cs := #[.int .i64 m.kind, .int .i64 m.sym, .int .i64 m.seq, .int .i64 m.tick, .int .i64 m.id, .int .i64 m.wth, .int .i64 m.price, .int .i64 m.qty, .int .i64 m.code]) (by repeat (first | (with_reducible exact At.new _ _ _) | ((with_reducible refine At.new' _ _ _ _ ?_); simp; done) | (with_reducible assumption) | (with_reducible refine At.drew ?_) | (with_reducible refine At.alloc ?_ _) | (with_reducible apply At.upd) | (with_reducible apply At.setRow) | (with_reducible refine At.rowFar ?_ (by first | (simp; done) | (simp; omega) | omega) _) | ((with_reducible refine At.far ?_ (by first | (simp; done) | (simp; omega) | omega) _)) | (with_reducible rfl) | (simp; done))) hxw1
    clear hxw1
    have s_M_w1 := M_w1.lt
    have e_M_w1 := cellsAt_at M_w1
    go_wp2_with fail
    refine gen_world (fun W => Ext w W ∧ At W w.heap.size 23 #[.int .i64 m.kind, .int .i64 m.sym, .int .i64 m.seq, .int .i64 m.tick, .int .i64 m.id, .int .i64 m.wth, .int .i64 m.price, .int .i64 m.qty, .int .i64 m.code] ∧ At W w1.heap.size 43 #[.slice none 0 0]) ⟨(by repeat (first | (with_reducible exact Ext.refl _) | (with_reducible assumption) | (with_reducible refine Ext.alloc ?_ _) | (with_reducible refine Ext.drew ?_) | (with_reducible refine Ext.drewN ?_ _) | (with_reducible refine Ext.setCell ?_ (by simp; try omega) _) | (with_reducible refine Ext.setRow ?_ (by simp; try omega) _))), (by repeat (first | (with_reducible exact At.new _ _ _) | ((with_reducible refine At.new' _ _ _ _ ?_); simp; done) | (with_reducible assumption) | (with_reducible refine At.drew ?_) | (with_reducible refine At.alloc ?_ _) | (with_reducible apply At.upd) | (with_reducible apply At.setRow) | (with_reducible refine At.rowFar ?_ (by first | (simp; done) | (simp; omega) | omega) _) | ((with_reducible refine At.far ?_ (by first | (simp; done) | (simp; omega) | omega) _)) | (with_reducible rfl) | (simp; done))), (by repeat (first | (with_reducible exact At.new _ _ _) | ((with_reducible refine At.new' _ _ _ _ ?_); simp; done) | (with_reducible assumption) | (with_reducible refine At.drew ?_) | (with_reducible refine At.alloc ?_ _) | (with_reducible apply At.upd) | (with_reducible apply At.setRow) | (with_reducible refine At.rowFar ?_ (by first | (simp; done) | (simp; omega) | omega) _) | ((with_reducible refine At.far ?_ (by first | (simp; done) | (simp; omega) | omega) _)) | (with_reducible rfl) | (simp; done)))⟩ (fun w2 hF2 => ?_)
    obtain ⟨x2, hM, hG⟩ := hF2
    generalize w1.heap.size = g at *
    have eM := cellsAt_at hM
    have sM := hM.lt
    have sG := hG.lt
    have hgM : g ≠ w.heap.size := by omega
    have W0 := Wr.new hG
    refine wp_region_s [0, 0, 0, 0, 0, 0, 0, 0, 0, 0, 1, 1, 0, 0, 0, 1, 0, 0, 0, 1] (fun x => ∀ b ∈ [w.heap.size], x.heap[b]? = w2.heap[b]?) (by kernel_rfl) (by kernel_rfl) ?_
    refine hls_same (fun K hK => ?_)
    go_simp
    refine hK _ ?_
    clear hK K
    refine hls_same (fun K hK => ?_)
    go_simp
    refine hK _ ?_
    clear hK K
    refine hls_same (fun K hK => ?_)
    go_simp
    refine hK _ ?_
    clear hK K
    refine hls_same (fun K hK => ?_)
    go_simp
    refine hK _ ?_
    clear hK K
    refine hls_same (fun K hK => ?_)
    go_simp
    refine hK _ ?_
    clear hK K
    refine hls_same (fun K hK => ?_)
    go_simp
    refine hK _ ?_
    clear hK K
    refine hls_same (fun K hK => ?_)
    go_simp
    refine hK _ ?_
    clear hK K
    refine hls_same (fun K hK => ?_)
    go_simp
    refine hK _ ?_
    clear hK K
    refine hls_same (fun K hK => ?_)
    go_simp
    refine hK _ ?_
    clear hK K
    refine hls_same (fun K hK => ?_)
    go_simp
    refine hK _ ?_
    clear hK K
    refine hls_skip (by decide) ?_
    refine hls_skip (by decide) ?_
    refine hls_same (fun K hK => ?_)
    go_simp
    refine hK _ ?_
    clear hK K
    refine hls_same (fun K hK => ?_)
    go_simp
    refine hK _ ?_
    clear hK K
    refine hls_same (fun K hK => ?_)
    go_simp
    refine hK _ ?_
    clear hK K
    refine hls_skip (by decide) ?_
    refine hls_same (fun K hK => ?_)
    go_simp
    refine hK _ ?_
    clear hK K
    refine hls_same (fun K hK => ?_)
    go_simp
    refine hK _ ?_
    clear hK K
    refine hls_same (fun K hK => ?_)
    go_simp
    refine hK _ ?_
    clear hK K
    refine hls_skip (by decide) ?_
    refine hls_nil ?_
    intro w3 hxw3 K hK
    have hM3 := hM.ext hxw3
    have W3 := W0.ext hxw3
    have x3 := x2.trans hxw3
    have s3 := hxw3.size
    have same3 : ∀ b ∈ [w.heap.size], w3.heap[b]? = w2.heap[b]? := fun b hb => by simp at hb; subst hb; exact hM3.trans hM.symm
    refine ms_pass ?_
    refine ms_pass ?_
    refine ms_pass ?_
    refine ms_pass ?_
    refine ms_pass ?_
    refine ms_pass ?_
    refine ms_pass ?_
    refine ms_pass ?_
    refine ms_pass ?_
    refine ms_pass ?_
    refine ms_do (by decide) (same3) (fun K' hK' => ?_)
    go_wp2_with fail
    obtain ⟨w4, hw4⟩ : ∃ w4, w4 = w3.alloc (.cells #[.int .u8 m.kind, .int .u8 m.sym, .int .u8 m.code] 5) := ⟨_, rfl⟩
    have hx4 : Ext w3 w4 := by rw [hw4]; exact (Ext.refl _).alloc _
    have hS4 : Src w4 1 (some ⟨w3.heap.size, 0, none⟩) 3 (bc [m.kind, m.sym, m.code]) := by rw [hw4]; exact Src.at (At.new' _ _ _ _ rfl) rfl
    rw [← hw4]
    clear hw4
    generalize w3.heap.size = g3 at hS4 ⊢
    have hM4 := hM3.ext hx4
    have x4 := x3.trans hx4
    refine ms_do (by decide) (fun b hb => by simp at hb; subst hb; exact hM4.trans hM.symm) (fun K' hK' => ?_)
    go_wp2_with fail
    refine (raw_c g none [] _ [m.kind, m.sym, m.code] 3 w4 (W3.ext hx4) hS4 b3 (by simp)).mono ?_
    rintro e w5 ⟨rfl, A5, P5⟩
    rw [List.nil_append] at P5
    have hM5 := P5.chg.at hM4 (by simp [ablk]; omega)
    have x5 : Ext w w5 := P5.ext0 x4 (by omega)
    go_wp2_with fail
    refine ms_pass ?_
    refine ms_pass ?_
    refine ms_pass ?_
    refine ms_do (by decide) (fun b hb => by simp at hb; subst hb; exact hM5.trans hM.symm) (fun K' hK' => ?_)
    go_wp2_with fail
    refine (numI_c g A5 _ m.seq hF.seq w5 P5.wr (by simp)).mono ?_
    rintro e w6 ⟨rfl, A6, P6⟩
    have Q6 := P5.trans P6
    have hM6 := Q6.chg.at hM4 (by simp [ablk]; omega)
    have x6 : Ext w w6 := Q6.ext0 x4 (by omega)
    go_wp2_with fail
    have l6 : ([m.kind, m.sym, m.code] ++ numB m.seq.toNat).length ≤ 20 := by simp only [List.length_append, List.length_cons, List.length_nil]; omega
    refine ms_pass ?_
    refine ms_pass ?_
    refine ms_pass ?_
    refine ms_do (by decide) (fun b hb => by simp at hb; subst hb; exact hM6.trans hM.symm) (fun K' hK' => ?_)
    go_wp2_with fail
    refine (numI_c g A6 _ m.tick hF.tick w6 Q6.wr (by omega)).mono ?_
    rintro e w7 ⟨rfl, A7, P7⟩
    have Q7 := Q6.trans P7
    have hM7 := Q7.chg.at hM4 (by simp [ablk]; omega)
    have x7 : Ext w w7 := Q7.ext0 x4 (by omega)
    have l7 : ([m.kind, m.sym, m.code] ++ numB m.seq.toNat ++ numB m.tick.toNat).length ≤ 30 := by rw [List.length_append]; omega
    go_wp2_with fail
    refine ms_nil (fun b hb => by simp at hb; subst hb; exact hM7.trans hM.symm) (hK _ _ ?_)
    have e7 := cellsAt_at hM7
    have s7 := hM7.lt
    go_wp2_with fail
    have i0 := fun W => ix0 m.id m.wth m.price m.qty W
    have i1 := fun W => ix1 m.id m.wth m.price m.qty W
    have i2 := fun W => ix2 m.id m.wth m.price m.qty W
    have i3 := fun W => ix3 m.id m.wth m.price m.qty W
    refine wp_loop_rounds 5 ?_
    rw [rounds_succ]
    go_wp2_with fail
    refine (int_c g A7 _ m.id hO.id _ Q7.wr (by omega)).mono ?_
    rintro e w8 ⟨rfl, A8, P8⟩
    have Q8 := Q7.trans P8
    have l8 : ([m.kind, m.sym, m.code] ++ numB m.seq.toNat ++ numB m.tick.toNat ++ intB m.id).length ≤ 40 := by rw [List.length_append, intB_len]; omega
    go_wp2_with fail
    rw [rounds_succ]
    go_wp2_with fail
    refine (int_c g A8 _ m.wth hO.wth _ Q8.wr (by omega)).mono ?_
    rintro e w9 ⟨rfl, A9, P9⟩
    have Q9 := Q8.trans P9
    have l9 : ([m.kind, m.sym, m.code] ++ numB m.seq.toNat ++ numB m.tick.toNat ++ intB m.id ++ intB m.wth).length ≤ 50 := by rw [List.length_append, intB_len]; omega
    go_wp2_with fail
    rw [rounds_succ]
    go_wp2_with fail
    refine (int_c g A9 _ m.price hO.price _ Q9.wr (by omega)).mono ?_
    rintro e w10 ⟨rfl, A10, P10⟩
    have Q10 := Q9.trans P10
    have l10 : ([m.kind, m.sym, m.code] ++ numB m.seq.toNat ++ numB m.tick.toNat ++ intB m.id ++ intB m.wth ++ intB m.price).length ≤ 60 := by rw [List.length_append, intB_len]; omega
    go_wp2_with fail
    rw [rounds_succ]
    go_wp2_with fail
    refine (int_c g A10 _ m.qty hO.qty _ Q10.wr (by omega)).mono ?_
    rintro e w11 ⟨rfl, A11, P11⟩
    have Q11 := Q10.trans P11
    have l11 : ([m.kind, m.sym, m.code] ++ numB m.seq.toNat ++ numB m.tick.toNat ++ intB m.id ++ intB m.wth ++ intB m.price ++ intB m.qty).length ≤ 70 := by rw [List.length_append, intB_len]; omega
    go_wp2_with fail
    rw [rounds_succ]
    go_wp2_with fail
    refine (bytes_c g A11 _ _ Q11.wr (by omega)).mono ?_
    rintro e w12 ⟨hx12, v, rfl, ho⟩
    go_wp2_with fail
    first | refine fin_ret rfl (fun K hK => ?_) | refine fin_norm rfl (fun K hK => ?_)
    simp [results, Try.results7, go_sem, rsat]
    try go_simp
    refine hK _ ?_
    clear hK K
    have x11 : Ext w w11 := Q11.ext0 x4 (by omega)
    exact ⟨x11.trans hx12, v, rfl, ho.base x11⟩
  · simp only [Bool.not_eq_true] at hr
    simp only [hr] at C1 ⊢
    clear hr
    have HC1 := Lib.hid C1
    clear C1
    go_enter Try.func7, Try.ntmps7
    go_wp2_with fail
    refine (HC1.out _).mono ?_
    rintro e w1 ⟨rfl, hxw1⟩
    have xw1 : Ext w w1 := Ext.trans (by repeat (first | (with_reducible exact Ext.refl _) | (with_reducible assumption) | (with_reducible refine Ext.alloc ?_ _) | (with_reducible refine Ext.drew ?_) | (with_reducible refine Ext.drewN ?_ _) | (with_reducible refine Ext.setCell ?_ (by simp; try omega) _) | (with_reducible refine Ext.setRow ?_ (by simp; try omega) _))) hxw1
    have lw1 := xw1.size
    have M_w1 := At.ext (g := w.heap.size) (t := 23) (cs := #[.int .i64 m.kind, .int .i64 m.sym, .int .i64 m.seq, .int .i64 m.tick, .int .i64 m.id, .int .i64 m.wth, .int .i64 m.price, .int .i64 m.qty, .int .i64 m.code]) (by repeat (first | (with_reducible exact At.new _ _ _) | ((with_reducible refine At.new' _ _ _ _ ?_); simp; done) | (with_reducible assumption) | (with_reducible refine At.drew ?_) | (with_reducible refine At.alloc ?_ _) | (with_reducible apply At.upd) | (with_reducible apply At.setRow) | (with_reducible refine At.rowFar ?_ (by first | (simp; done) | (simp; omega) | omega) _) | ((with_reducible refine At.far ?_ (by first | (simp; done) | (simp; omega) | omega) _)) | (with_reducible rfl) | (simp; done))) hxw1
    clear hxw1
    have s_M_w1 := M_w1.lt
    have e_M_w1 := cellsAt_at M_w1
    go_wp2_with fail
    first | refine fin_ret rfl (fun K hK => ?_) | refine fin_norm rfl (fun K hK => ?_)
    simp [results, Try.results7, go_sem, rsat]
    try go_simp
    refine hK _ ?_
    clear hK K
    exact ⟨(by repeat (first | (with_reducible exact Ext.refl _) | (with_reducible assumption) | (with_reducible refine Ext.alloc ?_ _) | (with_reducible refine Ext.drew ?_) | (with_reducible refine Ext.drewN ?_ _) | (with_reducible refine Ext.setCell ?_ (by simp; try omega) _) | (with_reducible refine Ext.setRow ?_ (by simp; try omega) _))), _, rfl, Own.nil _ _⟩
end Go.Proofs.Ytndcmjpacailjaa
/- Law MessageEncodes. No condition. -/
namespace Go.Proofs.Ytndcmjpacailjaa
open Go.RowKit
attribute [local go_sem] Later.cell QUpon_value QUpon_enter MUpon_value run_eql_slice_nil Same.cell
attribute [local go_sem ↓ high] loadMsg_is storeMsg_is
attribute [local go_sem] run_loadMsg run_loadMsg_at run_storeMsg one_int one_bool one_slice one_ptr one_str setRow_new setRow_past cell_ca frozen_ca cellsAt_alloc_at cellsAt_alloc_past cellsAt_drew cellsAt_later cellsAt_setCell cellsAt_set_same cellsAt_setRow_same cellsAt_setRow_far subAt_alloc subAt_drew subAt_later subAt_setCell subAt_setRow ltn_2 ltn_3 ltn_4 ltn_5
def m60 : Mg := ⟨6, 1, 0, 0, 0, 0, 0, 0, 2⟩
theorem m60_ok : m60.Ok := by unfold m60; constructor <;> exact ⟨by decide, by decide⟩
theorem m60_L : encL m60 = [6, 1, 2, 0, 0, 0, 0, 0, 0, 0, 0, 0, 0, 0, 0, 0, 0, 0, 0, 0, 0, 0, 0, 0, 0, 0, 0, 0, 0, 0, 0, 0, 0, 0, 0, 0, 0] := by
  unfold encL
  rw [if_pos (by decide)]
  unfold formB
  rw [show m60.seq.toNat = 0 from rfl, show m60.tick.toNat = 0 from rfl, numB_small (by decide)]
  decide
theorem m60_F : encF m60 = 0 := by decide
theorem formB_byt' (m : Mg) : Byt (encL m) := by
  unfold encL
  by_cases h : rightB m = true
  · rw [if_pos h]; exact formB_byt ((right_iff m).1 h)
  · rw [if_neg h]; intro x hx; cases hx
theorem alive_c6 (w : World) : Calls Try.prog 13 #[] w fun e w' => e = .returned (.bool true) ∧ Ext w w' := by
  have C1 := enc_c m60 m60_ok
  unfold Enc at C1
  rw [m60_L, m60_F] at C1
  have C2 := is_c ⟨3, 1, 0, 0, 0, 0, 0, 0, 0⟩ 3 1
  have HC1 := Lib.hid C1
  have HC2 := Lib.hid C2
  clear C1 C2
  go_enter Try.func13, Try.ntmps13
  go_wp2_with fail
  refine (HC1.out _).mono ?_
  rintro e w1 ⟨hx1, v, rfl, A, c, rfl, R, F⟩
  obtain ⟨b, off, cur, rfl, _⟩ := R.at_ (by have := R.le; simp at this; omega)
  have e0 : w1.cell? ⟨b, off, none⟩ = some (.int .u8 6) := R.cell rfl (j := 0) (by decide)
  have e2 : w1.cell? ⟨b, off + 2, none⟩ = some (.int .u8 2) := R.cell rfl (j := 2) (by decide)
  clear R F
  simp only [List.length_cons, List.length_nil]
  go_wp2_with fail
  refine (HC2.out _).mono ?_
  rintro e w2 ⟨rfl, hx2⟩
  go_wp2_with fail
  first | refine fin_ret rfl (fun K hK => ?_) | refine fin_norm rfl (fun K hK => ?_)
  simp [results, Try.results13, go_sem, rsat]
  try go_simp
  refine hK _ ?_
  clear hK K
  exact ⟨rfl, hx1.trans hx2⟩
set_option maxHeartbeats 2000000 in
set_option maxRecDepth 100000 in
theorem encodes_b (m : Mg) (hO : m.Ok) (k s : Int) (b1 b2 : Bool) (h1 : (m.kind == k) = b1) (h2 : (m.sym == s) = b2) (w : World) : Calls Try.prog 3 #[.agg #[.int .i64 m.kind, .int .i64 m.sym, .int .i64 m.seq, .int .i64 m.tick, .int .i64 m.id, .int .i64 m.wth, .int .i64 m.price, .int .i64 m.qty, .int .i64 m.code], .int .i64 k, .int .i64 s] w fun e w' => e = .returned (.bool true) ∧ Ext w w' := by
  have C1 := enc_c m hO
  have C2 := renc_c m hO
  unfold Enc at C1 C2
  have C3 := right_c m
  have C4 := rright_c m
  have C5 := is_c m k s
  rw [show decide (m.kind = k) = b1 by rw [← h1]; by_cases h : m.kind = k <;> simp [h], show decide (m.sym = s) = b2 by rw [← h2]; by_cases h : m.sym = s <;> simp [h]] at C5
  have hL := formB_byt' m
  generalize encL m = L at C1 C2 hL
  generalize encF m = f at C1 C2
  generalize rightB m = r at C3 C4
  have HC1 := Lib.hid C1
  have HC2 := Lib.hid C2
  have HC3 := Lib.hid C3
  have HC4 := Lib.hid C4
  have HC5 := Lib.hid C5
  clear C1 C2 C3 C4 C5
  have hff : (f == f) = true := by simp
  have hrr : (r == r) = true := by simp
  cases b1 <;> cases b2
  all_goals
    simp only [Bool.and_true, Bool.and_false] at HC5
    go_enter Try.func3, Try.ntmps3
    go_wp2_with fail
    refine (HC1.out _).mono ?_
    rintro e w1 ⟨hxw1, v, rfl, o1⟩
    have M_w1 := At.ext (g := w.heap.size) (t := 23) (cs := #[.int .i64 m.kind, .int .i64 m.sym, .int .i64 m.seq, .int .i64 m.tick, .int .i64 m.id, .int .i64 m.wth, .int .i64 m.price, .int .i64 m.qty, .int .i64 m.code]) (by repeat (first | (with_reducible exact At.new _ _ _) | ((with_reducible refine At.new' _ _ _ _ ?_); simp; done) | (with_reducible assumption) | (with_reducible refine At.drew ?_) | (with_reducible refine At.alloc ?_ _) | (with_reducible apply At.upd) | (with_reducible apply At.setRow) | (with_reducible refine At.rowFar ?_ (by first | (simp; done) | (simp; omega) | omega) _) | ((with_reducible refine At.far ?_ (by first | (simp; done) | (simp; omega) | omega) _)) | (with_reducible rfl) | (simp; done))) hxw1
    have xw1 : Ext w w1 := Ext.trans (by repeat (first | (with_reducible exact Ext.refl _) | (with_reducible assumption) | (with_reducible refine Ext.alloc ?_ _) | (with_reducible refine Ext.drew ?_) | (with_reducible refine Ext.drewN ?_ _) | (with_reducible refine Ext.setCell ?_ (by simp; try omega) _) | (with_reducible refine Ext.setRow ?_ (by simp; try omega) _))) hxw1
    clear hxw1
    have s_M_w1 := M_w1.lt
    have e_M_w1 := cellsAt_at M_w1
    go_wp2_with fail
    refine (HC2.out _).mono ?_
    rintro e w2 ⟨hxw2, v2, rfl, o2⟩
    have o12 := o1.ext hxw2
    have M_w2 := At.ext (g := w.heap.size) (t := 23) (cs := #[.int .i64 m.kind, .int .i64 m.sym, .int .i64 m.seq, .int .i64 m.tick, .int .i64 m.id, .int .i64 m.wth, .int .i64 m.price, .int .i64 m.qty, .int .i64 m.code]) (by repeat (first | (with_reducible exact At.new _ _ _) | ((with_reducible refine At.new' _ _ _ _ ?_); simp; done) | (with_reducible assumption) | (with_reducible refine At.drew ?_) | (with_reducible refine At.alloc ?_ _) | (with_reducible apply At.upd) | (with_reducible apply At.setRow) | (with_reducible refine At.rowFar ?_ (by first | (simp; done) | (simp; omega) | omega) _) | ((with_reducible refine At.far ?_ (by first | (simp; done) | (simp; omega) | omega) _)) | (with_reducible rfl) | (simp; done))) hxw2
    have xw2 : Ext w w2 := Ext.trans (by repeat (first | (with_reducible exact Ext.refl _) | (with_reducible assumption) | (with_reducible refine Ext.alloc ?_ _) | (with_reducible refine Ext.drew ?_) | (with_reducible refine Ext.drewN ?_ _) | (with_reducible refine Ext.setCell ?_ (by simp; try omega) _) | (with_reducible refine Ext.setRow ?_ (by simp; try omega) _))) hxw2
    clear M_w1 s_M_w1 e_M_w1 hxw2 xw1
    have s_M_w2 := M_w2.lt
    have e_M_w2 := cellsAt_at M_w2
    obtain ⟨A1, c1, rfl, R1, F1⟩ := o12
    obtain ⟨A2, c2, rfl, R2, F2⟩ := o2
    go_wp2_with fail
    refine wp_region_x 36 [0, 0, 1, 0, 0, 0, 0, 0, 0, 1, 1, 1, 1, 0, 0, 0, 1, 0, 0, 1, 0, 1, 0, 0, 0, 0, 1, 0, 0, 0, 0, 0, 0, 1, 0, 0] (by kernel_rfl) (by kernel_rfl) (by kernel_rfl) ?_
    simp only [List.take_succ_cons, List.take_zero, List.drop_succ_cons, List.drop_zero]
    refine hl_pure (fun K hK => ?_)
    go_simp
    refine hK _ ?_
    clear hK K
    refine hl_pure (fun K hK => ?_)
    go_simp
    refine hK _ ?_
    clear hK K
    refine hl_quiet (fun K hK => ?_)
    go_simp
    first
      | (refine hK _ ?_; clear hK K)
      | (apply Exists.intro; refine ⟨fun x => ?_, hK _ ?_⟩
         · (exact same_c A1 A2 _ _ c1 c2 L L _ (R1.ext x.ext).src (R2.ext x.ext).src hL hL)
         clear hK K)
    refine hl_pure (fun K hK => ?_)
    go_simp
    refine hK _ ?_
    clear hK K
    refine hl_pure (fun K hK => ?_)
    go_simp
    refine hK _ ?_
    clear hK K
    refine hl_pure (fun K hK => ?_)
    go_simp
    refine hK _ ?_
    clear hK K
    refine hl_pure (fun K hK => ?_)
    go_simp
    refine hK _ ?_
    clear hK K
    refine hl_pure (fun K hK => ?_)
    go_simp
    refine hK _ ?_
    clear hK K
    refine hl_pure (fun K hK => ?_)
    go_simp
    refine hK _ ?_
    clear hK K
    refine hl_quiet (fun K hK => ?_)
    go_simp
    refine hK _ ?_
    clear hK K
    refine hl_quiet (fun K hK => ?_)
    go_simp
    first
      | (refine hK _ ?_; clear hK K)
      | (apply Exists.intro; refine ⟨fun x => ?_, hK _ ?_⟩
         · (exact HC3.out _)
         clear hK K)
    refine hl_quiet (fun K hK => ?_)
    go_simp
    refine hK _ ?_
    clear hK K
    refine hl_quiet (fun K hK => ?_)
    go_simp
    first
      | (refine hK _ ?_; clear hK K)
      | (apply Exists.intro; refine ⟨fun x => ?_, hK _ ?_⟩
         · (exact HC4.out _)
         clear hK K)
    refine hl_pure (fun K hK => ?_)
    go_simp
    refine hK _ ?_
    clear hK K
    refine hl_pure (fun K hK => ?_)
    go_simp
    refine hK _ ?_
    clear hK K
    refine hl_pure (fun K hK => ?_)
    go_simp
    refine hK _ ?_
    clear hK K
    refine hl_quiet (fun K hK => ?_)
    go_simp
    refine hK _ ?_
    clear hK K
    refine hl_pure (fun K hK => ?_)
    go_simp
    refine hK _ ?_
    clear hK K
    refine hl_pure (fun K hK => ?_)
    go_simp
    refine hK _ ?_
    clear hK K
    refine hl_quiet (fun K hK => ?_)
    go_simp
    first
      | (refine hK _ ?_; clear hK K)
      | (apply Exists.intro; refine ⟨fun x => ?_, hK _ ?_⟩
         · (exact HC5.out _)
         clear hK K)
    refine hl_pure (fun K hK => ?_)
    go_simp
    refine hK _ ?_
    clear hK K
    refine hl_quiet (fun K hK => ?_)
    go_simp
    refine hK _ ?_
    clear hK K
    refine hl_pure (fun K hK => ?_)
    go_simp
    refine hK _ ?_
    clear hK K
    refine hl_pure (fun K hK => ?_)
    go_simp
    refine hK _ ?_
    clear hK K
    refine hl_pure (fun K hK => ?_)
    go_simp
    refine hK _ ?_
    clear hK K
    refine hl_pure (fun K hK => ?_)
    go_simp
    refine hK _ ?_
    clear hK K
    refine hl_quiet (fun K hK => ?_)
    go_simp
    refine hK _ ?_
    clear hK K
    refine hl_pure (fun K hK => ?_)
    go_simp
    refine hK _ ?_
    clear hK K
    refine hl_pure (fun K hK => ?_)
    go_simp
    refine hK _ ?_
    clear hK K
    refine hl_pure (fun K hK => ?_)
    go_simp
    refine hK _ ?_
    clear hK K
    refine hl_pure (fun K hK => ?_)
    go_simp
    refine hK _ ?_
    clear hK K
    refine hl_pure (fun K hK => ?_)
    go_simp
    refine hK _ ?_
    clear hK K
    refine hl_pure (fun K hK => ?_)
    go_simp
    refine hK _ ?_
    clear hK K
    refine hl_quiet (fun K hK => ?_)
    go_simp
    first
      | (refine hK _ ?_; clear hK K)
      | (apply Exists.intro; refine ⟨fun x => ?_, hK _ ?_⟩
         · (exact alive_c6 _)
         clear hK K)
    refine hl_pure (fun K hK => ?_)
    go_simp
    refine hK _ ?_
    clear hK K
    refine hl_pure (fun K hK => ?_)
    go_simp
    refine hK _ ?_
    clear hK K
    refine hl_nil ?_
    intro w3 hxw3 K hK
    have xw3 : Ext w w3 := Ext.trans (by repeat (first | (with_reducible exact Ext.refl _) | (with_reducible assumption) | (with_reducible refine Ext.alloc ?_ _) | (with_reducible refine Ext.drew ?_) | (with_reducible refine Ext.drewN ?_ _) | (with_reducible refine Ext.setCell ?_ (by simp; try omega) _) | (with_reducible refine Ext.setRow ?_ (by simp; try omega) _))) hxw3
    obtain ⟨hcw3, hfw3⟩ := hxw3.facts
    have hsw3 := hxw3.size
    try simp only [World.size_drew, World.size_alloc, World.size_setCell] at hsw3 hcw3 hfw3
    go_wp2_with fail
    first | refine fin_ret rfl (fun K hK => ?_) | refine fin_norm rfl (fun K hK => ?_)
    simp [results, Try.results3, go_sem, rsat]
    try go_simp
    refine hK _ ?_
    clear hK K
    exact ⟨rfl, (by repeat (first | (with_reducible exact Ext.refl _) | (with_reducible assumption) | (with_reducible refine Ext.alloc ?_ _) | (with_reducible refine Ext.drew ?_) | (with_reducible refine Ext.drewN ?_ _) | (with_reducible refine Ext.setCell ?_ (by simp; try omega) _) | (with_reducible refine Ext.setRow ?_ (by simp; try omega) _)))⟩
theorem messageencodes_c (m : Mg) (hO : m.Ok) (k s : Int) (w : World) : Calls Try.prog 3 #[.agg #[.int .i64 m.kind, .int .i64 m.sym, .int .i64 m.seq, .int .i64 m.tick, .int .i64 m.id, .int .i64 m.wth, .int .i64 m.price, .int .i64 m.qty, .int .i64 m.code], .int .i64 k, .int .i64 s] w fun e w' => e = .returned (.bool true) ∧ Ext w w' :=
  encodes_b m hO k s _ _ rfl rfl w
end Go.Proofs.Ytndcmjpacailjaa
