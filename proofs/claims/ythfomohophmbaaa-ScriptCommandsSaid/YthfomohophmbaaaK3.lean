/- Commands (layer 5): Encode, by the program. No condition. -/
import Derived.Test.YthfomohophmbaaaK2
import Derived.Test.YthfomohophmbaaaRt
namespace Go.Proofs.Ythfomohophmbaaa
open Go.RowKit
attribute [local go_sem] Later.cell QUpon_value QUpon_enter MUpon_value run_eql_slice_nil Same.cell
attribute [local go_sem ↓ high] loadCmd_is storeCmd_is
attribute [local go_sem] run_loadCmd run_loadCmd_at run_storeCmd one_int one_bool one_slice one_ptr one_str setRow_new setRow_past cell_ca frozen_ca cellsAt_alloc_at cellsAt_alloc_past cellsAt_drew cellsAt_later cellsAt_setCell cellsAt_set_same cellsAt_setRow_same cellsAt_setRow_far subAt_alloc subAt_drew subAt_later subAt_setCell subAt_setRow ltn_2 ltn_3 ltn_4 ltn_5
set_option maxHeartbeats 8000000 in
set_option maxRecDepth 100000 in
theorem cenc2 (c : Cm) (hO : c.Ok) (hF : c.Fine) (hk : c.kind = 2) (w : World) : Calls Try.prog 33 #[.agg #[.int .i64 c.kind, .int .i64 c.sym, .int .i64 c.id, .int .i64 c.own, .int .i64 c.side, .int .i64 c.typ, .int .i64 c.price, .int .i64 c.qty, .int .i64 c.flags]] w fun e w' => Ext w w' ∧ ∃ v, e = .returned (.tuple #[v, .int .i64 0]) ∧ Own w w' v (formC c) := by
  have C1 := cright_c c
  rw [(cright_iff c).2 hF] at C1
  have HC1 := Lib.hid C1
  clear C1
  have hf := hF.k
  have k1 := u8_id (x := c.kind) (by omega)
  have k2 := u8_id hF.sym
  have k4 := u64_id hF.id
  have n1 := numB_len64 (n := c.id.toNat) (by have := hF.id; omega)
  have q1 : (c.kind == 1) = false := by simp [hk]
  have q2 : (c.kind != 2) = false := by simp [hk]
  have b2 := byt2 hF
  have hform : formC c = [c.kind, c.sym] ++ numB c.id.toNat := by unfold formC; rw [if_neg (by omega), if_pos hk]
  have HFORM := Lib.hid hform
  clear hform hf hk
  go_enter Try.func33, Try.ntmps33
  go_wp2_with fail
  refine (HC1.out _).mono ?_
  rintro e w1 ⟨rfl, hxw1⟩
  have xw1 : Ext w w1 := Ext.trans (by repeat (first | (with_reducible exact Ext.refl _) | (with_reducible assumption) | (with_reducible refine Ext.alloc ?_ _) | (with_reducible refine Ext.drew ?_) | (with_reducible refine Ext.drewN ?_ _) | (with_reducible refine Ext.setCell ?_ (by simp; try omega) _) | (with_reducible refine Ext.setRow ?_ (by simp; try omega) _))) hxw1
  have lw1 := xw1.size
  have M_w1 := At.ext (g := w.heap.size) (t := 37) (cs := #[.int .i64 c.kind, .int .i64 c.sym, .int .i64 c.id, .int .i64 c.own, .int .i64 c.side, .int .i64 c.typ, .int .i64 c.price, .int .i64 c.qty, .int .i64 c.flags]) (by repeat (first | (with_reducible exact At.new _ _ _) | ((with_reducible refine At.new' _ _ _ _ ?_); simp; done) | (with_reducible assumption) | (with_reducible refine At.drew ?_) | (with_reducible refine At.alloc ?_ _) | (with_reducible apply At.upd) | (with_reducible apply At.setRow) | (with_reducible refine At.rowFar ?_ (by first | (simp; done) | (simp; omega) | omega) _) | ((with_reducible refine At.far ?_ (by first | (simp; done) | (simp; omega) | omega) _)) | (with_reducible rfl) | (simp; done))) hxw1
  clear hxw1
  have s_M_w1 := M_w1.lt
  have e_M_w1 := cellsAt_at M_w1
  go_wp2_with fail
  refine gen_world (fun W => Ext w W ∧ At W w.heap.size 37 #[.int .i64 c.kind, .int .i64 c.sym, .int .i64 c.id, .int .i64 c.own, .int .i64 c.side, .int .i64 c.typ, .int .i64 c.price, .int .i64 c.qty, .int .i64 c.flags] ∧ At W w1.heap.size 47 #[.slice none 0 0]) ⟨(by repeat (first | (with_reducible exact Ext.refl _) | (with_reducible assumption) | (with_reducible refine Ext.alloc ?_ _) | (with_reducible refine Ext.drew ?_) | (with_reducible refine Ext.drewN ?_ _) | (with_reducible refine Ext.setCell ?_ (by simp; try omega) _) | (with_reducible refine Ext.setRow ?_ (by simp; try omega) _))), (by repeat (first | (with_reducible exact At.new _ _ _) | ((with_reducible refine At.new' _ _ _ _ ?_); simp; done) | (with_reducible assumption) | (with_reducible refine At.drew ?_) | (with_reducible refine At.alloc ?_ _) | (with_reducible apply At.upd) | (with_reducible apply At.setRow) | (with_reducible refine At.rowFar ?_ (by first | (simp; done) | (simp; omega) | omega) _) | ((with_reducible refine At.far ?_ (by first | (simp; done) | (simp; omega) | omega) _)) | (with_reducible rfl) | (simp; done))), (by repeat (first | (with_reducible exact At.new _ _ _) | ((with_reducible refine At.new' _ _ _ _ ?_); simp; done) | (with_reducible assumption) | (with_reducible refine At.drew ?_) | (with_reducible refine At.alloc ?_ _) | (with_reducible apply At.upd) | (with_reducible apply At.setRow) | (with_reducible refine At.rowFar ?_ (by first | (simp; done) | (simp; omega) | omega) _) | ((with_reducible refine At.far ?_ (by first | (simp; done) | (simp; omega) | omega) _)) | (with_reducible rfl) | (simp; done)))⟩ (fun w2 hF2 => ?_)
  obtain ⟨x2, hM, hG⟩ := hF2
  generalize w1.heap.size = g at *
  have eM := cellsAt_at hM
  have sM := hM.lt
  have sG := hG.lt
  have hgM : g ≠ w.heap.size := by omega
  have W0 := Wr.new hG
  refine wp_region_s [0, 0, 0, 0, 0, 0, 0, 1, 1, 0, 0, 0, 1] (fun x => ∀ b ∈ [w.heap.size], x.heap[b]? = w2.heap[b]?) (by kernel_rfl) (by kernel_rfl) ?_
  refine hls_same (fun K hK => ?_)
  go_simp
  refine hK _ ?_
  clear hK K
  refine hls_same (fun K hK => ?_)
  go_simp
  refine hK _ ?_
  clear hK K
  refine hls_same (fun K hK => ?_)
  go_simp
  refine hK _ ?_
  clear hK K
  refine hls_same (fun K hK => ?_)
  go_simp
  refine hK _ ?_
  clear hK K
  refine hls_same (fun K hK => ?_)
  go_simp
  refine hK _ ?_
  clear hK K
  refine hls_same (fun K hK => ?_)
  go_simp
  refine hK _ ?_
  clear hK K
  refine hls_same (fun K hK => ?_)
  go_simp
  refine hK _ ?_
  clear hK K
  refine hls_skip (by decide) ?_
  refine hls_skip (by decide) ?_
  refine hls_same (fun K hK => ?_)
  go_simp
  refine hK _ ?_
  clear hK K
  refine hls_same (fun K hK => ?_)
  go_simp
  refine hK _ ?_
  clear hK K
  refine hls_same (fun K hK => ?_)
  go_simp
  refine hK _ ?_
  clear hK K
  refine hls_skip (by decide) ?_
  refine hls_nil ?_
  intro w3 hxw3 K hK
  have hM3 := hM.ext hxw3
  have W3 := W0.ext hxw3
  have x3 := x2.trans hxw3
  have s3 := hxw3.size
  refine ms_pass ?_
  refine ms_pass ?_
  refine ms_pass ?_
  refine ms_pass ?_
  refine ms_pass ?_
  refine ms_pass ?_
  refine ms_pass ?_
  refine ms_do (by decide) (fun b hb => by simp at hb; subst hb; exact hM3.trans hM.symm) (fun K' hK' => ?_)
  go_wp2_with fail
  obtain ⟨w4, hw4⟩ : ∃ w4, w4 = w3.alloc (.cells #[.int .u8 c.kind, .int .u8 c.sym] 5) := ⟨_, rfl⟩
  have hx4 : Ext w3 w4 := by rw [hw4]; exact (Ext.refl _).alloc _
  have hS4 : Src w4 1 (some ⟨w3.heap.size, 0, none⟩) 2 (bc [c.kind, c.sym]) := by rw [hw4]; exact Src.at (At.new' _ _ _ _ rfl) rfl
  rw [← hw4]
  clear hw4
  generalize w3.heap.size = g3 at hS4 ⊢
  have hM4 := hM3.ext hx4
  have s4 := hM4.lt
  have x4 := x3.trans hx4
  refine ms_do (by decide) (fun b hb => by simp at hb; subst hb; exact hM4.trans hM.symm) (fun K' hK' => ?_)
  go_wp2_with fail
  refine (raw_c g none [] _ [c.kind, c.sym] 2 w4 (W3.ext hx4) hS4 b2 (by simp)).mono ?_
  rintro e w5 ⟨rfl, A5, P5⟩
  rw [List.nil_append] at P5
  have hM5 := P5.chg.at hM4 (by simp [ablk]; omega)
  go_wp2_with fail
  refine ms_pass ?_
  refine ms_pass ?_
  refine ms_pass ?_
  refine ms_do (by decide) (fun b hb => by simp at hb; subst hb; exact hM5.trans hM.symm) (fun K' hK' => ?_)
  go_wp2_with fail
  refine (numI_c g A5 _ c.id hF.id w5 P5.wr (by simp)).mono ?_
  rintro e w6 ⟨rfl, A6, P6⟩
  have Q6 := P5.trans P6
  have hM6 := Q6.chg.at hM4 (by simp [ablk]; omega)
  have l6 : ([c.kind, c.sym] ++ numB c.id.toNat).length ≤ 20 := by simp only [List.length_append, List.length_cons, List.length_nil]; omega
  go_wp2_with fail
  refine ms_nil (fun b hb => by simp at hb; subst hb; exact hM6.trans hM.symm) (hK _ _ ?_)
  have e6 := cellsAt_at hM6
  have s6 := hM6.lt
  generalize hbs : [c.kind, c.sym] ++ numB c.id.toNat = bs at *
  have HBS := Lib.hid hbs
  clear hbs
  go_wp2_with fail
  refine (bytes_c g A6 _ _ Q6.wr (by omega)).mono ?_
  rintro e w7 ⟨hx7, v, rfl, ho⟩
  go_wp2_with fail
  first | refine fin_ret rfl (fun K hK => ?_) | refine fin_norm rfl (fun K hK => ?_)
  simp [results, Try.results33, go_sem, rsat]
  try go_simp
  refine hK _ ?_
  clear hK K
  have xx : Ext w w6 := Q6.ext0 x4 (by omega)
  refine ⟨xx.trans hx7, v, rfl, ?_⟩
  rw [HFORM.out]
  exact ho.base xx
set_option maxHeartbeats 8000000 in
set_option maxRecDepth 100000 in
theorem cenc3 (c : Cm) (hO : c.Ok) (hF : c.Fine) (hk : c.kind = 3) (w : World) : Calls Try.prog 33 #[.agg #[.int .i64 c.kind, .int .i64 c.sym, .int .i64 c.id, .int .i64 c.own, .int .i64 c.side, .int .i64 c.typ, .int .i64 c.price, .int .i64 c.qty, .int .i64 c.flags]] w fun e w' => Ext w w' ∧ ∃ v, e = .returned (.tuple #[v, .int .i64 0]) ∧ Own w w' v (formC c) := by
  have C1 := cright_c c
  rw [(cright_iff c).2 hF] at C1
  have HC1 := Lib.hid C1
  clear C1
  have hf := hF.k
  have k1 := u8_id (x := c.kind) (by omega)
  have k2 := u8_id hF.sym
  have k4 := u64_id hF.id
  have n1 := numB_len64 (n := c.id.toNat) (by have := hF.id; omega)
  have q1 : (c.kind == 1) = false := by simp [hk]
  have q2 : (c.kind != 2) = true := by simp [hk]
  have b2 := byt2 hF
  have hform : formC c = [c.kind, c.sym] ++ numB c.id.toNat ++ intB c.price ++ intB c.qty := by unfold formC; rw [if_neg (by omega), if_neg (by omega)]
  have HFORM := Lib.hid hform
  clear hform hf hk
  go_enter Try.func33, Try.ntmps33
  go_wp2_with fail
  refine (HC1.out _).mono ?_
  rintro e w1 ⟨rfl, hxw1⟩
  have xw1 : Ext w w1 := Ext.trans (by repeat (first | (with_reducible exact Ext.refl _) | (with_reducible assumption) | (with_reducible refine Ext.alloc ?_ _) | (with_reducible refine Ext.drew ?_) | (with_reducible refine Ext.drewN ?_ _) | (with_reducible refine Ext.setCell ?_ (by simp; try omega) _) | (with_reducible refine Ext.setRow ?_ (by simp; try omega) _))) hxw1
  have lw1 := xw1.size
  have M_w1 := At.ext (g := w.heap.size) (t := 37) (cs := #[.int .i64 c.kind, .int .i64 c.sym, .int .i64 c.id, .int .i64 c.own, .int .i64 c.side, .int .i64 c.typ, .int .i64 c.price, .int .i64 c.qty, .int .i64 c.flags]) (by repeat (first | (with_reducible exact At.new _ _ _) | ((with_reducible refine At.new' _ _ _ _ ?_); simp; done) | (with_reducible assumption) | (with_reducible refine At.drew ?_) | (with_reducible refine At.alloc ?_ _) | (with_reducible apply At.upd) | (with_reducible apply At.setRow) | (with_reducible refine At.rowFar ?_ (by first | (simp; done) | (simp; omega) | omega) _) | ((with_reducible refine At.far ?_ (by first | (simp; done) | (simp; omega) | omega) _)) | (with_reducible rfl) | (simp; done))) hxw1
  clear hxw1
  have s_M_w1 := M_w1.lt
  have e_M_w1 := cellsAt_at M_w1
  go_wp2_with fail
  refine gen_world (fun W => Ext w W ∧ At W w.heap.size 37 #[.int .i64 c.kind, .int .i64 c.sym, .int .i64 c.id, .int .i64 c.own, .int .i64 c.side, .int .i64 c.typ, .int .i64 c.price, .int .i64 c.qty, .int .i64 c.flags] ∧ At W w1.heap.size 47 #[.slice none 0 0]) ⟨(by repeat (first | (with_reducible exact Ext.refl _) | (with_reducible assumption) | (with_reducible refine Ext.alloc ?_ _) | (with_reducible refine Ext.drew ?_) | (with_reducible refine Ext.drewN ?_ _) | (with_reducible refine Ext.setCell ?_ (by simp; try omega) _) | (with_reducible refine Ext.setRow ?_ (by simp; try omega) _))), (by repeat (first | (with_reducible exact At.new _ _ _) | ((with_reducible refine At.new' _ _ _ _ ?_); simp; done) | (with_reducible assumption) | (with_reducible refine At.drew ?_) | (with_reducible refine At.alloc ?_ _) | (with_reducible apply At.upd) | (with_reducible apply At.setRow) | (with_reducible refine At.rowFar ?_ (by first | (simp; done) | (simp; omega) | omega) _) | ((with_reducible refine At.far ?_ (by first | (simp; done) | (simp; omega) | omega) _)) | (with_reducible rfl) | (simp; done))), (by repeat (first | (with_reducible exact At.new _ _ _) | ((with_reducible refine At.new' _ _ _ _ ?_); simp; done) | (with_reducible assumption) | (with_reducible refine At.drew ?_) | (with_reducible refine At.alloc ?_ _) | (with_reducible apply At.upd) | (with_reducible apply At.setRow) | (with_reducible refine At.rowFar ?_ (by first | (simp; done) | (simp; omega) | omega) _) | ((with_reducible refine At.far ?_ (by first | (simp; done) | (simp; omega) | omega) _)) | (with_reducible rfl) | (simp; done)))⟩ (fun w2 hF2 => ?_)
  obtain ⟨x2, hM, hG⟩ := hF2
  generalize w1.heap.size = g at *
  have eM := cellsAt_at hM
  have sM := hM.lt
  have sG := hG.lt
  have hgM : g ≠ w.heap.size := by omega
  have W0 := Wr.new hG
  refine wp_region_s [0, 0, 0, 0, 0, 0, 0, 1, 1, 0, 0, 0, 1] (fun x => ∀ b ∈ [w.heap.size], x.heap[b]? = w2.heap[b]?) (by kernel_rfl) (by kernel_rfl) ?_
  refine hls_same (fun K hK => ?_)
  go_simp
  refine hK _ ?_
  clear hK K
  refine hls_same (fun K hK => ?_)
  go_simp
  refine hK _ ?_
  clear hK K
  refine hls_same (fun K hK => ?_)
  go_simp
  refine hK _ ?_
  clear hK K
  refine hls_same (fun K hK => ?_)
  go_simp
  refine hK _ ?_
  clear hK K
  refine hls_same (fun K hK => ?_)
  go_simp
  refine hK _ ?_
  clear hK K
  refine hls_same (fun K hK => ?_)
  go_simp
  refine hK _ ?_
  clear hK K
  refine hls_same (fun K hK => ?_)
  go_simp
  refine hK _ ?_
  clear hK K
  refine hls_skip (by decide) ?_
  refine hls_skip (by decide) ?_
  refine hls_same (fun K hK => ?_)
  go_simp
  refine hK _ ?_
  clear hK K
  refine hls_same (fun K hK => ?_)
  go_simp
  refine hK _ ?_
  clear hK K
  refine hls_same (fun K hK => ?_)
  go_simp
  refine hK _ ?_
  clear hK K
  refine hls_skip (by decide) ?_
  refine hls_nil ?_
  intro w3 hxw3 K hK
  have hM3 := hM.ext hxw3
  have W3 := W0.ext hxw3
  have x3 := x2.trans hxw3
  have s3 := hxw3.size
  refine ms_pass ?_
  refine ms_pass ?_
  refine ms_pass ?_
  refine ms_pass ?_
  refine ms_pass ?_
  refine ms_pass ?_
  refine ms_pass ?_
  refine ms_do (by decide) (fun b hb => by simp at hb; subst hb; exact hM3.trans hM.symm) (fun K' hK' => ?_)
  go_wp2_with fail
  obtain ⟨w4, hw4⟩ : ∃ w4, w4 = w3.alloc (.cells #[.int .u8 c.kind, .int .u8 c.sym] 5) := ⟨_, rfl⟩
  have hx4 : Ext w3 w4 := by rw [hw4]; exact (Ext.refl _).alloc _
  have hS4 : Src w4 1 (some ⟨w3.heap.size, 0, none⟩) 2 (bc [c.kind, c.sym]) := by rw [hw4]; exact Src.at (At.new' _ _ _ _ rfl) rfl
  rw [← hw4]
  clear hw4
  generalize w3.heap.size = g3 at hS4 ⊢
  have hM4 := hM3.ext hx4
  have s4 := hM4.lt
  have x4 := x3.trans hx4
  refine ms_do (by decide) (fun b hb => by simp at hb; subst hb; exact hM4.trans hM.symm) (fun K' hK' => ?_)
  go_wp2_with fail
  refine (raw_c g none [] _ [c.kind, c.sym] 2 w4 (W3.ext hx4) hS4 b2 (by simp)).mono ?_
  rintro e w5 ⟨rfl, A5, P5⟩
  rw [List.nil_append] at P5
  have hM5 := P5.chg.at hM4 (by simp [ablk]; omega)
  go_wp2_with fail
  refine ms_pass ?_
  refine ms_pass ?_
  refine ms_pass ?_
  refine ms_do (by decide) (fun b hb => by simp at hb; subst hb; exact hM5.trans hM.symm) (fun K' hK' => ?_)
  go_wp2_with fail
  refine (numI_c g A5 _ c.id hF.id w5 P5.wr (by simp)).mono ?_
  rintro e w6 ⟨rfl, A6, P6⟩
  have Q6 := P5.trans P6
  have hM6 := Q6.chg.at hM4 (by simp [ablk]; omega)
  have l6 : ([c.kind, c.sym] ++ numB c.id.toNat).length ≤ 20 := by simp only [List.length_append, List.length_cons, List.length_nil]; omega
  go_wp2_with fail
  refine ms_nil (fun b hb => by simp at hb; subst hb; exact hM6.trans hM.symm) (hK _ _ ?_)
  have e6 := cellsAt_at hM6
  have s6 := hM6.lt
  generalize hbs : [c.kind, c.sym] ++ numB c.id.toNat = bs at *
  have HBS := Lib.hid hbs
  clear hbs
  go_wp2_with fail
  have eX := cellsAt_at hM6
  have sX := hM6.lt
  go_wp2_with fail
  refine gen_world (fun W => W = w6) rfl (fun w7 hF7 => ?_)
  subst hF7
  refine wp_region_s [0, 0, 0, 1, 0, 0, 1] (fun x => ∀ b ∈ [w.heap.size], x.heap[b]? = w7.heap[b]?) (by kernel_rfl) (by kernel_rfl) ?_
  refine hls_same (fun K hK => ?_)
  go_simp
  refine hK _ ?_
  clear hK K
  refine hls_same (fun K hK => ?_)
  go_simp
  refine hK _ ?_
  clear hK K
  refine hls_same (fun K hK => ?_)
  go_simp
  refine hK _ ?_
  clear hK K
  refine hls_skip (by decide) ?_
  refine hls_same (fun K hK => ?_)
  go_simp
  refine hK _ ?_
  clear hK K
  refine hls_same (fun K hK => ?_)
  go_simp
  refine hK _ ?_
  clear hK K
  refine hls_skip (by decide) ?_
  refine hls_nil ?_
  intro w8 hxw8 K hK
  have hP8 := Q6.wr.ext hxw8
  have hM8 := hM6.ext hxw8
  have R8 := Q6.extR hxw8
  refine ms_pass ?_
  refine ms_pass ?_
  refine ms_pass ?_
  refine ms_do (by decide) (fun b hb => by simp at hb; subst hb; exact hM8.trans (hM6).symm) (fun K' hK' => ?_)
  go_wp2_with fail
  refine (int_c g A6 _ c.price hO.price _ hP8 (by omega)).mono ?_
  rintro e w9 ⟨rfl, A9, P9⟩
  have R9 := R8.trans P9
  have hM9 := P9.chg.at hM8 (by simp only [List.mem_cons, not_or]; exact ⟨fun h => hgM h.symm, fun h => by have := (R8.wr.alt _ h).2; have := R8.fresh _ h; simp [ablk] at this; omega⟩)
  have lz9 : (bs ++ intB c.price).length ≤ 30 := by rw [List.length_append, intB_len]; omega
  go_wp2_with fail
  refine ms_pass ?_
  refine ms_pass ?_
  refine ms_do (by decide) (fun b hb => by simp at hb; subst hb; exact hM9.trans (hM6).symm) (fun K' hK' => ?_)
  go_wp2_with fail
  refine (int_c g A9 _ c.qty hO.qty _ R9.wr (by omega)).mono ?_
  rintro e w10 ⟨rfl, A10, P10⟩
  have R10 := R9.trans P10
  have hM10 := P10.chg.at hM9 (by simp only [List.mem_cons, not_or]; exact ⟨fun h => hgM h.symm, fun h => by have := (R9.wr.alt _ h).2; have := R9.fresh _ h; simp [ablk] at this; omega⟩)
  have lz10 : (bs ++ intB c.price ++ intB c.qty).length ≤ 40 := by rw [List.length_append, intB_len]; omega
  go_wp2_with fail
  refine ms_nil (fun b hb => by simp at hb; subst hb; exact hM10.trans (hM6).symm) (hK _ _ ?_)
  go_wp2_with fail
  refine (bytes_c g A10 _ _ R10.wr (by omega)).mono ?_
  rintro e w11 ⟨hx11, v, rfl, ho⟩
  go_wp2_with fail
  first | refine fin_ret rfl (fun K hK => ?_) | refine fin_norm rfl (fun K hK => ?_)
  simp [results, Try.results33, go_sem, rsat]
  try go_simp
  refine hK _ ?_
  clear hK K
  have xx : Ext w w10 := R10.ext0 x4 (by omega)
  refine ⟨xx.trans hx11, v, rfl, ?_⟩
  rw [HFORM.out]
  exact ho.base xx
set_option maxHeartbeats 8000000 in
set_option maxRecDepth 100000 in
theorem cenc1 (c : Cm) (hO : c.Ok) (hF : c.Fine) (hk : c.kind = 1) (w : World) : Calls Try.prog 33 #[.agg #[.int .i64 c.kind, .int .i64 c.sym, .int .i64 c.id, .int .i64 c.own, .int .i64 c.side, .int .i64 c.typ, .int .i64 c.price, .int .i64 c.qty, .int .i64 c.flags]] w fun e w' => Ext w w' ∧ ∃ v, e = .returned (.tuple #[v, .int .i64 0]) ∧ Own w w' v (formC c) := by
  have C1 := cright_c c
  rw [(cright_iff c).2 hF] at C1
  have HC1 := Lib.hid C1
  clear C1
  have hf := hF.k
  have k1 := u8_id (x := c.kind) (by omega)
  have k2 := u8_id hF.sym
  have k4 := u64_id hF.id
  have n1 := numB_len64 (n := c.id.toNat) (by have := hF.id; omega)
  have q1 : (c.kind == 1) = true := by simp [hk]
  have q2 : (c.kind != 2) = true := by simp [hk]
  have b2 := byt2 hF
  have k5 := u64_id (x := c.own) (by omega)
  have k6 := u8_id (x := c.side) (by omega)
  have k7 := u8_id (x := c.typ) (by omega)
  have k8 := u8_id (x := c.flags) (by omega)
  have ho : 0 ≤ c.own ∧ c.own ≤ 4611686018427387904 := by omega
  have n2 := numB_len64 (n := c.own.toNat) (by omega)
  have b3 := byt3c hF
  have hform : formC c = [c.kind, c.sym] ++ numB c.id.toNat ++ numB c.own.toNat ++ [c.side, c.typ, c.flags] ++ intB c.price ++ intB c.qty := by unfold formC; rw [if_pos hk]
  have HFORM := Lib.hid hform
  clear hform hf hk
  go_enter Try.func33, Try.ntmps33
  go_wp2_with fail
  refine (HC1.out _).mono ?_
  rintro e w1 ⟨rfl, hxw1⟩
  have xw1 : Ext w w1 := Ext.trans (by repeat (first | (with_reducible exact Ext.refl _) | (with_reducible assumption) | (with_reducible refine Ext.alloc ?_ _) | (with_reducible refine Ext.drew ?_) | (with_reducible refine Ext.drewN ?_ _) | (with_reducible refine Ext.setCell ?_ (by simp; try omega) _) | (with_reducible refine Ext.setRow ?_ (by simp; try omega) _))) hxw1
  have lw1 := xw1.size
  have M_w1 := At.ext (g := w.heap.size) (t := 37) (cs := #[.int .i64 c.kind, .int .i64 c.sym, .int .i64 c.id, .int .i64 c.own, .int .i64 c.side, .int .i64 c.typ, .int .i64 c.price, .int .i64 c.qty, .int .i64 c.flags]) (by repeat (first | (with_reducible exact At.new _ _ _) | ((with_reducible refine At.new' _ _ _ _ ?_); simp; done) | (with_reducible assumption) | (with_reducible refine At.drew ?_) | (with_reducible refine At.alloc ?_ _) | (with_reducible apply At.upd) | (with_reducible apply At.setRow) | (with_reducible refine At.rowFar ?_ (by first | (simp; done) | (simp; omega) | omega) _) | ((with_reducible refine At.far ?_ (by first | (simp; done) | (simp; omega) | omega) _)) | (with_reducible rfl) | (simp; done))) hxw1
  clear hxw1
  have s_M_w1 := M_w1.lt
  have e_M_w1 := cellsAt_at M_w1
  go_wp2_with fail
  refine gen_world (fun W => Ext w W ∧ At W w.heap.size 37 #[.int .i64 c.kind, .int .i64 c.sym, .int .i64 c.id, .int .i64 c.own, .int .i64 c.side, .int .i64 c.typ, .int .i64 c.price, .int .i64 c.qty, .int .i64 c.flags] ∧ At W w1.heap.size 47 #[.slice none 0 0]) ⟨(by repeat (first | (with_reducible exact Ext.refl _) | (with_reducible assumption) | (with_reducible refine Ext.alloc ?_ _) | (with_reducible refine Ext.drew ?_) | (with_reducible refine Ext.drewN ?_ _) | (with_reducible refine Ext.setCell ?_ (by simp; try omega) _) | (with_reducible refine Ext.setRow ?_ (by simp; try omega) _))), (by repeat (first | (with_reducible exact At.new _ _ _) | ((with_reducible refine At.new' _ _ _ _ ?_); simp; done) | (with_reducible assumption) | (with_reducible refine At.drew ?_) | (with_reducible refine At.alloc ?_ _) | (with_reducible apply At.upd) | (with_reducible apply At.setRow) | (with_reducible refine At.rowFar ?_ (by first | (simp; done) | (simp; omega) | omega) _) | ((with_reducible refine At.far ?_ (by first | (simp; done) | (simp; omega) | omega) _)) | (with_reducible rfl) | (simp; done))), (by repeat (first | (with_reducible exact At.new _ _ _) | ((with_reducible refine At.new' _ _ _ _ ?_); simp; done) | (with_reducible assumption) | (with_reducible refine At.drew ?_) | (with_reducible refine At.alloc ?_ _) | (with_reducible apply At.upd) | (with_reducible apply At.setRow) | (with_reducible refine At.rowFar ?_ (by first | (simp; done) | (simp; omega) | omega) _) | ((with_reducible refine At.far ?_ (by first | (simp; done) | (simp; omega) | omega) _)) | (with_reducible rfl) | (simp; done)))⟩ (fun w2 hF2 => ?_)
  obtain ⟨x2, hM, hG⟩ := hF2
  generalize w1.heap.size = g at *
  have eM := cellsAt_at hM
  have sM := hM.lt
  have sG := hG.lt
  have hgM : g ≠ w.heap.size := by omega
  have W0 := Wr.new hG
  refine wp_region_s [0, 0, 0, 0, 0, 0, 0, 1, 1, 0, 0, 0, 1] (fun x => ∀ b ∈ [w.heap.size], x.heap[b]? = w2.heap[b]?) (by kernel_rfl) (by kernel_rfl) ?_
  refine hls_same (fun K hK => ?_)
  go_simp
  refine hK _ ?_
  clear hK K
  refine hls_same (fun K hK => ?_)
  go_simp
  refine hK _ ?_
  clear hK K
  refine hls_same (fun K hK => ?_)
  go_simp
  refine hK _ ?_
  clear hK K
  refine hls_same (fun K hK => ?_)
  go_simp
  refine hK _ ?_
  clear hK K
  refine hls_same (fun K hK => ?_)
  go_simp
  refine hK _ ?_
  clear hK K
  refine hls_same (fun K hK => ?_)
  go_simp
  refine hK _ ?_
  clear hK K
  refine hls_same (fun K hK => ?_)
  go_simp
  refine hK _ ?_
  clear hK K
  refine hls_skip (by decide) ?_
  refine hls_skip (by decide) ?_
  refine hls_same (fun K hK => ?_)
  go_simp
  refine hK _ ?_
  clear hK K
  refine hls_same (fun K hK => ?_)
  go_simp
  refine hK _ ?_
  clear hK K
  refine hls_same (fun K hK => ?_)
  go_simp
  refine hK _ ?_
  clear hK K
  refine hls_skip (by decide) ?_
  refine hls_nil ?_
  intro w3 hxw3 K hK
  have hM3 := hM.ext hxw3
  have W3 := W0.ext hxw3
  have x3 := x2.trans hxw3
  have s3 := hxw3.size
  refine ms_pass ?_
  refine ms_pass ?_
  refine ms_pass ?_
  refine ms_pass ?_
  refine ms_pass ?_
  refine ms_pass ?_
  refine ms_pass ?_
  refine ms_do (by decide) (fun b hb => by simp at hb; subst hb; exact hM3.trans hM.symm) (fun K' hK' => ?_)
  go_wp2_with fail
  obtain ⟨w4, hw4⟩ : ∃ w4, w4 = w3.alloc (.cells #[.int .u8 c.kind, .int .u8 c.sym] 5) := ⟨_, rfl⟩
  have hx4 : Ext w3 w4 := by rw [hw4]; exact (Ext.refl _).alloc _
  have hS4 : Src w4 1 (some ⟨w3.heap.size, 0, none⟩) 2 (bc [c.kind, c.sym]) := by rw [hw4]; exact Src.at (At.new' _ _ _ _ rfl) rfl
  rw [← hw4]
  clear hw4
  generalize w3.heap.size = g3 at hS4 ⊢
  have hM4 := hM3.ext hx4
  have s4 := hM4.lt
  have x4 := x3.trans hx4
  refine ms_do (by decide) (fun b hb => by simp at hb; subst hb; exact hM4.trans hM.symm) (fun K' hK' => ?_)
  go_wp2_with fail
  refine (raw_c g none [] _ [c.kind, c.sym] 2 w4 (W3.ext hx4) hS4 b2 (by simp)).mono ?_
  rintro e w5 ⟨rfl, A5, P5⟩
  rw [List.nil_append] at P5
  have hM5 := P5.chg.at hM4 (by simp [ablk]; omega)
  go_wp2_with fail
  refine ms_pass ?_
  refine ms_pass ?_
  refine ms_pass ?_
  refine ms_do (by decide) (fun b hb => by simp at hb; subst hb; exact hM5.trans hM.symm) (fun K' hK' => ?_)
  go_wp2_with fail
  refine (numI_c g A5 _ c.id hF.id w5 P5.wr (by simp)).mono ?_
  rintro e w6 ⟨rfl, A6, P6⟩
  have Q6 := P5.trans P6
  have hM6 := Q6.chg.at hM4 (by simp [ablk]; omega)
  have l6 : ([c.kind, c.sym] ++ numB c.id.toNat).length ≤ 20 := by simp only [List.length_append, List.length_cons, List.length_nil]; omega
  go_wp2_with fail
  refine ms_nil (fun b hb => by simp at hb; subst hb; exact hM6.trans hM.symm) (hK _ _ ?_)
  have e6 := cellsAt_at hM6
  have s6 := hM6.lt
  generalize hbs : [c.kind, c.sym] ++ numB c.id.toNat = bs at *
  have HBS := Lib.hid hbs
  clear hbs
  go_wp2_with fail
  refine gen_world (fun W => W = w6) rfl (fun w7 hF7 => ?_)
  subst hF7
  refine wp_region_t [0, 0, 0, 0, 1, 0, 0, 0, 0, 0, 0, 0, 0, 0, 1, 1] (fun x => ∀ b ∈ [w.heap.size], x.heap[b]? = w7.heap[b]?) 3 [4, 14, 15] (by kernel_rfl) (by kernel_rfl) (by kernel_rfl) (by kernel_rfl) ?_
  refine hls_same (fun K hK => ?_)
  go_simp
  refine hK _ ?_
  clear hK K
  refine hls_same (fun K hK => ?_)
  go_simp
  refine hK _ ?_
  clear hK K
  refine hls_same (fun K hK => ?_)
  go_simp
  refine hK _ ?_
  clear hK K
  refine hls_same (fun K hK => ?_)
  go_simp
  refine hK _ ?_
  clear hK K
  refine hls_skip (by decide) ?_
  refine hls_same (fun K hK => ?_)
  go_simp
  refine hK _ ?_
  clear hK K
  refine hls_same (fun K hK => ?_)
  go_simp
  refine hK _ ?_
  clear hK K
  refine hls_same (fun K hK => ?_)
  go_simp
  refine hK _ ?_
  clear hK K
  refine hls_same (fun K hK => ?_)
  go_simp
  refine hK _ ?_
  clear hK K
  refine hls_same (fun K hK => ?_)
  go_simp
  refine hK _ ?_
  clear hK K
  refine hls_same (fun K hK => ?_)
  go_simp
  refine hK _ ?_
  clear hK K
  refine hls_same (fun K hK => ?_)
  go_simp
  refine hK _ ?_
  clear hK K
  refine hls_same (fun K hK => ?_)
  go_simp
  refine hK _ ?_
  clear hK K
  refine hls_same (fun K hK => ?_)
  go_simp
  refine hK _ ?_
  clear hK K
  refine hls_skip (by decide) ?_
  refine hls_skip (by decide) ?_
  refine hls_nil ?_
  intro w8 hxw8 Qy hQy
  have hM8 := hM6.ext hxw8
  have R8 := Q6.extR hxw8
  have z8 := R8.ext0 x4 (by omega)
  refine tree_fork 4 14 (by kernel_rfl) rfl rfl (fun b hb => by simp at hb; subst hb; exact hM8.trans hM6.symm) (tree_op rfl (fun K' hK' => ?_)) (tree_op rfl (fun K' hK' => ?_))
  · go_wp2_with fail
    refine (numI_c g A6 _ c.own ho _ R8.wr (by omega)).mono ?_
    rintro e w9 ⟨rfl, A9, P9⟩
    have R9 := R8.trans P9
    have hM9 := P9.chg.at hM8 (by simp only [List.mem_cons, not_or]; exact ⟨fun h => hgM h.symm, fun h => by have := (R8.wr.alt _ h).2; have := R8.fresh _ h; simp [ablk] at this; omega⟩)
    have l9 : (bs ++ numB c.own.toNat).length ≤ 30 := by rw [List.length_append]; omega
    go_wp2_with fail
    refine tree_one 14 (by kernel_rfl) rfl (fun b hb => by simp at hb; subst hb; exact hM9.trans hM6.symm) (tree_op rfl (fun K' hK' => ?_))
    go_wp2_with fail
    obtain ⟨w10, hw10⟩ : ∃ W, W = w9.alloc (.cells #[.int .u8 c.side, .int .u8 c.typ, .int .u8 c.flags] 5) := ⟨_, rfl⟩
    have hx10 : Ext w9 w10 := by rw [hw10]; exact (Ext.refl _).alloc _
    have hS10 : Src w10 1 (some ⟨w9.heap.size, 0, none⟩) 3 (bc [c.side, c.typ, c.flags]) := by rw [hw10]; exact Src.at (At.new' _ _ _ _ rfl) rfl
    rw [← hw10]
    clear hw10
    generalize w9.heap.size = g9 at hS10 ⊢
    have R10 := R9.extR hx10
    have hM10 := hM9.ext hx10
    refine tree_one 15 (by kernel_rfl) rfl (fun b hb => by simp at hb; subst hb; exact hM10.trans hM6.symm) (tree_op rfl (fun K' hK' => ?_))
    go_wp2_with fail
    refine (raw_c g A9 _ _ [c.side, c.typ, c.flags] 3 _ R10.wr hS10 b3 (by simp only [List.length_cons, List.length_nil]; omega)).mono ?_
    rintro e w11 ⟨rfl, A11, P11⟩
    have R11 := R10.trans P11
    have hM11 := P11.chg.at hM10 (by simp only [List.mem_cons, not_or]; exact ⟨fun h => hgM h.symm, fun h => by have := (R10.wr.alt _ h).2; have := R10.fresh _ h; simp [ablk] at this; omega⟩)
    have l11 : (bs ++ numB c.own.toNat ++ [c.side, c.typ, c.flags]).length ≤ 40 := by rw [List.length_append]; simp only [List.length_cons, List.length_nil]; omega
    go_wp2_with fail
    refine tree_end (fun b hb => by simp at hb; subst hb; exact hM11.trans hM6.symm) (hQy _ _ ?_)
    generalize hcs : bs ++ numB c.own.toNat ++ [c.side, c.typ, c.flags] = cs at *
    have HCS := Lib.hid hcs
    clear hcs
    have eX := cellsAt_at hM11
    have sX := hM11.lt
    go_wp2_with fail
    refine gen_world (fun W => W = w11) rfl (fun w12 hF12 => ?_)
    subst hF12
    refine wp_region_s [0, 0, 0, 1, 0, 0, 1] (fun x => ∀ b ∈ [w.heap.size], x.heap[b]? = w12.heap[b]?) (by kernel_rfl) (by kernel_rfl) ?_
    refine hls_same (fun K hK => ?_)
    go_simp
    refine hK _ ?_
    clear hK K
    refine hls_same (fun K hK => ?_)
    go_simp
    refine hK _ ?_
    clear hK K
    refine hls_same (fun K hK => ?_)
    go_simp
    refine hK _ ?_
    clear hK K
    refine hls_skip (by decide) ?_
    refine hls_same (fun K hK => ?_)
    go_simp
    refine hK _ ?_
    clear hK K
    refine hls_same (fun K hK => ?_)
    go_simp
    refine hK _ ?_
    clear hK K
    refine hls_skip (by decide) ?_
    refine hls_nil ?_
    intro w13 hxw13 K hK
    have hP13 := R11.wr.ext hxw13
    have hM13 := hM11.ext hxw13
    have R13 := R11.extR hxw13
    refine ms_pass ?_
    refine ms_pass ?_
    refine ms_pass ?_
    refine ms_do (by decide) (fun b hb => by simp at hb; subst hb; exact hM13.trans (hM11).symm) (fun K' hK' => ?_)
    go_wp2_with fail
    refine (int_c g A11 _ c.price hO.price _ hP13 (by omega)).mono ?_
    rintro e w14 ⟨rfl, A14, P14⟩
    have R14 := R13.trans P14
    have hM14 := P14.chg.at hM13 (by simp only [List.mem_cons, not_or]; exact ⟨fun h => hgM h.symm, fun h => by have := (R13.wr.alt _ h).2; have := R13.fresh _ h; simp [ablk] at this; omega⟩)
    have lz14 : (cs ++ intB c.price).length ≤ 50 := by rw [List.length_append, intB_len]; omega
    go_wp2_with fail
    refine ms_pass ?_
    refine ms_pass ?_
    refine ms_do (by decide) (fun b hb => by simp at hb; subst hb; exact hM14.trans (hM11).symm) (fun K' hK' => ?_)
    go_wp2_with fail
    refine (int_c g A14 _ c.qty hO.qty _ R14.wr (by omega)).mono ?_
    rintro e w15 ⟨rfl, A15, P15⟩
    have R15 := R14.trans P15
    have hM15 := P15.chg.at hM14 (by simp only [List.mem_cons, not_or]; exact ⟨fun h => hgM h.symm, fun h => by have := (R14.wr.alt _ h).2; have := R14.fresh _ h; simp [ablk] at this; omega⟩)
    have lz15 : (cs ++ intB c.price ++ intB c.qty).length ≤ 60 := by rw [List.length_append, intB_len]; omega
    go_wp2_with fail
    refine ms_nil (fun b hb => by simp at hb; subst hb; exact hM15.trans (hM11).symm) (hK _ _ ?_)
    go_wp2_with fail
    refine (bytes_c g A15 _ _ R15.wr (by omega)).mono ?_
    rintro e w16 ⟨hx16, v, rfl, ho⟩
    go_wp2_with fail
    first | refine fin_ret rfl (fun K hK => ?_) | refine fin_norm rfl (fun K hK => ?_)
    simp [results, Try.results33, go_sem, rsat]
    try go_simp
    refine hK _ ?_
    clear hK K
    have xx : Ext w w15 := R15.ext0 x4 (by omega)
    refine ⟨xx.trans hx16, v, rfl, ?_⟩
    rw [HFORM.out]
    exact ho.base xx
  · go_wp2_with fail
    obtain ⟨w9, hw9⟩ : ∃ W, W = w8.alloc (.cells #[.int .u8 c.side, .int .u8 c.typ, .int .u8 c.flags] 5) := ⟨_, rfl⟩
    have hx9 : Ext w8 w9 := by rw [hw9]; exact (Ext.refl _).alloc _
    have hA9 : At w9 w8.heap.size 5 #[.int .u8 c.side, .int .u8 c.typ, .int .u8 c.flags] := by rw [hw9]; exact At.new _ _ _
    rw [← hw9]
    clear hw9
    have hg9 : w8.heap.size ≠ g ∧ w8.heap.size ∉ ablk A6 := ⟨by have := R8.wr.ex.choose_spec.1.lt; omega, fun h => by have := (R8.wr.alt _ h).1; omega⟩
    generalize w8.heap.size = g9 at hA9 hg9 ⊢
    have R9 := R8.extR hx9
    have hM9 := hM8.ext hx9
    refine tree_one 4 (by kernel_rfl) rfl (fun b hb => by simp at hb; subst hb; exact hM9.trans hM6.symm) (tree_op rfl (fun K' hK' => ?_))
    go_wp2_with fail
    refine (numI_c g A6 _ c.own ho _ R9.wr (by omega)).mono ?_
    rintro e w10 ⟨rfl, A10, P10⟩
    have R10 := R9.trans P10
    have hM10 := P10.chg.at hM9 (by simp only [List.mem_cons, not_or]; exact ⟨fun h => hgM h.symm, fun h => by have := (R9.wr.alt _ h).2; have := R9.fresh _ h; simp [ablk] at this; omega⟩)
    have hA10 := P10.chg.at hA9 (by simp only [List.mem_cons, not_or]; exact ⟨hg9.1, hg9.2⟩)
    have hS10 : Src w10 1 (some ⟨g9, 0, none⟩) 3 (bc [c.side, c.typ, c.flags]) := Src.at hA10 rfl
    have l10 : (bs ++ numB c.own.toNat).length ≤ 30 := by rw [List.length_append]; omega
    go_wp2_with fail
    refine tree_one 15 (by kernel_rfl) rfl (fun b hb => by simp at hb; subst hb; exact hM10.trans hM6.symm) (tree_op rfl (fun K' hK' => ?_))
    go_wp2_with fail
    refine (raw_c g A10 _ _ [c.side, c.typ, c.flags] 3 _ R10.wr hS10 b3 (by simp only [List.length_cons, List.length_nil]; omega)).mono ?_
    rintro e w11 ⟨rfl, A11, P11⟩
    have R11 := R10.trans P11
    have hM11 := P11.chg.at hM10 (by simp only [List.mem_cons, not_or]; exact ⟨fun h => hgM h.symm, fun h => by have := (R10.wr.alt _ h).2; have := R10.fresh _ h; simp [ablk] at this; omega⟩)
    have l11 : (bs ++ numB c.own.toNat ++ [c.side, c.typ, c.flags]).length ≤ 40 := by rw [List.length_append]; simp only [List.length_cons, List.length_nil]; omega
    go_wp2_with fail
    refine tree_end (fun b hb => by simp at hb; subst hb; exact hM11.trans hM6.symm) (hQy _ _ ?_)
    generalize hcs : bs ++ numB c.own.toNat ++ [c.side, c.typ, c.flags] = cs at *
    have HCS := Lib.hid hcs
    clear hcs
    have eX := cellsAt_at hM11
    have sX := hM11.lt
    go_wp2_with fail
    refine gen_world (fun W => W = w11) rfl (fun w12 hF12 => ?_)
    subst hF12
    refine wp_region_s [0, 0, 0, 1, 0, 0, 1] (fun x => ∀ b ∈ [w.heap.size], x.heap[b]? = w12.heap[b]?) (by kernel_rfl) (by kernel_rfl) ?_
    refine hls_same (fun K hK => ?_)
    go_simp
    refine hK _ ?_
    clear hK K
    refine hls_same (fun K hK => ?_)
    go_simp
    refine hK _ ?_
    clear hK K
    refine hls_same (fun K hK => ?_)
    go_simp
    refine hK _ ?_
    clear hK K
    refine hls_skip (by decide) ?_
    refine hls_same (fun K hK => ?_)
    go_simp
    refine hK _ ?_
    clear hK K
    refine hls_same (fun K hK => ?_)
    go_simp
    refine hK _ ?_
    clear hK K
    refine hls_skip (by decide) ?_
    refine hls_nil ?_
    intro w13 hxw13 K hK
    have hP13 := R11.wr.ext hxw13
    have hM13 := hM11.ext hxw13
    have R13 := R11.extR hxw13
    refine ms_pass ?_
    refine ms_pass ?_
    refine ms_pass ?_
    refine ms_do (by decide) (fun b hb => by simp at hb; subst hb; exact hM13.trans (hM11).symm) (fun K' hK' => ?_)
    go_wp2_with fail
    refine (int_c g A11 _ c.price hO.price _ hP13 (by omega)).mono ?_
    rintro e w14 ⟨rfl, A14, P14⟩
    have R14 := R13.trans P14
    have hM14 := P14.chg.at hM13 (by simp only [List.mem_cons, not_or]; exact ⟨fun h => hgM h.symm, fun h => by have := (R13.wr.alt _ h).2; have := R13.fresh _ h; simp [ablk] at this; omega⟩)
    have lz14 : (cs ++ intB c.price).length ≤ 50 := by rw [List.length_append, intB_len]; omega
    go_wp2_with fail
    refine ms_pass ?_
    refine ms_pass ?_
    refine ms_do (by decide) (fun b hb => by simp at hb; subst hb; exact hM14.trans (hM11).symm) (fun K' hK' => ?_)
    go_wp2_with fail
    refine (int_c g A14 _ c.qty hO.qty _ R14.wr (by omega)).mono ?_
    rintro e w15 ⟨rfl, A15, P15⟩
    have R15 := R14.trans P15
    have hM15 := P15.chg.at hM14 (by simp only [List.mem_cons, not_or]; exact ⟨fun h => hgM h.symm, fun h => by have := (R14.wr.alt _ h).2; have := R14.fresh _ h; simp [ablk] at this; omega⟩)
    have lz15 : (cs ++ intB c.price ++ intB c.qty).length ≤ 60 := by rw [List.length_append, intB_len]; omega
    go_wp2_with fail
    refine ms_nil (fun b hb => by simp at hb; subst hb; exact hM15.trans (hM11).symm) (hK _ _ ?_)
    go_wp2_with fail
    refine (bytes_c g A15 _ _ R15.wr (by omega)).mono ?_
    rintro e w16 ⟨hx16, v, rfl, ho⟩
    go_wp2_with fail
    first | refine fin_ret rfl (fun K hK => ?_) | refine fin_norm rfl (fun K hK => ?_)
    simp [results, Try.results33, go_sem, rsat]
    try go_simp
    refine hK _ ?_
    clear hK K
    have xx : Ext w w15 := R15.ext0 x4 (by omega)
    refine ⟨xx.trans hx16, v, rfl, ?_⟩
    rw [HFORM.out]
    exact ho.base xx
set_option maxHeartbeats 1000000 in
set_option maxRecDepth 100000 in
theorem cenc_c (c : Cm) (hO : c.Ok) (w : World) : Calls Try.prog 33 #[.agg #[.int .i64 c.kind, .int .i64 c.sym, .int .i64 c.id, .int .i64 c.own, .int .i64 c.side, .int .i64 c.typ, .int .i64 c.price, .int .i64 c.qty, .int .i64 c.flags]] w fun e w' => EncC c w e w' := by
  unfold EncC encCF encCL
  by_cases hr : rightC c = true
  · have hF := (cright_iff c).1 hr
    simp only [hr, if_true]
    rcases hF.k with ⟨k, _⟩ | ⟨k, _⟩ | ⟨k, _⟩
    · exact cenc1 c hO hF k w
    · exact cenc2 c hO hF k w
    · exact cenc3 c hO hF k w
  · have C1 := cright_c c
    simp only [Bool.not_eq_true] at hr
    simp only [hr] at C1 ⊢
    clear hr
    have HC1 := Lib.hid C1
    clear C1
    go_enter Try.func33, Try.ntmps33
    go_wp2_with fail
    refine (HC1.out _).mono ?_
    rintro e w1 ⟨rfl, hxw1⟩
    have xw1 : Ext w w1 := Ext.trans (by repeat (first | (with_reducible exact Ext.refl _) | (with_reducible assumption) | (with_reducible refine Ext.alloc ?_ _) | (with_reducible refine Ext.drew ?_) | (with_reducible refine Ext.drewN ?_ _) | (with_reducible refine Ext.setCell ?_ (by simp; try omega) _) | (with_reducible refine Ext.setRow ?_ (by simp; try omega) _))) hxw1
    have lw1 := xw1.size
    have M_w1 := At.ext (g := w.heap.size) (t := 37) (cs := #[.int .i64 c.kind, .int .i64 c.sym, .int .i64 c.id, .int .i64 c.own, .int .i64 c.side, .int .i64 c.typ, .int .i64 c.price, .int .i64 c.qty, .int .i64 c.flags]) (by repeat (first | (with_reducible exact At.new _ _ _) | ((with_reducible refine At.new' _ _ _ _ ?_); simp; done) | (with_reducible assumption) | (with_reducible refine At.drew ?_) | (with_reducible refine At.alloc ?_ _) | (with_reducible apply At.upd) | (with_reducible apply At.setRow) | (with_reducible refine At.rowFar ?_ (by first | (simp; done) | (simp; omega) | omega) _) | ((with_reducible refine At.far ?_ (by first | (simp; done) | (simp; omega) | omega) _)) | (with_reducible rfl) | (simp; done))) hxw1
    clear hxw1
    have s_M_w1 := M_w1.lt
    have e_M_w1 := cellsAt_at M_w1
    go_wp2_with fail
    first | refine fin_ret rfl (fun K hK => ?_) | refine fin_norm rfl (fun K hK => ?_)
    simp [results, Try.results33, go_sem, rsat]
    try go_simp
    refine hK _ ?_
    clear hK K
    exact ⟨(by repeat (first | (with_reducible exact Ext.refl _) | (with_reducible assumption) | (with_reducible refine Ext.alloc ?_ _) | (with_reducible refine Ext.drew ?_) | (with_reducible refine Ext.drewN ?_ _) | (with_reducible refine Ext.setCell ?_ (by simp; try omega) _) | (with_reducible refine Ext.setRow ?_ (by simp; try omega) _))), _, rfl, Own.nil _ _⟩
end Go.Proofs.Ythfomohophmbaaa
