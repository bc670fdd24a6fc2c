/- Law MessageEncodes. No condition. -/
import Derived.Test.YtndcmjpacailjaaM3
namespace Go.Proofs.Ytndcmjpacailjaa
open Go.RowKit
attribute [local go_sem] Later.cell QUpon_value QUpon_enter MUpon_value run_eql_slice_nil Same.cell
attribute [local go_sem ↓ high] loadMsg_is storeMsg_is
attribute [local go_sem] run_loadMsg run_loadMsg_at run_storeMsg one_int one_bool one_slice one_ptr one_str setRow_new setRow_past cell_ca frozen_ca cellsAt_alloc_at cellsAt_alloc_past cellsAt_drew cellsAt_later cellsAt_setCell cellsAt_set_same cellsAt_setRow_same cellsAt_setRow_far subAt_alloc subAt_drew subAt_later subAt_setCell subAt_setRow ltn_2 ltn_3 ltn_4 ltn_5
def m60 : Mg := ⟨6, 1, 0, 0, 0, 0, 0, 0, 2⟩
theorem m60_ok : m60.Ok := by unfold m60; constructor <;> exact ⟨by decide, by decide⟩
theorem m60_L : encL m60 = [6, 1, 2, 0, 0, 0, 0, 0, 0, 0, 0, 0, 0, 0, 0, 0, 0, 0, 0, 0, 0, 0, 0, 0, 0, 0, 0, 0, 0, 0, 0, 0, 0, 0, 0, 0, 0] := by
  unfold encL
  rw [if_pos (by decide)]
  unfold formB
  rw [show m60.seq.toNat = 0 from rfl, show m60.tick.toNat = 0 from rfl, numB_small (by decide)]
  decide
theorem m60_F : encF m60 = 0 := by decide
theorem formB_byt' (m : Mg) : Byt (encL m) := by
  unfold encL
  by_cases h : rightB m = true
  · rw [if_pos h]; exact formB_byt ((right_iff m).1 h)
  · rw [if_neg h]; intro x hx; cases hx
theorem alive_c6 (w : World) : Calls Try.prog 13 #[] w fun e w' => e = .returned (.bool true) ∧ Ext w w' := by
  have C1 := enc_c m60 m60_ok
  unfold Enc at C1
  rw [m60_L, m60_F] at C1
  have C2 := is_c ⟨3, 1, 0, 0, 0, 0, 0, 0, 0⟩ 3 1
  have HC1 := Lib.hid C1
  have HC2 := Lib.hid C2
  clear C1 C2
  go_enter Try.func13, Try.ntmps13
  go_wp2_with fail
  refine (HC1.out _).mono ?_
  rintro e w1 ⟨hx1, v, rfl, A, c, rfl, R, F⟩
  obtain ⟨b, off, cur, rfl, _⟩ := R.at_ (by have := R.le; simp at this; omega)
  have e0 : w1.cell? ⟨b, off, none⟩ = some (.int .u8 6) := R.cell rfl (j := 0) (by decide)
  have e2 : w1.cell? ⟨b, off + 2, none⟩ = some (.int .u8 2) := R.cell rfl (j := 2) (by decide)
  clear R F
  simp only [List.length_cons, List.length_nil]
  go_wp2_with fail
  refine (HC2.out _).mono ?_
  rintro e w2 ⟨rfl, hx2⟩
  go_wp2_with fail
  first | refine fin_ret rfl (fun K hK => ?_) | refine fin_norm rfl (fun K hK => ?_)
  simp [results, Try.results13, go_sem, rsat]
  try go_simp
  refine hK _ ?_
  clear hK K
  exact ⟨rfl, hx1.trans hx2⟩
set_option maxHeartbeats 2000000 in
set_option maxRecDepth 100000 in
theorem encodes_b (m : Mg) (hO : m.Ok) (k s : Int) (b1 b2 : Bool) (h1 : (m.kind == k) = b1) (h2 : (m.sym == s) = b2) (w : World) : Calls Try.prog 3 #[.agg #[.int .i64 m.kind, .int .i64 m.sym, .int .i64 m.seq, .int .i64 m.tick, .int .i64 m.id, .int .i64 m.wth, .int .i64 m.price, .int .i64 m.qty, .int .i64 m.code], .int .i64 k, .int .i64 s] w fun e w' => e = .returned (.bool true) ∧ Ext w w' := by
  have C1 := enc_c m hO
  have C2 := renc_c m hO
  unfold Enc at C1 C2
  have C3 := right_c m
  have C4 := rright_c m
  have C5 := is_c m k s
  rw [show decide (m.kind = k) = b1 by rw [← h1]; by_cases h : m.kind = k <;> simp [h], show decide (m.sym = s) = b2 by rw [← h2]; by_cases h : m.sym = s <;> simp [h]] at C5
  have hL := formB_byt' m
  generalize encL m = L at C1 C2 hL
  generalize encF m = f at C1 C2
  generalize rightB m = r at C3 C4
  have HC1 := Lib.hid C1
  have HC2 := Lib.hid C2
  have HC3 := Lib.hid C3
  have HC4 := Lib.hid C4
  have HC5 := Lib.hid C5
  clear C1 C2 C3 C4 C5
  have hff : (f == f) = true := by simp
  have hrr : (r == r) = true := by simp
  cases b1 <;> cases b2
  all_goals
    simp only [Bool.and_true, Bool.and_false] at HC5
    go_enter Try.func3, Try.ntmps3
    go_wp2_with fail
    refine (HC1.out _).mono ?_
    rintro e w1 ⟨hxw1, v, rfl, o1⟩
    have M_w1 := At.ext (g := w.heap.size) (t := 23) (cs := #[.int .i64 m.kind, .int .i64 m.sym, .int .i64 m.seq, .int .i64 m.tick, .int .i64 m.id, .int .i64 m.wth, .int .i64 m.price, .int .i64 m.qty, .int .i64 m.code]) (by repeat (first | (with_reducible exact At.new _ _ _) | ((with_reducible refine At.new' _ _ _ _ ?_); simp; done) | (with_reducible assumption) | (with_reducible refine At.drew ?_) | (with_reducible refine At.alloc ?_ _) | (with_reducible apply At.upd) | (with_reducible apply At.setRow) | (with_reducible refine At.rowFar ?_ (by first | (simp; done) | (simp; omega) | omega) _) | ((with_reducible refine At.far ?_ (by first | (simp; done) | (simp; omega) | omega) _)) | (with_reducible rfl) | (simp; done))) hxw1
    have xw1 : Ext w w1 := Ext.trans (by repeat (first | (with_reducible exact Ext.refl _) | (with_reducible assumption) | (with_reducible refine Ext.alloc ?_ _) | (with_reducible refine Ext.drew ?_) | (with_reducible refine Ext.drewN ?_ _) | (with_reducible refine Ext.setCell ?_ (by simp; try omega) _) | (with_reducible refine Ext.setRow ?_ (by simp; try omega) _))) hxw1
    clear hxw1
    have s_M_w1 := M_w1.lt
    have e_M_w1 := cellsAt_at M_w1
    go_wp2_with fail
    refine (HC2.out _).mono ?_
    rintro e w2 ⟨hxw2, v2, rfl, o2⟩
    have o12 := o1.ext hxw2
    have M_w2 := At.ext (g := w.heap.size) (t := 23) (cs := #[.int .i64 m.kind, .int .i64 m.sym, .int .i64 m.seq, .int .i64 m.tick, .int .i64 m.id, .int .i64 m.wth, .int .i64 m.price, .int .i64 m.qty, .int .i64 m.code]) (by repeat (first | (with_reducible exact At.new _ _ _) | ((with_reducible refine At.new' _ _ _ _ ?_); simp; done) | (with_reducible assumption) | (with_reducible refine At.drew ?_) | (with_reducible refine At.alloc ?_ _) | (with_reducible apply At.upd) | (with_reducible apply At.setRow) | (with_reducible refine At.rowFar ?_ (by first | (simp; done) | (simp; omega) | omega) _) | ((with_reducible refine At.far ?_ (by first | (simp; done) | (simp; omega) | omega) _)) | (with_reducible rfl) | (simp; done))) hxw2
    have xw2 : Ext w w2 := Ext.trans (by repeat (first | (with_reducible exact Ext.refl _) | (with_reducible assumption) | (with_reducible refine Ext.alloc ?_ _) | (with_reducible refine Ext.drew ?_) | (with_reducible refine Ext.drewN ?_ _) | (with_reducible refine Ext.setCell ?_ (by simp; try omega) _) | (with_reducible refine Ext.setRow ?_ (by simp; try omega) _))) hxw2
    clear M_w1 s_M_w1 e_M_w1 hxw2 xw1
    have s_M_w2 := M_w2.lt
    have e_M_w2 := cellsAt_at M_w2
    obtain ⟨A1, c1, rfl, R1, F1⟩ := o12
    obtain ⟨A2, c2, rfl, R2, F2⟩ := o2
    go_wp2_with fail
    refine wp_region_x 36 [0, 0, 1, 0, 0, 0, 0, 0, 0, 1, 1, 1, 1, 0, 0, 0, 1, 0, 0, 1, 0, 1, 0, 0, 0, 0, 1, 0, 0, 0, 0, 0, 0, 1, 0, 0] (by kernel_rfl) (by kernel_rfl) (by kernel_rfl) ?_
    simp only [List.take_succ_cons, List.take_zero, List.drop_succ_cons, List.drop_zero]
    refine hl_pure (fun K hK => ?_)
    go_simp
    refine hK _ ?_
    clear hK K
    refine hl_pure (fun K hK => ?_)
    go_simp
    refine hK _ ?_
    clear hK K
    refine hl_quiet (fun K hK => ?_)
    go_simp
    first
      | (refine hK _ ?_; clear hK K)
      | (apply Exists.intro; refine ⟨fun x => ?_, hK _ ?_⟩
         · (exact same_c A1 A2 _ _ c1 c2 L L _ (R1.ext x.ext).src (R2.ext x.ext).src hL hL)
         clear hK K)
    refine hl_pure (fun K hK => ?_)
    go_simp
    refine hK _ ?_
    clear hK K
    refine hl_pure (fun K hK => ?_)
    go_simp
    refine hK _ ?_
    clear hK K
    refine hl_pure (fun K hK => ?_)
    go_simp
    refine hK _ ?_
    clear hK K
    refine hl_pure (fun K hK => ?_)
    go_simp
    refine hK _ ?_
    clear hK K
    refine hl_pure (fun K hK => ?_)
    go_simp
    refine hK _ ?_
    clear hK K
    refine hl_pure (fun K hK => ?_)
    go_simp
    refine hK _ ?_
    clear hK K
    refine hl_quiet (fun K hK => ?_)
    go_simp
    refine hK _ ?_
    clear hK K
    refine hl_quiet (fun K hK => ?_)
    go_simp
    first
      | (refine hK _ ?_; clear hK K)
      | (apply Exists.intro; refine ⟨fun x => ?_, hK _ ?_⟩
         · (exact HC3.out _)
         clear hK K)
    refine hl_quiet (fun K hK => ?_)
    go_simp
    refine hK _ ?_
    clear hK K
    refine hl_quiet (fun K hK => ?_)
    go_simp
    first
      | (refine hK _ ?_; clear hK K)
      | (apply Exists.intro; refine ⟨fun x => ?_, hK _ ?_⟩
         · (exact HC4.out _)
         clear hK K)
    refine hl_pure (fun K hK => ?_)
    go_simp
    refine hK _ ?_
    clear hK K
    refine hl_pure (fun K hK => ?_)
    go_simp
    refine hK _ ?_
    clear hK K
    refine hl_pure (fun K hK => ?_)
    go_simp
    refine hK _ ?_
    clear hK K
    refine hl_quiet (fun K hK => ?_)
    go_simp
    refine hK _ ?_
    clear hK K
    refine hl_pure (fun K hK => ?_)
    go_simp
    refine hK _ ?_
    clear hK K
    refine hl_pure (fun K hK => ?_)
    go_simp
    refine hK _ ?_
    clear hK K
    refine hl_quiet (fun K hK => ?_)
    go_simp
    first
      | (refine hK _ ?_; clear hK K)
      | (apply Exists.intro; refine ⟨fun x => ?_, hK _ ?_⟩
         · (exact HC5.out _)
         clear hK K)
    refine hl_pure (fun K hK => ?_)
    go_simp
    refine hK _ ?_
    clear hK K
    refine hl_quiet (fun K hK => ?_)
    go_simp
    refine hK _ ?_
    clear hK K
    refine hl_pure (fun K hK => ?_)
    go_simp
    refine hK _ ?_
    clear hK K
    refine hl_pure (fun K hK => ?_)
    go_simp
    refine hK _ ?_
    clear hK K
    refine hl_pure (fun K hK => ?_)
    go_simp
    refine hK _ ?_
    clear hK K
    refine hl_pure (fun K hK => ?_)
    go_simp
    refine hK _ ?_
    clear hK K
    refine hl_quiet (fun K hK => ?_)
    go_simp
    refine hK _ ?_
    clear hK K
    refine hl_pure (fun K hK => ?_)
    go_simp
    refine hK _ ?_
    clear hK K
    refine hl_pure (fun K hK => ?_)
    go_simp
    refine hK _ ?_
    clear hK K
    refine hl_pure (fun K hK => ?_)
    go_simp
    refine hK _ ?_
    clear hK K
    refine hl_pure (fun K hK => ?_)
    go_simp
    refine hK _ ?_
    clear hK K
    refine hl_pure (fun K hK => ?_)
    go_simp
    refine hK _ ?_
    clear hK K
    refine hl_pure (fun K hK => ?_)
    go_simp
    refine hK _ ?_
    clear hK K
    refine hl_quiet (fun K hK => ?_)
    go_simp
    first
      | (refine hK _ ?_; clear hK K)
      | (apply Exists.intro; refine ⟨fun x => ?_, hK _ ?_⟩
         · (exact alive_c6 _)
         clear hK K)
    refine hl_pure (fun K hK => ?_)
    go_simp
    refine hK _ ?_
    clear hK K
    refine hl_pure (fun K hK => ?_)
    go_simp
    refine hK _ ?_
    clear hK K
    refine hl_nil ?_
    intro w3 hxw3 K hK
    have xw3 : Ext w w3 := Ext.trans (by repeat (first | (with_reducible exact Ext.refl _) | (with_reducible assumption) | (with_reducible refine Ext.alloc ?_ _) | (with_reducible refine Ext.drew ?_) | (with_reducible refine Ext.drewN ?_ _) | (with_reducible refine Ext.setCell ?_ (by simp; try omega) _) | (with_reducible refine Ext.setRow ?_ (by simp; try omega) _))) hxw3
    obtain ⟨hcw3, hfw3⟩ := hxw3.facts
    have hsw3 := hxw3.size
    try simp only [World.size_drew, World.size_alloc, World.size_setCell] at hsw3 hcw3 hfw3
    go_wp2_with fail
    first | refine fin_ret rfl (fun K hK => ?_) | refine fin_norm rfl (fun K hK => ?_)
    simp [results, Try.results3, go_sem, rsat]
    try go_simp
    refine hK _ ?_
    clear hK K
    exact ⟨rfl, (by repeat (first | (with_reducible exact Ext.refl _) | (with_reducible assumption) | (with_reducible refine Ext.alloc ?_ _) | (with_reducible refine Ext.drew ?_) | (with_reducible refine Ext.drewN ?_ _) | (with_reducible refine Ext.setCell ?_ (by simp; try omega) _) | (with_reducible refine Ext.setRow ?_ (by simp; try omega) _)))⟩
theorem messageencodes_c (m : Mg) (hO : m.Ok) (k s : Int) (w : World) : Calls Try.prog 3 #[.agg #[.int .i64 m.kind, .int .i64 m.sym, .int .i64 m.seq, .int .i64 m.tick, .int .i64 m.id, .int .i64 m.wth, .int .i64 m.price, .int .i64 m.qty, .int .i64 m.code], .int .i64 k, .int .i64 s] w fun e w' => e = .returned (.bool true) ∧ Ext w w' :=
  encodes_b m hO k s _ _ rfl rfl w
end Go.Proofs.Ytndcmjpacailjaa
