/- Law ConfigBack. No condition. -/
import Derived.Test.YtfbpmngdamaobaaYI
import Derived.Test.YtfbpmngdamaobaaYD
import Derived.Test.YtfbpmngdamaobaaY6
import Derived.Test.YtfbpmngdamaobaaL07b
import Derived.Test.YtfbpmngdamaobaaSb
namespace Go.Proofs.Ytfbpmngdamaobaa
open Go.RowKit
attribute [local go_sem] Later.cell QUpon_value QUpon_enter MUpon_value cfg_field0
attribute [local go_sem ↓ high] loadSym_is storeSym_is loadCfg_is storeCfg_is
attribute [local go_sem] run_loadSym run_loadSym_at run_storeSym run_loadCfg run_loadCfg_at run_storeCfg one_int one_bool one_slice one_ptr one_str setRow_new setRow_past cell_ca frozen_ca cellsAt_alloc_at cellsAt_alloc_past cellsAt_drew cellsAt_later cellsAt_setCell cellsAt_set_same cellsAt_setRow_same cellsAt_setRow_far subAt_alloc subAt_drew subAt_later subAt_setCell subAt_setRow ltn_2 ltn_3 ltn_4 ltn_5
def encK (x : Cfg) : List Int := if (checkI x).1 = 0 then numsB (cfgN x) else []
theorem numsK_byt (l : List Int) : Byt (numsB l) := fun b hb => by
  unfold numsB at hb
  obtain ⟨n, _, hn⟩ := List.mem_flatMap.1 hb
  exact numB_byt _ _ hn
theorem encK_byt (x : Cfg) : Byt (encK x) := by
  unfold encK
  split
  · exact numsK_byt _
  · intro b hb; cases hb
theorem cencodeK_c (x : Cfg) (w : World) (h : x.At w) : Calls Try.prog 15 #[.agg #[.slice x.A x.l.length x.c, .slice x.B x.t.length x.d, .int .i64 x.ix, .int .i64 x.f1, .int .i64 x.f2, .int .i64 x.f3, .int .i64 x.h1, .int .i64 x.h2]] w fun e w' => Ext w w' ∧ ∃ v, e = .returned (.tuple #[v, .int .i64 (checkI x).1]) ∧ Own w w' v (encK x) := by
  by_cases h0 : (checkI x).1 = 0
  · unfold encK
    rw [if_pos h0, h0]
    exact cencode_yes x w h h0
  · unfold encK
    rw [if_neg h0]
    refine (cencode_no x w h h0).mono ?_
    rintro e w1 ⟨rfl, hx⟩
    exact ⟨hx, _, rfl, none, 0, rfl, Row.nil _ _ _ _, by simp [ablk]⟩
theorem flat_lenJ {α : Type} (f : α → List Int) (k : Nat) (hf : ∀ a, (f a).length = k) : ∀ l : List α, (l.flatMap f).length = k * l.length
  | [] => rfl
  | a :: l => by
    rw [List.flatMap_cons, List.length_append, flat_lenJ f k hf l, hf a, List.length_cons, Nat.mul_add, Nat.mul_one, Nat.add_comm]
theorem flat_putY {α : Type} {f : α → List Int} {l : List α} (h : ∀ a ∈ l, Put (f a)) : Put (l.flatMap f) := fun n hn => by
  obtain ⟨a, ha, hn⟩ := List.mem_flatMap.1 hn
  exact h a ha n hn
theorem encK_len (x : Cfg) : (encK x).length ≤ 2000 := by
  unfold encK
  split
  · rename_i h
    have R := right_of h
    have h1 := R.nl
    have h2 := R.nt
    have hp : Put (cfgN x) := by
      unfold cfgN
      refine Put.app (Put.app (Put.app (Put.app ?_ ?_) ?_) ?_) R.rest
      · intro n hn; rw [List.mem_singleton] at hn; omega
      · exact flat_putY fun s hs => put_sym (R.syms s hs)
      · intro n hn; rw [List.mem_singleton] at hn; omega
      · exact flat_putY fun r hr => by
          have := R.rows r hr
          intro n hn
          simp only [rowN, List.mem_cons, List.not_mem_nil, or_false] at hn
          rcases hn with rfl | rfl <;> omega
    have hl := numsB_len hp
    have e : (cfgN x).length = 1 + 16 * x.l.length + 1 + 2 * x.t.length + 6 := by
      unfold cfgN
      rw [List.length_append, List.length_append, List.length_append, List.length_append, flat_lenJ symN 16 (fun _ => rfl), flat_lenJ rowN 2 (fun _ => rfl)]
      rfl
    omega
  · simp
theorem sameB_same {x y : Cfg} (hl : x.l = y.l) (ht : x.t = y.t) (hr : restN x = restN y) : sameB x y = true := by
  unfold restN at hr
  simp only [List.cons.injEq, and_true] at hr
  obtain ⟨h1, h2, h3, h4, h5, h6⟩ := hr
  unfold sameB
  rw [(listEq_iff (fun a b => eqS_iff)).2 hl, (listEq_iff (fun a b => eqR_iff)).2 ht, h1, h2, h3, h4, h5, h6]
  simp
/-- The bytes are read, and put again. -/
structure TailC (bs : List Int) (x : Cfg) : Prop where
  bad : (readS bs).2 ≠ 0 → x.l = [] ∧ x.t = []
  good : (readS bs).2 = 0 → (checkI x).1 = 0 ∧ encK x = bs
theorem TailC.of {bs : List Int} (hb : Byt bs) {x : Cfg} (hl : x.l = (readS bs).1.l) (ht : x.t = (readS bs).1.t) (hr : restN x = (readS bs).1.r) : TailC bs x := by
  constructor
  · intro h
    rw [hl, ht, read_fault h]
    exact ⟨rfl, rfl⟩
  · intro h
    obtain ⟨h1, h2⟩ := read_back hb h hl ht hr
    exact ⟨h1, by unfold encK; rw [if_pos h1]; exact h2⟩
set_option maxHeartbeats 8000000 in
set_option maxRecDepth 100000 in
theorem configback_c (x : Cfg) (b : Bs) (w : World) (h : x.At w) (h' : b.At w) : Calls Try.prog 6 #[x.v, b.v] w fun e w' => e = .returned (.bool true) ∧ Ext w w' := by
  unfold Cfg.v Bs.v
  have z1 : x.l.length ≤ 9223372036854775807 := by have := h.syms.le; have := h.syms.max; unfold maxLen at this; omega
  have z2 : x.t.length ≤ 9223372036854775807 := by have := h.rows.le; have := h.rows.max; unfold maxLen at this; omega
  have hlm : b.xs.length ≤ 9223372036854775807 := by have := h'.len; unfold maxLen at this; omega
  have CL := light7_c x z1 z2
  generalize lightB x = p at CL
  have HCL := Lib.hid CL
  clear CL
  cases p with
  | false =>
    go_enter Try.func6, Try.ntmps6
    go_wp2_with fail
    refine (HCL.out _).mono ?_
    rintro e w1 ⟨rfl, hxw1⟩
    have X_w1 := At.ext (g := w.heap.size) (t := 27) (cs := #[.slice x.A x.l.length x.c, .slice x.B x.t.length x.d, .int .i64 x.ix, .int .i64 x.f1, .int .i64 x.f2, .int .i64 x.f3, .int .i64 x.h1, .int .i64 x.h2]) (by repeat (first | (with_reducible exact At.new _ _ _) | ((with_reducible refine At.new' _ _ _ _ ?_); simp; done) | (with_reducible assumption) | (with_reducible refine At.drew ?_) | (with_reducible refine At.alloc ?_ _) | (with_reducible apply At.upd) | (with_reducible apply At.setRow) | (with_reducible refine At.rowFar ?_ (by first | (simp; done) | (simp; omega) | omega) _) | ((with_reducible refine At.far ?_ (by first | (simp; done) | (simp; omega) | omega) _)) | (with_reducible rfl) | (simp; done))) hxw1
    have xw1 : Ext w w1 := Ext.trans (by repeat (first | (with_reducible exact Ext.refl _) | (with_reducible assumption) | (with_reducible refine Ext.alloc ?_ _) | (with_reducible refine Ext.drew ?_) | (with_reducible refine Ext.drewN ?_ _) | (with_reducible refine Ext.setCell ?_ (by simp; try omega) _) | (with_reducible refine Ext.setRow ?_ (by simp; try omega) _))) hxw1
    clear hxw1
    have s_X_w1 := X_w1.lt
    have e_X_w1 := cellsAt_at X_w1
    go_wp2_with fail
    refine (alive_c7 _).mono ?_
    rintro e w2 ⟨rfl, hxw2⟩
    have X_w2 := At.ext (g := w.heap.size) (t := 27) (cs := #[.slice x.A x.l.length x.c, .slice x.B x.t.length x.d, .int .i64 x.ix, .int .i64 x.f1, .int .i64 x.f2, .int .i64 x.f3, .int .i64 x.h1, .int .i64 x.h2]) (by repeat (first | (with_reducible exact At.new _ _ _) | ((with_reducible refine At.new' _ _ _ _ ?_); simp; done) | (with_reducible assumption) | (with_reducible refine At.drew ?_) | (with_reducible refine At.alloc ?_ _) | (with_reducible apply At.upd) | (with_reducible apply At.setRow) | (with_reducible refine At.rowFar ?_ (by first | (simp; done) | (simp; omega) | omega) _) | ((with_reducible refine At.far ?_ (by first | (simp; done) | (simp; omega) | omega) _)) | (with_reducible rfl) | (simp; done))) hxw2
    have xw2 : Ext w w2 := Ext.trans (by repeat (first | (with_reducible exact Ext.refl _) | (with_reducible assumption) | (with_reducible refine Ext.alloc ?_ _) | (with_reducible refine Ext.drew ?_) | (with_reducible refine Ext.drewN ?_ _) | (with_reducible refine Ext.setCell ?_ (by simp; try omega) _) | (with_reducible refine Ext.setRow ?_ (by simp; try omega) _))) hxw2
    clear X_w1 s_X_w1 e_X_w1 hxw2 xw1
    have s_X_w2 := X_w2.lt
    have e_X_w2 := cellsAt_at X_w2
    go_wp2_with fail
    first | refine fin_ret rfl (fun K hK => ?_) | refine fin_norm rfl (fun K hK => ?_)
    simp [results, Try.results6, go_sem, rsat]
    try go_simp
    refine hK _ ?_
    clear hK K
    exact ⟨rfl, (by repeat (first | (with_reducible exact Ext.refl _) | (with_reducible assumption) | (with_reducible refine Ext.alloc ?_ _) | (with_reducible refine Ext.drew ?_) | (with_reducible refine Ext.drewN ?_ _) | (with_reducible refine Ext.setCell ?_ (by simp; try omega) _) | (with_reducible refine Ext.setRow ?_ (by simp; try omega) _)))⟩
  | true =>
    by_cases hl : 1500 < b.xs.length
    · have hli : (1500 : Int) < (b.xs.length : Int) := by omega
      go_enter Try.func6, Try.ntmps6
      go_wp2_with fail
      refine (HCL.out _).mono ?_
      rintro e w1 ⟨rfl, hxw1⟩
      have X_w1 := At.ext (g := w.heap.size) (t := 27) (cs := #[.slice x.A x.l.length x.c, .slice x.B x.t.length x.d, .int .i64 x.ix, .int .i64 x.f1, .int .i64 x.f2, .int .i64 x.f3, .int .i64 x.h1, .int .i64 x.h2]) (by repeat (first | (with_reducible exact At.new _ _ _) | ((with_reducible refine At.new' _ _ _ _ ?_); simp; done) | (with_reducible assumption) | (with_reducible refine At.drew ?_) | (with_reducible refine At.alloc ?_ _) | (with_reducible apply At.upd) | (with_reducible apply At.setRow) | (with_reducible refine At.rowFar ?_ (by first | (simp; done) | (simp; omega) | omega) _) | ((with_reducible refine At.far ?_ (by first | (simp; done) | (simp; omega) | omega) _)) | (with_reducible rfl) | (simp; done))) hxw1
      have xw1 : Ext w w1 := Ext.trans (by repeat (first | (with_reducible exact Ext.refl _) | (with_reducible assumption) | (with_reducible refine Ext.alloc ?_ _) | (with_reducible refine Ext.drew ?_) | (with_reducible refine Ext.drewN ?_ _) | (with_reducible refine Ext.setCell ?_ (by simp; try omega) _) | (with_reducible refine Ext.setRow ?_ (by simp; try omega) _))) hxw1
      clear hxw1
      have s_X_w1 := X_w1.lt
      have e_X_w1 := cellsAt_at X_w1
      go_wp2_with fail
      refine (alive_c7 _).mono ?_
      rintro e w2 ⟨rfl, hxw2⟩
      have X_w2 := At.ext (g := w.heap.size) (t := 27) (cs := #[.slice x.A x.l.length x.c, .slice x.B x.t.length x.d, .int .i64 x.ix, .int .i64 x.f1, .int .i64 x.f2, .int .i64 x.f3, .int .i64 x.h1, .int .i64 x.h2]) (by repeat (first | (with_reducible exact At.new _ _ _) | ((with_reducible refine At.new' _ _ _ _ ?_); simp; done) | (with_reducible assumption) | (with_reducible refine At.drew ?_) | (with_reducible refine At.alloc ?_ _) | (with_reducible apply At.upd) | (with_reducible apply At.setRow) | (with_reducible refine At.rowFar ?_ (by first | (simp; done) | (simp; omega) | omega) _) | ((with_reducible refine At.far ?_ (by first | (simp; done) | (simp; omega) | omega) _)) | (with_reducible rfl) | (simp; done))) hxw2
      have xw2 : Ext w w2 := Ext.trans (by repeat (first | (with_reducible exact Ext.refl _) | (with_reducible assumption) | (with_reducible refine Ext.alloc ?_ _) | (with_reducible refine Ext.drew ?_) | (with_reducible refine Ext.drewN ?_ _) | (with_reducible refine Ext.setCell ?_ (by simp; try omega) _) | (with_reducible refine Ext.setRow ?_ (by simp; try omega) _))) hxw2
      clear X_w1 s_X_w1 e_X_w1 hxw2 xw1
      have s_X_w2 := X_w2.lt
      have e_X_w2 := cellsAt_at X_w2
      go_wp2_with fail
      first | refine fin_ret rfl (fun K hK => ?_) | refine fin_norm rfl (fun K hK => ?_)
      simp [results, Try.results6, go_sem, rsat]
      try go_simp
      refine hK _ ?_
      clear hK K
      exact ⟨rfl, (by repeat (first | (with_reducible exact Ext.refl _) | (with_reducible assumption) | (with_reducible refine Ext.alloc ?_ _) | (with_reducible refine Ext.drew ?_) | (with_reducible refine Ext.drewN ?_ _) | (with_reducible refine Ext.setCell ?_ (by simp; try omega) _) | (with_reducible refine Ext.setRow ?_ (by simp; try omega) _)))⟩
    · have hli : ¬ (1500 : Int) < (b.xs.length : Int) := by omega
      have C1 := Lib.hid (fun W (hw : Ext w W) => cencodeK_c x W (h.ext hw))
      have C2 := Lib.hid (fun W (hw : Ext w W) => check_c x W (h.ext hw))
      have CB := Lib.hid (fun W (hw : Ext w W) => cread_c b.A b.c b.xs h'.byt (by omega) W (h'.src.ext hw))
      have hnn : ((checkI x).1 != (checkI x).1) = false := by simp
      by_cases h0 : (checkI x).1 = 0
      · have hby := encK_byt x
        have hle := encK_len x
        have hrd : readS (encK x) = (⟨x.l, x.t, restN x⟩, 0) := by unfold encK; rw [if_pos h0]; exact read_put x h0
        rw [h0] at C1 C2
        have HRD := Lib.hid hrd
        clear hrd hnn
        generalize encK x = L at *
        go_enter Try.func6, Try.ntmps6
        go_wp2_with fail
        refine (HCL.out _).mono ?_
        rintro e w1 ⟨rfl, hxw1⟩
        have X_w1 := At.ext (g := w.heap.size) (t := 27) (cs := #[.slice x.A x.l.length x.c, .slice x.B x.t.length x.d, .int .i64 x.ix, .int .i64 x.f1, .int .i64 x.f2, .int .i64 x.f3, .int .i64 x.h1, .int .i64 x.h2]) (by repeat (first | (with_reducible exact At.new _ _ _) | ((with_reducible refine At.new' _ _ _ _ ?_); simp; done) | (with_reducible assumption) | (with_reducible refine At.drew ?_) | (with_reducible refine At.alloc ?_ _) | (with_reducible apply At.upd) | (with_reducible apply At.setRow) | (with_reducible refine At.rowFar ?_ (by first | (simp; done) | (simp; omega) | omega) _) | ((with_reducible refine At.far ?_ (by first | (simp; done) | (simp; omega) | omega) _)) | (with_reducible rfl) | (simp; done))) hxw1
        have xw1 : Ext w w1 := Ext.trans (by repeat (first | (with_reducible exact Ext.refl _) | (with_reducible assumption) | (with_reducible refine Ext.alloc ?_ _) | (with_reducible refine Ext.drew ?_) | (with_reducible refine Ext.drewN ?_ _) | (with_reducible refine Ext.setCell ?_ (by simp; try omega) _) | (with_reducible refine Ext.setRow ?_ (by simp; try omega) _))) hxw1
        clear hxw1
        have s_X_w1 := X_w1.lt
        have e_X_w1 := cellsAt_at X_w1
        go_wp2_with fail
        refine (C1.out _ (by repeat (first | (with_reducible exact Ext.refl _) | (with_reducible assumption) | (with_reducible refine Ext.alloc ?_ _) | (with_reducible refine Ext.drew ?_) | (with_reducible refine Ext.drewN ?_ _) | (with_reducible refine Ext.setCell ?_ (by simp; try omega) _) | (with_reducible refine Ext.setRow ?_ (by simp; try omega) _)))).mono ?_
        rintro e w2 ⟨hxw2, v2, rfl, o2⟩
        obtain ⟨A2, c2, rfl, R2, F2⟩ := o2
        have X_w2 := At.ext (g := w.heap.size) (t := 27) (cs := #[.slice x.A x.l.length x.c, .slice x.B x.t.length x.d, .int .i64 x.ix, .int .i64 x.f1, .int .i64 x.f2, .int .i64 x.f3, .int .i64 x.h1, .int .i64 x.h2]) (by repeat (first | (with_reducible exact At.new _ _ _) | ((with_reducible refine At.new' _ _ _ _ ?_); simp; done) | (with_reducible assumption) | (with_reducible refine At.drew ?_) | (with_reducible refine At.alloc ?_ _) | (with_reducible apply At.upd) | (with_reducible apply At.setRow) | (with_reducible refine At.rowFar ?_ (by first | (simp; done) | (simp; omega) | omega) _) | ((with_reducible refine At.far ?_ (by first | (simp; done) | (simp; omega) | omega) _)) | (with_reducible rfl) | (simp; done))) hxw2
        have xw2 : Ext w w2 := Ext.trans (by repeat (first | (with_reducible exact Ext.refl _) | (with_reducible assumption) | (with_reducible refine Ext.alloc ?_ _) | (with_reducible refine Ext.drew ?_) | (with_reducible refine Ext.drewN ?_ _) | (with_reducible refine Ext.setCell ?_ (by simp; try omega) _) | (with_reducible refine Ext.setRow ?_ (by simp; try omega) _))) hxw2
        clear X_w1 s_X_w1 e_X_w1 hxw2 xw1
        have s_X_w2 := X_w2.lt
        have e_X_w2 := cellsAt_at X_w2
        go_wp2_with fail
        refine (C2.out _ (by repeat (first | (with_reducible exact Ext.refl _) | (with_reducible assumption) | (with_reducible refine Ext.alloc ?_ _) | (with_reducible refine Ext.drew ?_) | (with_reducible refine Ext.drewN ?_ _) | (with_reducible refine Ext.setCell ?_ (by simp; try omega) _) | (with_reducible refine Ext.setRow ?_ (by simp; try omega) _)))).mono ?_
        rintro e w3 ⟨rfl, hxw3⟩
        have R3 := R2.ext hxw3
        have CL := cread_c A2 c2 L hby (by omega) w3 R3.src
        have CL := CL.mono (R' := fun e w' => Ext w3 w' ∧ ∃ y : Cfg, e = .returned (.tuple #[.agg #[.slice y.A y.l.length y.c, .slice y.B y.t.length y.d, .int .i64 y.ix, .int .i64 y.f1, .int .i64 y.f2, .int .i64 y.f3, .int .i64 y.h1, .int .i64 y.h2], .int .i64 0]) ∧ y.At w' ∧ sameB x y = true) (by
          rintro e w4 ⟨hx4, y, rfl, hy, yl, yt, yr⟩
          rw [HRD.out] at yl yt yr ⊢
          exact ⟨hx4, y, rfl, hy, sameB_same yl.symm yt.symm yr.symm⟩)
        have HCL := Lib.hid CL
        clear CL R2 R3 F2 HRD
        have X_w3 := At.ext (g := w.heap.size) (t := 27) (cs := #[.slice x.A x.l.length x.c, .slice x.B x.t.length x.d, .int .i64 x.ix, .int .i64 x.f1, .int .i64 x.f2, .int .i64 x.f3, .int .i64 x.h1, .int .i64 x.h2]) (by repeat (first | (with_reducible exact At.new _ _ _) | ((with_reducible refine At.new' _ _ _ _ ?_); simp; done) | (with_reducible assumption) | (with_reducible refine At.drew ?_) | (with_reducible refine At.alloc ?_ _) | (with_reducible apply At.upd) | (with_reducible apply At.setRow) | (with_reducible refine At.rowFar ?_ (by first | (simp; done) | (simp; omega) | omega) _) | ((with_reducible refine At.far ?_ (by first | (simp; done) | (simp; omega) | omega) _)) | (with_reducible rfl) | (simp; done))) hxw3
        have xw3 : Ext w w3 := Ext.trans (by repeat (first | (with_reducible exact Ext.refl _) | (with_reducible assumption) | (with_reducible refine Ext.alloc ?_ _) | (with_reducible refine Ext.drew ?_) | (with_reducible refine Ext.drewN ?_ _) | (with_reducible refine Ext.setCell ?_ (by simp; try omega) _) | (with_reducible refine Ext.setRow ?_ (by simp; try omega) _))) hxw3
        clear X_w2 s_X_w2 e_X_w2 hxw3 xw2
        have s_X_w3 := X_w3.lt
        have e_X_w3 := cellsAt_at X_w3
        go_wp2_with fail
        refine HCL.out.mono ?_
        rintro e w4 ⟨hxw4, x4, rfl, hX4, ys⟩
        have CS := fun W (hw : Ext w W) (hw4 : Ext w4 W) => csame_c x x4 W (h.ext hw) (hX4.ext hw4)
        rw [ys] at CS
        have HCS := Lib.hid CS
        clear CS ys hX4 HCL
        have X_w4 := At.ext (g := w.heap.size) (t := 27) (cs := #[.slice x.A x.l.length x.c, .slice x.B x.t.length x.d, .int .i64 x.ix, .int .i64 x.f1, .int .i64 x.f2, .int .i64 x.f3, .int .i64 x.h1, .int .i64 x.h2]) (by repeat (first | (with_reducible exact At.new _ _ _) | ((with_reducible refine At.new' _ _ _ _ ?_); simp; done) | (with_reducible assumption) | (with_reducible refine At.drew ?_) | (with_reducible refine At.alloc ?_ _) | (with_reducible apply At.upd) | (with_reducible apply At.setRow) | (with_reducible refine At.rowFar ?_ (by first | (simp; done) | (simp; omega) | omega) _) | ((with_reducible refine At.far ?_ (by first | (simp; done) | (simp; omega) | omega) _)) | (with_reducible rfl) | (simp; done))) hxw4
        have xw4 : Ext w w4 := Ext.trans (by repeat (first | (with_reducible exact Ext.refl _) | (with_reducible assumption) | (with_reducible refine Ext.alloc ?_ _) | (with_reducible refine Ext.drew ?_) | (with_reducible refine Ext.drewN ?_ _) | (with_reducible refine Ext.setCell ?_ (by simp; try omega) _) | (with_reducible refine Ext.setRow ?_ (by simp; try omega) _))) hxw4
        clear X_w3 s_X_w3 e_X_w3 hxw4 xw3
        have s_X_w4 := X_w4.lt
        have e_X_w4 := cellsAt_at X_w4
        go_wp2_with fail
        refine (HCS.out _ (by repeat (first | (with_reducible exact Ext.refl _) | (with_reducible assumption) | (with_reducible refine Ext.alloc ?_ _) | (with_reducible refine Ext.drew ?_) | (with_reducible refine Ext.drewN ?_ _) | (with_reducible refine Ext.setCell ?_ (by simp; try omega) _) | (with_reducible refine Ext.setRow ?_ (by simp; try omega) _))) ((Ext.refl w4).alloc _)).mono ?_
        rintro e w5 ⟨rfl, hxw5⟩
        have X_w5 := At.ext (g := w.heap.size) (t := 27) (cs := #[.slice x.A x.l.length x.c, .slice x.B x.t.length x.d, .int .i64 x.ix, .int .i64 x.f1, .int .i64 x.f2, .int .i64 x.f3, .int .i64 x.h1, .int .i64 x.h2]) (by repeat (first | (with_reducible exact At.new _ _ _) | ((with_reducible refine At.new' _ _ _ _ ?_); simp; done) | (with_reducible assumption) | (with_reducible refine At.drew ?_) | (with_reducible refine At.alloc ?_ _) | (with_reducible apply At.upd) | (with_reducible apply At.setRow) | (with_reducible refine At.rowFar ?_ (by first | (simp; done) | (simp; omega) | omega) _) | ((with_reducible refine At.far ?_ (by first | (simp; done) | (simp; omega) | omega) _)) | (with_reducible rfl) | (simp; done))) hxw5
        have xw5 : Ext w w5 := Ext.trans (by repeat (first | (with_reducible exact Ext.refl _) | (with_reducible assumption) | (with_reducible refine Ext.alloc ?_ _) | (with_reducible refine Ext.drew ?_) | (with_reducible refine Ext.drewN ?_ _) | (with_reducible refine Ext.setCell ?_ (by simp; try omega) _) | (with_reducible refine Ext.setRow ?_ (by simp; try omega) _))) hxw5
        clear X_w4 s_X_w4 e_X_w4 hxw5 xw4
        have s_X_w5 := X_w5.lt
        have e_X_w5 := cellsAt_at X_w5
        go_wp2_with fail
        refine (CB.out _ (by repeat (first | (with_reducible exact Ext.refl _) | (with_reducible assumption) | (with_reducible refine Ext.alloc ?_ _) | (with_reducible refine Ext.drew ?_) | (with_reducible refine Ext.drewN ?_ _) | (with_reducible refine Ext.setCell ?_ (by simp; try omega) _) | (with_reducible refine Ext.setRow ?_ (by simp; try omega) _)))).mono ?_
        rintro e w8 ⟨hxw8, x8, rfl, hX8, xl, xt, xr⟩
        have X8 : Ext w w8 := Ext.trans (by repeat (first | (with_reducible exact Ext.refl _) | (with_reducible assumption) | (with_reducible refine Ext.alloc ?_ _) | (with_reducible refine Ext.drew ?_) | (with_reducible refine Ext.drewN ?_ _) | (with_reducible refine Ext.setCell ?_ (by simp; try omega) _) | (with_reducible refine Ext.setRow ?_ (by simp; try omega) _))) hxw8
        have TC := TailC.of h'.byt xl xt xr
        clear xl xt xr
        by_cases hr8 : (readS b.xs).2 = 0
        · rw [hr8]
          obtain ⟨k1, k2⟩ := TC.good hr8
          have HE := fun W (hw : Ext w8 W) => cencodeK_c x8 W (hX8.ext hw)
          rw [k1, k2] at HE
          have HE := Lib.hid HE
          clear TC k1 k2 hr8 CB hX8
          go_wp2_with fail
          refine (HE.out _ ((Ext.refl w8).alloc _)).mono ?_
          rintro e w9 ⟨hxw9, v9, rfl, o9⟩
          obtain ⟨A9, c9, rfl, R9, F9⟩ := o9
          have hz9 : Ext w w9 := (X8.alloc _).trans hxw9
          have C9 := same_c A9 b.A b.xs.length b.xs.length c9 b.c b.xs b.xs w9 R9.src (h'.src.ext hz9) h'.byt h'.byt
          rw [decide_eq_true rfl] at C9
          have C9 := Lib.hid C9
          clear R9 F9 HE
          go_wp2_with fail
          refine C9.out.mono ?_
          rintro e w10 ⟨rfl, hxw10⟩
          go_wp2_with fail
          refine (alive_c7 _).mono ?_
          rintro e w11 ⟨rfl, hxw11⟩
          go_wp2_with fail
          first | refine fin_ret rfl (fun K hK => ?_) | refine fin_norm rfl (fun K hK => ?_)
          simp [results, Try.results6, go_sem, rsat]
          try go_simp
          refine hK _ ?_
          clear hK K
          exact ⟨rfl, (hz9.trans hxw10).trans hxw11⟩
        · have hrb : ((readS b.xs).2 != 0) = true := bne_iff_ne.2 hr8
          obtain ⟨k1, k2⟩ := TC.bad hr8
          clear TC
          generalize (readS b.xs).2 = r8 at *
          obtain ⟨A8, c8, l8, B8, d8, t8, i1, i2, i3, i4, i5, i6⟩ := x8
          simp only at k1 k2
          subst k1 k2
          go_wp2_with fail
          refine (alive_c7 _).mono ?_
          rintro e w11 ⟨rfl, hxw11⟩
          go_wp2_with fail
          first | refine fin_ret rfl (fun K hK => ?_) | refine fin_norm rfl (fun K hK => ?_)
          simp [results, Try.results6, go_sem, rsat]
          try go_simp
          refine hK _ ?_
          clear hK K
          exact ⟨rfl, (X8.alloc _).trans hxw11⟩
      · have hn0 : ((checkI x).1 == 0) = false := by simpa using h0
        generalize (checkI x).1 = r at *
        go_enter Try.func6, Try.ntmps6
        go_wp2_with fail
        refine (HCL.out _).mono ?_
        rintro e w1 ⟨rfl, hxw1⟩
        have X_w1 := At.ext (g := w.heap.size) (t := 27) (cs := #[.slice x.A x.l.length x.c, .slice x.B x.t.length x.d, .int .i64 x.ix, .int .i64 x.f1, .int .i64 x.f2, .int .i64 x.f3, .int .i64 x.h1, .int .i64 x.h2]) (by repeat (first | (with_reducible exact At.new _ _ _) | ((with_reducible refine At.new' _ _ _ _ ?_); simp; done) | (with_reducible assumption) | (with_reducible refine At.drew ?_) | (with_reducible refine At.alloc ?_ _) | (with_reducible apply At.upd) | (with_reducible apply At.setRow) | (with_reducible refine At.rowFar ?_ (by first | (simp; done) | (simp; omega) | omega) _) | ((with_reducible refine At.far ?_ (by first | (simp; done) | (simp; omega) | omega) _)) | (with_reducible rfl) | (simp; done))) hxw1
        have xw1 : Ext w w1 := Ext.trans (by repeat (first | (with_reducible exact Ext.refl _) | (with_reducible assumption) | (with_reducible refine Ext.alloc ?_ _) | (with_reducible refine Ext.drew ?_) | (with_reducible refine Ext.drewN ?_ _) | (with_reducible refine Ext.setCell ?_ (by simp; try omega) _) | (with_reducible refine Ext.setRow ?_ (by simp; try omega) _))) hxw1
        clear hxw1
        have s_X_w1 := X_w1.lt
        have e_X_w1 := cellsAt_at X_w1
        go_wp2_with fail
        refine (C1.out _ (by repeat (first | (with_reducible exact Ext.refl _) | (with_reducible assumption) | (with_reducible refine Ext.alloc ?_ _) | (with_reducible refine Ext.drew ?_) | (with_reducible refine Ext.drewN ?_ _) | (with_reducible refine Ext.setCell ?_ (by simp; try omega) _) | (with_reducible refine Ext.setRow ?_ (by simp; try omega) _)))).mono ?_
        rintro e w2 ⟨hxw2, v2, rfl, o2⟩
        obtain ⟨A2, c2, rfl, R2, F2⟩ := o2
        have X_w2 := At.ext (g := w.heap.size) (t := 27) (cs := #[.slice x.A x.l.length x.c, .slice x.B x.t.length x.d, .int .i64 x.ix, .int .i64 x.f1, .int .i64 x.f2, .int .i64 x.f3, .int .i64 x.h1, .int .i64 x.h2]) (by repeat (first | (with_reducible exact At.new _ _ _) | ((with_reducible refine At.new' _ _ _ _ ?_); simp; done) | (with_reducible assumption) | (with_reducible refine At.drew ?_) | (with_reducible refine At.alloc ?_ _) | (with_reducible apply At.upd) | (with_reducible apply At.setRow) | (with_reducible refine At.rowFar ?_ (by first | (simp; done) | (simp; omega) | omega) _) | ((with_reducible refine At.far ?_ (by first | (simp; done) | (simp; omega) | omega) _)) | (with_reducible rfl) | (simp; done))) hxw2
        have xw2 : Ext w w2 := Ext.trans (by repeat (first | (with_reducible exact Ext.refl _) | (with_reducible assumption) | (with_reducible refine Ext.alloc ?_ _) | (with_reducible refine Ext.drew ?_) | (with_reducible refine Ext.drewN ?_ _) | (with_reducible refine Ext.setCell ?_ (by simp; try omega) _) | (with_reducible refine Ext.setRow ?_ (by simp; try omega) _))) hxw2
        clear X_w1 s_X_w1 e_X_w1 hxw2 xw1
        have s_X_w2 := X_w2.lt
        have e_X_w2 := cellsAt_at X_w2
        go_wp2_with fail
        refine (C2.out _ (by repeat (first | (with_reducible exact Ext.refl _) | (with_reducible assumption) | (with_reducible refine Ext.alloc ?_ _) | (with_reducible refine Ext.drew ?_) | (with_reducible refine Ext.drewN ?_ _) | (with_reducible refine Ext.setCell ?_ (by simp; try omega) _) | (with_reducible refine Ext.setRow ?_ (by simp; try omega) _)))).mono ?_
        rintro e w3 ⟨rfl, hxw3⟩
        have X_w3 := At.ext (g := w.heap.size) (t := 27) (cs := #[.slice x.A x.l.length x.c, .slice x.B x.t.length x.d, .int .i64 x.ix, .int .i64 x.f1, .int .i64 x.f2, .int .i64 x.f3, .int .i64 x.h1, .int .i64 x.h2]) (by repeat (first | (with_reducible exact At.new _ _ _) | ((with_reducible refine At.new' _ _ _ _ ?_); simp; done) | (with_reducible assumption) | (with_reducible refine At.drew ?_) | (with_reducible refine At.alloc ?_ _) | (with_reducible apply At.upd) | (with_reducible apply At.setRow) | (with_reducible refine At.rowFar ?_ (by first | (simp; done) | (simp; omega) | omega) _) | ((with_reducible refine At.far ?_ (by first | (simp; done) | (simp; omega) | omega) _)) | (with_reducible rfl) | (simp; done))) hxw3
        have xw3 : Ext w w3 := Ext.trans (by repeat (first | (with_reducible exact Ext.refl _) | (with_reducible assumption) | (with_reducible refine Ext.alloc ?_ _) | (with_reducible refine Ext.drew ?_) | (with_reducible refine Ext.drewN ?_ _) | (with_reducible refine Ext.setCell ?_ (by simp; try omega) _) | (with_reducible refine Ext.setRow ?_ (by simp; try omega) _))) hxw3
        clear X_w2 s_X_w2 e_X_w2 hxw3 xw2
        have s_X_w3 := X_w3.lt
        have e_X_w3 := cellsAt_at X_w3
        go_wp2_with fail
        refine (CB.out _ (by repeat (first | (with_reducible exact Ext.refl _) | (with_reducible assumption) | (with_reducible refine Ext.alloc ?_ _) | (with_reducible refine Ext.drew ?_) | (with_reducible refine Ext.drewN ?_ _) | (with_reducible refine Ext.setCell ?_ (by simp; try omega) _) | (with_reducible refine Ext.setRow ?_ (by simp; try omega) _)))).mono ?_
        rintro e w8 ⟨hxw8, x8, rfl, hX8, xl, xt, xr⟩
        have X8 : Ext w w8 := Ext.trans (by repeat (first | (with_reducible exact Ext.refl _) | (with_reducible assumption) | (with_reducible refine Ext.alloc ?_ _) | (with_reducible refine Ext.drew ?_) | (with_reducible refine Ext.drewN ?_ _) | (with_reducible refine Ext.setCell ?_ (by simp; try omega) _) | (with_reducible refine Ext.setRow ?_ (by simp; try omega) _))) hxw8
        have TC := TailC.of h'.byt xl xt xr
        clear xl xt xr
        by_cases hr8 : (readS b.xs).2 = 0
        · rw [hr8]
          obtain ⟨k1, k2⟩ := TC.good hr8
          have HE := fun W (hw : Ext w8 W) => cencodeK_c x8 W (hX8.ext hw)
          rw [k1, k2] at HE
          have HE := Lib.hid HE
          clear TC k1 k2 hr8 CB hX8
          go_wp2_with fail
          refine (HE.out _ ((Ext.refl w8).alloc _)).mono ?_
          rintro e w9 ⟨hxw9, v9, rfl, o9⟩
          obtain ⟨A9, c9, rfl, R9, F9⟩ := o9
          have hz9 : Ext w w9 := (X8.alloc _).trans hxw9
          have C9 := same_c A9 b.A b.xs.length b.xs.length c9 b.c b.xs b.xs w9 R9.src (h'.src.ext hz9) h'.byt h'.byt
          rw [decide_eq_true rfl] at C9
          have C9 := Lib.hid C9
          clear R9 F9 HE
          go_wp2_with fail
          refine C9.out.mono ?_
          rintro e w10 ⟨rfl, hxw10⟩
          go_wp2_with fail
          refine (alive_c7 _).mono ?_
          rintro e w11 ⟨rfl, hxw11⟩
          go_wp2_with fail
          first | refine fin_ret rfl (fun K hK => ?_) | refine fin_norm rfl (fun K hK => ?_)
          simp [results, Try.results6, go_sem, rsat]
          try go_simp
          refine hK _ ?_
          clear hK K
          exact ⟨rfl, (hz9.trans hxw10).trans hxw11⟩
        · have hrb : ((readS b.xs).2 != 0) = true := bne_iff_ne.2 hr8
          obtain ⟨k1, k2⟩ := TC.bad hr8
          clear TC
          generalize (readS b.xs).2 = r8 at *
          obtain ⟨A8, c8, l8, B8, d8, t8, i1, i2, i3, i4, i5, i6⟩ := x8
          simp only at k1 k2
          subst k1 k2
          go_wp2_with fail
          refine (alive_c7 _).mono ?_
          rintro e w11 ⟨rfl, hxw11⟩
          go_wp2_with fail
          first | refine fin_ret rfl (fun K hK => ?_) | refine fin_norm rfl (fun K hK => ?_)
          simp [results, Try.results6, go_sem, rsat]
          try go_simp
          refine hK _ ?_
          clear hK K
          exact ⟨rfl, (X8.alloc _).trans hxw11⟩
end Go.Proofs.Ytfbpmngdamaobaa
