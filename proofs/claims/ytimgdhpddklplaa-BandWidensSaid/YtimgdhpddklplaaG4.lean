/- The walks of package band and of the reference of layer 20: Collar; Clip, In, Touches. No condition. -/
import Derived.Test.YtimgdhpddklplaaG3
namespace Go.Proofs.Ytimgdhpddklplaa
open Go.RowKit
attribute [local go_sem] Later.cell QUpon_value QUpon_enter MUpon_value
attribute [local go_sem ↓ high] loadSym_is storeSym_is
attribute [local go_sem] run_loadSym run_loadSym_at run_storeSym one_int one_bool one_slice one_ptr one_str setRow_new setRow_past cell_ca frozen_ca cellsAt_alloc_at cellsAt_alloc_past cellsAt_drew cellsAt_later cellsAt_setCell cellsAt_set_same cellsAt_setRow_same cellsAt_setRow_far subAt_alloc subAt_drew subAt_later subAt_setCell subAt_setRow ltn_2 ltn_3 ltn_4 ltn_5

/-- A collar's parts, in any round. -/
def collN (s : Sym) (n : Int) : Int := min (s.coll + n * s.wid) 9999
def collT (s : Sym) (f r n : Int) : Value := if n < 0 ∨ 10 < n then noBand else withT f r s.stat (collN s n) s.grid
theorem collT_open (s : Sym) (f r n : Int) : ∃ x y c, collT s f r n = .tuple #[.agg #[.int .i64 x, .int .i64 y], .bool c] := by
  unfold collT
  split
  · exact ⟨_, _, _, rfl⟩
  · exact withT_open _ _ _ _ _
structure Sym.Calm (s : Sym) : Prop where
  c1 : -1073741824 ≤ s.coll
  c2 : s.coll ≤ 1073741824
  w1 : -1073741824 ≤ s.wid
  w2 : s.wid ≤ 1073741824
theorem round_bd {n x : Int} (h1 : 0 ≤ n) (h2 : n ≤ 10) (h3 : -1073741824 ≤ x) (h4 : x ≤ 1073741824) : -10737418240 ≤ n * x ∧ n * x ≤ 10737418240 := by
  rcases (show n = 0 ∨ n = 1 ∨ n = 2 ∨ n = 3 ∨ n = 4 ∨ n = 5 ∨ n = 6 ∨ n = 7 ∨ n = 8 ∨ n = 9 ∨ n = 10 by omega) with h | h | h | h | h | h | h | h | h | h | h <;> subst h <;> omega
set_option maxRecDepth 100000 in
set_option maxHeartbeats 800000 in
theorem collar_c (s : Sym) (hs : s.I) (hc : s.Calm) (f r n : Int) (hf : I64 f) (hr : I64 r) (w : World) : Calls Try.prog 15 #[symV s, .int .i64 f, .int .i64 r, .int .i64 n] w fun e w' => e = .returned (collT s f r n) ∧ Ext w w' := by
  unfold collT
  by_cases h1 : n < 0
  · rw [if_pos (.inl h1)]
    unfold symV symC noBand
    go_enter Try.func15, Try.ntmps15
    go_wp2_with fail
    refine fin_ret rfl (fun K hK => ?_)
    simp [results, Try.results15, go_sem, rsat]
    try go_simp
    refine hK _ ?_
    clear hK K
    exact ⟨rfl, (by repeat (first | exact Ext.refl _ | assumption | refine Ext.alloc ?_ _ | refine Ext.drew ?_ | refine Ext.drewN ?_ _ | refine Ext.setCell ?_ (by simp; try omega) _ | refine Ext.setRow ?_ (by simp; try omega) _))⟩
  by_cases h2 : 10 < n
  · rw [if_pos (.inr h2)]
    unfold symV symC noBand
    go_enter Try.func15, Try.ntmps15
    go_wp2_with fail
    refine fin_ret rfl (fun K hK => ?_)
    simp [results, Try.results15, go_sem, rsat]
    try go_simp
    refine hK _ ?_
    clear hK K
    exact ⟨rfl, (by repeat (first | exact Ext.refl _ | assumption | refine Ext.alloc ?_ _ | refine Ext.drew ?_ | refine Ext.drewN ?_ _ | refine Ext.setCell ?_ (by simp; try omega) _ | refine Ext.setRow ?_ (by simp; try omega) _))⟩
  rw [if_neg (by omega)]
  obtain ⟨b1, b2⟩ := round_bd (n := n) (by omega) (by omega) hc.w1 hc.w2
  have b3 := hc.c1
  have b4 := hc.c2
  have C := within_c s hs f r (collN s n) hf hr (by unfold collN I64; omega)
  obtain ⟨x, y, c, hx⟩ := withT_open f r s.stat (collN s n) s.grid
  rw [hx] at C ⊢
  unfold symV symC at C ⊢
  clear hx
  by_cases h3 : s.coll + n * s.wid ≤ 9999
  · have e : collN s n = s.coll + n * s.wid := by unfold collN; omega
    rw [e] at C
    have HC := Lib.hid C
    clear C e
    go_enter Try.func15, Try.ntmps15
    go_wp2_with fail
    refine (HC.out _).mono ?_
    rintro e w1 ⟨rfl, hxw1⟩
    have xw1 : Ext w w1 := Ext.trans (by repeat (first | exact Ext.refl _ | assumption | refine Ext.alloc ?_ _ | refine Ext.drew ?_ | refine Ext.drewN ?_ _ | refine Ext.setCell ?_ (by simp; try omega) _ | refine Ext.setRow ?_ (by simp; try omega) _)) hxw1
    have lw1 := xw1.size
    have B_w1 := At.ext (g := w.heap.size + 1) (t := 27) (cs := #[.int .i64 0, .int .i64 0]) (by repeat (first | (with_reducible exact At.new _ _ _) | ((with_reducible refine At.new' _ _ _ _ ?_); simp; done) | (with_reducible assumption) | (with_reducible refine At.drew ?_) | (with_reducible refine At.alloc ?_ _) | (with_reducible apply At.upd) | (with_reducible apply At.setRow) | (with_reducible refine At.rowFar ?_ (by first | (simp; done) | (simp; omega) | omega) _) | ((with_reducible refine At.far ?_ (by first | (simp; done) | (simp; omega) | omega) _)) | (with_reducible rfl) | (simp; done))) hxw1
    clear hxw1
    have s_B_w1 := B_w1.lt
    have c_B_w1_0 := B_w1.cell 0
    have f_B_w1_0 := B_w1.frozen 0
    have c_B_w1_1 := B_w1.cell 1
    have f_B_w1_1 := B_w1.frozen 1
    simp only [List.getElem?_toArray, List.getElem?_cons_zero, List.getElem?_cons_succ] at c_B_w1_0 c_B_w1_1
    go_wp2_with fail
    refine fin_ret rfl (fun K hK => ?_)
    simp [results, Try.results15, go_sem, rsat]
    try go_simp
    refine hK _ ?_
    clear hK K
    exact ⟨rfl, (by repeat (first | exact Ext.refl _ | assumption | refine Ext.alloc ?_ _ | refine Ext.drew ?_ | refine Ext.drewN ?_ _ | refine Ext.setCell ?_ (by simp; try omega) _ | refine Ext.setRow ?_ (by simp; try omega) _))⟩
  · have e : collN s n = 9999 := by unfold collN; omega
    rw [e] at C
    have HC := Lib.hid C
    clear C e
    go_enter Try.func15, Try.ntmps15
    go_wp2_with fail
    refine (HC.out _).mono ?_
    rintro e w1 ⟨rfl, hxw1⟩
    have xw1 : Ext w w1 := Ext.trans (by repeat (first | exact Ext.refl _ | assumption | refine Ext.alloc ?_ _ | refine Ext.drew ?_ | refine Ext.drewN ?_ _ | refine Ext.setCell ?_ (by simp; try omega) _ | refine Ext.setRow ?_ (by simp; try omega) _)) hxw1
    have lw1 := xw1.size
    have B_w1 := At.ext (g := w.heap.size + 1) (t := 27) (cs := #[.int .i64 0, .int .i64 0]) (by repeat (first | (with_reducible exact At.new _ _ _) | ((with_reducible refine At.new' _ _ _ _ ?_); simp; done) | (with_reducible assumption) | (with_reducible refine At.drew ?_) | (with_reducible refine At.alloc ?_ _) | (with_reducible apply At.upd) | (with_reducible apply At.setRow) | (with_reducible refine At.rowFar ?_ (by first | (simp; done) | (simp; omega) | omega) _) | ((with_reducible refine At.far ?_ (by first | (simp; done) | (simp; omega) | omega) _)) | (with_reducible rfl) | (simp; done))) hxw1
    clear hxw1
    have s_B_w1 := B_w1.lt
    have c_B_w1_0 := B_w1.cell 0
    have f_B_w1_0 := B_w1.frozen 0
    have c_B_w1_1 := B_w1.cell 1
    have f_B_w1_1 := B_w1.frozen 1
    simp only [List.getElem?_toArray, List.getElem?_cons_zero, List.getElem?_cons_succ] at c_B_w1_0 c_B_w1_1
    go_wp2_with fail
    refine fin_ret rfl (fun K hK => ?_)
    simp [results, Try.results15, go_sem, rsat]
    try go_simp
    refine hK _ ?_
    clear hK K
    exact ⟨rfl, (by repeat (first | exact Ext.refl _ | assumption | refine Ext.alloc ?_ _ | refine Ext.drew ?_ | refine Ext.drewN ?_ _ | refine Ext.setCell ?_ (by simp; try omega) _ | refine Ext.setRow ?_ (by simp; try omega) _))⟩
set_option maxRecDepth 100000 in
set_option maxHeartbeats 1600000 in
theorem rcollar_c (s : Sym) (hs : s.I) (hc : s.Calm) (f r n : Int) (hf : I64 f) (hr : I64 r) (hn : I64 n) (w : World) : Calls Try.prog 16 #[symV s, .int .i64 f, .int .i64 r, .int .i64 n] w fun e w' => e = .returned (collT s f r n) ∧ Ext w w' := by
  unfold collT
  have b3 := hc.c1
  have b4 := hc.c2
  have b5 := hc.w1
  have b6 := hc.w2
  by_cases h1 : n < 0
  · rw [if_pos (.inl h1)]
    unfold symV symC noBand
    go_enter Try.func16, Try.ntmps16
    go_wp2_with fail
    refine fin_ret rfl (fun K hK => ?_)
    simp [results, Try.results16, go_sem, rsat]
    try go_simp
    refine hK _ ?_
    clear hK K
    exact ⟨rfl, (by repeat (first | exact Ext.refl _ | assumption | refine Ext.alloc ?_ _ | refine Ext.drew ?_ | refine Ext.drewN ?_ _ | refine Ext.setCell ?_ (by simp; try omega) _ | refine Ext.setRow ?_ (by simp; try omega) _))⟩
  by_cases h2 : 10 < n
  · rw [if_pos (.inr h2)]
    unfold symV symC noBand
    go_enter Try.func16, Try.ntmps16
    go_wp2_with fail
    refine fin_ret rfl (fun K hK => ?_)
    simp [results, Try.results16, go_sem, rsat]
    try go_simp
    refine hK _ ?_
    clear hK K
    exact ⟨rfl, (by repeat (first | exact Ext.refl _ | assumption | refine Ext.alloc ?_ _ | refine Ext.drew ?_ | refine Ext.drewN ?_ _ | refine Ext.setCell ?_ (by simp; try omega) _ | refine Ext.setRow ?_ (by simp; try omega) _))⟩
  rw [if_neg (by omega)]
  obtain ⟨b1, b2⟩ := round_bd (n := n) (by omega) (by omega) hc.w1 hc.w2
  have C1 := rstatic_c s hs f hf
  have C2 := raround_c r (collN s n) s.grid hr (by unfold collN I64; omega) hs.grid
  obtain ⟨x, y, c, u, v, d, e1, e2, e3⟩ := with_two f r s.stat (collN s n) s.grid
  rw [e1] at C1
  rw [e2] at C2
  have HC1 := Lib.hid C1
  have h3 : s.coll + n * s.wid ≤ 9999 ∨ 9999 < s.coll + n * s.wid := by omega
  have e4 : (s.coll + n * s.wid ≤ 9999 ∧ collN s n = s.coll + n * s.wid) ∨ (9999 < s.coll + n * s.wid ∧ collN s n = 9999) := by
    unfold collN
    omega
  clear C1 e1 e2 h3
  unfold noBand at e3
  unfold symV symC at HC1 ⊢
  rcases e4 with ⟨h3, e4⟩ | ⟨h3, e4⟩
  all_goals
    rw [e4] at C2
    have HC2 := Lib.hid C2
    clear C2
    rcases e3 with ⟨rfl, rfl, e3⟩ | ⟨rfl, e3⟩ | ⟨rfl, rfl, e3⟩
    · rw [e3]
      clear e3 e4
      go_enter Try.func16, Try.ntmps16
      go_wp2_with fail
      refine (HC1.out _).mono ?_
      rintro e w1 ⟨rfl, hxw1⟩
      have xw1 : Ext w w1 := Ext.trans (by repeat (first | exact Ext.refl _ | assumption | refine Ext.alloc ?_ _ | refine Ext.drew ?_ | refine Ext.drewN ?_ _ | refine Ext.setCell ?_ (by simp; try omega) _ | refine Ext.setRow ?_ (by simp; try omega) _)) hxw1
      have lw1 := xw1.size
      have S_w1 := At.ext (g := w.heap.size) (t := 23) (cs := #[.int .i64 s.grid, .int .i64 s.ref, .int .i64 s.stat, .int .i64 s.dyn, .int .i64 s.win, .int .i64 s.move, .int .i64 s.lim, .int .i64 s.pause, .int .i64 s.ext, .int .i64 s.mx, .int .i64 s.coll, .int .i64 s.wid, .int .i64 s.self, .int .i64 s.slots, .int .i64 s.lev, .int .i64 s.short]) (by repeat (first | (with_reducible exact At.new _ _ _) | ((with_reducible refine At.new' _ _ _ _ ?_); simp; done) | (with_reducible assumption) | (with_reducible refine At.drew ?_) | (with_reducible refine At.alloc ?_ _) | (with_reducible apply At.upd) | (with_reducible apply At.setRow) | (with_reducible refine At.rowFar ?_ (by first | (simp; done) | (simp; omega) | omega) _) | ((with_reducible refine At.far ?_ (by first | (simp; done) | (simp; omega) | omega) _)) | (with_reducible rfl) | (simp; done))) hxw1
      have R_w1 := At.ext (g := w.heap.size + 1) (t := 27) (cs := #[.int .i64 0, .int .i64 0]) (by repeat (first | (with_reducible exact At.new _ _ _) | ((with_reducible refine At.new' _ _ _ _ ?_); simp; done) | (with_reducible assumption) | (with_reducible refine At.drew ?_) | (with_reducible refine At.alloc ?_ _) | (with_reducible apply At.upd) | (with_reducible apply At.setRow) | (with_reducible refine At.rowFar ?_ (by first | (simp; done) | (simp; omega) | omega) _) | ((with_reducible refine At.far ?_ (by first | (simp; done) | (simp; omega) | omega) _)) | (with_reducible rfl) | (simp; done))) hxw1
      clear hxw1
      have s_S_w1 := S_w1.lt
      have e_S_w1 := cellsAt_at S_w1
      have s_R_w1 := R_w1.lt
      have c_R_w1_0 := R_w1.cell 0
      have f_R_w1_0 := R_w1.frozen 0
      have c_R_w1_1 := R_w1.cell 1
      have f_R_w1_1 := R_w1.frozen 1
      simp only [List.getElem?_toArray, List.getElem?_cons_zero, List.getElem?_cons_succ] at c_R_w1_0 c_R_w1_1
      go_wp2_with fail
      refine (HC2.out _).mono ?_
      rintro e w2 ⟨rfl, hxw2⟩
      have xw2 : Ext w w2 := Ext.trans (by repeat (first | exact Ext.refl _ | assumption | refine Ext.alloc ?_ _ | refine Ext.drew ?_ | refine Ext.drewN ?_ _ | refine Ext.setCell ?_ (by simp; try omega) _ | refine Ext.setRow ?_ (by simp; try omega) _)) hxw2
      have lw2 := xw2.size
      have A_w2 := At.ext (g := w1.heap.size) (t := 27) (cs := #[.int .i64 x, .int .i64 y]) (by repeat (first | (with_reducible exact At.new _ _ _) | ((with_reducible refine At.new' _ _ _ _ ?_); simp; done) | (with_reducible assumption) | (with_reducible refine At.drew ?_) | (with_reducible refine At.alloc ?_ _) | (with_reducible apply At.upd) | (with_reducible apply At.setRow) | (with_reducible refine At.rowFar ?_ (by first | (simp; done) | (simp; omega) | omega) _) | ((with_reducible refine At.far ?_ (by first | (simp; done) | (simp; omega) | omega) _)) | (with_reducible rfl) | (simp; done))) hxw2
      have R_w2 := At.ext (g := w.heap.size + 1) (t := 27) (cs := #[.int .i64 0, .int .i64 0]) (by repeat (first | (with_reducible exact At.new _ _ _) | ((with_reducible refine At.new' _ _ _ _ ?_); simp; done) | (with_reducible assumption) | (with_reducible refine At.drew ?_) | (with_reducible refine At.alloc ?_ _) | (with_reducible apply At.upd) | (with_reducible apply At.setRow) | (with_reducible refine At.rowFar ?_ (by first | (simp; done) | (simp; omega) | omega) _) | ((with_reducible refine At.far ?_ (by first | (simp; done) | (simp; omega) | omega) _)) | (with_reducible rfl) | (simp; done))) hxw2
      clear R_w1 s_R_w1 c_R_w1_0 f_R_w1_0 c_R_w1_1 f_R_w1_1 S_w1 s_S_w1 e_S_w1 hxw2 xw1
      have s_A_w2 := A_w2.lt
      have c_A_w2_0 := A_w2.cell 0
      have f_A_w2_0 := A_w2.frozen 0
      have c_A_w2_1 := A_w2.cell 1
      have f_A_w2_1 := A_w2.frozen 1
      simp only [List.getElem?_toArray, List.getElem?_cons_zero, List.getElem?_cons_succ] at c_A_w2_0 c_A_w2_1
      have s_R_w2 := R_w2.lt
      have c_R_w2_0 := R_w2.cell 0
      have f_R_w2_0 := R_w2.frozen 0
      have c_R_w2_1 := R_w2.cell 1
      have f_R_w2_1 := R_w2.frozen 1
      simp only [List.getElem?_toArray, List.getElem?_cons_zero, List.getElem?_cons_succ] at c_R_w2_0 c_R_w2_1
      go_wp2_with fail
      refine (rboth_c x y u v _).mono ?_
      rintro e w3 ⟨rfl, hxw3⟩
      have xw3 : Ext w w3 := Ext.trans (by repeat (first | exact Ext.refl _ | assumption | refine Ext.alloc ?_ _ | refine Ext.drew ?_ | refine Ext.drewN ?_ _ | refine Ext.setCell ?_ (by simp; try omega) _ | refine Ext.setRow ?_ (by simp; try omega) _)) hxw3
      have lw3 := xw3.size
      have R_w3 := At.ext (g := w.heap.size + 1) (t := 27) (cs := #[.int .i64 0, .int .i64 0]) (by repeat (first | (with_reducible exact At.new _ _ _) | ((with_reducible refine At.new' _ _ _ _ ?_); simp; done) | (with_reducible assumption) | (with_reducible refine At.drew ?_) | (with_reducible refine At.alloc ?_ _) | (with_reducible apply At.upd) | (with_reducible apply At.setRow) | (with_reducible refine At.rowFar ?_ (by first | (simp; done) | (simp; omega) | omega) _) | ((with_reducible refine At.far ?_ (by first | (simp; done) | (simp; omega) | omega) _)) | (with_reducible rfl) | (simp; done))) hxw3
      clear R_w2 s_R_w2 c_R_w2_0 f_R_w2_0 c_R_w2_1 f_R_w2_1 A_w2 s_A_w2 c_A_w2_0 f_A_w2_0 c_A_w2_1 f_A_w2_1 hxw3 xw2
      have s_R_w3 := R_w3.lt
      have c_R_w3_0 := R_w3.cell 0
      have f_R_w3_0 := R_w3.frozen 0
      have c_R_w3_1 := R_w3.cell 1
      have f_R_w3_1 := R_w3.frozen 1
      simp only [List.getElem?_toArray, List.getElem?_cons_zero, List.getElem?_cons_succ] at c_R_w3_0 c_R_w3_1
      go_wp2_with fail
      refine fin_ret rfl (fun K hK => ?_)
      simp [results, Try.results16, go_sem, rsat]
      try go_simp
      refine hK _ ?_
      clear hK K
      exact ⟨rfl, (by repeat (first | exact Ext.refl _ | assumption | refine Ext.alloc ?_ _ | refine Ext.drew ?_ | refine Ext.drewN ?_ _ | refine Ext.setCell ?_ (by simp; try omega) _ | refine Ext.setRow ?_ (by simp; try omega) _))⟩
    · rw [e3]
      clear e3 e4
      go_enter Try.func16, Try.ntmps16
      go_wp2_with fail
      refine (HC1.out _).mono ?_
      rintro e w1 ⟨rfl, hxw1⟩
      have xw1 : Ext w w1 := Ext.trans (by repeat (first | exact Ext.refl _ | assumption | refine Ext.alloc ?_ _ | refine Ext.drew ?_ | refine Ext.drewN ?_ _ | refine Ext.setCell ?_ (by simp; try omega) _ | refine Ext.setRow ?_ (by simp; try omega) _)) hxw1
      have lw1 := xw1.size
      have S_w1 := At.ext (g := w.heap.size) (t := 23) (cs := #[.int .i64 s.grid, .int .i64 s.ref, .int .i64 s.stat, .int .i64 s.dyn, .int .i64 s.win, .int .i64 s.move, .int .i64 s.lim, .int .i64 s.pause, .int .i64 s.ext, .int .i64 s.mx, .int .i64 s.coll, .int .i64 s.wid, .int .i64 s.self, .int .i64 s.slots, .int .i64 s.lev, .int .i64 s.short]) (by repeat (first | (with_reducible exact At.new _ _ _) | ((with_reducible refine At.new' _ _ _ _ ?_); simp; done) | (with_reducible assumption) | (with_reducible refine At.drew ?_) | (with_reducible refine At.alloc ?_ _) | (with_reducible apply At.upd) | (with_reducible apply At.setRow) | (with_reducible refine At.rowFar ?_ (by first | (simp; done) | (simp; omega) | omega) _) | ((with_reducible refine At.far ?_ (by first | (simp; done) | (simp; omega) | omega) _)) | (with_reducible rfl) | (simp; done))) hxw1
      have R_w1 := At.ext (g := w.heap.size + 1) (t := 27) (cs := #[.int .i64 0, .int .i64 0]) (by repeat (first | (with_reducible exact At.new _ _ _) | ((with_reducible refine At.new' _ _ _ _ ?_); simp; done) | (with_reducible assumption) | (with_reducible refine At.drew ?_) | (with_reducible refine At.alloc ?_ _) | (with_reducible apply At.upd) | (with_reducible apply At.setRow) | (with_reducible refine At.rowFar ?_ (by first | (simp; done) | (simp; omega) | omega) _) | ((with_reducible refine At.far ?_ (by first | (simp; done) | (simp; omega) | omega) _)) | (with_reducible rfl) | (simp; done))) hxw1
      clear hxw1
      have s_S_w1 := S_w1.lt
      have e_S_w1 := cellsAt_at S_w1
      have s_R_w1 := R_w1.lt
      have c_R_w1_0 := R_w1.cell 0
      have f_R_w1_0 := R_w1.frozen 0
      have c_R_w1_1 := R_w1.cell 1
      have f_R_w1_1 := R_w1.frozen 1
      simp only [List.getElem?_toArray, List.getElem?_cons_zero, List.getElem?_cons_succ] at c_R_w1_0 c_R_w1_1
      go_wp2_with fail
      refine (HC2.out _).mono ?_
      rintro e w2 ⟨rfl, hxw2⟩
      have xw2 : Ext w w2 := Ext.trans (by repeat (first | exact Ext.refl _ | assumption | refine Ext.alloc ?_ _ | refine Ext.drew ?_ | refine Ext.drewN ?_ _ | refine Ext.setCell ?_ (by simp; try omega) _ | refine Ext.setRow ?_ (by simp; try omega) _)) hxw2
      have lw2 := xw2.size
      have R_w2 := At.ext (g := w.heap.size + 1) (t := 27) (cs := #[.int .i64 0, .int .i64 0]) (by repeat (first | (with_reducible exact At.new _ _ _) | ((with_reducible refine At.new' _ _ _ _ ?_); simp; done) | (with_reducible assumption) | (with_reducible refine At.drew ?_) | (with_reducible refine At.alloc ?_ _) | (with_reducible apply At.upd) | (with_reducible apply At.setRow) | (with_reducible refine At.rowFar ?_ (by first | (simp; done) | (simp; omega) | omega) _) | ((with_reducible refine At.far ?_ (by first | (simp; done) | (simp; omega) | omega) _)) | (with_reducible rfl) | (simp; done))) hxw2
      clear R_w1 s_R_w1 c_R_w1_0 f_R_w1_0 c_R_w1_1 f_R_w1_1 S_w1 s_S_w1 e_S_w1 hxw2 xw1
      have s_R_w2 := R_w2.lt
      have c_R_w2_0 := R_w2.cell 0
      have f_R_w2_0 := R_w2.frozen 0
      have c_R_w2_1 := R_w2.cell 1
      have f_R_w2_1 := R_w2.frozen 1
      simp only [List.getElem?_toArray, List.getElem?_cons_zero, List.getElem?_cons_succ] at c_R_w2_0 c_R_w2_1
      go_wp2_with fail
      refine fin_ret rfl (fun K hK => ?_)
      simp [results, Try.results16, go_sem, rsat]
      try go_simp
      refine hK _ ?_
      clear hK K
      exact ⟨rfl, (by repeat (first | exact Ext.refl _ | assumption | refine Ext.alloc ?_ _ | refine Ext.drew ?_ | refine Ext.drewN ?_ _ | refine Ext.setCell ?_ (by simp; try omega) _ | refine Ext.setRow ?_ (by simp; try omega) _))⟩
    · rw [e3]
      clear e3 e4
      go_enter Try.func16, Try.ntmps16
      go_wp2_with fail
      refine (HC1.out _).mono ?_
      rintro e w1 ⟨rfl, hxw1⟩
      have xw1 : Ext w w1 := Ext.trans (by repeat (first | exact Ext.refl _ | assumption | refine Ext.alloc ?_ _ | refine Ext.drew ?_ | refine Ext.drewN ?_ _ | refine Ext.setCell ?_ (by simp; try omega) _ | refine Ext.setRow ?_ (by simp; try omega) _)) hxw1
      have lw1 := xw1.size
      have S_w1 := At.ext (g := w.heap.size) (t := 23) (cs := #[.int .i64 s.grid, .int .i64 s.ref, .int .i64 s.stat, .int .i64 s.dyn, .int .i64 s.win, .int .i64 s.move, .int .i64 s.lim, .int .i64 s.pause, .int .i64 s.ext, .int .i64 s.mx, .int .i64 s.coll, .int .i64 s.wid, .int .i64 s.self, .int .i64 s.slots, .int .i64 s.lev, .int .i64 s.short]) (by repeat (first | (with_reducible exact At.new _ _ _) | ((with_reducible refine At.new' _ _ _ _ ?_); simp; done) | (with_reducible assumption) | (with_reducible refine At.drew ?_) | (with_reducible refine At.alloc ?_ _) | (with_reducible apply At.upd) | (with_reducible apply At.setRow) | (with_reducible refine At.rowFar ?_ (by first | (simp; done) | (simp; omega) | omega) _) | ((with_reducible refine At.far ?_ (by first | (simp; done) | (simp; omega) | omega) _)) | (with_reducible rfl) | (simp; done))) hxw1
      have R_w1 := At.ext (g := w.heap.size + 1) (t := 27) (cs := #[.int .i64 0, .int .i64 0]) (by repeat (first | (with_reducible exact At.new _ _ _) | ((with_reducible refine At.new' _ _ _ _ ?_); simp; done) | (with_reducible assumption) | (with_reducible refine At.drew ?_) | (with_reducible refine At.alloc ?_ _) | (with_reducible apply At.upd) | (with_reducible apply At.setRow) | (with_reducible refine At.rowFar ?_ (by first | (simp; done) | (simp; omega) | omega) _) | ((with_reducible refine At.far ?_ (by first | (simp; done) | (simp; omega) | omega) _)) | (with_reducible rfl) | (simp; done))) hxw1
      clear hxw1
      have s_S_w1 := S_w1.lt
      have e_S_w1 := cellsAt_at S_w1
      have s_R_w1 := R_w1.lt
      have c_R_w1_0 := R_w1.cell 0
      have f_R_w1_0 := R_w1.frozen 0
      have c_R_w1_1 := R_w1.cell 1
      have f_R_w1_1 := R_w1.frozen 1
      simp only [List.getElem?_toArray, List.getElem?_cons_zero, List.getElem?_cons_succ] at c_R_w1_0 c_R_w1_1
      go_wp2_with fail
      refine (HC2.out _).mono ?_
      rintro e w2 ⟨rfl, hxw2⟩
      have xw2 : Ext w w2 := Ext.trans (by repeat (first | exact Ext.refl _ | assumption | refine Ext.alloc ?_ _ | refine Ext.drew ?_ | refine Ext.drewN ?_ _ | refine Ext.setCell ?_ (by simp; try omega) _ | refine Ext.setRow ?_ (by simp; try omega) _)) hxw2
      have lw2 := xw2.size
      have R_w2 := At.ext (g := w.heap.size + 1) (t := 27) (cs := #[.int .i64 0, .int .i64 0]) (by repeat (first | (with_reducible exact At.new _ _ _) | ((with_reducible refine At.new' _ _ _ _ ?_); simp; done) | (with_reducible assumption) | (with_reducible refine At.drew ?_) | (with_reducible refine At.alloc ?_ _) | (with_reducible apply At.upd) | (with_reducible apply At.setRow) | (with_reducible refine At.rowFar ?_ (by first | (simp; done) | (simp; omega) | omega) _) | ((with_reducible refine At.far ?_ (by first | (simp; done) | (simp; omega) | omega) _)) | (with_reducible rfl) | (simp; done))) hxw2
      clear R_w1 s_R_w1 c_R_w1_0 f_R_w1_0 c_R_w1_1 f_R_w1_1 S_w1 s_S_w1 e_S_w1 hxw2 xw1
      have s_R_w2 := R_w2.lt
      have c_R_w2_0 := R_w2.cell 0
      have f_R_w2_0 := R_w2.frozen 0
      have c_R_w2_1 := R_w2.cell 1
      have f_R_w2_1 := R_w2.frozen 1
      simp only [List.getElem?_toArray, List.getElem?_cons_zero, List.getElem?_cons_succ] at c_R_w2_0 c_R_w2_1
      go_wp2_with fail
      refine fin_ret rfl (fun K hK => ?_)
      simp [results, Try.results16, go_sem, rsat]
      try go_simp
      refine hK _ ?_
      clear hK K
      exact ⟨rfl, (by repeat (first | exact Ext.refl _ | assumption | refine Ext.alloc ?_ _ | refine Ext.drew ?_ | refine Ext.drewN ?_ _ | refine Ext.setCell ?_ (by simp; try omega) _ | refine Ext.setRow ?_ (by simp; try omega) _))⟩
end Go.Proofs.Ytimgdhpddklplaa
