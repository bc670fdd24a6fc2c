/- The walk of law BandWidens. No condition. -/
import Derived.Test.YtimgdhpddklplaaL20b
namespace Go.Proofs.Ytimgdhpddklplaa
open Go.RowKit
attribute [local go_sem] Later.cell QUpon_value QUpon_enter MUpon_value
attribute [local go_sem ↓ high] loadSym_is storeSym_is loadCfg_is storeCfg_is
attribute [local go_sem] run_loadSym run_loadSym_at run_storeSym run_loadCfg run_loadCfg_at run_storeCfg one_int one_bool one_slice one_ptr one_str setRow_new setRow_past cell_ca frozen_ca cellsAt_alloc_at cellsAt_alloc_past cellsAt_drew cellsAt_later cellsAt_setCell cellsAt_set_same cellsAt_setRow_same cellsAt_setRow_far subAt_alloc subAt_drew subAt_later subAt_setCell subAt_setRow ltn_2 ltn_3 ltn_4 ltn_5
attribute [local go_sem] cfg_field0

theorem collN_bd {s : Sym} (ho : s.Ok) {n : Int} (h1 : 0 ≤ n) (h2 : n ≤ 10) : 0 ≤ collN s n ∧ collN s n ≤ 9999 := by
  obtain ⟨c1, c2⟩ := ho.co
  obtain ⟨d1, d2⟩ := ho.wd
  have : 0 ≤ n * s.wid := Int.mul_nonneg h1 d1
  unfold collN
  omega
theorem collN_mono {s : Sym} (ho : s.Ok) {a b : Int} (h : a ≤ b) : collN s a ≤ collN s b := by
  obtain ⟨d1, d2⟩ := ho.wd
  have : a * s.wid ≤ b * s.wid := Int.mul_le_mul_of_nonneg_right h d1
  unfold collN
  omega
theorem ok_calm {s : Sym} (ho : s.Ok) : s.Calm := by
  obtain ⟨c1, c2⟩ := ho.co
  obtain ⟨d1, d2⟩ := ho.wd
  exact ⟨by omega, by omega, by omega, by omega⟩
theorem widens_facts (s : Sym) (ho : s.Ok) (f r a b : Int) (hf1 : 1 ≤ f) (hf2 : f ≤ 1099511627776) (hr1 : 1 ≤ r) (hr2 : r ≤ 1099511627776) (ha : 0 ≤ a) (hab : a ≤ b) (hb : b ≤ 10) :
    ∃ x1 x2 y1 y2 z1 z2 : Int, collT s f r a = .tuple #[.agg #[.int .i64 x1, .int .i64 x2], .bool true] ∧ collT s f r b = .tuple #[.agg #[.int .i64 y1, .int .i64 y2], .bool true] ∧ bandT f s.stat s.grid = .tuple #[.agg #[.int .i64 z1, .int .i64 z2], .bool true] ∧
      y1 ≤ x1 ∧ x2 ≤ y2 ∧ z1 ≤ y1 ∧ y2 ≤ z2 := by
  obtain ⟨g1, g2⟩ := ho.g
  have pa := collN_bd ho (n := a) ha (by omega)
  have pb := collN_bd ho (n := b) (by omega) hb
  have o1 : arOk f s.stat s.grid := ⟨⟨hf1, hf2⟩, ho.st, ho.g⟩
  have o2 : arOk r (collN s a) s.grid := ⟨⟨hr1, hr2⟩, pa, ho.g⟩
  have o3 : arOk r (collN s b) s.grid := ⟨⟨hr1, hr2⟩, pb, ho.g⟩
  obtain ⟨l1, l2⟩ := loI_bd o2
  obtain ⟨l3, l4⟩ := loI_bd o3
  obtain ⟨u1, u2⟩ := hiI_bd o2
  have m1 := lo_mono (r := r) (b := collN s a) (m := collN s b) hr1 (collN_mono ho hab)
  have m2 := hi_mono (r := r) (b := collN s a) (m := collN s b) hr1 (collN_mono ho hab)
  have n1 := upN_mono (p := loI r (collN s b)) (q := loI r (collN s a)) (g := s.grid) (by omega) g1 m1
  have n2 := down_mono (p := hiI r (collN s a)) (q := hiI r (collN s b)) (g := s.grid) (by omega) g1 m2
  have e1 : collT s f r a = .tuple #[.agg #[.int .i64 (max (upN (loI f s.stat) s.grid) (upN (loI r (collN s a)) s.grid)), .int .i64 (min (hiI f s.stat / s.grid * s.grid) (hiI r (collN s a) / s.grid * s.grid))], .bool true] := by
    unfold collT withT
    rw [if_neg (by omega), if_pos ⟨o1, o2⟩]
  have e2 : collT s f r b = .tuple #[.agg #[.int .i64 (max (upN (loI f s.stat) s.grid) (upN (loI r (collN s b)) s.grid)), .int .i64 (min (hiI f s.stat / s.grid * s.grid) (hiI r (collN s b) / s.grid * s.grid))], .bool true] := by
    unfold collT withT
    rw [if_neg (by omega), if_pos ⟨o1, o3⟩]
  exact ⟨_, _, _, _, _, _, e1, e2, if_pos o1, by omega, by omega, by omega, by omega⟩
set_option maxRecDepth 100000 in
set_option maxHeartbeats 1600000 in
theorem bandwidens_c (s : Sym) (hs : s.I) (f r a b : Int) (hf : I64 f) (hr : I64 r) (ha : I64 a) (hb : I64 b) (w : World) :
    Calls Try.prog 6 #[symV s, .int .i64 f, .int .i64 r, .int .i64 a, .int .i64 b] w fun e w' => e = .returned (.bool true) ∧ Ext w w' := by
  have C0 := symbol_c s hs
  by_cases h0 : symI s = 0
  · have ho := sym_ok h0
    rw [h0] at C0
    by_cases h1 : a < 0
    ·
      unfold symV symC at C0 ⊢
      have HC0 := Lib.hid C0
      clear C0 h0 ho
      go_enter Try.func6, Try.ntmps6
      go_wp2_with fail
      refine (HC0.out _).mono ?_
      rintro e w1 ⟨rfl, hxw1⟩
      have xw1 : Ext w w1 := Ext.trans (by repeat (first | exact Ext.refl _ | assumption | refine Ext.alloc ?_ _ | refine Ext.drew ?_ | refine Ext.drewN ?_ _ | refine Ext.setCell ?_ (by simp; try omega) _ | refine Ext.setRow ?_ (by simp; try omega) _)) hxw1
      have lw1 := xw1.size
      go_wp2_with fail
      refine (alive_c _).mono ?_
      rintro e w2 ⟨rfl, hxw2⟩
      have xw2 : Ext w w2 := Ext.trans (by repeat (first | exact Ext.refl _ | assumption | refine Ext.alloc ?_ _ | refine Ext.drew ?_ | refine Ext.drewN ?_ _ | refine Ext.setCell ?_ (by simp; try omega) _ | refine Ext.setRow ?_ (by simp; try omega) _)) hxw2
      have lw2 := xw2.size
      go_wp2_with fail
      refine fin_ret rfl (fun K hK => ?_)
      simp [results, Try.results6, go_sem, rsat]
      try go_simp
      refine hK _ ?_
      clear hK K
      exact ⟨rfl, (by repeat (first | exact Ext.refl _ | assumption | refine Ext.alloc ?_ _ | refine Ext.drew ?_ | refine Ext.drewN ?_ _ | refine Ext.setCell ?_ (by simp; try omega) _ | refine Ext.setRow ?_ (by simp; try omega) _))⟩
    by_cases h2 : b < a
    ·
      unfold symV symC at C0 ⊢
      have HC0 := Lib.hid C0
      clear C0 h0 ho
      go_enter Try.func6, Try.ntmps6
      go_wp2_with fail
      refine (HC0.out _).mono ?_
      rintro e w1 ⟨rfl, hxw1⟩
      have xw1 : Ext w w1 := Ext.trans (by repeat (first | exact Ext.refl _ | assumption | refine Ext.alloc ?_ _ | refine Ext.drew ?_ | refine Ext.drewN ?_ _ | refine Ext.setCell ?_ (by simp; try omega) _ | refine Ext.setRow ?_ (by simp; try omega) _)) hxw1
      have lw1 := xw1.size
      go_wp2_with fail
      refine (alive_c _).mono ?_
      rintro e w2 ⟨rfl, hxw2⟩
      have xw2 : Ext w w2 := Ext.trans (by repeat (first | exact Ext.refl _ | assumption | refine Ext.alloc ?_ _ | refine Ext.drew ?_ | refine Ext.drewN ?_ _ | refine Ext.setCell ?_ (by simp; try omega) _ | refine Ext.setRow ?_ (by simp; try omega) _)) hxw2
      have lw2 := xw2.size
      go_wp2_with fail
      refine fin_ret rfl (fun K hK => ?_)
      simp [results, Try.results6, go_sem, rsat]
      try go_simp
      refine hK _ ?_
      clear hK K
      exact ⟨rfl, (by repeat (first | exact Ext.refl _ | assumption | refine Ext.alloc ?_ _ | refine Ext.drew ?_ | refine Ext.drewN ?_ _ | refine Ext.setCell ?_ (by simp; try omega) _ | refine Ext.setRow ?_ (by simp; try omega) _))⟩
    by_cases h3 : 10 < b
    ·
      unfold symV symC at C0 ⊢
      have HC0 := Lib.hid C0
      clear C0 h0 ho
      go_enter Try.func6, Try.ntmps6
      go_wp2_with fail
      refine (HC0.out _).mono ?_
      rintro e w1 ⟨rfl, hxw1⟩
      have xw1 : Ext w w1 := Ext.trans (by repeat (first | exact Ext.refl _ | assumption | refine Ext.alloc ?_ _ | refine Ext.drew ?_ | refine Ext.drewN ?_ _ | refine Ext.setCell ?_ (by simp; try omega) _ | refine Ext.setRow ?_ (by simp; try omega) _)) hxw1
      have lw1 := xw1.size
      go_wp2_with fail
      refine (alive_c _).mono ?_
      rintro e w2 ⟨rfl, hxw2⟩
      have xw2 : Ext w w2 := Ext.trans (by repeat (first | exact Ext.refl _ | assumption | refine Ext.alloc ?_ _ | refine Ext.drew ?_ | refine Ext.drewN ?_ _ | refine Ext.setCell ?_ (by simp; try omega) _ | refine Ext.setRow ?_ (by simp; try omega) _)) hxw2
      have lw2 := xw2.size
      go_wp2_with fail
      refine fin_ret rfl (fun K hK => ?_)
      simp [results, Try.results6, go_sem, rsat]
      try go_simp
      refine hK _ ?_
      clear hK K
      exact ⟨rfl, (by repeat (first | exact Ext.refl _ | assumption | refine Ext.alloc ?_ _ | refine Ext.drew ?_ | refine Ext.drewN ?_ _ | refine Ext.setCell ?_ (by simp; try omega) _ | refine Ext.setRow ?_ (by simp; try omega) _))⟩
    by_cases h4 : f < 1
    ·
      unfold symV symC at C0 ⊢
      have HC0 := Lib.hid C0
      clear C0 h0 ho
      go_enter Try.func6, Try.ntmps6
      go_wp2_with fail
      refine (HC0.out _).mono ?_
      rintro e w1 ⟨rfl, hxw1⟩
      have xw1 : Ext w w1 := Ext.trans (by repeat (first | exact Ext.refl _ | assumption | refine Ext.alloc ?_ _ | refine Ext.drew ?_ | refine Ext.drewN ?_ _ | refine Ext.setCell ?_ (by simp; try omega) _ | refine Ext.setRow ?_ (by simp; try omega) _)) hxw1
      have lw1 := xw1.size
      go_wp2_with fail
      refine (alive_c _).mono ?_
      rintro e w2 ⟨rfl, hxw2⟩
      have xw2 : Ext w w2 := Ext.trans (by repeat (first | exact Ext.refl _ | assumption | refine Ext.alloc ?_ _ | refine Ext.drew ?_ | refine Ext.drewN ?_ _ | refine Ext.setCell ?_ (by simp; try omega) _ | refine Ext.setRow ?_ (by simp; try omega) _)) hxw2
      have lw2 := xw2.size
      go_wp2_with fail
      refine fin_ret rfl (fun K hK => ?_)
      simp [results, Try.results6, go_sem, rsat]
      try go_simp
      refine hK _ ?_
      clear hK K
      exact ⟨rfl, (by repeat (first | exact Ext.refl _ | assumption | refine Ext.alloc ?_ _ | refine Ext.drew ?_ | refine Ext.drewN ?_ _ | refine Ext.setCell ?_ (by simp; try omega) _ | refine Ext.setRow ?_ (by simp; try omega) _))⟩
    by_cases h5 : 1099511627776 < f
    ·
      unfold symV symC at C0 ⊢
      have HC0 := Lib.hid C0
      clear C0 h0 ho
      go_enter Try.func6, Try.ntmps6
      go_wp2_with fail
      refine (HC0.out _).mono ?_
      rintro e w1 ⟨rfl, hxw1⟩
      have xw1 : Ext w w1 := Ext.trans (by repeat (first | exact Ext.refl _ | assumption | refine Ext.alloc ?_ _ | refine Ext.drew ?_ | refine Ext.drewN ?_ _ | refine Ext.setCell ?_ (by simp; try omega) _ | refine Ext.setRow ?_ (by simp; try omega) _)) hxw1
      have lw1 := xw1.size
      go_wp2_with fail
      refine (alive_c _).mono ?_
      rintro e w2 ⟨rfl, hxw2⟩
      have xw2 : Ext w w2 := Ext.trans (by repeat (first | exact Ext.refl _ | assumption | refine Ext.alloc ?_ _ | refine Ext.drew ?_ | refine Ext.drewN ?_ _ | refine Ext.setCell ?_ (by simp; try omega) _ | refine Ext.setRow ?_ (by simp; try omega) _)) hxw2
      have lw2 := xw2.size
      go_wp2_with fail
      refine fin_ret rfl (fun K hK => ?_)
      simp [results, Try.results6, go_sem, rsat]
      try go_simp
      refine hK _ ?_
      clear hK K
      exact ⟨rfl, (by repeat (first | exact Ext.refl _ | assumption | refine Ext.alloc ?_ _ | refine Ext.drew ?_ | refine Ext.drewN ?_ _ | refine Ext.setCell ?_ (by simp; try omega) _ | refine Ext.setRow ?_ (by simp; try omega) _))⟩
    by_cases h6 : r < 1
    ·
      unfold symV symC at C0 ⊢
      have HC0 := Lib.hid C0
      clear C0 h0 ho
      go_enter Try.func6, Try.ntmps6
      go_wp2_with fail
      refine (HC0.out _).mono ?_
      rintro e w1 ⟨rfl, hxw1⟩
      have xw1 : Ext w w1 := Ext.trans (by repeat (first | exact Ext.refl _ | assumption | refine Ext.alloc ?_ _ | refine Ext.drew ?_ | refine Ext.drewN ?_ _ | refine Ext.setCell ?_ (by simp; try omega) _ | refine Ext.setRow ?_ (by simp; try omega) _)) hxw1
      have lw1 := xw1.size
      go_wp2_with fail
      refine (alive_c _).mono ?_
      rintro e w2 ⟨rfl, hxw2⟩
      have xw2 : Ext w w2 := Ext.trans (by repeat (first | exact Ext.refl _ | assumption | refine Ext.alloc ?_ _ | refine Ext.drew ?_ | refine Ext.drewN ?_ _ | refine Ext.setCell ?_ (by simp; try omega) _ | refine Ext.setRow ?_ (by simp; try omega) _)) hxw2
      have lw2 := xw2.size
      go_wp2_with fail
      refine fin_ret rfl (fun K hK => ?_)
      simp [results, Try.results6, go_sem, rsat]
      try go_simp
      refine hK _ ?_
      clear hK K
      exact ⟨rfl, (by repeat (first | exact Ext.refl _ | assumption | refine Ext.alloc ?_ _ | refine Ext.drew ?_ | refine Ext.drewN ?_ _ | refine Ext.setCell ?_ (by simp; try omega) _ | refine Ext.setRow ?_ (by simp; try omega) _))⟩
    by_cases h7 : 1099511627776 < r
    ·
      unfold symV symC at C0 ⊢
      have HC0 := Lib.hid C0
      clear C0 h0 ho
      go_enter Try.func6, Try.ntmps6
      go_wp2_with fail
      refine (HC0.out _).mono ?_
      rintro e w1 ⟨rfl, hxw1⟩
      have xw1 : Ext w w1 := Ext.trans (by repeat (first | exact Ext.refl _ | assumption | refine Ext.alloc ?_ _ | refine Ext.drew ?_ | refine Ext.drewN ?_ _ | refine Ext.setCell ?_ (by simp; try omega) _ | refine Ext.setRow ?_ (by simp; try omega) _)) hxw1
      have lw1 := xw1.size
      go_wp2_with fail
      refine (alive_c _).mono ?_
      rintro e w2 ⟨rfl, hxw2⟩
      have xw2 : Ext w w2 := Ext.trans (by repeat (first | exact Ext.refl _ | assumption | refine Ext.alloc ?_ _ | refine Ext.drew ?_ | refine Ext.drewN ?_ _ | refine Ext.setCell ?_ (by simp; try omega) _ | refine Ext.setRow ?_ (by simp; try omega) _)) hxw2
      have lw2 := xw2.size
      go_wp2_with fail
      refine fin_ret rfl (fun K hK => ?_)
      simp [results, Try.results6, go_sem, rsat]
      try go_simp
      refine hK _ ?_
      clear hK K
      exact ⟨rfl, (by repeat (first | exact Ext.refl _ | assumption | refine Ext.alloc ?_ _ | refine Ext.drew ?_ | refine Ext.drewN ?_ _ | refine Ext.setCell ?_ (by simp; try omega) _ | refine Ext.setRow ?_ (by simp; try omega) _))⟩
    obtain ⟨x1, x2, y1, y2, z1, z2, e1, e2, e3, f1, f2, f3, f4⟩ := widens_facts s ho f r a b (by omega) (by omega) (by omega) (by omega) (by omega) (by omega) (by omega)
    have C1 := collar_c s hs (ok_calm ho) f r a hf hr
    have C2 := collar_c s hs (ok_calm ho) f r b hf hr
    have C3 := static_c s hs f hf
    rw [e1] at C1
    rw [e2] at C2
    rw [e3] at C3
    unfold symV symC at C0 C1 C2 C3 ⊢
    have HC0 := Lib.hid C0
    have HC1 := Lib.hid C1
    have HC2 := Lib.hid C2
    have HC3 := Lib.hid C3
    clear C0 C1 C2 C3 e1 e2 e3 h0 ho
    go_enter Try.func6, Try.ntmps6
    go_wp2_with fail
    refine (HC0.out _).mono ?_
    rintro e w1 ⟨rfl, hxw1⟩
    have xw1 : Ext w w1 := Ext.trans (by repeat (first | exact Ext.refl _ | assumption | refine Ext.alloc ?_ _ | refine Ext.drew ?_ | refine Ext.drewN ?_ _ | refine Ext.setCell ?_ (by simp; try omega) _ | refine Ext.setRow ?_ (by simp; try omega) _)) hxw1
    have lw1 := xw1.size
    have S_w1 := At.ext (g := w.heap.size) (t := 23) (cs := #[.int .i64 s.grid, .int .i64 s.ref, .int .i64 s.stat, .int .i64 s.dyn, .int .i64 s.win, .int .i64 s.move, .int .i64 s.lim, .int .i64 s.pause, .int .i64 s.ext, .int .i64 s.mx, .int .i64 s.coll, .int .i64 s.wid, .int .i64 s.self, .int .i64 s.slots, .int .i64 s.lev, .int .i64 s.short]) (by repeat (first | (with_reducible exact At.new _ _ _) | ((with_reducible refine At.new' _ _ _ _ ?_); simp; done) | (with_reducible assumption) | (with_reducible refine At.drew ?_) | (with_reducible refine At.alloc ?_ _) | (with_reducible apply At.upd) | (with_reducible apply At.setRow) | (with_reducible refine At.rowFar ?_ (by first | (simp; done) | (simp; omega) | omega) _) | ((with_reducible refine At.far ?_ (by first | (simp; done) | (simp; omega) | omega) _)) | (with_reducible rfl) | (simp; done))) hxw1
    clear hxw1
    have s_S_w1 := S_w1.lt
    have e_S_w1 := cellsAt_at S_w1
    go_wp2_with fail
    refine (HC1.out _).mono ?_
    rintro e w2 ⟨rfl, hxw2⟩
    have xw2 : Ext w w2 := Ext.trans (by repeat (first | exact Ext.refl _ | assumption | refine Ext.alloc ?_ _ | refine Ext.drew ?_ | refine Ext.drewN ?_ _ | refine Ext.setCell ?_ (by simp; try omega) _ | refine Ext.setRow ?_ (by simp; try omega) _)) hxw2
    have lw2 := xw2.size
    have S_w2 := At.ext (g := w.heap.size) (t := 23) (cs := #[.int .i64 s.grid, .int .i64 s.ref, .int .i64 s.stat, .int .i64 s.dyn, .int .i64 s.win, .int .i64 s.move, .int .i64 s.lim, .int .i64 s.pause, .int .i64 s.ext, .int .i64 s.mx, .int .i64 s.coll, .int .i64 s.wid, .int .i64 s.self, .int .i64 s.slots, .int .i64 s.lev, .int .i64 s.short]) (by repeat (first | (with_reducible exact At.new _ _ _) | ((with_reducible refine At.new' _ _ _ _ ?_); simp; done) | (with_reducible assumption) | (with_reducible refine At.drew ?_) | (with_reducible refine At.alloc ?_ _) | (with_reducible apply At.upd) | (with_reducible apply At.setRow) | (with_reducible refine At.rowFar ?_ (by first | (simp; done) | (simp; omega) | omega) _) | ((with_reducible refine At.far ?_ (by first | (simp; done) | (simp; omega) | omega) _)) | (with_reducible rfl) | (simp; done))) hxw2
    clear S_w1 s_S_w1 e_S_w1 hxw2 xw1
    have s_S_w2 := S_w2.lt
    have e_S_w2 := cellsAt_at S_w2
    go_wp2_with fail
    refine (HC2.out _).mono ?_
    rintro e w3 ⟨rfl, hxw3⟩
    have xw3 : Ext w w3 := Ext.trans (by repeat (first | exact Ext.refl _ | assumption | refine Ext.alloc ?_ _ | refine Ext.drew ?_ | refine Ext.drewN ?_ _ | refine Ext.setCell ?_ (by simp; try omega) _ | refine Ext.setRow ?_ (by simp; try omega) _)) hxw3
    have lw3 := xw3.size
    have S_w3 := At.ext (g := w.heap.size) (t := 23) (cs := #[.int .i64 s.grid, .int .i64 s.ref, .int .i64 s.stat, .int .i64 s.dyn, .int .i64 s.win, .int .i64 s.move, .int .i64 s.lim, .int .i64 s.pause, .int .i64 s.ext, .int .i64 s.mx, .int .i64 s.coll, .int .i64 s.wid, .int .i64 s.self, .int .i64 s.slots, .int .i64 s.lev, .int .i64 s.short]) (by repeat (first | (with_reducible exact At.new _ _ _) | ((with_reducible refine At.new' _ _ _ _ ?_); simp; done) | (with_reducible assumption) | (with_reducible refine At.drew ?_) | (with_reducible refine At.alloc ?_ _) | (with_reducible apply At.upd) | (with_reducible apply At.setRow) | (with_reducible refine At.rowFar ?_ (by first | (simp; done) | (simp; omega) | omega) _) | ((with_reducible refine At.far ?_ (by first | (simp; done) | (simp; omega) | omega) _)) | (with_reducible rfl) | (simp; done))) hxw3
    have A_w3 := At.ext (g := w2.heap.size) (t := 27) (cs := #[.int .i64 x1, .int .i64 x2]) (by repeat (first | (with_reducible exact At.new _ _ _) | ((with_reducible refine At.new' _ _ _ _ ?_); simp; done) | (with_reducible assumption) | (with_reducible refine At.drew ?_) | (with_reducible refine At.alloc ?_ _) | (with_reducible apply At.upd) | (with_reducible apply At.setRow) | (with_reducible refine At.rowFar ?_ (by first | (simp; done) | (simp; omega) | omega) _) | ((with_reducible refine At.far ?_ (by first | (simp; done) | (simp; omega) | omega) _)) | (with_reducible rfl) | (simp; done))) hxw3
    clear S_w2 s_S_w2 e_S_w2 hxw3 xw2
    have s_S_w3 := S_w3.lt
    have e_S_w3 := cellsAt_at S_w3
    have s_A_w3 := A_w3.lt
    have c_A_w3_0 := A_w3.cell 0
    have f_A_w3_0 := A_w3.frozen 0
    have c_A_w3_1 := A_w3.cell 1
    have f_A_w3_1 := A_w3.frozen 1
    simp only [List.getElem?_toArray, List.getElem?_cons_zero, List.getElem?_cons_succ] at c_A_w3_0 c_A_w3_1
    go_wp2_with fail
    refine (HC3.out _).mono ?_
    rintro e w4 ⟨rfl, hxw4⟩
    have xw4 : Ext w w4 := Ext.trans (by repeat (first | exact Ext.refl _ | assumption | refine Ext.alloc ?_ _ | refine Ext.drew ?_ | refine Ext.drewN ?_ _ | refine Ext.setCell ?_ (by simp; try omega) _ | refine Ext.setRow ?_ (by simp; try omega) _)) hxw4
    have lw4 := xw4.size
    have S_w4 := At.ext (g := w.heap.size) (t := 23) (cs := #[.int .i64 s.grid, .int .i64 s.ref, .int .i64 s.stat, .int .i64 s.dyn, .int .i64 s.win, .int .i64 s.move, .int .i64 s.lim, .int .i64 s.pause, .int .i64 s.ext, .int .i64 s.mx, .int .i64 s.coll, .int .i64 s.wid, .int .i64 s.self, .int .i64 s.slots, .int .i64 s.lev, .int .i64 s.short]) (by repeat (first | (with_reducible exact At.new _ _ _) | ((with_reducible refine At.new' _ _ _ _ ?_); simp; done) | (with_reducible assumption) | (with_reducible refine At.drew ?_) | (with_reducible refine At.alloc ?_ _) | (with_reducible apply At.upd) | (with_reducible apply At.setRow) | (with_reducible refine At.rowFar ?_ (by first | (simp; done) | (simp; omega) | omega) _) | ((with_reducible refine At.far ?_ (by first | (simp; done) | (simp; omega) | omega) _)) | (with_reducible rfl) | (simp; done))) hxw4
    have A_w4 := At.ext (g := w2.heap.size) (t := 27) (cs := #[.int .i64 x1, .int .i64 x2]) (by repeat (first | (with_reducible exact At.new _ _ _) | ((with_reducible refine At.new' _ _ _ _ ?_); simp; done) | (with_reducible assumption) | (with_reducible refine At.drew ?_) | (with_reducible refine At.alloc ?_ _) | (with_reducible apply At.upd) | (with_reducible apply At.setRow) | (with_reducible refine At.rowFar ?_ (by first | (simp; done) | (simp; omega) | omega) _) | ((with_reducible refine At.far ?_ (by first | (simp; done) | (simp; omega) | omega) _)) | (with_reducible rfl) | (simp; done))) hxw4
    have B_w4 := At.ext (g := w3.heap.size) (t := 27) (cs := #[.int .i64 y1, .int .i64 y2]) (by repeat (first | (with_reducible exact At.new _ _ _) | ((with_reducible refine At.new' _ _ _ _ ?_); simp; done) | (with_reducible assumption) | (with_reducible refine At.drew ?_) | (with_reducible refine At.alloc ?_ _) | (with_reducible apply At.upd) | (with_reducible apply At.setRow) | (with_reducible refine At.rowFar ?_ (by first | (simp; done) | (simp; omega) | omega) _) | ((with_reducible refine At.far ?_ (by first | (simp; done) | (simp; omega) | omega) _)) | (with_reducible rfl) | (simp; done))) hxw4
    clear S_w3 s_S_w3 e_S_w3 A_w3 s_A_w3 c_A_w3_0 f_A_w3_0 c_A_w3_1 f_A_w3_1 hxw4 xw3
    have s_S_w4 := S_w4.lt
    have e_S_w4 := cellsAt_at S_w4
    have s_A_w4 := A_w4.lt
    have c_A_w4_0 := A_w4.cell 0
    have f_A_w4_0 := A_w4.frozen 0
    have c_A_w4_1 := A_w4.cell 1
    have f_A_w4_1 := A_w4.frozen 1
    simp only [List.getElem?_toArray, List.getElem?_cons_zero, List.getElem?_cons_succ] at c_A_w4_0 c_A_w4_1
    have s_B_w4 := B_w4.lt
    have c_B_w4_0 := B_w4.cell 0
    have f_B_w4_0 := B_w4.frozen 0
    have c_B_w4_1 := B_w4.cell 1
    have f_B_w4_1 := B_w4.frozen 1
    simp only [List.getElem?_toArray, List.getElem?_cons_zero, List.getElem?_cons_succ] at c_B_w4_0 c_B_w4_1
    go_wp2_with fail
    refine (alive_c _).mono ?_
    rintro e w5 ⟨rfl, hxw5⟩
    have xw5 : Ext w w5 := Ext.trans (by repeat (first | exact Ext.refl _ | assumption | refine Ext.alloc ?_ _ | refine Ext.drew ?_ | refine Ext.drewN ?_ _ | refine Ext.setCell ?_ (by simp; try omega) _ | refine Ext.setRow ?_ (by simp; try omega) _)) hxw5
    have lw5 := xw5.size
    go_wp2_with fail
    refine fin_ret rfl (fun K hK => ?_)
    simp [results, Try.results6, go_sem, rsat]
    try go_simp
    refine hK _ ?_
    clear hK K
    exact ⟨rfl, (by repeat (first | exact Ext.refl _ | assumption | refine Ext.alloc ?_ _ | refine Ext.drew ?_ | refine Ext.drewN ?_ _ | refine Ext.setCell ?_ (by simp; try omega) _ | refine Ext.setRow ?_ (by simp; try omega) _))⟩
  · obtain ⟨e1, e2⟩ := beqs h0
    generalize symI s = n at C0 e1 e2
    clear h0
    unfold symV symC at C0 ⊢
    have HC0 := Lib.hid C0
    clear C0
    go_enter Try.func6, Try.ntmps6
    go_wp2_with fail
    refine (HC0.out _).mono ?_
    rintro e w1 ⟨rfl, hxw1⟩
    have xw1 : Ext w w1 := Ext.trans (by repeat (first | exact Ext.refl _ | assumption | refine Ext.alloc ?_ _ | refine Ext.drew ?_ | refine Ext.drewN ?_ _ | refine Ext.setCell ?_ (by simp; try omega) _ | refine Ext.setRow ?_ (by simp; try omega) _)) hxw1
    have lw1 := xw1.size
    go_wp2_with fail
    refine (alive_c _).mono ?_
    rintro e w2 ⟨rfl, hxw2⟩
    have xw2 : Ext w w2 := Ext.trans (by repeat (first | exact Ext.refl _ | assumption | refine Ext.alloc ?_ _ | refine Ext.drew ?_ | refine Ext.drewN ?_ _ | refine Ext.setCell ?_ (by simp; try omega) _ | refine Ext.setRow ?_ (by simp; try omega) _)) hxw2
    have lw2 := xw2.size
    go_wp2_with fail
    refine fin_ret rfl (fun K hK => ?_)
    simp [results, Try.results6, go_sem, rsat]
    try go_simp
    refine hK _ ?_
    clear hK K
    exact ⟨rfl, (by repeat (first | exact Ext.refl _ | assumption | refine Ext.alloc ?_ _ | refine Ext.drew ?_ | refine Ext.drewN ?_ _ | refine Ext.setCell ?_ (by simp; try omega) _ | refine Ext.setRow ?_ (by simp; try omega) _))⟩
end Go.Proofs.Ytimgdhpddklplaa
