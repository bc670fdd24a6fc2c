/- Law ConfigReads. No condition. -/
import Derived.Test.YtfbpmngdamaobaaYG
import Derived.Test.YtfbpmngdamaobaaY6
import Derived.Test.YtfbpmngdamaobaaL07
import Derived.Test.YtfbpmngdamaobaaSb
namespace Go.Proofs.Ytfbpmngdamaobaa
open Go.RowKit
attribute [local go_sem] Later.cell QUpon_value QUpon_enter MUpon_value
attribute [local go_sem ↓ high] loadSym_is storeSym_is loadCfg_is storeCfg_is
attribute [local go_sem] run_loadSym run_loadSym_at run_storeSym run_loadCfg run_loadCfg_at run_storeCfg one_int one_bool one_slice one_ptr one_str setRow_new setRow_past cell_ca frozen_ca cellsAt_alloc_at cellsAt_alloc_past cellsAt_drew cellsAt_later cellsAt_setCell cellsAt_set_same cellsAt_setRow_same cellsAt_setRow_far subAt_alloc subAt_drew subAt_later subAt_setCell subAt_setRow ltn_2 ltn_3 ltn_4 ltn_5
theorem sameB_of {x y : Cfg} (hl : x.l = y.l) (ht : x.t = y.t) (hr : restN x = restN y) : sameB x y = true := by
  unfold restN at hr
  simp only [List.cons.injEq, and_true] at hr
  obtain ⟨h1, h2, h3, h4, h5, h6⟩ := hr
  unfold sameB
  rw [(listEq_iff (fun a b => eqS_iff)).2 hl, (listEq_iff (fun a b => eqR_iff)).2 ht, h1, h2, h3, h4, h5, h6]
  simp
set_option maxHeartbeats 4000000 in
set_option maxRecDepth 100000 in
theorem configreads_c (b : Bs) (w : World) (h : b.At w) : Calls Try.prog 5 #[b.v] w fun e w' => e = .returned (.bool true) ∧ Ext w w' := by
  unfold Bs.v
  have hlm : b.xs.length ≤ 9223372036854775807 := by have := h.len; unfold maxLen at this; omega
  have hcm : b.c ≤ 9223372036854775807 := by have := h.max; unfold maxLen at this; omega
  by_cases hl : 1500 < b.xs.length
  · have hli : (1500 : Int) < (b.xs.length : Int) := by omega
    go_enter Try.func5, Try.ntmps5
    go_wp2_with fail
    refine (alive_c7 _).mono ?_
    rintro e w1 ⟨rfl, hxw1⟩
    go_wp2_with fail
    first | refine fin_ret rfl (fun K hK => ?_) | refine fin_norm rfl (fun K hK => ?_)
    simp [results, Try.results5, go_sem, rsat]
    try go_simp
    refine hK _ ?_
    clear hK K
    exact ⟨rfl, hxw1⟩
  · have hli : ¬ (1500 : Int) < (b.xs.length : Int) := by omega
    have C1 := Lib.hid (fun W (hw : Ext w W) => cread_c b.A b.c b.xs h.byt (by omega) W (h.src.ext hw))
    have C2 := Lib.hid (fun W (hw : Ext w W) => tread_c b.A b.c b.xs h.byt (by omega) h.le hcm W (h.src.ext hw))
    go_enter Try.func5, Try.ntmps5
    go_wp2_with fail
    refine (C1.out _ (Ext.refl _)).mono ?_
    rintro e w1 ⟨hxw1, x, rfl, hX, xl, xt, xr⟩
    have HL := Lib.hid xl
    have HT := Lib.hid xt
    have HR := Lib.hid xr
    clear xl xt xr C1
    go_wp2_with fail
    refine (C2.out _ (hxw1.alloc _)).mono ?_
    rintro e w2 ⟨hxw2, y, rfl, hY, yl, yt, yr⟩
    have C3 := fun W (hw : Ext w2 W) => rsame_c x y W ((hX.ext (Ext.trans ((Ext.refl w1).alloc _) hxw2)).ext hw) (hY.ext hw)
    rw [sameB_of (HL.out.trans yl.symm) (HT.out.trans yt.symm) (HR.out.trans yr.symm)] at C3
    have C3 := Lib.hid C3
    have K1 := (At.new w1 27 #[.slice x.A x.l.length x.c, .slice x.B x.t.length x.d, .int .i64 x.ix, .int .i64 x.f1, .int .i64 x.f2, .int .i64 x.f3, .int .i64 x.h1, .int .i64 x.h2]).ext hxw2
    have hx2 : Ext w w2 := (hxw1.alloc _).trans hxw2
    clear HL HT HR yl yt yr hX hY C2 hxw1
    generalize (readS b.xs).2 = r at *
    have hrr : (r == r) = true := by simp
    have e1 := cellsAt_at K1
    have s1 := K1.lt
    go_wp2_with fail
    refine (C3.out _ ((Ext.refl w2).alloc _)).mono ?_
    rintro e w3 ⟨rfl, hxw3⟩
    go_wp2_with fail
    refine (alive_c7 _).mono ?_
    rintro e w4 ⟨rfl, hxw4⟩
    go_wp2_with fail
    first | refine fin_ret rfl (fun K hK => ?_) | refine fin_norm rfl (fun K hK => ?_)
    simp [results, Try.results5, go_sem, rsat]
    try go_simp
    refine hK _ ?_
    clear hK K
    exact ⟨rfl, ((hx2.alloc _).trans hxw3).trans hxw4⟩
end Go.Proofs.Ytfbpmngdamaobaa
