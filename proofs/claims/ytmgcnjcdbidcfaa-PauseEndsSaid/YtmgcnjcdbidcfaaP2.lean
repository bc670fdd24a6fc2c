/- The walks of package pause and of the reference of layer 22: Latest, Decide; light, alive of law22. No condition. -/
import Derived.Test.YtmgcnjcdbidcfaaP1
import Derived.Test.YtmgcnjcdbidcfaaR7
import Derived.Test.YtmgcnjcdbidcfaaG10
namespace Go.Proofs.Ytmgcnjcdbidcfaa
open Go.RowKit
attribute [local go_sem] Later.cell QUpon_value QUpon_enter MUpon_value
/-- A value of api.Config, read and written whole: closed words. -/
def loadCfg22 (a : Addr) : Sem Value := loadVar 58 a
theorem loadCfg22_is (a : Addr) : loadVar 58 a = loadCfg22 a := rfl
theorem run_loadCfg22 (w : World) (g : Nat) (h : (cellsAt w g).size = 8) : (loadCfg22 ⟨g, 0, none⟩).run Try.prog w = .ok (.agg (cellsAt w g)) w :=
  loadVar_ca 58 8 (fun _ => by kernel_rfl) (fun _ => by kernel_rfl) w g h
theorem run_loadCfg22_at (w : World) (g off : Nat) (h : (subAt w g off 8).size = 8) : (loadCfg22 ⟨g, off, none⟩).run Try.prog w = .ok (.agg (subAt w g off 8)) w :=
  loadVar_sub 58 8 (fun _ => by kernel_rfl) (fun _ => by kernel_rfl) w g off h
def storeCfg22 (a : Addr) (v : Value) : Sem Unit := storeVar 58 a v
theorem storeCfg22_is (a : Addr) (v : Value) : storeVar 58 a v = storeCfg22 a v := rfl
theorem run_storeCfg22 (w : World) (g : Nat) (cs : Array Value) (hc : cs.size = 8) (h : (cellsAt w g).size = 8) (h1 : cs.toList.all (·.oneCell') = true) : (storeCfg22 ⟨g, 0, none⟩ (.agg cs)).run Try.prog w = .ok () (w.setRow g cs) :=
  storeVar_ca 58 8 (fun _ => by kernel_rfl) w g cs hc h h1 (by decide)
attribute [local go_sem ↓ high] loadSym_is storeSym_is
attribute [local go_sem] run_loadSym run_loadSym_at run_storeSym one_int one_bool one_slice one_ptr one_str setRow_new setRow_past cell_ca frozen_ca cellsAt_alloc_at cellsAt_alloc_past cellsAt_drew cellsAt_later cellsAt_setCell cellsAt_set_same cellsAt_setRow_same cellsAt_setRow_far subAt_alloc subAt_drew subAt_later subAt_setCell subAt_setRow ltn_2 ltn_3 ltn_4 ltn_5

def latI (s : Sym) (t : Int) : Int := wrap64 (t + boundI s)
set_option maxRecDepth 100000 in
theorem latest_c (s : Sym) (hs : s.I) (t : Int) (w : World) : Calls Try.prog 17 #[symV s, .int .i64 t] w fun e w' => e = .returned (.int .i64 (latI s t)) ∧ Ext w w' := by
  have C := bound_c s hs
  unfold latI
  generalize boundI s = n at C ⊢
  unfold symV symC at C ⊢
  have HC := Lib.hid C
  clear C
  go_enter Try.func17, Try.ntmps17
  go_wp2_with fail
  refine (HC.out _).mono ?_
  rintro e w1 ⟨rfl, hxw1⟩
  have xw1 : Ext w w1 := Ext.trans (by repeat (first | (with_reducible exact Ext.refl _) | (with_reducible assumption) | (with_reducible refine Ext.alloc ?_ _) | (with_reducible refine Ext.drew ?_) | (with_reducible refine Ext.drewN ?_ _) | (with_reducible refine Ext.setCell ?_ (by simp; try omega) _) | (with_reducible refine Ext.setRow ?_ (by simp; try omega) _))) hxw1
  have lw1 := xw1.size
  go_wp2_with fail
  first | refine fin_ret rfl (fun K hK => ?_) | refine fin_norm rfl (fun K hK => ?_)
  simp [results, Try.results17, go_sem, rsat]
  try go_simp
  refine hK _ ?_
  clear hK K
  exact ⟨rfl, (by repeat (first | (with_reducible exact Ext.refl _) | (with_reducible assumption) | (with_reducible refine Ext.alloc ?_ _) | (with_reducible refine Ext.drew ?_) | (with_reducible refine Ext.drewN ?_ _) | (with_reducible refine Ext.setCell ?_ (by simp; try omega) _) | (with_reducible refine Ext.setRow ?_ (by simp; try omega) _)))⟩
set_option maxRecDepth 100000 in
theorem rlatest_c (s : Sym) (hs : s.I) (t : Int) (w : World) : Calls Try.prog 18 #[symV s, .int .i64 t] w fun e w' => e = .returned (.int .i64 (latI s t)) ∧ Ext w w' := by
  have C := rbound_c s hs
  unfold latI
  generalize boundI s = n at C ⊢
  unfold symV symC at C ⊢
  have HC := Lib.hid C
  clear C
  go_enter Try.func18, Try.ntmps18
  go_wp2_with fail
  refine (HC.out _).mono ?_
  rintro e w1 ⟨rfl, hxw1⟩
  have xw1 : Ext w w1 := Ext.trans (by repeat (first | (with_reducible exact Ext.refl _) | (with_reducible assumption) | (with_reducible refine Ext.alloc ?_ _) | (with_reducible refine Ext.drew ?_) | (with_reducible refine Ext.drewN ?_ _) | (with_reducible refine Ext.setCell ?_ (by simp; try omega) _) | (with_reducible refine Ext.setRow ?_ (by simp; try omega) _))) hxw1
  have lw1 := xw1.size
  go_wp2_with fail
  first | refine fin_ret rfl (fun K hK => ?_) | refine fin_norm rfl (fun K hK => ?_)
  simp [results, Try.results18, go_sem, rsat]
  try go_simp
  refine hK _ ?_
  clear hK K
  exact ⟨rfl, (by repeat (first | (with_reducible exact Ext.refl _) | (with_reducible assumption) | (with_reducible refine Ext.alloc ?_ _) | (with_reducible refine Ext.drew ?_) | (with_reducible refine Ext.drewN ?_ _) | (with_reducible refine Ext.setCell ?_ (by simp; try omega) _) | (with_reducible refine Ext.setRow ?_ (by simp; try omega) _)))⟩
def decI (mx ro lo hi p : Int) (b : Bool) : Int := if b = true then (if inB lo hi p = true then 1 else if mx ≤ ro then 4 else 3) else 2
theorem decI_bd (mx ro lo hi p : Int) (b : Bool) : 1 ≤ decI mx ro lo hi p b ∧ decI mx ro lo hi p b ≤ 4 := by
  unfold decI
  split
  · split
    · omega
    · split <;> omega
  · omega
set_option maxRecDepth 100000 in
theorem decide_c (s : Sym) (ph ro un p v od lo hi : Int) (b : Bool) (w : World) : Calls Try.prog 19 #[symV s, .agg #[.int .i64 ph, .int .i64 ro, .int .i64 un], .agg #[.int .i64 p, .int .i64 v, .int .i64 od], .bool b, .agg #[.int .i64 lo, .int .i64 hi]] w fun e w' => e = .returned (.int .i64 (decI s.mx ro lo hi p b)) ∧ Ext w w' := by
  unfold decI symV symC
  cases b
  · rw [if_neg (by decide)]
    go_enter Try.func19, Try.ntmps19
    go_wp2_with fail
    first | refine fin_ret rfl (fun K hK => ?_) | refine fin_norm rfl (fun K hK => ?_)
    simp [results, Try.results19, go_sem, rsat]
    try go_simp
    refine hK _ ?_
    clear hK K
    exact ⟨rfl, (by repeat (first | (with_reducible exact Ext.refl _) | (with_reducible assumption) | (with_reducible refine Ext.alloc ?_ _) | (with_reducible refine Ext.drew ?_) | (with_reducible refine Ext.drewN ?_ _) | (with_reducible refine Ext.setCell ?_ (by simp; try omega) _) | (with_reducible refine Ext.setRow ?_ (by simp; try omega) _)))⟩
  · rw [if_pos rfl]
    have C := in_c lo hi p
    cases hB : inB lo hi p
    · rw [hB] at C
      rw [if_neg (by decide)]
      have HC := Lib.hid C
      clear C hB
      by_cases hm : s.mx ≤ ro
      · rw [if_pos hm]
        go_enter Try.func19, Try.ntmps19
        go_wp2_with fail
        refine (HC.out _).mono ?_
        rintro e w1 ⟨rfl, hxw1⟩
        have xw1 : Ext w w1 := Ext.trans (by repeat (first | (with_reducible exact Ext.refl _) | (with_reducible assumption) | (with_reducible refine Ext.alloc ?_ _) | (with_reducible refine Ext.drew ?_) | (with_reducible refine Ext.drewN ?_ _) | (with_reducible refine Ext.setCell ?_ (by simp; try omega) _) | (with_reducible refine Ext.setRow ?_ (by simp; try omega) _))) hxw1
        have lw1 := xw1.size
        go_wp2_with fail
        first | refine fin_ret rfl (fun K hK => ?_) | refine fin_norm rfl (fun K hK => ?_)
        simp [results, Try.results19, go_sem, rsat]
        try go_simp
        refine hK _ ?_
        clear hK K
        exact ⟨rfl, (by repeat (first | (with_reducible exact Ext.refl _) | (with_reducible assumption) | (with_reducible refine Ext.alloc ?_ _) | (with_reducible refine Ext.drew ?_) | (with_reducible refine Ext.drewN ?_ _) | (with_reducible refine Ext.setCell ?_ (by simp; try omega) _) | (with_reducible refine Ext.setRow ?_ (by simp; try omega) _)))⟩
      · rw [if_neg hm]
        go_enter Try.func19, Try.ntmps19
        go_wp2_with fail
        refine (HC.out _).mono ?_
        rintro e w1 ⟨rfl, hxw1⟩
        have xw1 : Ext w w1 := Ext.trans (by repeat (first | (with_reducible exact Ext.refl _) | (with_reducible assumption) | (with_reducible refine Ext.alloc ?_ _) | (with_reducible refine Ext.drew ?_) | (with_reducible refine Ext.drewN ?_ _) | (with_reducible refine Ext.setCell ?_ (by simp; try omega) _) | (with_reducible refine Ext.setRow ?_ (by simp; try omega) _))) hxw1
        have lw1 := xw1.size
        go_wp2_with fail
        first | refine fin_ret rfl (fun K hK => ?_) | refine fin_norm rfl (fun K hK => ?_)
        simp [results, Try.results19, go_sem, rsat]
        try go_simp
        refine hK _ ?_
        clear hK K
        exact ⟨rfl, (by repeat (first | (with_reducible exact Ext.refl _) | (with_reducible assumption) | (with_reducible refine Ext.alloc ?_ _) | (with_reducible refine Ext.drew ?_) | (with_reducible refine Ext.drewN ?_ _) | (with_reducible refine Ext.setCell ?_ (by simp; try omega) _) | (with_reducible refine Ext.setRow ?_ (by simp; try omega) _)))⟩
    · rw [hB] at C
      rw [if_pos rfl]
      have HC := Lib.hid C
      clear C hB
      go_enter Try.func19, Try.ntmps19
      go_wp2_with fail
      refine (HC.out _).mono ?_
      rintro e w1 ⟨rfl, hxw1⟩
      have xw1 : Ext w w1 := Ext.trans (by repeat (first | (with_reducible exact Ext.refl _) | (with_reducible assumption) | (with_reducible refine Ext.alloc ?_ _) | (with_reducible refine Ext.drew ?_) | (with_reducible refine Ext.drewN ?_ _) | (with_reducible refine Ext.setCell ?_ (by simp; try omega) _) | (with_reducible refine Ext.setRow ?_ (by simp; try omega) _))) hxw1
      have lw1 := xw1.size
      go_wp2_with fail
      first | refine fin_ret rfl (fun K hK => ?_) | refine fin_norm rfl (fun K hK => ?_)
      simp [results, Try.results19, go_sem, rsat]
      try go_simp
      refine hK _ ?_
      clear hK K
      exact ⟨rfl, (by repeat (first | (with_reducible exact Ext.refl _) | (with_reducible assumption) | (with_reducible refine Ext.alloc ?_ _) | (with_reducible refine Ext.drew ?_) | (with_reducible refine Ext.drewN ?_ _) | (with_reducible refine Ext.setCell ?_ (by simp; try omega) _) | (with_reducible refine Ext.setRow ?_ (by simp; try omega) _)))⟩
set_option maxRecDepth 100000 in
theorem rdecide_c (s : Sym) (ph ro un p v od lo hi : Int) (b : Bool) (w : World) : Calls Try.prog 20 #[symV s, .agg #[.int .i64 ph, .int .i64 ro, .int .i64 un], .agg #[.int .i64 p, .int .i64 v, .int .i64 od], .bool b, .agg #[.int .i64 lo, .int .i64 hi]] w fun e w' => e = .returned (.int .i64 (decI s.mx ro lo hi p b)) ∧ Ext w w' := by
  unfold decI symV symC
  cases b
  · rw [if_neg (by decide)]
    go_enter Try.func20, Try.ntmps20
    go_wp2_with fail
    first | refine fin_ret rfl (fun K hK => ?_) | refine fin_norm rfl (fun K hK => ?_)
    simp [results, Try.results20, go_sem, rsat]
    try go_simp
    refine hK _ ?_
    clear hK K
    exact ⟨rfl, (by repeat (first | (with_reducible exact Ext.refl _) | (with_reducible assumption) | (with_reducible refine Ext.alloc ?_ _) | (with_reducible refine Ext.drew ?_) | (with_reducible refine Ext.drewN ?_ _) | (with_reducible refine Ext.setCell ?_ (by simp; try omega) _) | (with_reducible refine Ext.setRow ?_ (by simp; try omega) _)))⟩
  · rw [if_pos rfl]
    have C := rin_c lo hi p
    cases hB : inB lo hi p
    · rw [hB] at C
      rw [if_neg (by decide)]
      have HC := Lib.hid C
      clear C hB
      by_cases hm : s.mx ≤ ro
      · rw [if_pos hm]
        go_enter Try.func20, Try.ntmps20
        go_wp2_with fail
        refine (HC.out _).mono ?_
        rintro e w1 ⟨rfl, hxw1⟩
        have xw1 : Ext w w1 := Ext.trans (by repeat (first | (with_reducible exact Ext.refl _) | (with_reducible assumption) | (with_reducible refine Ext.alloc ?_ _) | (with_reducible refine Ext.drew ?_) | (with_reducible refine Ext.drewN ?_ _) | (with_reducible refine Ext.setCell ?_ (by simp; try omega) _) | (with_reducible refine Ext.setRow ?_ (by simp; try omega) _))) hxw1
        have lw1 := xw1.size
        have S_w1 := At.ext (g := w.heap.size) (t := 23) (cs := #[.int .i64 s.grid, .int .i64 s.ref, .int .i64 s.stat, .int .i64 s.dyn, .int .i64 s.win, .int .i64 s.move, .int .i64 s.lim, .int .i64 s.pause, .int .i64 s.ext, .int .i64 s.mx, .int .i64 s.coll, .int .i64 s.wid, .int .i64 s.self, .int .i64 s.slots, .int .i64 s.lev, .int .i64 s.short]) (by repeat (first | (with_reducible exact At.new _ _ _) | ((with_reducible refine At.new' _ _ _ _ ?_); simp; done) | (with_reducible assumption) | (with_reducible refine At.drew ?_) | (with_reducible refine At.alloc ?_ _) | (with_reducible apply At.upd) | (with_reducible apply At.setRow) | (with_reducible refine At.rowFar ?_ (by first | (simp; done) | (simp; omega) | omega) _) | ((with_reducible refine At.far ?_ (by first | (simp; done) | (simp; omega) | omega) _)) | (with_reducible rfl) | (simp; done))) hxw1
        have T_w1 := At.ext (g := w.heap.size + 1) (t := 25) (cs := #[.int .i64 ph, .int .i64 ro, .int .i64 un]) (by repeat (first | (with_reducible exact At.new _ _ _) | ((with_reducible refine At.new' _ _ _ _ ?_); simp; done) | (with_reducible assumption) | (with_reducible refine At.drew ?_) | (with_reducible refine At.alloc ?_ _) | (with_reducible apply At.upd) | (with_reducible apply At.setRow) | (with_reducible refine At.rowFar ?_ (by first | (simp; done) | (simp; omega) | omega) _) | ((with_reducible refine At.far ?_ (by first | (simp; done) | (simp; omega) | omega) _)) | (with_reducible rfl) | (simp; done))) hxw1
        clear hxw1
        have s_S_w1 := S_w1.lt
        have e_S_w1 := cellsAt_at S_w1
        have s_T_w1 := T_w1.lt
        have c_T_w1_0 := T_w1.cell 0
        have f_T_w1_0 := T_w1.frozen 0
        have c_T_w1_1 := T_w1.cell 1
        have f_T_w1_1 := T_w1.frozen 1
        have c_T_w1_2 := T_w1.cell 2
        have f_T_w1_2 := T_w1.frozen 2
        simp only [List.getElem?_toArray, List.getElem?_cons_zero, List.getElem?_cons_succ] at c_T_w1_0 c_T_w1_1 c_T_w1_2
        go_wp2_with fail
        first | refine fin_ret rfl (fun K hK => ?_) | refine fin_norm rfl (fun K hK => ?_)
        simp [results, Try.results20, go_sem, rsat]
        try go_simp
        refine hK _ ?_
        clear hK K
        exact ⟨rfl, (by repeat (first | (with_reducible exact Ext.refl _) | (with_reducible assumption) | (with_reducible refine Ext.alloc ?_ _) | (with_reducible refine Ext.drew ?_) | (with_reducible refine Ext.drewN ?_ _) | (with_reducible refine Ext.setCell ?_ (by simp; try omega) _) | (with_reducible refine Ext.setRow ?_ (by simp; try omega) _)))⟩
      · rw [if_neg hm]
        go_enter Try.func20, Try.ntmps20
        go_wp2_with fail
        refine (HC.out _).mono ?_
        rintro e w1 ⟨rfl, hxw1⟩
        have xw1 : Ext w w1 := Ext.trans (by repeat (first | (with_reducible exact Ext.refl _) | (with_reducible assumption) | (with_reducible refine Ext.alloc ?_ _) | (with_reducible refine Ext.drew ?_) | (with_reducible refine Ext.drewN ?_ _) | (with_reducible refine Ext.setCell ?_ (by simp; try omega) _) | (with_reducible refine Ext.setRow ?_ (by simp; try omega) _))) hxw1
        have lw1 := xw1.size
        have S_w1 := At.ext (g := w.heap.size) (t := 23) (cs := #[.int .i64 s.grid, .int .i64 s.ref, .int .i64 s.stat, .int .i64 s.dyn, .int .i64 s.win, .int .i64 s.move, .int .i64 s.lim, .int .i64 s.pause, .int .i64 s.ext, .int .i64 s.mx, .int .i64 s.coll, .int .i64 s.wid, .int .i64 s.self, .int .i64 s.slots, .int .i64 s.lev, .int .i64 s.short]) (by repeat (first | (with_reducible exact At.new _ _ _) | ((with_reducible refine At.new' _ _ _ _ ?_); simp; done) | (with_reducible assumption) | (with_reducible refine At.drew ?_) | (with_reducible refine At.alloc ?_ _) | (with_reducible apply At.upd) | (with_reducible apply At.setRow) | (with_reducible refine At.rowFar ?_ (by first | (simp; done) | (simp; omega) | omega) _) | ((with_reducible refine At.far ?_ (by first | (simp; done) | (simp; omega) | omega) _)) | (with_reducible rfl) | (simp; done))) hxw1
        have T_w1 := At.ext (g := w.heap.size + 1) (t := 25) (cs := #[.int .i64 ph, .int .i64 ro, .int .i64 un]) (by repeat (first | (with_reducible exact At.new _ _ _) | ((with_reducible refine At.new' _ _ _ _ ?_); simp; done) | (with_reducible assumption) | (with_reducible refine At.drew ?_) | (with_reducible refine At.alloc ?_ _) | (with_reducible apply At.upd) | (with_reducible apply At.setRow) | (with_reducible refine At.rowFar ?_ (by first | (simp; done) | (simp; omega) | omega) _) | ((with_reducible refine At.far ?_ (by first | (simp; done) | (simp; omega) | omega) _)) | (with_reducible rfl) | (simp; done))) hxw1
        clear hxw1
        have s_S_w1 := S_w1.lt
        have e_S_w1 := cellsAt_at S_w1
        have s_T_w1 := T_w1.lt
        have c_T_w1_0 := T_w1.cell 0
        have f_T_w1_0 := T_w1.frozen 0
        have c_T_w1_1 := T_w1.cell 1
        have f_T_w1_1 := T_w1.frozen 1
        have c_T_w1_2 := T_w1.cell 2
        have f_T_w1_2 := T_w1.frozen 2
        simp only [List.getElem?_toArray, List.getElem?_cons_zero, List.getElem?_cons_succ] at c_T_w1_0 c_T_w1_1 c_T_w1_2
        go_wp2_with fail
        first | refine fin_ret rfl (fun K hK => ?_) | refine fin_norm rfl (fun K hK => ?_)
        simp [results, Try.results20, go_sem, rsat]
        try go_simp
        refine hK _ ?_
        clear hK K
        exact ⟨rfl, (by repeat (first | (with_reducible exact Ext.refl _) | (with_reducible assumption) | (with_reducible refine Ext.alloc ?_ _) | (with_reducible refine Ext.drew ?_) | (with_reducible refine Ext.drewN ?_ _) | (with_reducible refine Ext.setCell ?_ (by simp; try omega) _) | (with_reducible refine Ext.setRow ?_ (by simp; try omega) _)))⟩
    · rw [hB] at C
      rw [if_pos rfl]
      have HC := Lib.hid C
      clear C hB
      go_enter Try.func20, Try.ntmps20
      go_wp2_with fail
      refine (HC.out _).mono ?_
      rintro e w1 ⟨rfl, hxw1⟩
      have xw1 : Ext w w1 := Ext.trans (by repeat (first | (with_reducible exact Ext.refl _) | (with_reducible assumption) | (with_reducible refine Ext.alloc ?_ _) | (with_reducible refine Ext.drew ?_) | (with_reducible refine Ext.drewN ?_ _) | (with_reducible refine Ext.setCell ?_ (by simp; try omega) _) | (with_reducible refine Ext.setRow ?_ (by simp; try omega) _))) hxw1
      have lw1 := xw1.size
      go_wp2_with fail
      first | refine fin_ret rfl (fun K hK => ?_) | refine fin_norm rfl (fun K hK => ?_)
      simp [results, Try.results20, go_sem, rsat]
      try go_simp
      refine hK _ ?_
      clear hK K
      exact ⟨rfl, (by repeat (first | (with_reducible exact Ext.refl _) | (with_reducible assumption) | (with_reducible refine Ext.alloc ?_ _) | (with_reducible refine Ext.drew ?_) | (with_reducible refine Ext.drewN ?_ _) | (with_reducible refine Ext.setCell ?_ (by simp; try omega) _) | (with_reducible refine Ext.setRow ?_ (by simp; try omega) _)))⟩
end Go.Proofs.Ytmgcnjcdbidcfaa
