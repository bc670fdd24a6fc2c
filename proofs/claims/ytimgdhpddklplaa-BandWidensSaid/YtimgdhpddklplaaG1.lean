/- The walks of package band and of the reference of layer 20. No condition. -/
import Derived.Test.YtimgdhpddklplaaSm
import Derived.Test.YtimgdhpddklplaaCa
import Derived.Test.YtimgdhpddklplaaF5
import Derived.RegionTactic
import Derived.ChangeAlike
namespace Go.Proofs.Ytimgdhpddklplaa
open Go.RowKit
attribute [local go_sem] Later.cell QUpon_value QUpon_enter MUpon_value

/-- A symbol of a configuration. -/
structure Sym where
  grid : Int
  ref : Int
  stat : Int
  dyn : Int
  win : Int
  move : Int
  lim : Int
  pause : Int
  ext : Int
  mx : Int
  coll : Int
  wid : Int
  self : Int
  slots : Int
  lev : Int
  short : Int
structure Sym.I (s : Sym) : Prop where
  grid : I64 s.grid
  ref : I64 s.ref
  stat : I64 s.stat
  dyn : I64 s.dyn
  win : I64 s.win
  move : I64 s.move
  lim : I64 s.lim
  pause : I64 s.pause
  ext : I64 s.ext
  mx : I64 s.mx
  coll : I64 s.coll
  wid : I64 s.wid
  self : I64 s.self
  slots : I64 s.slots
  lev : I64 s.lev
  short : I64 s.short
def symC (s : Sym) : Array Value := #[.int .i64 s.grid, .int .i64 s.ref, .int .i64 s.stat, .int .i64 s.dyn, .int .i64 s.win, .int .i64 s.move, .int .i64 s.lim, .int .i64 s.pause, .int .i64 s.ext, .int .i64 s.mx, .int .i64 s.coll, .int .i64 s.wid, .int .i64 s.self, .int .i64 s.slots, .int .i64 s.lev, .int .i64 s.short]
def symV (s : Sym) : Value := .agg (symC s)

/-- A value of api.Symbol, read and written whole: closed words. -/
def loadSym (a : Addr) : Sem Value := loadVar 23 a
theorem loadSym_is (a : Addr) : loadVar 23 a = loadSym a := rfl
theorem run_loadSym (w : World) (g : Nat) (h : (cellsAt w g).size = 16) : (loadSym ⟨g, 0, none⟩).run Try.prog w = .ok (.agg (cellsAt w g)) w :=
  loadVar_ca 23 16 (fun _ => by kernel_rfl) (fun _ => by kernel_rfl) w g h
theorem run_loadSym_at (w : World) (g off : Nat) (h : (subAt w g off 16).size = 16) : (loadSym ⟨g, off, none⟩).run Try.prog w = .ok (.agg (subAt w g off 16)) w :=
  loadVar_sub 23 16 (fun _ => by kernel_rfl) (fun _ => by kernel_rfl) w g off h
def storeSym (a : Addr) (v : Value) : Sem Unit := storeVar 23 a v
theorem storeSym_is (a : Addr) (v : Value) : storeVar 23 a v = storeSym a v := rfl
theorem run_storeSym (w : World) (g : Nat) (cs : Array Value) (hc : cs.size = 16) (h : (cellsAt w g).size = 16) (h1 : cs.toList.all (·.oneCell') = true) : (storeSym ⟨g, 0, none⟩ (.agg cs)).run Try.prog w = .ok () (w.setRow g cs) :=
  storeVar_ca 23 16 (fun _ => by kernel_rfl) w g cs hc h h1 (by decide)
attribute [local go_sem ↓ high] loadSym_is storeSym_is
attribute [local go_sem] run_loadSym run_loadSym_at run_storeSym one_int one_bool one_slice one_ptr one_str setRow_new setRow_past cell_ca frozen_ca cellsAt_alloc_at cellsAt_alloc_past cellsAt_drew cellsAt_later cellsAt_setCell cellsAt_set_same cellsAt_setRow_same cellsAt_setRow_far subAt_alloc subAt_drew subAt_later subAt_setCell subAt_setRow ltn_2 ltn_3 ltn_4 ltn_5

def bandT (r p g : Int) : Value := if arOk r p g then .tuple #[.agg #[.int .i64 (upN (loI r p) g), .int .i64 (hiI r p / g * g)], .bool true] else .tuple #[.agg #[.int .i64 0, .int .i64 0], .bool false]

set_option maxRecDepth 100000 in
theorem baround_c (r p g : Int) (hr : I64 r) (hp : I64 p) (hg : I64 g) (w : World) : Calls Try.prog 27 #[.int .i64 r, .int .i64 p, .int .i64 g] w fun e w' => e = .returned (bandT r p g) ∧ Ext w w' := by
  have C1 := lower_c r p g hr hp hg
  have C2 := upper_c r p g hr hp hg
  unfold lowT at C1
  unfold uppT at C2
  unfold bandT
  by_cases h : arOk r p g
  · rw [if_pos h] at C1 C2 ⊢
    have HC1 := Lib.hid C1
    have HC2 := Lib.hid C2
    clear C1 C2
    go_enter Try.func27, Try.ntmps27
    go_wp2_with fail
    refine (HC1.out _).mono ?_
    rintro e w1 ⟨rfl, hxw1⟩
    have xw1 : Ext w w1 := Ext.trans (by repeat (first | exact Ext.refl _ | assumption | refine Ext.alloc ?_ _ | refine Ext.drew ?_ | refine Ext.drewN ?_ _ | refine Ext.setCell ?_ (by simp; try omega) _ | refine Ext.setRow ?_ (by simp; try omega) _)) hxw1
    have lw1 := xw1.size
    have B_w1 := At.ext (g := w.heap.size) (t := 27) (cs := #[.int .i64 0, .int .i64 0]) (by repeat (first | (with_reducible exact At.new _ _ _) | ((with_reducible refine At.new' _ _ _ _ ?_); simp; done) | (with_reducible assumption) | (with_reducible refine At.drew ?_) | (with_reducible refine At.alloc ?_ _) | (with_reducible apply At.upd) | (with_reducible apply At.setRow) | (with_reducible refine At.rowFar ?_ (by first | (simp; done) | (simp; omega) | omega) _) | ((with_reducible refine At.far ?_ (by first | (simp; done) | (simp; omega) | omega) _)) | (with_reducible rfl) | (simp; done))) hxw1
    clear hxw1
    have s_B_w1 := B_w1.lt
    have c_B_w1_0 := B_w1.cell 0
    have f_B_w1_0 := B_w1.frozen 0
    have c_B_w1_1 := B_w1.cell 1
    have f_B_w1_1 := B_w1.frozen 1
    simp only [List.getElem?_toArray, List.getElem?_cons_zero, List.getElem?_cons_succ] at c_B_w1_0 c_B_w1_1
    go_wp2_with fail
    refine (HC2.out _).mono ?_
    rintro e w2 ⟨rfl, hxw2⟩
    have xw2 : Ext w w2 := Ext.trans (by repeat (first | exact Ext.refl _ | assumption | refine Ext.alloc ?_ _ | refine Ext.drew ?_ | refine Ext.drewN ?_ _ | refine Ext.setCell ?_ (by simp; try omega) _ | refine Ext.setRow ?_ (by simp; try omega) _)) hxw2
    have lw2 := xw2.size
    have B2_w2 := At.ext (g := w.heap.size) (t := 27) (cs := #[.int .i64 (upN (loI r p) g), .int .i64 0]) (by repeat (first | (with_reducible exact At.new _ _ _) | ((with_reducible refine At.new' _ _ _ _ ?_); simp; done) | (with_reducible assumption) | (with_reducible refine At.drew ?_) | (with_reducible refine At.alloc ?_ _) | (with_reducible apply At.upd) | (with_reducible apply At.setRow) | (with_reducible refine At.rowFar ?_ (by first | (simp; done) | (simp; omega) | omega) _) | ((with_reducible refine At.far ?_ (by first | (simp; done) | (simp; omega) | omega) _)) | (with_reducible rfl) | (simp; done))) hxw2
    clear B_w1 s_B_w1 c_B_w1_0 f_B_w1_0 c_B_w1_1 f_B_w1_1 hxw2 xw1
    have s_B2_w2 := B2_w2.lt
    have c_B2_w2_0 := B2_w2.cell 0
    have f_B2_w2_0 := B2_w2.frozen 0
    have c_B2_w2_1 := B2_w2.cell 1
    have f_B2_w2_1 := B2_w2.frozen 1
    simp only [List.getElem?_toArray, List.getElem?_cons_zero, List.getElem?_cons_succ] at c_B2_w2_0 c_B2_w2_1
    go_wp2
    refine fin_ret rfl (fun K hK => ?_)
    simp [results, Try.results27, go_sem, rsat]
    try go_simp
    refine hK _ ?_
    clear hK K
    exact ⟨rfl, (by repeat (first | exact Ext.refl _ | assumption | refine Ext.alloc ?_ _ | refine Ext.drew ?_ | refine Ext.drewN ?_ _ | refine Ext.setCell ?_ (by simp; try omega) _ | refine Ext.setRow ?_ (by simp; try omega) _))⟩
  · rw [if_neg h] at C1 C2 ⊢
    have HC1 := Lib.hid C1
    clear C1 C2
    go_enter Try.func27, Try.ntmps27
    go_wp2_with fail
    refine (HC1.out _).mono ?_
    rintro e w1 ⟨rfl, hxw1⟩
    have xw1 : Ext w w1 := Ext.trans (by repeat (first | exact Ext.refl _ | assumption | refine Ext.alloc ?_ _ | refine Ext.drew ?_ | refine Ext.drewN ?_ _ | refine Ext.setCell ?_ (by simp; try omega) _ | refine Ext.setRow ?_ (by simp; try omega) _)) hxw1
    have lw1 := xw1.size
    have B_w1 := At.ext (g := w.heap.size) (t := 27) (cs := #[.int .i64 0, .int .i64 0]) (by repeat (first | (with_reducible exact At.new _ _ _) | ((with_reducible refine At.new' _ _ _ _ ?_); simp; done) | (with_reducible assumption) | (with_reducible refine At.drew ?_) | (with_reducible refine At.alloc ?_ _) | (with_reducible apply At.upd) | (with_reducible apply At.setRow) | (with_reducible refine At.rowFar ?_ (by first | (simp; done) | (simp; omega) | omega) _) | ((with_reducible refine At.far ?_ (by first | (simp; done) | (simp; omega) | omega) _)) | (with_reducible rfl) | (simp; done))) hxw1
    clear hxw1
    have s_B_w1 := B_w1.lt
    have c_B_w1_0 := B_w1.cell 0
    have f_B_w1_0 := B_w1.frozen 0
    have c_B_w1_1 := B_w1.cell 1
    have f_B_w1_1 := B_w1.frozen 1
    simp only [List.getElem?_toArray, List.getElem?_cons_zero, List.getElem?_cons_succ] at c_B_w1_0 c_B_w1_1
    go_wp2
    refine fin_ret rfl (fun K hK => ?_)
    simp [results, Try.results27, go_sem, rsat]
    try go_simp
    refine hK _ ?_
    clear hK K
    exact ⟨rfl, (by repeat (first | exact Ext.refl _ | assumption | refine Ext.alloc ?_ _ | refine Ext.drew ?_ | refine Ext.drewN ?_ _ | refine Ext.setCell ?_ (by simp; try omega) _ | refine Ext.setRow ?_ (by simp; try omega) _))⟩
set_option maxRecDepth 100000 in
theorem raround_c (r p g : Int) (hr : I64 r) (hp : I64 p) (hg : I64 g) (w : World) : Calls Try.prog 28 #[.int .i64 r, .int .i64 p, .int .i64 g] w fun e w' => e = .returned (bandT r p g) ∧ Ext w w' := by
  have C1 := rlower_c r p g hr hp hg
  have C2 := rupper_c r p g hr hp hg
  unfold lowT at C1
  unfold uppT at C2
  unfold bandT
  by_cases h : arOk r p g
  · rw [if_pos h] at C1 C2 ⊢
    have HC1 := Lib.hid C1
    have HC2 := Lib.hid C2
    clear C1 C2
    go_enter Try.func28, Try.ntmps28
    go_wp2_with fail
    refine (HC1.out _).mono ?_
    rintro e w1 ⟨rfl, hxw1⟩
    have xw1 : Ext w w1 := Ext.trans (by repeat (first | exact Ext.refl _ | assumption | refine Ext.alloc ?_ _ | refine Ext.drew ?_ | refine Ext.drewN ?_ _ | refine Ext.setCell ?_ (by simp; try omega) _ | refine Ext.setRow ?_ (by simp; try omega) _)) hxw1
    have lw1 := xw1.size
    have B_w1 := At.ext (g := w.heap.size) (t := 27) (cs := #[.int .i64 0, .int .i64 0]) (by repeat (first | (with_reducible exact At.new _ _ _) | ((with_reducible refine At.new' _ _ _ _ ?_); simp; done) | (with_reducible assumption) | (with_reducible refine At.drew ?_) | (with_reducible refine At.alloc ?_ _) | (with_reducible apply At.upd) | (with_reducible apply At.setRow) | (with_reducible refine At.rowFar ?_ (by first | (simp; done) | (simp; omega) | omega) _) | ((with_reducible refine At.far ?_ (by first | (simp; done) | (simp; omega) | omega) _)) | (with_reducible rfl) | (simp; done))) hxw1
    clear hxw1
    have s_B_w1 := B_w1.lt
    have c_B_w1_0 := B_w1.cell 0
    have f_B_w1_0 := B_w1.frozen 0
    have c_B_w1_1 := B_w1.cell 1
    have f_B_w1_1 := B_w1.frozen 1
    simp only [List.getElem?_toArray, List.getElem?_cons_zero, List.getElem?_cons_succ] at c_B_w1_0 c_B_w1_1
    go_wp2_with fail
    refine (HC2.out _).mono ?_
    rintro e w2 ⟨rfl, hxw2⟩
    have xw2 : Ext w w2 := Ext.trans (by repeat (first | exact Ext.refl _ | assumption | refine Ext.alloc ?_ _ | refine Ext.drew ?_ | refine Ext.drewN ?_ _ | refine Ext.setCell ?_ (by simp; try omega) _ | refine Ext.setRow ?_ (by simp; try omega) _)) hxw2
    have lw2 := xw2.size
    have B_w2 := At.ext (g := w.heap.size) (t := 27) (cs := #[.int .i64 0, .int .i64 0]) (by repeat (first | (with_reducible exact At.new _ _ _) | ((with_reducible refine At.new' _ _ _ _ ?_); simp; done) | (with_reducible assumption) | (with_reducible refine At.drew ?_) | (with_reducible refine At.alloc ?_ _) | (with_reducible apply At.upd) | (with_reducible apply At.setRow) | (with_reducible refine At.rowFar ?_ (by first | (simp; done) | (simp; omega) | omega) _) | ((with_reducible refine At.far ?_ (by first | (simp; done) | (simp; omega) | omega) _)) | (with_reducible rfl) | (simp; done))) hxw2
    clear B_w1 s_B_w1 c_B_w1_0 f_B_w1_0 c_B_w1_1 f_B_w1_1 hxw2 xw1
    have s_B_w2 := B_w2.lt
    have c_B_w2_0 := B_w2.cell 0
    have f_B_w2_0 := B_w2.frozen 0
    have c_B_w2_1 := B_w2.cell 1
    have f_B_w2_1 := B_w2.frozen 1
    simp only [List.getElem?_toArray, List.getElem?_cons_zero, List.getElem?_cons_succ] at c_B_w2_0 c_B_w2_1
    go_wp2
    refine fin_ret rfl (fun K hK => ?_)
    simp [results, Try.results28, go_sem, rsat]
    try go_simp
    refine hK _ ?_
    clear hK K
    exact ⟨rfl, (by repeat (first | exact Ext.refl _ | assumption | refine Ext.alloc ?_ _ | refine Ext.drew ?_ | refine Ext.drewN ?_ _ | refine Ext.setCell ?_ (by simp; try omega) _ | refine Ext.setRow ?_ (by simp; try omega) _))⟩
  · rw [if_neg h] at C1 C2 ⊢
    have HC1 := Lib.hid C1
    have HC2 := Lib.hid C2
    clear C1 C2
    go_enter Try.func28, Try.ntmps28
    go_wp2_with fail
    refine (HC1.out _).mono ?_
    rintro e w1 ⟨rfl, hxw1⟩
    have xw1 : Ext w w1 := Ext.trans (by repeat (first | exact Ext.refl _ | assumption | refine Ext.alloc ?_ _ | refine Ext.drew ?_ | refine Ext.drewN ?_ _ | refine Ext.setCell ?_ (by simp; try omega) _ | refine Ext.setRow ?_ (by simp; try omega) _)) hxw1
    have lw1 := xw1.size
    have B_w1 := At.ext (g := w.heap.size) (t := 27) (cs := #[.int .i64 0, .int .i64 0]) (by repeat (first | (with_reducible exact At.new _ _ _) | ((with_reducible refine At.new' _ _ _ _ ?_); simp; done) | (with_reducible assumption) | (with_reducible refine At.drew ?_) | (with_reducible refine At.alloc ?_ _) | (with_reducible apply At.upd) | (with_reducible apply At.setRow) | (with_reducible refine At.rowFar ?_ (by first | (simp; done) | (simp; omega) | omega) _) | ((with_reducible refine At.far ?_ (by first | (simp; done) | (simp; omega) | omega) _)) | (with_reducible rfl) | (simp; done))) hxw1
    clear hxw1
    have s_B_w1 := B_w1.lt
    have c_B_w1_0 := B_w1.cell 0
    have f_B_w1_0 := B_w1.frozen 0
    have c_B_w1_1 := B_w1.cell 1
    have f_B_w1_1 := B_w1.frozen 1
    simp only [List.getElem?_toArray, List.getElem?_cons_zero, List.getElem?_cons_succ] at c_B_w1_0 c_B_w1_1
    go_wp2_with fail
    refine (HC2.out _).mono ?_
    rintro e w2 ⟨rfl, hxw2⟩
    have xw2 : Ext w w2 := Ext.trans (by repeat (first | exact Ext.refl _ | assumption | refine Ext.alloc ?_ _ | refine Ext.drew ?_ | refine Ext.drewN ?_ _ | refine Ext.setCell ?_ (by simp; try omega) _ | refine Ext.setRow ?_ (by simp; try omega) _)) hxw2
    have lw2 := xw2.size
    have B_w2 := At.ext (g := w.heap.size) (t := 27) (cs := #[.int .i64 0, .int .i64 0]) (by repeat (first | (with_reducible exact At.new _ _ _) | ((with_reducible refine At.new' _ _ _ _ ?_); simp; done) | (with_reducible assumption) | (with_reducible refine At.drew ?_) | (with_reducible refine At.alloc ?_ _) | (with_reducible apply At.upd) | (with_reducible apply At.setRow) | (with_reducible refine At.rowFar ?_ (by first | (simp; done) | (simp; omega) | omega) _) | ((with_reducible refine At.far ?_ (by first | (simp; done) | (simp; omega) | omega) _)) | (with_reducible rfl) | (simp; done))) hxw2
    clear B_w1 s_B_w1 c_B_w1_0 f_B_w1_0 c_B_w1_1 f_B_w1_1 hxw2 xw1
    have s_B_w2 := B_w2.lt
    have c_B_w2_0 := B_w2.cell 0
    have f_B_w2_0 := B_w2.frozen 0
    have c_B_w2_1 := B_w2.cell 1
    have f_B_w2_1 := B_w2.frozen 1
    simp only [List.getElem?_toArray, List.getElem?_cons_zero, List.getElem?_cons_succ] at c_B_w2_0 c_B_w2_1
    go_wp2
    refine fin_ret rfl (fun K hK => ?_)
    simp [results, Try.results28, go_sem, rsat]
    try go_simp
    refine hK _ ?_
    clear hK K
    exact ⟨rfl, (by repeat (first | exact Ext.refl _ | assumption | refine Ext.alloc ?_ _ | refine Ext.drew ?_ | refine Ext.drewN ?_ _ | refine Ext.setCell ?_ (by simp; try omega) _ | refine Ext.setRow ?_ (by simp; try omega) _))⟩
theorem bandT_open (r p g : Int) : ∃ x y c, bandT r p g = .tuple #[.agg #[.int .i64 x, .int .i64 y], .bool c] := by unfold bandT; split <;> exact ⟨_, _, _, rfl⟩
set_option maxRecDepth 100000 in
theorem static_c (s : Sym) (hs : s.I) (f : Int) (hf : I64 f) (w : World) : Calls Try.prog 9 #[symV s, .int .i64 f] w fun e w' => e = .returned (bandT f s.stat s.grid) ∧ Ext w w' := by
  have C := baround_c f s.stat s.grid hf hs.stat hs.grid
  obtain ⟨x, y, c, hx⟩ := bandT_open f s.stat s.grid
  rw [hx] at C ⊢
  have HC := Lib.hid C
  clear C hx
  unfold symV symC
  go_enter Try.func9, Try.ntmps9
  go_wp2_with fail
  refine (HC.out _).mono ?_
  rintro e w1 ⟨rfl, hxw1⟩
  have xw1 : Ext w w1 := Ext.trans (by repeat (first | exact Ext.refl _ | assumption | refine Ext.alloc ?_ _ | refine Ext.drew ?_ | refine Ext.drewN ?_ _ | refine Ext.setCell ?_ (by simp; try omega) _ | refine Ext.setRow ?_ (by simp; try omega) _)) hxw1
  have lw1 := xw1.size
  have B_w1 := At.ext (g := w.heap.size + 1) (t := 27) (cs := #[.int .i64 0, .int .i64 0]) (by repeat (first | (with_reducible exact At.new _ _ _) | ((with_reducible refine At.new' _ _ _ _ ?_); simp; done) | (with_reducible assumption) | (with_reducible refine At.drew ?_) | (with_reducible refine At.alloc ?_ _) | (with_reducible apply At.upd) | (with_reducible apply At.setRow) | (with_reducible refine At.rowFar ?_ (by first | (simp; done) | (simp; omega) | omega) _) | ((with_reducible refine At.far ?_ (by first | (simp; done) | (simp; omega) | omega) _)) | (with_reducible rfl) | (simp; done))) hxw1
  clear hxw1
  have s_B_w1 := B_w1.lt
  have c_B_w1_0 := B_w1.cell 0
  have f_B_w1_0 := B_w1.frozen 0
  have c_B_w1_1 := B_w1.cell 1
  have f_B_w1_1 := B_w1.frozen 1
  simp only [List.getElem?_toArray, List.getElem?_cons_zero, List.getElem?_cons_succ] at c_B_w1_0 c_B_w1_1
  go_wp2
  refine fin_ret rfl (fun K hK => ?_)
  simp [results, Try.results9, go_sem, rsat]
  try go_simp
  refine hK _ ?_
  clear hK K
  exact ⟨rfl, (by repeat (first | exact Ext.refl _ | assumption | refine Ext.alloc ?_ _ | refine Ext.drew ?_ | refine Ext.drewN ?_ _ | refine Ext.setCell ?_ (by simp; try omega) _ | refine Ext.setRow ?_ (by simp; try omega) _))⟩
end Go.Proofs.Ytimgdhpddklplaa
