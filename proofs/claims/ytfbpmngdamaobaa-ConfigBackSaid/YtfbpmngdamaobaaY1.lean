/- Configurations (layer 7): the cells of a symbol and of the rest, what is put of a number. No condition. -/
import Derived.Test.YtfbpmngdamaobaaZ2
import Derived.Test.YtfbpmngdamaobaaOA
namespace Go.Proofs.Ytfbpmngdamaobaa
open Go.RowKit
/-- A value of [16]config.cell, read and written whole: closed words. -/
def loadCll (a : Addr) : Sem Value := loadVar 68 a
theorem loadCll_is (a : Addr) : loadVar 68 a = loadCll a := rfl
theorem run_loadCll (w : World) (g : Nat) (h : (cellsAt w g).size = 32) : (loadCll ⟨g, 0, none⟩).run Try.prog w = .ok (.agg (cellsAt w g)) w :=
  loadVar_ca 68 32 (fun _ => by kernel_rfl) (fun _ => by kernel_rfl) w g h
theorem run_loadCll_at (w : World) (g off : Nat) (h : (subAt w g off 32).size = 32) : (loadCll ⟨g, off, none⟩).run Try.prog w = .ok (.agg (subAt w g off 32)) w :=
  loadVar_sub 68 32 (fun _ => by kernel_rfl) (fun _ => by kernel_rfl) w g off h
def storeCll (a : Addr) (v : Value) : Sem Unit := storeVar 68 a v
theorem storeCll_is (a : Addr) (v : Value) : storeVar 68 a v = storeCll a v := rfl
theorem run_storeCll (w : World) (g : Nat) (cs : Array Value) (hc : cs.size = 32) (h : (cellsAt w g).size = 32) (h1 : cs.toList.all (·.oneCell') = true) : (storeCll ⟨g, 0, none⟩ (.agg cs)).run Try.prog w = .ok () (w.setRow g cs) :=
  storeVar_ca 68 32 (fun _ => by kernel_rfl) w g cs hc h h1 (by decide)
/-- A value of [6]config.cell, read and written whole: closed words. -/
def loadCl6 (a : Addr) : Sem Value := loadVar 72 a
theorem loadCl6_is (a : Addr) : loadVar 72 a = loadCl6 a := rfl
theorem run_loadCl6 (w : World) (g : Nat) (h : (cellsAt w g).size = 12) : (loadCl6 ⟨g, 0, none⟩).run Try.prog w = .ok (.agg (cellsAt w g)) w :=
  loadVar_ca 72 12 (fun _ => by kernel_rfl) (fun _ => by kernel_rfl) w g h
theorem run_loadCl6_at (w : World) (g off : Nat) (h : (subAt w g off 12).size = 12) : (loadCl6 ⟨g, off, none⟩).run Try.prog w = .ok (.agg (subAt w g off 12)) w :=
  loadVar_sub 72 12 (fun _ => by kernel_rfl) (fun _ => by kernel_rfl) w g off h
def storeCl6 (a : Addr) (v : Value) : Sem Unit := storeVar 72 a v
theorem storeCl6_is (a : Addr) (v : Value) : storeVar 72 a v = storeCl6 a v := rfl
theorem run_storeCl6 (w : World) (g : Nat) (cs : Array Value) (hc : cs.size = 12) (h : (cellsAt w g).size = 12) (h1 : cs.toList.all (·.oneCell') = true) : (storeCl6 ⟨g, 0, none⟩ (.agg cs)).run Try.prog w = .ok () (w.setRow g cs) :=
  storeVar_ca 72 12 (fun _ => by kernel_rfl) w g cs hc h h1 (by decide)
/-- A value of config.cell, read and written whole: closed words. -/
def loadClx (a : Addr) : Sem Value := loadVar 67 a
theorem loadClx_is (a : Addr) : loadVar 67 a = loadClx a := rfl
theorem run_loadClx (w : World) (g : Nat) (h : (cellsAt w g).size = 2) : (loadClx ⟨g, 0, none⟩).run Try.prog w = .ok (.agg (cellsAt w g)) w :=
  loadVar_ca 67 2 (fun _ => by kernel_rfl) (fun _ => by kernel_rfl) w g h
theorem run_loadClx_at (w : World) (g off : Nat) (h : (subAt w g off 2).size = 2) : (loadClx ⟨g, off, none⟩).run Try.prog w = .ok (.agg (subAt w g off 2)) w :=
  loadVar_sub 67 2 (fun _ => by kernel_rfl) (fun _ => by kernel_rfl) w g off h
def storeClx (a : Addr) (v : Value) : Sem Unit := storeVar 67 a v
theorem storeClx_is (a : Addr) (v : Value) : storeVar 67 a v = storeClx a v := rfl
theorem run_storeClx (w : World) (g : Nat) (cs : Array Value) (hc : cs.size = 2) (h : (cellsAt w g).size = 2) (h1 : cs.toList.all (·.oneCell') = true) : (storeClx ⟨g, 0, none⟩ (.agg cs)).run Try.prog w = .ok () (w.setRow g cs) :=
  storeVar_ca 67 2 (fun _ => by kernel_rfl) w g cs hc h h1 (by decide)
attribute [local go_sem] Later.cell QUpon_value QUpon_enter MUpon_value
attribute [local go_sem ↓ high] loadSym_is storeSym_is loadCfg_is storeCfg_is loadCll_is storeCll_is loadCl6_is storeCl6_is loadClx_is storeClx_is
attribute [local go_sem] run_loadSym run_loadSym_at run_storeSym run_loadCfg run_loadCfg_at run_storeCfg run_loadCll run_loadCll_at run_storeCll run_loadCl6 run_loadCl6_at run_storeCl6 run_loadClx run_loadClx_at run_storeClx one_int one_bool one_slice one_ptr one_str setRow_new setRow_past cell_ca frozen_ca cellsAt_alloc_at cellsAt_alloc_past cellsAt_drew cellsAt_later cellsAt_setCell cellsAt_set_same cellsAt_setRow_same cellsAt_setRow_far subAt_alloc subAt_drew subAt_later subAt_setCell subAt_setRow ltn_2 ltn_3 ltn_4 ltn_5
/-- The cells of a symbol that lies in block g. -/
def cellsV (g : Nat) : Array Value := #[.pointer (some ⟨g, 0, none⟩), .pointer none, .pointer (some ⟨g, 1, none⟩), .pointer none, .pointer none, .pointer (some ⟨g, 2, none⟩), .pointer none, .pointer (some ⟨g, 3, none⟩), .pointer (some ⟨g, 4, none⟩), .pointer none, .pointer none, .pointer (some ⟨g, 5, none⟩), .pointer (some ⟨g, 6, none⟩), .pointer none, .pointer (some ⟨g, 7, none⟩), .pointer none, .pointer (some ⟨g, 8, none⟩), .pointer none, .pointer none, .pointer (some ⟨g, 9, none⟩), .pointer none, .pointer (some ⟨g, 10, none⟩), .pointer none, .pointer (some ⟨g, 11, none⟩), .pointer none, .pointer (some ⟨g, 12, none⟩), .pointer none, .pointer (some ⟨g, 13, none⟩), .pointer none, .pointer (some ⟨g, 14, none⟩), .pointer none, .pointer (some ⟨g, 15, none⟩)]
def cellV (g k : Nat) : Value := .agg #[(cellsV g).getD (2 * k) undef, (cellsV g).getD (2 * k + 1) undef]
/-- .. and of what stands behind a configuration's table. -/
def restV (g : Nat) : Array Value := #[.pointer (some ⟨g, 2, none⟩), .pointer none, .pointer none, .pointer (some ⟨g, 3, none⟩), .pointer none, .pointer (some ⟨g, 4, none⟩), .pointer none, .pointer (some ⟨g, 5, none⟩), .pointer (some ⟨g, 6, none⟩), .pointer none, .pointer (some ⟨g, 7, none⟩), .pointer none]
def restC (g k : Nat) : Value := .agg #[(restV g).getD (2 * k) undef, (restV g).getD (2 * k + 1) undef]
set_option maxRecDepth 100000 in
theorem fin_cell {fn : Func} {R : Ending → World → Prop} {a : Act} {w : World} {p g : Nat} {T : TypeId} {cs : Array Value} (hr : fn.results = #[.cell p T]) (hp : a.tmps.getD p undef = .pointer (some ⟨g, 0, none⟩)) (hl : (loadVar T ⟨g, 0, none⟩).run Try.prog w = .ok (.agg cs) w) (hd : a.defers = [])
    (hR : R (.returned (.agg cs)) w) : bodyPost Try.prog fn R .ret a w := by
  refine ⟨hd, .agg cs, ?_, hR⟩
  rw [Array.getD_eq_getD_getElem?] at hp
  simp [results, hr, hp, asAddr, hl]
set_option maxHeartbeats 4000000 in
theorem cells_c (g : Nat) (w : World) (hg : g < w.heap.size) : Calls Try.prog 42 #[.pointer (some ⟨g, 0, none⟩)] w fun e w' => e = .returned (.agg (cellsV g)) ∧ Ext w w' := by
  go_enter Try.func42, Try.ntmps42
  go_wp2_with fail
  refine wp_region_x 65 [0, 0, 0, 0, 0, 0, 0, 0, 0, 0, 0, 0, 0, 0, 0, 0, 0, 0, 0, 0, 0, 0, 0, 0, 0, 0, 0, 0, 0, 0, 0, 0, 0, 0, 0, 0, 0, 0, 0, 0, 0, 0, 0, 0, 0, 0, 0, 0, 0, 0, 0, 0, 0, 0, 0, 0, 0, 0, 0, 0, 0, 0, 0, 0, 0] (by kernel_rfl) (by kernel_rfl) (by kernel_rfl) ?_
  simp only [List.take_succ_cons, List.take_zero, List.drop_succ_cons, List.drop_zero]
  refine hl_pure (fun K hK => ?_)
  go_simp
  refine hK _ ?_
  clear hK K
  refine hl_pure (fun K hK => ?_)
  go_simp
  refine hK _ ?_
  clear hK K
  refine hl_pure (fun K hK => ?_)
  go_simp
  refine hK _ ?_
  clear hK K
  refine hl_pure (fun K hK => ?_)
  go_simp
  refine hK _ ?_
  clear hK K
  refine hl_pure (fun K hK => ?_)
  go_simp
  refine hK _ ?_
  clear hK K
  refine hl_pure (fun K hK => ?_)
  go_simp
  refine hK _ ?_
  clear hK K
  refine hl_pure (fun K hK => ?_)
  go_simp
  refine hK _ ?_
  clear hK K
  refine hl_pure (fun K hK => ?_)
  go_simp
  refine hK _ ?_
  clear hK K
  refine hl_pure (fun K hK => ?_)
  go_simp
  refine hK _ ?_
  clear hK K
  refine hl_pure (fun K hK => ?_)
  go_simp
  refine hK _ ?_
  clear hK K
  refine hl_pure (fun K hK => ?_)
  go_simp
  refine hK _ ?_
  clear hK K
  refine hl_pure (fun K hK => ?_)
  go_simp
  refine hK _ ?_
  clear hK K
  refine hl_pure (fun K hK => ?_)
  go_simp
  refine hK _ ?_
  clear hK K
  refine hl_pure (fun K hK => ?_)
  go_simp
  refine hK _ ?_
  clear hK K
  refine hl_pure (fun K hK => ?_)
  go_simp
  refine hK _ ?_
  clear hK K
  refine hl_pure (fun K hK => ?_)
  go_simp
  refine hK _ ?_
  clear hK K
  refine hl_pure (fun K hK => ?_)
  go_simp
  refine hK _ ?_
  clear hK K
  refine hl_pure (fun K hK => ?_)
  go_simp
  refine hK _ ?_
  clear hK K
  refine hl_pure (fun K hK => ?_)
  go_simp
  refine hK _ ?_
  clear hK K
  refine hl_pure (fun K hK => ?_)
  go_simp
  refine hK _ ?_
  clear hK K
  refine hl_pure (fun K hK => ?_)
  go_simp
  refine hK _ ?_
  clear hK K
  refine hl_pure (fun K hK => ?_)
  go_simp
  refine hK _ ?_
  clear hK K
  refine hl_pure (fun K hK => ?_)
  go_simp
  refine hK _ ?_
  clear hK K
  refine hl_pure (fun K hK => ?_)
  go_simp
  refine hK _ ?_
  clear hK K
  refine hl_pure (fun K hK => ?_)
  go_simp
  refine hK _ ?_
  clear hK K
  refine hl_pure (fun K hK => ?_)
  go_simp
  refine hK _ ?_
  clear hK K
  refine hl_pure (fun K hK => ?_)
  go_simp
  refine hK _ ?_
  clear hK K
  refine hl_pure (fun K hK => ?_)
  go_simp
  refine hK _ ?_
  clear hK K
  refine hl_pure (fun K hK => ?_)
  go_simp
  refine hK _ ?_
  clear hK K
  refine hl_pure (fun K hK => ?_)
  go_simp
  refine hK _ ?_
  clear hK K
  refine hl_pure (fun K hK => ?_)
  go_simp
  refine hK _ ?_
  clear hK K
  refine hl_pure (fun K hK => ?_)
  go_simp
  refine hK _ ?_
  clear hK K
  refine hl_pure (fun K hK => ?_)
  go_simp
  refine hK _ ?_
  clear hK K
  refine hl_pure (fun K hK => ?_)
  go_simp
  refine hK _ ?_
  clear hK K
  refine hl_pure (fun K hK => ?_)
  go_simp
  refine hK _ ?_
  clear hK K
  refine hl_pure (fun K hK => ?_)
  go_simp
  refine hK _ ?_
  clear hK K
  refine hl_pure (fun K hK => ?_)
  go_simp
  refine hK _ ?_
  clear hK K
  refine hl_pure (fun K hK => ?_)
  go_simp
  refine hK _ ?_
  clear hK K
  refine hl_pure (fun K hK => ?_)
  go_simp
  refine hK _ ?_
  clear hK K
  refine hl_pure (fun K hK => ?_)
  go_simp
  refine hK _ ?_
  clear hK K
  refine hl_pure (fun K hK => ?_)
  go_simp
  refine hK _ ?_
  clear hK K
  refine hl_pure (fun K hK => ?_)
  go_simp
  refine hK _ ?_
  clear hK K
  refine hl_pure (fun K hK => ?_)
  go_simp
  refine hK _ ?_
  clear hK K
  refine hl_pure (fun K hK => ?_)
  go_simp
  refine hK _ ?_
  clear hK K
  refine hl_pure (fun K hK => ?_)
  go_simp
  refine hK _ ?_
  clear hK K
  refine hl_pure (fun K hK => ?_)
  go_simp
  refine hK _ ?_
  clear hK K
  refine hl_pure (fun K hK => ?_)
  go_simp
  refine hK _ ?_
  clear hK K
  refine hl_pure (fun K hK => ?_)
  go_simp
  refine hK _ ?_
  clear hK K
  refine hl_pure (fun K hK => ?_)
  go_simp
  refine hK _ ?_
  clear hK K
  refine hl_pure (fun K hK => ?_)
  go_simp
  refine hK _ ?_
  clear hK K
  refine hl_pure (fun K hK => ?_)
  go_simp
  refine hK _ ?_
  clear hK K
  refine hl_pure (fun K hK => ?_)
  go_simp
  refine hK _ ?_
  clear hK K
  refine hl_pure (fun K hK => ?_)
  go_simp
  refine hK _ ?_
  clear hK K
  refine hl_pure (fun K hK => ?_)
  go_simp
  refine hK _ ?_
  clear hK K
  refine hl_pure (fun K hK => ?_)
  go_simp
  refine hK _ ?_
  clear hK K
  refine hl_pure (fun K hK => ?_)
  go_simp
  refine hK _ ?_
  clear hK K
  refine hl_pure (fun K hK => ?_)
  go_simp
  refine hK _ ?_
  clear hK K
  refine hl_pure (fun K hK => ?_)
  go_simp
  refine hK _ ?_
  clear hK K
  refine hl_pure (fun K hK => ?_)
  go_simp
  refine hK _ ?_
  clear hK K
  refine hl_pure (fun K hK => ?_)
  go_simp
  refine hK _ ?_
  clear hK K
  refine hl_pure (fun K hK => ?_)
  go_simp
  refine hK _ ?_
  clear hK K
  refine hl_pure (fun K hK => ?_)
  go_simp
  refine hK _ ?_
  clear hK K
  refine hl_pure (fun K hK => ?_)
  go_simp
  refine hK _ ?_
  clear hK K
  refine hl_pure (fun K hK => ?_)
  go_simp
  refine hK _ ?_
  clear hK K
  refine hl_pure (fun K hK => ?_)
  go_simp
  refine hK _ ?_
  clear hK K
  refine hl_nil ?_
  intro w1 hx1 K hK
  have H1 := (At.new w 68 #[.pointer none, .pointer none, .pointer none, .pointer none, .pointer none, .pointer none, .pointer none, .pointer none, .pointer none, .pointer none, .pointer none, .pointer none, .pointer none, .pointer none, .pointer none, .pointer none, .pointer none, .pointer none, .pointer none, .pointer none, .pointer none, .pointer none, .pointer none, .pointer none, .pointer none, .pointer none, .pointer none, .pointer none, .pointer none, .pointer none, .pointer none, .pointer none]).ext hx1
  have x1 : Ext w w1 := ((Ext.refl w).alloc _).trans hx1
  have e1 := cellsAt_at H1
  have s1 := H1.lt
  go_wp2_with fail
  obtain ⟨w2, hw2⟩ : ∃ W, W = w1.setRow w.heap.size (cellsV g) := ⟨_, rfl⟩
  have H2 : At w2 w.heap.size 68 (cellsV g) := by rw [hw2]; exact H1.setRow _
  have x2 : Ext w w2 := by rw [hw2]; exact x1.setRow (Nat.le_refl _) _
  unfold cellsV at hw2
  rw [← hw2]
  clear hw2 e1 s1 H1
  refine fin_cell (p := 2) (g := w.heap.size) (T := 68) rfl rfl ?_ rfl ⟨rfl, x2⟩
  have := run_loadCll w2 w.heap.size (by rw [cellsAt_at H2]; rfl)
  rw [cellsAt_at H2] at this
  exact this
theorem ixc0 (g : Nat) (w : World) : (Instr.index 68 (.agg (cellsV g)) (.int .i64 0)).run Try.prog w = .ok (cellV g 0) w := by kernel_rfl
theorem ixc1 (g : Nat) (w : World) : (Instr.index 68 (.agg (cellsV g)) (.int .i64 1)).run Try.prog w = .ok (cellV g 1) w := by kernel_rfl
theorem ixc2 (g : Nat) (w : World) : (Instr.index 68 (.agg (cellsV g)) (.int .i64 2)).run Try.prog w = .ok (cellV g 2) w := by kernel_rfl
theorem ixc3 (g : Nat) (w : World) : (Instr.index 68 (.agg (cellsV g)) (.int .i64 3)).run Try.prog w = .ok (cellV g 3) w := by kernel_rfl
theorem ixc4 (g : Nat) (w : World) : (Instr.index 68 (.agg (cellsV g)) (.int .i64 4)).run Try.prog w = .ok (cellV g 4) w := by kernel_rfl
theorem ixc5 (g : Nat) (w : World) : (Instr.index 68 (.agg (cellsV g)) (.int .i64 5)).run Try.prog w = .ok (cellV g 5) w := by kernel_rfl
theorem ixc6 (g : Nat) (w : World) : (Instr.index 68 (.agg (cellsV g)) (.int .i64 6)).run Try.prog w = .ok (cellV g 6) w := by kernel_rfl
theorem ixc7 (g : Nat) (w : World) : (Instr.index 68 (.agg (cellsV g)) (.int .i64 7)).run Try.prog w = .ok (cellV g 7) w := by kernel_rfl
theorem ixc8 (g : Nat) (w : World) : (Instr.index 68 (.agg (cellsV g)) (.int .i64 8)).run Try.prog w = .ok (cellV g 8) w := by kernel_rfl
theorem ixc9 (g : Nat) (w : World) : (Instr.index 68 (.agg (cellsV g)) (.int .i64 9)).run Try.prog w = .ok (cellV g 9) w := by kernel_rfl
theorem ixc10 (g : Nat) (w : World) : (Instr.index 68 (.agg (cellsV g)) (.int .i64 10)).run Try.prog w = .ok (cellV g 10) w := by kernel_rfl
theorem ixc11 (g : Nat) (w : World) : (Instr.index 68 (.agg (cellsV g)) (.int .i64 11)).run Try.prog w = .ok (cellV g 11) w := by kernel_rfl
theorem ixc12 (g : Nat) (w : World) : (Instr.index 68 (.agg (cellsV g)) (.int .i64 12)).run Try.prog w = .ok (cellV g 12) w := by kernel_rfl
theorem ixc13 (g : Nat) (w : World) : (Instr.index 68 (.agg (cellsV g)) (.int .i64 13)).run Try.prog w = .ok (cellV g 13) w := by kernel_rfl
theorem ixc14 (g : Nat) (w : World) : (Instr.index 68 (.agg (cellsV g)) (.int .i64 14)).run Try.prog w = .ok (cellV g 14) w := by kernel_rfl
theorem ixc15 (g : Nat) (w : World) : (Instr.index 68 (.agg (cellsV g)) (.int .i64 15)).run Try.prog w = .ok (cellV g 15) w := by kernel_rfl
theorem ixcell_c (g : Nat) (w : World) (k : Nat) (hk : k < 16) : (Instr.index 68 (.agg (cellsV g)) (.int .i64 (k : Nat))).run Try.prog w = .ok (cellV g k) w := by
  have : k = 0 ∨ k = 1 ∨ k = 2 ∨ k = 3 ∨ k = 4 ∨ k = 5 ∨ k = 6 ∨ k = 7 ∨ k = 8 ∨ k = 9 ∨ k = 10 ∨ k = 11 ∨ k = 12 ∨ k = 13 ∨ k = 14 ∨ k = 15 := by omega
  rcases this with rfl | rfl | rfl | rfl | rfl | rfl | rfl | rfl | rfl | rfl | rfl | rfl | rfl | rfl | rfl | rfl
  · exact ixc0 g w
  · exact ixc1 g w
  · exact ixc2 g w
  · exact ixc3 g w
  · exact ixc4 g w
  · exact ixc5 g w
  · exact ixc6 g w
  · exact ixc7 g w
  · exact ixc8 g w
  · exact ixc9 g w
  · exact ixc10 g w
  · exact ixc11 g w
  · exact ixc12 g w
  · exact ixc13 g w
  · exact ixc14 g w
  · exact ixc15 g w
/-- A cell: one of two pointers. -/
structure ClAt (u v : Value) (g k : Nat) : Prop where
  is : (u = .pointer (some ⟨g, k, none⟩) ∧ v = .pointer none) ∨ (u = .pointer none ∧ v = .pointer (some ⟨g, k, none⟩))
theorem get_c (u v : Value) (g k : Nat) (n : Int) (w : World) (h : ClAt u v g k) (hc : w.cell? ⟨g, k, none⟩ = some (.int .i64 n)) : Calls Try.prog 43 #[.agg #[u, v]] w fun e w' => e = .returned (.int .i64 n) ∧ Ext w w' := by
  have hg := cell_lt hc
  simp only at hg
  rcases h.is with ⟨rfl, rfl⟩ | ⟨rfl, rfl⟩
  ·
    go_enter Try.func43, Try.ntmps43
    go_wp2_with fail
    first | refine fin_ret rfl (fun K hK => ?_) | refine fin_norm rfl (fun K hK => ?_)
    simp [results, Try.results43, go_sem, rsat]
    try go_simp
    refine hK _ ?_
    clear hK K
    exact ⟨rfl, (by repeat (first | (with_reducible exact Ext.refl _) | (with_reducible assumption) | (with_reducible refine Ext.alloc ?_ _) | (with_reducible refine Ext.drew ?_) | (with_reducible refine Ext.drewN ?_ _) | (with_reducible refine Ext.setCell ?_ (by simp; try omega) _) | (with_reducible refine Ext.setRow ?_ (by simp; try omega) _)))⟩
  ·
    go_enter Try.func43, Try.ntmps43
    go_wp2_with fail
    first | refine fin_ret rfl (fun K hK => ?_) | refine fin_norm rfl (fun K hK => ?_)
    simp [results, Try.results43, go_sem, rsat]
    try go_simp
    refine hK _ ?_
    clear hK K
    exact ⟨rfl, (by repeat (first | (with_reducible exact Ext.refl _) | (with_reducible assumption) | (with_reducible refine Ext.alloc ?_ _) | (with_reducible refine Ext.drew ?_) | (with_reducible refine Ext.drewN ?_ _) | (with_reducible refine Ext.setCell ?_ (by simp; try omega) _) | (with_reducible refine Ext.setRow ?_ (by simp; try omega) _)))⟩
theorem cell_at (g : Nat) : ∀ k, k < 16 → ∃ u v, cellV g k = .agg #[u, v] ∧ ClAt u v g k := by
  intro k hk
  have : k = 0 ∨ k = 1 ∨ k = 2 ∨ k = 3 ∨ k = 4 ∨ k = 5 ∨ k = 6 ∨ k = 7 ∨ k = 8 ∨ k = 9 ∨ k = 10 ∨ k = 11 ∨ k = 12 ∨ k = 13 ∨ k = 14 ∨ k = 15 := by omega
  rcases this with rfl | rfl | rfl | rfl | rfl | rfl | rfl | rfl | rfl | rfl | rfl | rfl | rfl | rfl | rfl | rfl
  all_goals first | exact ⟨_, _, rfl, ⟨.inl ⟨rfl, rfl⟩⟩⟩ | exact ⟨_, _, rfl, ⟨.inr ⟨rfl, rfl⟩⟩⟩
end Go.Proofs.Ytfbpmngdamaobaa
