/- The walk of Plain of law07. No condition. -/
import Derived.Test.YtfbpmngdamaobaaSy
import Derived.Test.YtfbpmngdamaobaaCaOw
namespace Go.Proofs.Ytfbpmngdamaobaa
open Go.RowKit
attribute [local go_sem] Later.cell QUpon_value QUpon_enter MUpon_value
/-- A value of api.Config, read and written whole: closed words. -/
def loadCfg (a : Addr) : Sem Value := loadVar 27 a
theorem loadCfg_is (a : Addr) : loadVar 27 a = loadCfg a := rfl
theorem run_loadCfg (w : World) (g : Nat) (h : (cellsAt w g).size = 8) : (loadCfg ⟨g, 0, none⟩).run Try.prog w = .ok (.agg (cellsAt w g)) w :=
  loadVar_ca 27 8 (fun _ => by kernel_rfl) (fun _ => by kernel_rfl) w g h
theorem run_loadCfg_at (w : World) (g off : Nat) (h : (subAt w g off 8).size = 8) : (loadCfg ⟨g, off, none⟩).run Try.prog w = .ok (.agg (subAt w g off 8)) w :=
  loadVar_sub 27 8 (fun _ => by kernel_rfl) (fun _ => by kernel_rfl) w g off h
def storeCfg (a : Addr) (v : Value) : Sem Unit := storeVar 27 a v
theorem storeCfg_is (a : Addr) (v : Value) : storeVar 27 a v = storeCfg a v := rfl
theorem run_storeCfg (w : World) (g : Nat) (cs : Array Value) (hc : cs.size = 8) (h : (cellsAt w g).size = 8) (h1 : cs.toList.all (·.oneCell') = true) : (storeCfg ⟨g, 0, none⟩ (.agg cs)).run Try.prog w = .ok () (w.setRow g cs) :=
  storeVar_ca 27 8 (fun _ => by kernel_rfl) w g cs hc h h1 (by decide)
attribute [local go_sem ↓ high] loadSym_is storeSym_is loadCfg_is storeCfg_is
attribute [local go_sem] run_loadSym run_loadSym_at run_storeSym run_loadCfg run_loadCfg_at run_storeCfg one_int one_bool one_slice one_ptr one_str setRow_new setRow_past cell_ca frozen_ca cellsAt_alloc_at cellsAt_alloc_past cellsAt_drew cellsAt_later cellsAt_setCell cellsAt_set_same cellsAt_setRow_same cellsAt_setRow_far subAt_alloc subAt_drew subAt_later subAt_setCell subAt_setRow ltn_2 ltn_3 ltn_4 ltn_5

def plainS : Sym := ⟨5, 1000, 2000, 500, 20, 100, 3, 10, 5, 2, 500, 500, 1, 40, 12, 1000⟩
def symZ : Value := .agg #[.int .i64 0, .int .i64 0, .int .i64 0, .int .i64 0, .int .i64 0, .int .i64 0, .int .i64 0, .int .i64 0, .int .i64 0, .int .i64 0, .int .i64 0, .int .i64 0, .int .i64 0, .int .i64 0, .int .i64 0, .int .i64 0]
theorem symInfo : (Try.prog.info? 35).map (fun i => (i.zero, i.size, i.bytes)) = some (some symZ, 16, 128) := by kernel_rfl
def plainL : List Value := [.int .i64 5, .int .i64 1000, .int .i64 2000, .int .i64 500, .int .i64 20, .int .i64 100, .int .i64 3, .int .i64 10, .int .i64 5, .int .i64 2, .int .i64 500, .int .i64 500, .int .i64 1, .int .i64 40, .int .i64 12, .int .i64 1000]
def plains : Nat → List Value
  | 0 => []
  | n + 1 => plains n ++ plainL
def rowsC : Array Value := #[.int .i64 5, .int .i64 1, .int .i64 10, .int .i64 2, .int .i64 500, .int .i64 0]
set_option maxRecDepth 100000 in
set_option maxHeartbeats 1600000 in
theorem plain_c (n : Nat) (hn : n ≤ 20) (w : World) : Calls Try.prog 22 #[.int .i64 n] w fun e w' => ∃ v h, e = .returned (.agg #[v, .slice (some ⟨h, 0, none⟩) 3 3, .int .i64 10000, .int .i64 700, .int .i64 1300, .int .i64 2000, .int .i64 15, .int .i64 30]) ∧
    w'.ownsRow w.heap.size 35 16 v n (plains n) ∧ w.heap.size ≤ h ∧ At w' h 54 rowsC ∧ Ext w w' := by
  go_enter Try.func22, Try.ntmps22
  go_wp2_with fail
  go_loopw [5] (fun i wr => ∃ (k : Nat) (v : Value), i = .int .i64 k ∧ k ≤ n ∧ Ext w wr ∧ wr.ownsRow (w.heap.size + 2) 35 16 v k (plains k) ∧
    At wr w.heap.size 27 #[.slice none 0 0, .slice none 0 0, .int .i64 0, .int .i64 0, .int .i64 0, .int .i64 0, .int .i64 0, .int .i64 0] ∧
    At wr (w.heap.size + 1) 35 (symC plainS) ∧ At wr (w.heap.size + 1 + 1) 54 rowsC ∧
    At wr (w.heap.size + 1 + 1 + 1) 27 #[v, .slice (some ⟨w.heap.size + 1 + 1, 0, none⟩) 3 3, .int .i64 10000, .int .i64 700, .int .i64 1300, .int .i64 2000, .int .i64 15, .int .i64 30]) (fun i _ => n - (intOf i).toNat)
  case atStart => exact ⟨0, _, rfl, by omega, (by repeat (first | (with_reducible exact Ext.refl _) | (with_reducible assumption) | (with_reducible refine Ext.alloc ?_ _) | (with_reducible refine Ext.drew ?_) | (with_reducible refine Ext.drewN ?_ _) | (with_reducible refine Ext.setCell ?_ (by simp; try omega) _) | (with_reducible refine Ext.setRow ?_ (by simp; try omega) _))), World.ownsRow_nil _ _ _ _, (by repeat (first | (with_reducible exact At.new _ _ _) | ((with_reducible refine At.new' _ _ _ _ ?_); simp; done) | (with_reducible assumption) | (with_reducible refine At.drew ?_) | (with_reducible refine At.alloc ?_ _) | (with_reducible apply At.upd) | (with_reducible apply At.setRow) | (with_reducible refine At.rowFar ?_ (by first | (simp; done) | (simp; omega) | omega) _) | ((with_reducible refine At.far ?_ (by first | (simp; done) | (simp; omega) | omega) _)) | (with_reducible rfl) | (simp; done))), show At _ _ _ #[.int .i64 5, .int .i64 1000, .int .i64 2000, .int .i64 500, .int .i64 20, .int .i64 100, .int .i64 3, .int .i64 10, .int .i64 5, .int .i64 2, .int .i64 500, .int .i64 500, .int .i64 1, .int .i64 40, .int .i64 12, .int .i64 1000] from (by repeat (first | (with_reducible exact At.new _ _ _) | ((with_reducible refine At.new' _ _ _ _ ?_); simp; done) | (with_reducible assumption) | (with_reducible refine At.drew ?_) | (with_reducible refine At.alloc ?_ _) | (with_reducible apply At.upd) | (with_reducible apply At.setRow) | (with_reducible refine At.rowFar ?_ (by first | (simp; done) | (simp; omega) | omega) _) | ((with_reducible refine At.far ?_ (by first | (simp; done) | (simp; omega) | omega) _)) | (with_reducible rfl) | (simp; done))), show At _ _ _ #[.int .i64 5, .int .i64 1, .int .i64 10, .int .i64 2, .int .i64 500, .int .i64 0] from (by repeat (first | (with_reducible exact At.new _ _ _) | ((with_reducible refine At.new' _ _ _ _ ?_); simp; done) | (with_reducible assumption) | (with_reducible refine At.drew ?_) | (with_reducible refine At.alloc ?_ _) | (with_reducible apply At.upd) | (with_reducible apply At.setRow) | (with_reducible refine At.rowFar ?_ (by first | (simp; done) | (simp; omega) | omega) _) | ((with_reducible refine At.far ?_ (by first | (simp; done) | (simp; omega) | omega) _)) | (with_reducible rfl) | (simp; done))), (by repeat (first | (with_reducible exact At.new _ _ _) | ((with_reducible refine At.new' _ _ _ _ ?_); simp; done) | (with_reducible assumption) | (with_reducible refine At.drew ?_) | (with_reducible refine At.alloc ?_ _) | (with_reducible apply At.upd) | (with_reducible apply At.setRow) | (with_reducible refine At.rowFar ?_ (by first | (simp; done) | (simp; omega) | omega) _) | ((with_reducible refine At.far ?_ (by first | (simp; done) | (simp; omega) | omega) _)) | (with_reducible rfl) | (simp; done)))⟩
  case round =>
    obtain ⟨k, v, rfl, hk, hx, hown, hR, hS, hT, hC⟩ := hrel
    have eS : cellsAt wr (w.heap.size + 1) = #[.int .i64 5, .int .i64 1000, .int .i64 2000, .int .i64 500, .int .i64 20, .int .i64 100, .int .i64 3, .int .i64 10, .int .i64 5, .int .i64 2, .int .i64 500, .int .i64 500, .int .i64 1, .int .i64 40, .int .i64 12, .int .i64 1000] := cellsAt_at hS
    have eC := cellsAt_at hC
    have eR := cellsAt_at hR
    have sC := hC.lt
    have lw := hx.size
    obtain ⟨A, c, rfl⟩ := own_open hown
    by_cases hlt : k < n
    · go_wp2_with (at_builtin; refine wpList_app1 rfl _ _ 22 35 16 128 symZ rfl Try.underlying22 symInfo rfl (by decide) _ (w.heap.size + 2) _ k (plains k) rfl hown plainL rfl rfl rfl (by unfold maxLen; omega) (by omega) (by omega) ?_)
      intro v' w1 hown1 hg1
      have hC1 := At.grown (hC.alloc (.cells plainL.toArray 35)) hg1 (own_ne hown hC (by decide))
      have hR1 := At.grown (hR.alloc (.cells plainL.toArray 35)) hg1 (own_ne hown hR (by decide))
      have hT1 := At.grown (hT.alloc (.cells plainL.toArray 35)) hg1 (own_ne hown hT (by decide))
      have hS1 : At w1 (w.heap.size + 1) 35 (symC plainS) := At.grown (hS.alloc (.cells plainL.toArray 35)) hg1 (own_far hown (by omega))
      have x1 : Ext w w1 := Ext.grown (hx.alloc _) hg1 (fun j hj => by have := (hown.lt j hj).1; omega)
      clear eS eC eR
      have eC := cellsAt_at hC1
      have sC1 := hC1.lt
      obtain ⟨A', c', rfl⟩ := own_open hown1
      go_wp2_with fail
      go_roundw
      case rel => exact ⟨k + 1, _, by go_num, by omega, (by repeat (first | (with_reducible exact Ext.refl _) | (with_reducible assumption) | (with_reducible refine Ext.alloc ?_ _) | (with_reducible refine Ext.drew ?_) | (with_reducible refine Ext.drewN ?_ _) | (with_reducible refine Ext.setCell ?_ (by simp; try omega) _) | (with_reducible refine Ext.setRow ?_ (by simp; try omega) _))), own_set hown1 (own_ne hown1 hC1 (by decide)) _, (by repeat (first | (with_reducible exact At.new _ _ _) | ((with_reducible refine At.new' _ _ _ _ ?_); simp; done) | (with_reducible assumption) | (with_reducible refine At.drew ?_) | (with_reducible refine At.alloc ?_ _) | (with_reducible apply At.upd) | (with_reducible apply At.setRow) | (with_reducible refine At.rowFar ?_ (by first | (simp; done) | (simp; omega) | omega) _) | ((with_reducible refine At.far ?_ (by first | (simp; done) | (simp; omega) | omega) _)) | (with_reducible rfl) | (simp; done))), (by repeat (first | (with_reducible exact At.new _ _ _) | ((with_reducible refine At.new' _ _ _ _ ?_); simp; done) | (with_reducible assumption) | (with_reducible refine At.drew ?_) | (with_reducible refine At.alloc ?_ _) | (with_reducible apply At.upd) | (with_reducible apply At.setRow) | (with_reducible refine At.rowFar ?_ (by first | (simp; done) | (simp; omega) | omega) _) | ((with_reducible refine At.far ?_ (by first | (simp; done) | (simp; omega) | omega) _)) | (with_reducible rfl) | (simp; done))), (by repeat (first | (with_reducible exact At.new _ _ _) | ((with_reducible refine At.new' _ _ _ _ ?_); simp; done) | (with_reducible assumption) | (with_reducible refine At.drew ?_) | (with_reducible refine At.alloc ?_ _) | (with_reducible apply At.upd) | (with_reducible apply At.setRow) | (with_reducible refine At.rowFar ?_ (by first | (simp; done) | (simp; omega) | omega) _) | ((with_reducible refine At.far ?_ (by first | (simp; done) | (simp; omega) | omega) _)) | (with_reducible rfl) | (simp; done))), hC1.set 0 _⟩
      case measure => simp [intOf]; omega
    · obtain rfl : k = n := by omega
      go_wp2_with fail
      first | refine fin_ret rfl (fun K hK => ?_) | refine fin_norm rfl (fun K hK => ?_)
      simp [results, Try.results22, go_sem, rsat]
      try go_simp
      refine hK _ ?_
      clear hK K
      have hne := own_ne hown hR (by decide)
      exact ⟨_, _, rfl, own_mono (base := w.heap.size + 2) (by repeat (first | (with_reducible exact hown) | (with_reducible refine own_set ?_ hne _) | (with_reducible refine own_setRow ?_ hne _))) (by omega), by omega, (by repeat (first | (with_reducible exact At.new _ _ _) | ((with_reducible refine At.new' _ _ _ _ ?_); simp; done) | (with_reducible assumption) | (with_reducible refine At.drew ?_) | (with_reducible refine At.alloc ?_ _) | (with_reducible apply At.upd) | (with_reducible apply At.setRow) | (with_reducible refine At.rowFar ?_ (by first | (simp; done) | (simp; omega) | omega) _) | ((with_reducible refine At.far ?_ (by first | (simp; done) | (simp; omega) | omega) _)) | (with_reducible rfl) | (simp; done))), (by repeat (first | (with_reducible exact Ext.refl _) | (with_reducible assumption) | (with_reducible refine Ext.alloc ?_ _) | (with_reducible refine Ext.drew ?_) | (with_reducible refine Ext.drewN ?_ _) | (with_reducible refine Ext.setCell ?_ (by simp; try omega) _) | (with_reducible refine Ext.setRow ?_ (by simp; try omega) _)))⟩
end Go.Proofs.Ytfbpmngdamaobaa
