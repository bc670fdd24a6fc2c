/- Steps (layer 29): as they come in; which are right; their bytes. No condition. -/
import Derived.Test.YthfomohophmbaaaSb
import Derived.Test.YthfomohophmbaaaR2
import Derived.Test.YthfomohophmbaaaL03
import Derived.Test.YthfomohophmbaaaO4
import Derived.Test.YthfomohophmbaaaRs
/- Steps of a script, as they come in (api.Step). No condition. -/
namespace Go.Proofs.Ythfomohophmbaaa
open Go.RowKit Go.WideShapes Go.ChangeShapes Go.Deep Go.Joins
/-- A value of api.Step, read and written whole: closed words. -/
def loadStp (a : Addr) : Sem Value := loadVar 31 a
theorem loadStp_is (a : Addr) : loadVar 31 a = loadStp a := rfl
theorem run_loadStp (w : World) (g : Nat) (h : (cellsAt w g).size = 4) : (loadStp ⟨g, 0, none⟩).run Try.prog w = .ok (.agg (cellsAt w g)) w :=
  loadVar_ca 31 4 (fun _ => by kernel_rfl) (fun _ => by kernel_rfl) w g h
theorem run_loadStp_at (w : World) (g off : Nat) (h : (subAt w g off 4).size = 4) : (loadStp ⟨g, off, none⟩).run Try.prog w = .ok (.agg (subAt w g off 4)) w :=
  loadVar_sub 31 4 (fun _ => by kernel_rfl) (fun _ => by kernel_rfl) w g off h
def storeStp (a : Addr) (v : Value) : Sem Unit := storeVar 31 a v
theorem storeStp_is (a : Addr) (v : Value) : storeVar 31 a v = storeStp a v := rfl
theorem run_storeStp (w : World) (g : Nat) (cs : Array Value) (hc : cs.size = 4) (h : (cellsAt w g).size = 4) (h1 : cs.toList.all (·.oneCell') = true) : (storeStp ⟨g, 0, none⟩ (.agg cs)).run Try.prog w = .ok () (w.setRow g cs) :=
  storeVar_ca 31 4 (fun _ => by kernel_rfl) w g cs hc h h1 (by decide)
attribute [local go_sem] Later.cell QUpon_value QUpon_enter MUpon_value run_eql_slice_nil
attribute [local go_sem ↓ high] loadStp_is storeStp_is loadPrt_is storePrt_is
attribute [local go_sem] run_loadStp run_loadStp_at run_storeStp run_loadPrt run_loadPrt_at run_storePrt one_int one_bool one_slice one_ptr one_str setRow_new setRow_past cell_ca frozen_ca cellsAt_alloc_at cellsAt_alloc_past cellsAt_drew cellsAt_later cellsAt_setCell cellsAt_set_same cellsAt_setRow_same cellsAt_setRow_far subAt_alloc subAt_drew subAt_later subAt_setCell subAt_setRow ltn_2 ltn_3 ltn_4 ltn_5
structure Sp where
  kind : Int
  sym : Int
  n : Int
  raw : Bs
structure Sp.Ok (p : Sp) (w : World) : Prop where
  kind : I64 p.kind
  sym : I64 p.sym
  n : I64 p.n
  raw : p.raw.At w
def Sp.cells (p : Sp) : List Value := [.int .i64 p.kind, .int .i64 p.sym, .int .i64 p.n, p.raw.v]
instance : Inhabited Sp := ⟨⟨0, 0, 0, ⟨none, 0, []⟩⟩⟩
structure Sts where
  A : Option Addr
  c : Nat
  l : List Sp
def Sts.v (x : Sts) : Value := .slice x.A x.l.length x.c
structure Sts.At (x : Sts) (w : World) : Prop where
  le : x.l.length ≤ x.c
  max : x.c ≤ maxLen
  src : Src w 4 x.A x.l.length (x.l.flatMap Sp.cells)
  ok : ∀ p ∈ x.l, p.Ok w
theorem Bs.At.ext {b : Bs} {w w' : World} (h : b.At w) (hx : Ext w w') : b.At w' := ⟨h.le, h.max, h.src.ext hx, h.byt⟩
theorem Sp.Ok.ext {p : Sp} {w w' : World} (h : p.Ok w) (hx : Ext w w') : p.Ok w' := ⟨h.kind, h.sym, h.n, h.raw.ext hx⟩
theorem Sts.At.ext {x : Sts} {w w' : World} (h : x.At w) (hx : Ext w w') : x.At w' := ⟨h.le, h.max, h.src.ext hx, fun p hp => (h.ok p hp).ext hx⟩
/-- The cells of one that comes in. -/
theorem Sts.At.cell {x : Sts} {w : World} (h : x.At w) (h0 : 0 < x.l.length) : ∃ b off, x.A = some ⟨b, off, none⟩ ∧ b < w.heap.size ∧ ∀ (i : Nat) (hi : i < x.l.length) (r : Nat), r < 4 → w.cell? ⟨b, off + (i * 4 + r), none⟩ = (x.l[i].cells)[r]? := by
  obtain ⟨b, off, hA, hb, hc⟩ := h.src.lt h0 (by decide)
  refine ⟨b, off, hA, hb, fun i hi r hr => ?_⟩
  rw [hc (i * 4 + r) (by omega), flat_get Sp.cells 4 (fun _ => rfl) _ i r hi hr]
/-- .. one read whole. -/
theorem Sts.At.elem {x : Sts} {w : World} (h : x.At w) (i : Nat) (hi : i < x.l.length) : ∃ b off, x.A = some ⟨b, off, none⟩ ∧ b < w.heap.size ∧ subAt w b (off + i * 4) 4 = (x.l[i].cells).toArray := by
  obtain ⟨b, off, hA, hb, hc⟩ := h.cell (by omega)
  refine ⟨b, off, hA, hb, subAt_is rfl (fun r hr => ?_)⟩
  rw [Nat.add_assoc, hc i hi r hr]
section
variable {H : Type} {enc : TypeId × Value → H} {w : World}
theorem trod_step {fuel : Nat} {cs : List Value} {x : DataW H × List MemPlace} (h : DataW.trod enc Try.prog w 0 (fun _ => true) true fuel 31 cs = some x) : ∃ p : Sp, cs = p.cells ∧ p.Ok w := by
  obtain ⟨ys, n, _, _, hlen, hyl, hg⟩ := DataW.trod_struct Try.underlying31 h
  have hl : cs.length = 4 := by rw [hlen]; kernel_rfl
  have hy : ys.length = 4 := hyl
  match cs, ys, hl, hy with
  | [c0, c1, c2, c3], [y0, y1, y2, y3], _, _ =>
    have g0 : DataW.trod enc Try.prog w 0 (fun _ => true) true n 3 [c0] = some y0 := hg 0 _ rfl
    have g1 : DataW.trod enc Try.prog w 0 (fun _ => true) true n 3 [c1] = some y1 := hg 1 _ rfl
    have g2 : DataW.trod enc Try.prog w 0 (fun _ => true) true n 2 [c2] = some y2 := hg 2 _ rfl
    have g3 : DataW.trod enc Try.prog w 0 (fun _ => true) true n 25 [c3] = some y3 := hg 3 _ rfl
    obtain ⟨a0, e0, _, w0⟩ := DataW.trod_int Try.underlying3 g0
    obtain ⟨a1, e1, _, w1⟩ := DataW.trod_int Try.underlying3 g1
    obtain ⟨a2, e2, _, w2⟩ := DataW.trod_int Try.underlying2 g2
    obtain ⟨b, e3, h3⟩ := trod_bytes g3
    injection e0 with e0
    injection e1 with e1
    injection e2 with e2
    injection e3 with e3
    subst e0 e1 e2 e3
    exact ⟨⟨a0, a1, a2, b⟩, rfl, ⟨I64.of_wf w0, I64.of_wf w1, I64.of_wf w2, h3⟩⟩
theorem open_sapiStep {r : Reach} {b0 : Nat} {v : Value} {d : DataW H} {p : List MemPlace} (hv : Value.okWide Try.prog w r b0 22 v) (h : DataW.Trod enc Try.prog w 0 (fun _ => true) true 22 v d p) (hlt : ∀ x ∈ p, x.block < w.heap.size) : ∃ x : Sts, v = x.v ∧ x.At w := by
  obtain ⟨a, len, cap, rfl⟩ := okWide_slice Try.underlying22 hv
  obtain ⟨fuel, hf⟩ := h
  rcases open_slice Try.underlying22 hf with ⟨hcs, _⟩ | ⟨a, l', c', m, n, D, Pl, hcs, _, hl, hm, hmm, _, hx⟩
  · simp [Value.cells] at hcs
    obtain ⟨rfl, rfl, rfl⟩ := hcs
    exact ⟨⟨none, 0, []⟩, rfl, Nat.le_refl _, Nat.zero_le _, ⟨rfl, fun h0 => absurd h0 (by decide)⟩, by simp⟩
  · simp [Value.cells] at hcs
    obtain ⟨rfl, rfl, rfl⟩ := hcs
    have hlm : len ≤ m := by rw [hmm]; simpa using hl
    have hC : Try.prog.cellsOf 31 = 4 := by kernel_rfl
    obtain ⟨X, hX⟩ := choose_lt (α := Sp) (n := len) (p := fun i q => (∀ r, r < 4 → w.cell? (a.add (i * 4 + r)) = q.cells[r]?) ∧ q.Ok w) (fun i hi => by
      obtain ⟨cs', h1, h2⟩ := hx i (by omega)
      obtain ⟨q, rfl, hq⟩ := trod_step h2
      obtain ⟨_, _, h3⟩ := World.cells?_some h1
      rw [hC] at h3
      refine ⟨q, fun r hr => ?_, hq⟩
      have := h3 r hr
      rwa [add_add] at this)
    have hln : ((List.range len).map X).length = len := by simp
    refine ⟨⟨some a, cap, (List.range len).map X⟩, by unfold Sts.v; rw [hln], by rw [hln]; exact hl, hm, ⟨flat_len Sp.cells 4 (fun _ => rfl) _, fun h0 => ⟨a, rfl, fun j u hj => ?_⟩⟩, fun q hq => ?_⟩
    · have hjl := (List.getElem?_eq_some_iff.1 hj).1
      rw [flat_len Sp.cells 4 (fun _ => rfl), hln] at hjl
      have hi : j / 4 < len := by omega
      have h1 := flat_get Sp.cells 4 (fun _ => rfl) ((List.range len).map X) (j / 4) (j % 4) (by rw [hln]; exact hi) (by omega)
      rw [show j / 4 * 4 + j % 4 = j by omega] at h1
      rw [h1] at hj
      have h2 := (hX (j / 4) hi).1 (j % 4) (by omega)
      rw [show j / 4 * 4 + j % 4 = j by omega] at h2
      rw [h2, ← hj]
      simp
    · obtain ⟨i, hi, rfl⟩ := List.mem_map.1 hq
      exact (hX i (List.mem_range.1 hi)).2
end
end Go.Proofs.Ythfomohophmbaaa
/- Steps (layer 29): which are right, and a step's bytes. No condition. -/
namespace Go.Proofs.Ythfomohophmbaaa
open Go.RowKit
attribute [local go_sem] Later.cell QUpon_value QUpon_enter MUpon_value run_eql_slice_nil
attribute [local go_sem ↓ high] loadStp_is storeStp_is
attribute [local go_sem] run_loadStp run_loadStp_at run_storeStp one_int one_bool one_slice one_ptr one_str setRow_new setRow_past cell_ca frozen_ca cellsAt_alloc_at cellsAt_alloc_past cellsAt_drew cellsAt_later cellsAt_setCell cellsAt_set_same cellsAt_setRow_same cellsAt_setRow_far subAt_alloc subAt_drew subAt_later subAt_setCell subAt_setRow ltn_2 ltn_3 ltn_4 ltn_5
/-- Which steps are right. -/
def rightS (k s n : Int) (len : Nat) : Bool := if k = 1 then decide (s = 0 ∧ n = 0 ∧ len ≤ 64) else if k = 2 ∨ k = 3 then decide (s = 0 ∧ len = 0) else if k = 4 then decide (0 ≤ s ∧ s ≤ 255 ∧ len = 0) else false
def formS (k s n : Int) (xs : List Int) : List Int := if k = 1 then k :: (numB xs.length ++ xs) else if k = 4 then k :: s :: intB n else k :: intB n
theorem natz {n : Nat} : ((n : Int) == 0) = decide (n = 0) := by
  by_cases h : n = 0
  · simp [h]
  · rw [decide_eq_false h]; exact beq_eq_false_iff_ne.2 (by omega)
set_option maxHeartbeats 4000000 in
set_option maxRecDepth 100000 in
theorem sright_c (k s n : Int) (A : Option Addr) (c m : Nat) (w : World) : Calls Try.prog 11 #[.agg #[.int .i64 k, .int .i64 s, .int .i64 n, .slice A m c]] w fun e w' => e = .returned (.bool (rightS k s n m)) ∧ Ext w w' := by
  have hz : ((m : Int) == 0) = decide (m = 0) := natz
  obtain ⟨z, hz2⟩ : ∃ z, z = decide (m = 0) := ⟨_, rfl⟩
  rw [← hz2] at hz
  by_cases k1 : k = 1
  · subst k1
    have hR : rightS 1 s n m = ((s == 0) && ((n == 0) && decide (m ≤ 64))) := by
      unfold rightS; rw [if_pos rfl]; rw [Bool.eq_iff_iff]; simp
    rw [hR]
    clear hR hz2
    go_enter Try.func11, Try.ntmps11
    go_wp2_with fail
    all_goals
      first | refine fin_ret rfl (fun K hK => ?_) | refine fin_norm rfl (fun K hK => ?_)
      simp [results, Try.results11, go_sem, rsat]
      try go_simp
      refine hK _ ?_
      clear hK K
      exact ⟨by simp [*]; try omega, (by repeat (first | (with_reducible exact Ext.refl _) | (with_reducible assumption) | (with_reducible refine Ext.alloc ?_ _) | (with_reducible refine Ext.drew ?_) | (with_reducible refine Ext.drewN ?_ _) | (with_reducible refine Ext.setCell ?_ (by simp; try omega) _) | (with_reducible refine Ext.setRow ?_ (by simp; try omega) _)))⟩
  by_cases k23 : k = 2 ∨ k = 3
  · have hR : rightS k s n m = (z && (s == 0)) := by
      unfold rightS; rw [if_neg k1, if_pos k23, hz2]; rw [Bool.eq_iff_iff]; simp [and_comm]
    rw [hR]
    clear hR hz2
    cases z
    · rcases k23 with rfl | rfl
      ·
        go_enter Try.func11, Try.ntmps11
        go_wp2_with fail
        all_goals
          first | refine fin_ret rfl (fun K hK => ?_) | refine fin_norm rfl (fun K hK => ?_)
          simp [results, Try.results11, go_sem, rsat]
          try go_simp
          refine hK _ ?_
          clear hK K
          exact ⟨by simp [*], (by repeat (first | (with_reducible exact Ext.refl _) | (with_reducible assumption) | (with_reducible refine Ext.alloc ?_ _) | (with_reducible refine Ext.drew ?_) | (with_reducible refine Ext.drewN ?_ _) | (with_reducible refine Ext.setCell ?_ (by simp; try omega) _) | (with_reducible refine Ext.setRow ?_ (by simp; try omega) _)))⟩
      ·
        go_enter Try.func11, Try.ntmps11
        go_wp2_with fail
        all_goals
          first | refine fin_ret rfl (fun K hK => ?_) | refine fin_norm rfl (fun K hK => ?_)
          simp [results, Try.results11, go_sem, rsat]
          try go_simp
          refine hK _ ?_
          clear hK K
          exact ⟨by simp [*], (by repeat (first | (with_reducible exact Ext.refl _) | (with_reducible assumption) | (with_reducible refine Ext.alloc ?_ _) | (with_reducible refine Ext.drew ?_) | (with_reducible refine Ext.drewN ?_ _) | (with_reducible refine Ext.setCell ?_ (by simp; try omega) _) | (with_reducible refine Ext.setRow ?_ (by simp; try omega) _)))⟩
    · rcases k23 with rfl | rfl
      ·
        go_enter Try.func11, Try.ntmps11
        go_wp2_with fail
        all_goals
          first | refine fin_ret rfl (fun K hK => ?_) | refine fin_norm rfl (fun K hK => ?_)
          simp [results, Try.results11, go_sem, rsat]
          try go_simp
          refine hK _ ?_
          clear hK K
          exact ⟨by simp [*], (by repeat (first | (with_reducible exact Ext.refl _) | (with_reducible assumption) | (with_reducible refine Ext.alloc ?_ _) | (with_reducible refine Ext.drew ?_) | (with_reducible refine Ext.drewN ?_ _) | (with_reducible refine Ext.setCell ?_ (by simp; try omega) _) | (with_reducible refine Ext.setRow ?_ (by simp; try omega) _)))⟩
      ·
        go_enter Try.func11, Try.ntmps11
        go_wp2_with fail
        all_goals
          first | refine fin_ret rfl (fun K hK => ?_) | refine fin_norm rfl (fun K hK => ?_)
          simp [results, Try.results11, go_sem, rsat]
          try go_simp
          refine hK _ ?_
          clear hK K
          exact ⟨by simp [*], (by repeat (first | (with_reducible exact Ext.refl _) | (with_reducible assumption) | (with_reducible refine Ext.alloc ?_ _) | (with_reducible refine Ext.drew ?_) | (with_reducible refine Ext.drewN ?_ _) | (with_reducible refine Ext.setCell ?_ (by simp; try omega) _) | (with_reducible refine Ext.setRow ?_ (by simp; try omega) _)))⟩
  by_cases k4 : k = 4
  · subst k4
    have hR : rightS 4 s n m = (z && (decide (0 ≤ s) && decide (s ≤ 255))) := by
      unfold rightS; rw [if_neg k1, if_neg k23, if_pos rfl, hz2]; rw [Bool.eq_iff_iff]; simp [and_comm, and_assoc]
    rw [hR]
    clear hR hz2
    cases z
    ·
      go_enter Try.func11, Try.ntmps11
      go_wp2_with fail
      all_goals
        first | refine fin_ret rfl (fun K hK => ?_) | refine fin_norm rfl (fun K hK => ?_)
        simp [results, Try.results11, go_sem, rsat]
        try go_simp
        refine hK _ ?_
        clear hK K
        exact ⟨by simp [*]; try omega, (by repeat (first | (with_reducible exact Ext.refl _) | (with_reducible assumption) | (with_reducible refine Ext.alloc ?_ _) | (with_reducible refine Ext.drew ?_) | (with_reducible refine Ext.drewN ?_ _) | (with_reducible refine Ext.setCell ?_ (by simp; try omega) _) | (with_reducible refine Ext.setRow ?_ (by simp; try omega) _)))⟩
    ·
      go_enter Try.func11, Try.ntmps11
      go_wp2_with fail
      all_goals
        first | refine fin_ret rfl (fun K hK => ?_) | refine fin_norm rfl (fun K hK => ?_)
        simp [results, Try.results11, go_sem, rsat]
        try go_simp
        refine hK _ ?_
        clear hK K
        exact ⟨by simp [*]; try omega, (by repeat (first | (with_reducible exact Ext.refl _) | (with_reducible assumption) | (with_reducible refine Ext.alloc ?_ _) | (with_reducible refine Ext.drew ?_) | (with_reducible refine Ext.drewN ?_ _) | (with_reducible refine Ext.setCell ?_ (by simp; try omega) _) | (with_reducible refine Ext.setRow ?_ (by simp; try omega) _)))⟩
  · have hR : rightS k s n m = false := by
      unfold rightS; rw [if_neg k1, if_neg k23, if_neg k4]
    rw [hR]
    have q1 : (k == 1) = false := beq_eq_false_iff_ne.2 k1
    have q2 : (k == 2) = false := beq_eq_false_iff_ne.2 (fun h => k23 (.inl h))
    have q3 : (k == 3) = false := beq_eq_false_iff_ne.2 (fun h => k23 (.inr h))
    have q4 : (k == 4) = false := beq_eq_false_iff_ne.2 k4
    clear hR hz2 k1 k23 k4
    go_enter Try.func11, Try.ntmps11
    go_wp2_with fail
    all_goals
      first | refine fin_ret rfl (fun K hK => ?_) | refine fin_norm rfl (fun K hK => ?_)
      simp [results, Try.results11, go_sem, rsat]
      try go_simp
      refine hK _ ?_
      clear hK K
      exact ⟨rfl, (by repeat (first | (with_reducible exact Ext.refl _) | (with_reducible assumption) | (with_reducible refine Ext.alloc ?_ _) | (with_reducible refine Ext.drew ?_) | (with_reducible refine Ext.drewN ?_ _) | (with_reducible refine Ext.setCell ?_ (by simp; try omega) _) | (with_reducible refine Ext.setRow ?_ (by simp; try omega) _)))⟩
set_option maxHeartbeats 4000000 in
set_option maxRecDepth 100000 in
theorem rright29_c (k s n : Int) (A : Option Addr) (c m : Nat) (w : World) : Calls Try.prog 12 #[.agg #[.int .i64 k, .int .i64 s, .int .i64 n, .slice A m c]] w fun e w' => e = .returned (.bool (rightS k s n m)) ∧ Ext w w' := by
  have hz : ((m : Int) == 0) = decide (m = 0) := natz
  obtain ⟨z, hz2⟩ : ∃ z, z = decide (m = 0) := ⟨_, rfl⟩
  rw [← hz2] at hz
  by_cases k1 : k = 1
  · subst k1
    have hR : rightS 1 s n m = ((s == 0) && ((n == 0) && decide (m ≤ 64))) := by
      unfold rightS; rw [if_pos rfl]; rw [Bool.eq_iff_iff]; simp
    rw [hR]
    clear hR hz2
    go_enter Try.func12, Try.ntmps12
    go_wp2_with fail
    all_goals
      first | refine fin_ret rfl (fun K hK => ?_) | refine fin_norm rfl (fun K hK => ?_)
      simp [results, Try.results12, go_sem, rsat]
      try go_simp
      refine hK _ ?_
      clear hK K
      exact ⟨by simp [*]; try omega, (by repeat (first | (with_reducible exact Ext.refl _) | (with_reducible assumption) | (with_reducible refine Ext.alloc ?_ _) | (with_reducible refine Ext.drew ?_) | (with_reducible refine Ext.drewN ?_ _) | (with_reducible refine Ext.setCell ?_ (by simp; try omega) _) | (with_reducible refine Ext.setRow ?_ (by simp; try omega) _)))⟩
  by_cases k23 : k = 2 ∨ k = 3
  · have hR : rightS k s n m = ((s == 0) && z) := by
      unfold rightS; rw [if_neg k1, if_pos k23, hz2]; rw [Bool.eq_iff_iff]; simp
    rw [hR]
    clear hR hz2
    rcases k23 with rfl | rfl
    ·
      go_enter Try.func12, Try.ntmps12
      go_wp2_with fail
      all_goals
        first | refine fin_ret rfl (fun K hK => ?_) | refine fin_norm rfl (fun K hK => ?_)
        simp [results, Try.results12, go_sem, rsat]
        try go_simp
        refine hK _ ?_
        clear hK K
        exact ⟨by simp [*], (by repeat (first | (with_reducible exact Ext.refl _) | (with_reducible assumption) | (with_reducible refine Ext.alloc ?_ _) | (with_reducible refine Ext.drew ?_) | (with_reducible refine Ext.drewN ?_ _) | (with_reducible refine Ext.setCell ?_ (by simp; try omega) _) | (with_reducible refine Ext.setRow ?_ (by simp; try omega) _)))⟩
    ·
      go_enter Try.func12, Try.ntmps12
      go_wp2_with fail
      all_goals
        first | refine fin_ret rfl (fun K hK => ?_) | refine fin_norm rfl (fun K hK => ?_)
        simp [results, Try.results12, go_sem, rsat]
        try go_simp
        refine hK _ ?_
        clear hK K
        exact ⟨by simp [*], (by repeat (first | (with_reducible exact Ext.refl _) | (with_reducible assumption) | (with_reducible refine Ext.alloc ?_ _) | (with_reducible refine Ext.drew ?_) | (with_reducible refine Ext.drewN ?_ _) | (with_reducible refine Ext.setCell ?_ (by simp; try omega) _) | (with_reducible refine Ext.setRow ?_ (by simp; try omega) _)))⟩
  by_cases k4 : k = 4
  · subst k4
    have hR : rightS 4 s n m = (decide (0 ≤ s) && (decide (s ≤ 255) && z)) := by
      unfold rightS; rw [if_neg k1, if_neg k23, if_pos rfl, hz2]; rw [Bool.eq_iff_iff]; simp
    rw [hR]
    clear hR hz2
    go_enter Try.func12, Try.ntmps12
    go_wp2_with fail
    all_goals
      first | refine fin_ret rfl (fun K hK => ?_) | refine fin_norm rfl (fun K hK => ?_)
      simp [results, Try.results12, go_sem, rsat]
      try go_simp
      refine hK _ ?_
      clear hK K
      exact ⟨by simp [*]; try omega, (by repeat (first | (with_reducible exact Ext.refl _) | (with_reducible assumption) | (with_reducible refine Ext.alloc ?_ _) | (with_reducible refine Ext.drew ?_) | (with_reducible refine Ext.drewN ?_ _) | (with_reducible refine Ext.setCell ?_ (by simp; try omega) _) | (with_reducible refine Ext.setRow ?_ (by simp; try omega) _)))⟩
  · have hR : rightS k s n m = false := by
      unfold rightS; rw [if_neg k1, if_neg k23, if_neg k4]
    rw [hR]
    have q1 : (k == 1) = false := beq_eq_false_iff_ne.2 k1
    have q2 : (k == 2) = false := beq_eq_false_iff_ne.2 (fun h => k23 (.inl h))
    have q3 : (k == 3) = false := beq_eq_false_iff_ne.2 (fun h => k23 (.inr h))
    have q4 : (k == 4) = false := beq_eq_false_iff_ne.2 k4
    clear hR hz2 k1 k23 k4
    go_enter Try.func12, Try.ntmps12
    go_wp2_with fail
    all_goals
      first | refine fin_ret rfl (fun K hK => ?_) | refine fin_norm rfl (fun K hK => ?_)
      simp [results, Try.results12, go_sem, rsat]
      try go_simp
      refine hK _ ?_
      clear hK K
      exact ⟨rfl, (by repeat (first | (with_reducible exact Ext.refl _) | (with_reducible assumption) | (with_reducible refine Ext.alloc ?_ _) | (with_reducible refine Ext.drew ?_) | (with_reducible refine Ext.drewN ?_ _) | (with_reducible refine Ext.setCell ?_ (by simp; try omega) _) | (with_reducible refine Ext.setRow ?_ (by simp; try omega) _)))⟩
end Go.Proofs.Ythfomohophmbaaa
/- Steps (layer 29): a step's bytes, by the document; Encode, by both. No condition. -/
namespace Go.Proofs.Ythfomohophmbaaa
open Go.RowKit
attribute [local go_sem] Later.cell QUpon_value QUpon_enter MUpon_value run_eql_slice_nil Same.cell
attribute [local go_sem ↓ high] loadStp_is storeStp_is
attribute [local go_sem] run_loadStp run_loadStp_at run_storeStp one_int one_bool one_slice one_ptr one_str setRow_new setRow_past cell_ca frozen_ca cellsAt_alloc_at cellsAt_alloc_past cellsAt_drew cellsAt_later cellsAt_setCell cellsAt_set_same cellsAt_setRow_same cellsAt_setRow_far subAt_alloc subAt_drew subAt_later subAt_setCell subAt_setRow ltn_2 ltn_3 ltn_4 ltn_5
theorem u8_same {x : Int} (h : 0 ≤ x ∧ x ≤ 255) : IntKind.u8.wrap x = x := by
  have := u8_wrap x.toNat
  rw [show ((x.toNat : Nat) : Int) = x by omega] at this
  rw [this]
  omega
theorem lenI (s : Int) : (intB s).length = 8 := uintB_len _ _
theorem bytI (s : Int) : Byt (intB s) := uintB_byt _ _
theorem Own.made (w0 W : World) (bs : List Int) (hx : Ext w0 W) (hl : bs.length ≤ maxLen) : Own w0 (W.alloc (.cells (bc bs).toArray 5)) (.slice (some ⟨W.heap.size, 0, none⟩) bs.length bs.length) bs :=
  ⟨_, _, rfl, Row.of_at (At.new _ _ _) (by simp [bc]) hl, fun k hk => by simp [ablk] at hk; subst hk; have := hx.size; simp; omega⟩
theorem cut2 (o t : Nat) (x : Nat) : 2 ≤ (Question.appendCap 2 o t).cut x ∧ (Question.appendCap 2 o t).cut x ≤ maxLen := by
  have : (Question.appendCap 2 o t).cut x = 2 + x % (2 ^ 63 - 2) := rfl
  have h2 := Nat.mod_lt x (show 0 < 2 ^ 63 - 2 by decide)
  rw [this]
  unfold maxLen
  omega
theorem Own.grown2 (w0 W : World) (hx : Ext w0 W) (x y : Int) (C : Nat) (hC : 2 ≤ C ∧ C ≤ maxLen) : Own w0 (W.alloc (.cells (#[.int .u8 x, .int .u8 y] ++ Builtin.zeroCells #[.int .u8 0] (C - 2)) 5)) (.slice (some ⟨W.heap.size, 0, none⟩) 2 C) [x, y] := by
  refine ⟨_, C, rfl, ⟨hC.1, hC.2, rfl, fun _ => ⟨W.heap.size, 0, _, rfl, At.new W _ _, ?_, fun j hj => ?_⟩⟩, fun k hk => ?_⟩
  · simp [size_zeroCells]; omega
  · have hj2 : j = 0 ∨ j = 1 := by simp at hj; omega
    rcases hj2 with rfl | rfl
    · rw [Array.getElem?_append_left (by simp)]; rfl
    · rw [Array.getElem?_append_left (by simp)]; rfl
  · simp [ablk] at hk; subst hk; have := hx.size; simp; omega
theorem rightS_1 {s n : Int} {m : Nat} (h : rightS 1 s n m = true) : s = 0 ∧ n = 0 ∧ m ≤ 64 := by unfold rightS at h; simpa using h
theorem rightS_4 {s n : Int} {m : Nat} (h : rightS 4 s n m = true) : (0 ≤ s ∧ s ≤ 255) ∧ m = 0 := by unfold rightS at h; simp at h; omega
theorem rightS_23 {k s n : Int} {m : Nat} (hk : k = 2 ∨ k = 3) (h : rightS k s n m = true) : s = 0 ∧ m = 0 := by
  unfold rightS at h; rw [if_neg (by omega), if_pos hk] at h; simpa using h
theorem rightS_k {k s n : Int} {m : Nat} (h : rightS k s n m = true) : k = 1 ∨ (k = 2 ∨ k = 3) ∨ k = 4 := by
  unfold rightS at h
  by_cases h1 : k = 1
  · exact .inl h1
  by_cases h2 : k = 2 ∨ k = 3
  · exact .inr (.inl h2)
  by_cases h3 : k = 4
  · exact .inr (.inr h3)
  · rw [if_neg h1, if_neg h2, if_neg h3] at h; cases h
theorem formS_len {k s n : Int} {xs : List Int} (h : rightS k s n xs.length = true) : (formS k s n xs).length ≤ 80 := by
  unfold formS
  split
  · rename_i hk
    subst hk
    obtain ⟨_, _, h3⟩ := rightS_1 h
    have := numB_len64 (n := xs.length) (by omega)
    simp only [List.length_cons, List.length_append]
    omega
  split
  · simp [lenI]
  · simp [lenI]
theorem formS_byt {k s n : Int} {xs : List Int} (hx : Byt xs) (h : rightS k s n xs.length = true) : Byt (formS k s n xs) := by
  have hk := rightS_k h
  have hkb : Byt [k] := by intro y hy; simp at hy; omega
  unfold formS
  split
  · exact hkb.app ((numB_byt _).app hx)
  split
  · rename_i h4
    subst h4
    have h4 := rightS_4 h
    have : Byt [4, s] := by intro y hy; simp at hy; omega
    exact this.app (bytI n)
  · exact hkb.app (bytI n)
set_option maxHeartbeats 4000000 in
set_option maxRecDepth 100000 in
theorem rform29_c (k s n : Int) (A : Option Addr) (c : Nat) (xs : List Int) (hn : I64 n) (hR : rightS k s n xs.length = true) (w : World) (hS : Src w 1 A xs.length (bc xs)) :
    Calls Try.prog 27 #[.agg #[.int .i64 k, .int .i64 s, .int .i64 n, .slice A xs.length c]] w fun e w' => Ext w w' ∧ ∃ v, e = .returned v ∧ Own w w' v (formS k s n xs) := by
  rcases rightS_k hR with rfl | hk | rfl
  · obtain ⟨rfl, rfl, hl⟩ := rightS_1 hR
    have hform : formS 1 0 0 xs = [1] ++ numB xs.length ++ xs := by unfold formS; rw [if_pos rfl]; simp
    rw [hform]
    have ew : IntKind.u64.wrap ((xs.length : Nat) : Int) = ((xs.length : Nat) : Int) := by rw [IntKind.wrap_u64]; omega
    have n1 := numB_len64 (n := xs.length) (by omega)
    clear hform hR
    go_enter Try.func27, Try.ntmps27
    go_wp2_with fail
    refine (rnum_c xs.length (by omega) _).mono ?_
    rintro e w1 ⟨hx1, v1, rfl, A1, c1, rfl, R1, F1⟩
    have x1 : Ext w w1 := Ext.trans (by repeat (first | (with_reducible exact Ext.refl _) | (with_reducible assumption) | (with_reducible refine Ext.alloc ?_ _) | (with_reducible refine Ext.drew ?_) | (with_reducible refine Ext.drewN ?_ _) | (with_reducible refine Ext.setCell ?_ (by simp; try omega) _) | (with_reducible refine Ext.setRow ?_ (by simp; try omega) _))) hx1
    have M1 : At w1 w.heap.size 31 #[.int .i64 1, .int .i64 0, .int .i64 0, .slice A xs.length c] := At.ext (by repeat (first | (with_reducible exact At.new _ _ _) | ((with_reducible refine At.new' _ _ _ _ ?_); simp; done) | (with_reducible assumption) | (with_reducible refine At.drew ?_) | (with_reducible refine At.alloc ?_ _) | (with_reducible apply At.upd) | (with_reducible apply At.setRow) | (with_reducible refine At.rowFar ?_ (by first | (simp; done) | (simp; omega) | omega) _) | ((with_reducible refine At.far ?_ (by first | (simp; done) | (simp; omega) | omega) _)) | (with_reducible rfl) | (simp; done))) hx1
    have O0 := (Own.made w (w.alloc (.cells #[.int .i64 1, .int .i64 0, .int .i64 0, .slice A xs.length c] 31)) [1] (by repeat (first | (with_reducible exact Ext.refl _) | (with_reducible assumption) | (with_reducible refine Ext.alloc ?_ _) | (with_reducible refine Ext.drew ?_) | (with_reducible refine Ext.drewN ?_ _) | (with_reducible refine Ext.setCell ?_ (by simp; try omega) _) | (with_reducible refine Ext.setRow ?_ (by simp; try omega) _))) (by decide)).ext hx1
    simp only [World.size_alloc] at O0
    obtain ⟨_, Q1, G1⟩ := O0.open_
    go_wp2_with (at_builtin; refine wpList_rowcat rfl _ _ 25 5 1 1 (.int .u8 0) rfl Try.underlying25 u8Info rfl (by decide) _ _ _ _ _ rfl Q1 _ _ _ _ rfl R1.src (bc_one _) (by simp; unfold maxLen; omega) (by simp; omega) ?_)
    intro D1 f1 z1 S1 hC1 hf1
    obtain ⟨P1, y1⟩ := Own.app2 (ns := numB xs.length) O0 x1 (Ext.refl _) hC1 S1 rfl rfl hf1
    have N1 : At z1 w.heap.size 31 #[.int .i64 1, .int .i64 0, .int .i64 0, .slice A xs.length c] := hC1.at M1 (by simp [ablk])
    have e1 := cellsAt_at N1
    have s1 := N1.lt
    have S2 := hS.ext y1
    obtain ⟨b1, hb1⟩ : ∃ b, b = [1] ++ numB xs.length := ⟨_, rfl⟩
    rw [← hb1] at P1
    have lb1 : b1.length ≤ 11 := by rw [hb1]; simp; omega
    have HB1 := Lib.hid hb1
    clear O0 M1 Q1 R1 hC1 S1 hf1 G1 hb1 F1
    obtain ⟨hq, Q2, G2⟩ := P1.open_
    rw [← hq] at lb1
    go_wp2_with (at_builtin; refine wpList_rowcat rfl _ _ 25 5 1 1 (.int .u8 0) rfl Try.underlying25 u8Info rfl (by decide) _ _ _ _ _ rfl Q2 _ _ _ _ rfl S2 (bc_one _) (by unfold maxLen; omega) (by omega) ?_)
    intro D2 f2 z2 T2 hC2 hf2
    obtain ⟨P2, y2⟩ := Own.app2 (ns := xs) P1 y1 (Ext.refl _) hC2 T2 rfl rfl hf2
    clear e1 s1 N1
    go_wp2_with fail
    first | refine fin_ret rfl (fun K hK => ?_) | refine fin_norm rfl (fun K hK => ?_)
    simp [results, Try.results27, go_sem, rsat]
    try go_simp
    refine hK _ ?_
    clear hK K
    rw [HB1.out] at P2
    exact ⟨y2, _, rfl, P2⟩
  · obtain ⟨rfl, hl⟩ := rightS_23 hk hR
    obtain rfl := List.eq_nil_of_length_eq_zero hl
    have hform : formS k 0 n [] = [k] ++ intB n := by unfold formS; rw [if_neg (by omega), if_neg (by omega)]; simp
    rw [hform]
    have ek := u8_same (x := k) (by omega)
    have q1 : (k == 1) = false := beq_eq_false_iff_ne.2 (by omega)
    have q4 : (k == 4) = false := beq_eq_false_iff_ne.2 (by omega)
    have li := lenI n
    clear hform hR hk hl hS
    simp only [List.length_nil]
    go_enter Try.func27, Try.ntmps27
    go_wp2_with fail
    refine (rint_c n hn _).mono ?_
    rintro e w1 ⟨hx1, v1, rfl, A1, c1, rfl, R1, F1⟩
    have x1 : Ext w w1 := Ext.trans (by repeat (first | (with_reducible exact Ext.refl _) | (with_reducible assumption) | (with_reducible refine Ext.alloc ?_ _) | (with_reducible refine Ext.drew ?_) | (with_reducible refine Ext.drewN ?_ _) | (with_reducible refine Ext.setCell ?_ (by simp; try omega) _) | (with_reducible refine Ext.setRow ?_ (by simp; try omega) _))) hx1
    have O0 := (Own.made w (w.alloc (.cells #[.int .i64 k, .int .i64 0, .int .i64 n, .slice A 0 c] 31)) [k] (by repeat (first | (with_reducible exact Ext.refl _) | (with_reducible assumption) | (with_reducible refine Ext.alloc ?_ _) | (with_reducible refine Ext.drew ?_) | (with_reducible refine Ext.drewN ?_ _) | (with_reducible refine Ext.setCell ?_ (by simp; try omega) _) | (with_reducible refine Ext.setRow ?_ (by simp; try omega) _))) (by simp [maxLen])).ext hx1
    simp only [World.size_alloc] at O0
    obtain ⟨_, Q1, G1⟩ := O0.open_
    go_wp2_with (at_builtin; refine wpList_rowcat rfl _ _ 25 5 1 1 (.int .u8 0) rfl Try.underlying25 u8Info rfl (by decide) _ _ _ _ _ rfl Q1 _ _ _ _ rfl R1.src (bc_one _) (by simp; unfold maxLen; omega) (by simp; omega) ?_)
    intro D1 f1 z1 S1 hC1 hf1
    obtain ⟨P1, y1⟩ := Own.app2 (ns := intB n) O0 x1 (Ext.refl _) hC1 S1 rfl rfl hf1
    go_wp2_with fail
    first | refine fin_ret rfl (fun K hK => ?_) | refine fin_norm rfl (fun K hK => ?_)
    simp [results, Try.results27, go_sem, rsat]
    try go_simp
    refine hK _ ?_
    clear hK K
    exact ⟨y1, _, rfl, P1⟩
  · obtain ⟨hs, hl⟩ := rightS_4 hR
    obtain rfl := List.eq_nil_of_length_eq_zero hl
    have hform : formS 4 s n [] = [4] ++ [s] ++ intB n := by unfold formS; rw [if_neg (by decide), if_pos rfl]; simp
    rw [hform]
    have es := u8_same hs
    have li := lenI n
    clear hform hR hl hS
    simp only [List.length_nil]
    go_enter Try.func27, Try.ntmps27
    go_wp2_with fail
    obtain ⟨C, hC⟩ : ∃ C, C = (Question.appendCap 2 1 5).cut (w.tape w.drawn (Question.appendCap 2 1 5)) := ⟨_, rfl⟩
    have hCb := cut2 1 5 (w.tape w.drawn (Question.appendCap 2 1 5))
    rw [← hC] at hCb ⊢
    clear hC
    have O0 := Own.grown2 w (((w.alloc (.cells #[.int .i64 4, .int .i64 s, .int .i64 n, .slice A 0 c] 31)).alloc (.cells #[.int .u8 4] 5)).alloc (.cells #[.int .u8 s] 5)) (by repeat (first | (with_reducible exact Ext.refl _) | (with_reducible assumption) | (with_reducible refine Ext.alloc ?_ _) | (with_reducible refine Ext.drew ?_) | (with_reducible refine Ext.drewN ?_ _) | (with_reducible refine Ext.setCell ?_ (by simp; try omega) _) | (with_reducible refine Ext.setRow ?_ (by simp; try omega) _))) 4 s C hCb
    simp only [World.size_alloc] at O0
    refine (rint_c n hn _).mono ?_
    rintro e w1 ⟨hx1, v1, rfl, A1, c1, rfl, R1, F1⟩
    have P1' := (O0.ext ((Ext.refl _).drew)).ext hx1
    have y2 : Ext w w1 := Ext.trans (by repeat (first | (with_reducible exact Ext.refl _) | (with_reducible assumption) | (with_reducible refine Ext.alloc ?_ _) | (with_reducible refine Ext.drew ?_) | (with_reducible refine Ext.drewN ?_ _) | (with_reducible refine Ext.setCell ?_ (by simp; try omega) _) | (with_reducible refine Ext.setRow ?_ (by simp; try omega) _))) hx1
    obtain ⟨hq, Q2, G2⟩ := P1'.open_
    go_wp2_with (at_builtin; refine wpList_rowcat rfl _ _ 25 5 1 1 (.int .u8 0) rfl Try.underlying25 u8Info rfl (by decide) _ _ _ _ _ rfl Q2 _ _ _ _ rfl R1.src (bc_one _) (by unfold maxLen; omega) (by omega) ?_)
    intro D2 f2 z2 T2 hC2 hf2
    obtain ⟨P2, y3⟩ := Own.app2 (ns := intB n) P1' y2 (Ext.refl _) hC2 T2 rfl rfl hf2
    go_wp2_with fail
    first | refine fin_ret rfl (fun K hK => ?_) | refine fin_norm rfl (fun K hK => ?_)
    simp [results, Try.results27, go_sem, rsat]
    try go_simp
    refine hK _ ?_
    clear hK K
    exact ⟨y3, _, rfl, P2⟩
end Go.Proofs.Ythfomohophmbaaa
