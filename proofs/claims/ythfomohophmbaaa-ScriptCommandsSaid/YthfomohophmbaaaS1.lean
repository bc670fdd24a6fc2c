/- Steps of a script, as they come in (api.Step). No condition. -/
import Derived.Test.YthfomohophmbaaaSb
import Derived.Test.YthfomohophmbaaaR2
import Derived.Test.YthfomohophmbaaaL03
namespace Go.Proofs.Ythfomohophmbaaa
open Go.RowKit Go.WideShapes Go.ChangeShapes Go.Deep Go.Joins
/-- A value of api.Step, read and written whole: closed words. -/
def loadStp (a : Addr) : Sem Value := loadVar 31 a
theorem loadStp_is (a : Addr) : loadVar 31 a = loadStp a := rfl
theorem run_loadStp (w : World) (g : Nat) (h : (cellsAt w g).size = 4) : (loadStp ⟨g, 0, none⟩).run Try.prog w = .ok (.agg (cellsAt w g)) w :=
  loadVar_ca 31 4 (fun _ => by kernel_rfl) (fun _ => by kernel_rfl) w g h
theorem run_loadStp_at (w : World) (g off : Nat) (h : (subAt w g off 4).size = 4) : (loadStp ⟨g, off, none⟩).run Try.prog w = .ok (.agg (subAt w g off 4)) w :=
  loadVar_sub 31 4 (fun _ => by kernel_rfl) (fun _ => by kernel_rfl) w g off h
def storeStp (a : Addr) (v : Value) : Sem Unit := storeVar 31 a v
theorem storeStp_is (a : Addr) (v : Value) : storeVar 31 a v = storeStp a v := rfl
theorem run_storeStp (w : World) (g : Nat) (cs : Array Value) (hc : cs.size = 4) (h : (cellsAt w g).size = 4) (h1 : cs.toList.all (·.oneCell') = true) : (storeStp ⟨g, 0, none⟩ (.agg cs)).run Try.prog w = .ok () (w.setRow g cs) :=
  storeVar_ca 31 4 (fun _ => by kernel_rfl) w g cs hc h h1 (by decide)
attribute [local go_sem] Later.cell QUpon_value QUpon_enter MUpon_value run_eql_slice_nil
attribute [local go_sem ↓ high] loadStp_is storeStp_is loadPrt_is storePrt_is
attribute [local go_sem] run_loadStp run_loadStp_at run_storeStp run_loadPrt run_loadPrt_at run_storePrt one_int one_bool one_slice one_ptr one_str setRow_new setRow_past cell_ca frozen_ca cellsAt_alloc_at cellsAt_alloc_past cellsAt_drew cellsAt_later cellsAt_setCell cellsAt_set_same cellsAt_setRow_same cellsAt_setRow_far subAt_alloc subAt_drew subAt_later subAt_setCell subAt_setRow ltn_2 ltn_3 ltn_4 ltn_5
structure Sp where
  kind : Int
  sym : Int
  n : Int
  raw : Bs
structure Sp.Ok (p : Sp) (w : World) : Prop where
  kind : I64 p.kind
  sym : I64 p.sym
  n : I64 p.n
  raw : p.raw.At w
def Sp.cells (p : Sp) : List Value := [.int .i64 p.kind, .int .i64 p.sym, .int .i64 p.n, p.raw.v]
instance : Inhabited Sp := ⟨⟨0, 0, 0, ⟨none, 0, []⟩⟩⟩
structure Sts where
  A : Option Addr
  c : Nat
  l : List Sp
def Sts.v (x : Sts) : Value := .slice x.A x.l.length x.c
structure Sts.At (x : Sts) (w : World) : Prop where
  le : x.l.length ≤ x.c
  max : x.c ≤ maxLen
  src : Src w 4 x.A x.l.length (x.l.flatMap Sp.cells)
  ok : ∀ p ∈ x.l, p.Ok w
theorem Bs.At.ext {b : Bs} {w w' : World} (h : b.At w) (hx : Ext w w') : b.At w' := ⟨h.le, h.max, h.src.ext hx, h.byt⟩
theorem Sp.Ok.ext {p : Sp} {w w' : World} (h : p.Ok w) (hx : Ext w w') : p.Ok w' := ⟨h.kind, h.sym, h.n, h.raw.ext hx⟩
theorem Sts.At.ext {x : Sts} {w w' : World} (h : x.At w) (hx : Ext w w') : x.At w' := ⟨h.le, h.max, h.src.ext hx, fun p hp => (h.ok p hp).ext hx⟩
/-- The cells of one that comes in. -/
theorem Sts.At.cell {x : Sts} {w : World} (h : x.At w) (h0 : 0 < x.l.length) : ∃ b off, x.A = some ⟨b, off, none⟩ ∧ b < w.heap.size ∧ ∀ (i : Nat) (hi : i < x.l.length) (r : Nat), r < 4 → w.cell? ⟨b, off + (i * 4 + r), none⟩ = (x.l[i].cells)[r]? := by
  obtain ⟨b, off, hA, hb, hc⟩ := h.src.lt h0 (by decide)
  refine ⟨b, off, hA, hb, fun i hi r hr => ?_⟩
  rw [hc (i * 4 + r) (by omega), flat_get Sp.cells 4 (fun _ => rfl) _ i r hi hr]
/-- .. one read whole. -/
theorem Sts.At.elem {x : Sts} {w : World} (h : x.At w) (i : Nat) (hi : i < x.l.length) : ∃ b off, x.A = some ⟨b, off, none⟩ ∧ b < w.heap.size ∧ subAt w b (off + i * 4) 4 = (x.l[i].cells).toArray := by
  obtain ⟨b, off, hA, hb, hc⟩ := h.cell (by omega)
  refine ⟨b, off, hA, hb, subAt_is rfl (fun r hr => ?_)⟩
  rw [Nat.add_assoc, hc i hi r hr]
section
variable {H : Type} {enc : TypeId × Value → H} {w : World}
theorem trod_step {fuel : Nat} {cs : List Value} {x : DataW H × List MemPlace} (h : DataW.trod enc Try.prog w 0 (fun _ => true) true fuel 31 cs = some x) : ∃ p : Sp, cs = p.cells ∧ p.Ok w := by
  obtain ⟨ys, n, _, _, hlen, hyl, hg⟩ := DataW.trod_struct Try.underlying31 h
  have hl : cs.length = 4 := by rw [hlen]; kernel_rfl
  have hy : ys.length = 4 := hyl
  match cs, ys, hl, hy with
  | [c0, c1, c2, c3], [y0, y1, y2, y3], _, _ =>
    have g0 : DataW.trod enc Try.prog w 0 (fun _ => true) true n 3 [c0] = some y0 := hg 0 _ rfl
    have g1 : DataW.trod enc Try.prog w 0 (fun _ => true) true n 3 [c1] = some y1 := hg 1 _ rfl
    have g2 : DataW.trod enc Try.prog w 0 (fun _ => true) true n 2 [c2] = some y2 := hg 2 _ rfl
    have g3 : DataW.trod enc Try.prog w 0 (fun _ => true) true n 25 [c3] = some y3 := hg 3 _ rfl
    obtain ⟨a0, e0, _, w0⟩ := DataW.trod_int Try.underlying3 g0
    obtain ⟨a1, e1, _, w1⟩ := DataW.trod_int Try.underlying3 g1
    obtain ⟨a2, e2, _, w2⟩ := DataW.trod_int Try.underlying2 g2
    obtain ⟨b, e3, h3⟩ := trod_bytes g3
    injection e0 with e0
    injection e1 with e1
    injection e2 with e2
    injection e3 with e3
    subst e0 e1 e2 e3
    exact ⟨⟨a0, a1, a2, b⟩, rfl, ⟨I64.of_wf w0, I64.of_wf w1, I64.of_wf w2, h3⟩⟩
theorem open_sapiStep {r : Reach} {b0 : Nat} {v : Value} {d : DataW H} {p : List MemPlace} (hv : Value.okWide Try.prog w r b0 22 v) (h : DataW.Trod enc Try.prog w 0 (fun _ => true) true 22 v d p) (hlt : ∀ x ∈ p, x.block < w.heap.size) : ∃ x : Sts, v = x.v ∧ x.At w := by
  obtain ⟨a, len, cap, rfl⟩ := okWide_slice Try.underlying22 hv
  obtain ⟨fuel, hf⟩ := h
  rcases open_slice Try.underlying22 hf with ⟨hcs, _⟩ | ⟨a, l', c', m, n, D, Pl, hcs, _, hl, hm, hmm, _, hx⟩
  · simp [Value.cells] at hcs
    obtain ⟨rfl, rfl, rfl⟩ := hcs
    exact ⟨⟨none, 0, []⟩, rfl, Nat.le_refl _, Nat.zero_le _, ⟨rfl, fun h0 => absurd h0 (by decide)⟩, by simp⟩
  · simp [Value.cells] at hcs
    obtain ⟨rfl, rfl, rfl⟩ := hcs
    have hlm : len ≤ m := by rw [hmm]; simpa using hl
    have hC : Try.prog.cellsOf 31 = 4 := by kernel_rfl
    obtain ⟨X, hX⟩ := choose_lt (α := Sp) (n := len) (p := fun i q => (∀ r, r < 4 → w.cell? (a.add (i * 4 + r)) = q.cells[r]?) ∧ q.Ok w) (fun i hi => by
      obtain ⟨cs', h1, h2⟩ := hx i (by omega)
      obtain ⟨q, rfl, hq⟩ := trod_step h2
      obtain ⟨_, _, h3⟩ := World.cells?_some h1
      rw [hC] at h3
      refine ⟨q, fun r hr => ?_, hq⟩
      have := h3 r hr
      rwa [add_add] at this)
    have hln : ((List.range len).map X).length = len := by simp
    refine ⟨⟨some a, cap, (List.range len).map X⟩, by unfold Sts.v; rw [hln], by rw [hln]; exact hl, hm, ⟨flat_len Sp.cells 4 (fun _ => rfl) _, fun h0 => ⟨a, rfl, fun j u hj => ?_⟩⟩, fun q hq => ?_⟩
    · have hjl := (List.getElem?_eq_some_iff.1 hj).1
      rw [flat_len Sp.cells 4 (fun _ => rfl), hln] at hjl
      have hi : j / 4 < len := by omega
      have h1 := flat_get Sp.cells 4 (fun _ => rfl) ((List.range len).map X) (j / 4) (j % 4) (by rw [hln]; exact hi) (by omega)
      rw [show j / 4 * 4 + j % 4 = j by omega] at h1
      rw [h1] at hj
      have h2 := (hX (j / 4) hi).1 (j % 4) (by omega)
      rw [show j / 4 * 4 + j % 4 = j by omega] at h2
      rw [h2, ← hj]
      simp
    · obtain ⟨i, hi, rfl⟩ := List.mem_map.1 hq
      exact (hX i (List.mem_range.1 hi)).2
end
end Go.Proofs.Ythfomohophmbaaa
