/- Things that are put and read, as they come in (law03.Part). No condition. -/
import Derived.Test.YtliccefjdieclaaSb
import Derived.Test.YtliccefjdieclaaR2
import Derived.Test.YtliccefjdieclaaL03
namespace Go.Proofs.Ytliccefjdieclaa
open Go.RowKit Go.WideShapes Go.ChangeShapes Go.Deep Go.Joins
/-- A value of law03.Part, read and written whole: closed words. -/
def loadPt (a : Addr) : Sem Value := loadVar 37 a
theorem loadPt_is (a : Addr) : loadVar 37 a = loadPt a := rfl
theorem run_loadPt (w : World) (g : Nat) (h : (cellsAt w g).size = 5) : (loadPt ⟨g, 0, none⟩).run Try.prog w = .ok (.agg (cellsAt w g)) w :=
  loadVar_ca 37 5 (fun _ => by kernel_rfl) (fun _ => by kernel_rfl) w g h
theorem run_loadPt_at (w : World) (g off : Nat) (h : (subAt w g off 5).size = 5) : (loadPt ⟨g, off, none⟩).run Try.prog w = .ok (.agg (subAt w g off 5)) w :=
  loadVar_sub 37 5 (fun _ => by kernel_rfl) (fun _ => by kernel_rfl) w g off h
def storePt (a : Addr) (v : Value) : Sem Unit := storeVar 37 a v
theorem storePt_is (a : Addr) (v : Value) : storeVar 37 a v = storePt a v := rfl
theorem run_storePt (w : World) (g : Nat) (cs : Array Value) (hc : cs.size = 5) (h : (cellsAt w g).size = 5) (h1 : cs.toList.all (·.oneCell') = true) : (storePt ⟨g, 0, none⟩ (.agg cs)).run Try.prog w = .ok () (w.setRow g cs) :=
  storeVar_ca 37 5 (fun _ => by kernel_rfl) w g cs hc h h1 (by decide)
attribute [local go_sem] Later.cell QUpon_value QUpon_enter MUpon_value run_eql_slice_nil
attribute [local go_sem ↓ high] loadPt_is storePt_is loadPrt_is storePrt_is
attribute [local go_sem] run_loadPt run_loadPt_at run_storePt run_loadPrt run_loadPrt_at run_storePrt one_int one_bool one_slice one_ptr one_str setRow_new setRow_past cell_ca frozen_ca cellsAt_alloc_at cellsAt_alloc_past cellsAt_drew cellsAt_later cellsAt_setCell cellsAt_set_same cellsAt_setRow_same cellsAt_setRow_far subAt_alloc subAt_drew subAt_later subAt_setCell subAt_setRow ltn_2 ltn_3 ltn_4 ltn_5
structure Pt where
  kind : Int
  size : Int
  n : Nat
  s : Int
  raw : Bs
structure Pt.Ok (p : Pt) (w : World) : Prop where
  kind : I64 p.kind
  size : I64 p.size
  n : p.n < 18446744073709551616
  s : I64 p.s
  raw : p.raw.At w
def Pt.cells (p : Pt) : List Value := [.int .i64 p.kind, .int .i64 p.size, .int .u64 (p.n : Int), .int .i64 p.s, p.raw.v]
instance : Inhabited Pt := ⟨⟨0, 0, 0, 0, ⟨none, 0, []⟩⟩⟩
structure Pts where
  A : Option Addr
  c : Nat
  l : List Pt
def Pts.v (x : Pts) : Value := .slice x.A x.l.length x.c
structure Pts.At (x : Pts) (w : World) : Prop where
  le : x.l.length ≤ x.c
  max : x.c ≤ maxLen
  src : Src w 5 x.A x.l.length (x.l.flatMap Pt.cells)
  ok : ∀ p ∈ x.l, p.Ok w
theorem Bs.At.ext {b : Bs} {w w' : World} (h : b.At w) (hx : Ext w w') : b.At w' := ⟨h.le, h.max, h.src.ext hx, h.byt⟩
theorem Pt.Ok.ext {p : Pt} {w w' : World} (h : p.Ok w) (hx : Ext w w') : p.Ok w' := ⟨h.kind, h.size, h.n, h.s, h.raw.ext hx⟩
theorem Pts.At.ext {x : Pts} {w w' : World} (h : x.At w) (hx : Ext w w') : x.At w' := ⟨h.le, h.max, h.src.ext hx, fun p hp => (h.ok p hp).ext hx⟩
/-- The cells of one that comes in. -/
theorem Pts.At.cell {x : Pts} {w : World} (h : x.At w) (h0 : 0 < x.l.length) : ∃ b off, x.A = some ⟨b, off, none⟩ ∧ b < w.heap.size ∧ ∀ (i : Nat) (hi : i < x.l.length) (r : Nat), r < 5 → w.cell? ⟨b, off + (i * 5 + r), none⟩ = (x.l[i].cells)[r]? := by
  obtain ⟨b, off, hA, hb, hc⟩ := h.src.lt h0 (by decide)
  refine ⟨b, off, hA, hb, fun i hi r hr => ?_⟩
  rw [hc (i * 5 + r) (by omega), flat_get Pt.cells 5 (fun _ => rfl) _ i r hi hr]
section
variable {H : Type} {enc : TypeId × Value → H} {w : World}
theorem trod_part {fuel : Nat} {cs : List Value} {x : DataW H × List MemPlace} (h : DataW.trod enc Try.prog w 0 (fun _ => true) true fuel 37 cs = some x) : ∃ p : Pt, cs = p.cells ∧ p.Ok w := by
  obtain ⟨ys, n, _, _, hlen, hyl, hg⟩ := DataW.trod_struct Try.underlying37 h
  have hl : cs.length = 5 := by rw [hlen]; kernel_rfl
  have hy : ys.length = 5 := hyl
  match cs, ys, hl, hy with
  | [c0, c1, c2, c3, c4], [y0, y1, y2, y3, y4], _, _ =>
    have g0 : DataW.trod enc Try.prog w 0 (fun _ => true) true n 3 [c0] = some y0 := hg 0 _ rfl
    have g1 : DataW.trod enc Try.prog w 0 (fun _ => true) true n 3 [c1] = some y1 := hg 1 _ rfl
    have g2 : DataW.trod enc Try.prog w 0 (fun _ => true) true n 22 [c2] = some y2 := hg 2 _ rfl
    have g3 : DataW.trod enc Try.prog w 0 (fun _ => true) true n 2 [c3] = some y3 := hg 3 _ rfl
    have g4 : DataW.trod enc Try.prog w 0 (fun _ => true) true n 23 [c4] = some y4 := hg 4 _ rfl
    obtain ⟨a0, e0, _, w0⟩ := DataW.trod_int Try.underlying3 g0
    obtain ⟨a1, e1, _, w1⟩ := DataW.trod_int Try.underlying3 g1
    obtain ⟨a2, e2, _, w2⟩ := DataW.trod_int Try.underlying22 g2
    obtain ⟨a3, e3, _, w3⟩ := DataW.trod_int Try.underlying2 g3
    obtain ⟨b, e4, h4⟩ := trod_bytes g4
    injection e0 with e0
    injection e1 with e1
    injection e2 with e2
    injection e3 with e3
    injection e4 with e4
    subst e0 e1 e2 e3 e4
    have u2 := U64.of_wf w2
    refine ⟨⟨a0, a1, a2.toNat, a3, b⟩, ?_, ⟨I64.of_wf w0, I64.of_wf w1, u2.lt, I64.of_wf w3, h4⟩⟩
    unfold Pt.cells
    simp only [u2.cast]
theorem open_slaw03Part {r : Reach} {b0 : Nat} {v : Value} {d : DataW H} {p : List MemPlace} (hv : Value.okWide Try.prog w r b0 33 v) (h : DataW.Trod enc Try.prog w 0 (fun _ => true) true 33 v d p) (hlt : ∀ x ∈ p, x.block < w.heap.size) : ∃ x : Pts, v = x.v ∧ x.At w := by
  obtain ⟨a, len, cap, rfl⟩ := okWide_slice Try.underlying33 hv
  obtain ⟨fuel, hf⟩ := h
  rcases open_slice Try.underlying33 hf with ⟨hcs, _⟩ | ⟨a, l', c', m, n, D, Pl, hcs, _, hl, hm, hmm, _, hx⟩
  · simp [Value.cells] at hcs
    obtain ⟨rfl, rfl, rfl⟩ := hcs
    exact ⟨⟨none, 0, []⟩, rfl, Nat.le_refl _, Nat.zero_le _, ⟨rfl, fun h0 => absurd h0 (by decide)⟩, by simp⟩
  · simp [Value.cells] at hcs
    obtain ⟨rfl, rfl, rfl⟩ := hcs
    have hlm : len ≤ m := by rw [hmm]; simpa using hl
    have hC : Try.prog.cellsOf 37 = 5 := by kernel_rfl
    obtain ⟨X, hX⟩ := choose_lt (α := Pt) (n := len) (p := fun i q => (∀ r, r < 5 → w.cell? (a.add (i * 5 + r)) = q.cells[r]?) ∧ q.Ok w) (fun i hi => by
      obtain ⟨cs', h1, h2⟩ := hx i (by omega)
      obtain ⟨q, rfl, hq⟩ := trod_part h2
      obtain ⟨_, _, h3⟩ := World.cells?_some h1
      rw [hC] at h3
      refine ⟨q, fun r hr => ?_, hq⟩
      have := h3 r hr
      rwa [add_add] at this)
    have hln : ((List.range len).map X).length = len := by simp
    refine ⟨⟨some a, cap, (List.range len).map X⟩, by unfold Pts.v; rw [hln], by rw [hln]; exact hl, hm, ⟨flat_len Pt.cells 5 (fun _ => rfl) _, fun h0 => ⟨a, rfl, fun j u hj => ?_⟩⟩, fun q hq => ?_⟩
    · have hjl := (List.getElem?_eq_some_iff.1 hj).1
      rw [flat_len Pt.cells 5 (fun _ => rfl), hln] at hjl
      have hi : j / 5 < len := by omega
      have h1 := flat_get Pt.cells 5 (fun _ => rfl) ((List.range len).map X) (j / 5) (j % 5) (by rw [hln]; exact hi) (by omega)
      rw [show j / 5 * 5 + j % 5 = j by omega] at h1
      rw [h1] at hj
      have h2 := (hX (j / 5) hi).1 (j % 5) (by omega)
      rw [show j / 5 * 5 + j % 5 = j by omega] at h2
      rw [h2, ← hj]
      simp
    · obtain ⟨i, hi, rfl⟩ := List.mem_map.1 hq
      exact (hX i (List.mem_range.1 hi)).2
end
end Go.Proofs.Ytliccefjdieclaa
