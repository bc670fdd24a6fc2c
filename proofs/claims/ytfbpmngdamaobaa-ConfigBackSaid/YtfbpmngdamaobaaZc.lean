/- Configurations that come in. No condition. -/
import Derived.Test.YtfbpmngdamaobaaFv
import Derived.Test.YtfbpmngdamaobaaSy
import Derived.OpenShut
namespace Go.Proofs.Ytfbpmngdamaobaa
open Go.RowKit Go.WideShapes Go.ChangeShapes Go.Deep Go.Joins
def Sym.cells (s : Sym) : List Value := [.int .i64 s.grid, .int .i64 s.ref, .int .i64 s.stat, .int .i64 s.dyn, .int .i64 s.win, .int .i64 s.move, .int .i64 s.lim, .int .i64 s.pause, .int .i64 s.ext, .int .i64 s.mx, .int .i64 s.coll, .int .i64 s.wid, .int .i64 s.self, .int .i64 s.slots, .int .i64 s.lev, .int .i64 s.short]
instance : Inhabited Sym := ⟨⟨0, 0, 0, 0, 0, 0, 0, 0, 0, 0, 0, 0, 0, 0, 0, 0⟩⟩
/-- A row of a session's table. -/
structure Rw where
  tick : Int
  ph : Int
def Rw.cells (r : Rw) : List Value := [.int .i64 r.tick, .int .i64 r.ph]
instance : Inhabited Rw := ⟨⟨0, 0⟩⟩
structure Rw.I (r : Rw) : Prop where
  tick : I64 r.tick
  ph : I64 r.ph
structure Cfg where
  A : Option Addr
  c : Nat
  l : List Sym
  B : Option Addr
  d : Nat
  t : List Rw
  ix : Int
  f1 : Int
  f2 : Int
  f3 : Int
  h1 : Int
  h2 : Int
def Cfg.v (x : Cfg) : Value := .agg #[.slice x.A x.l.length x.c, .slice x.B x.t.length x.d, .int .i64 x.ix, .int .i64 x.f1, .int .i64 x.f2, .int .i64 x.f3, .int .i64 x.h1, .int .i64 x.h2]
structure Cfg.At (x : Cfg) (w : World) : Prop where
  syms : Lies Sym.cells 16 w x.A x.c x.l
  symI : ∀ s ∈ x.l, s.I
  rows : Lies Rw.cells 2 w x.B x.d x.t
  rowI : ∀ r ∈ x.t, r.I
  ix : I64 x.ix
  f1 : I64 x.f1
  f2 : I64 x.f2
  f3 : I64 x.f3
  h1 : I64 x.h1
  h2 : I64 x.h2
theorem Cfg.At.ext {x : Cfg} {w w' : World} (h : x.At w) (hx : Ext w w') : x.At w' := ⟨h.syms.ext hx, h.symI, h.rows.ext hx, h.rowI, h.ix, h.f1, h.f2, h.f3, h.h1, h.h2⟩
theorem Lies.symAt {w : World} {A : Option Addr} {c : Nat} {l : List Sym} (h : Lies Sym.cells 16 w A c l) (i : Nat) (hi : i < l.length) : ∃ b off, A = some ⟨b, off, none⟩ ∧ b < w.heap.size ∧ subAt w b (off + i * 16) 16 = (l[i].cells).toArray := by
  obtain ⟨b, off, hA, hb, hc⟩ := h.cell (fun _ => rfl) (by decide) i hi
  exact ⟨b, off, hA, hb, subAt_is rfl hc⟩
theorem Lies.rowAt {w : World} {A : Option Addr} {c : Nat} {l : List Rw} (h : Lies Rw.cells 2 w A c l) (i : Nat) (hi : i < l.length) : ∃ b off, A = some ⟨b, off, none⟩ ∧ b < w.heap.size ∧ w.cell? ⟨b, off + i * 2, none⟩ = some (.int .i64 l[i].tick) ∧ w.cell? ⟨b, off + i * 2 + 1, none⟩ = some (.int .i64 l[i].ph) := by
  obtain ⟨b, off, hA, hb, hc⟩ := h.cell (fun _ => rfl) (by decide) i hi
  exact ⟨b, off, hA, hb, hc 0 (by decide), hc 1 (by decide)⟩
section
variable {H : Type} {enc : TypeId × Value → H} {w : World}
set_option maxRecDepth 100000 in
theorem trod_sym (n : Nat) (cs : List Value) (y : DataW H × List MemPlace) (h : DataW.trod enc Try.prog w 0 (fun _ => true) true n 35 cs = some y) : ∃ s : Sym, cs = s.cells ∧ s.I := by
  obtain ⟨hl, hc⟩ := trod_intsI Try.underlying35 (by kernel_rfl) (by kernel_rfl) (by kernel_rfl) h
  have hl16 : cs.length = 16 := hl
  match cs, hl16 with
  | [c0, c1, c2, c3, c4, c5, c6, c7, c8, c9, c10, c11, c12, c13, c14, c15], _ =>
    obtain ⟨a0, e0, i0⟩ := hc 0 (by decide)
    obtain ⟨a1, e1, i1⟩ := hc 1 (by decide)
    obtain ⟨a2, e2, i2⟩ := hc 2 (by decide)
    obtain ⟨a3, e3, i3⟩ := hc 3 (by decide)
    obtain ⟨a4, e4, i4⟩ := hc 4 (by decide)
    obtain ⟨a5, e5, i5⟩ := hc 5 (by decide)
    obtain ⟨a6, e6, i6⟩ := hc 6 (by decide)
    obtain ⟨a7, e7, i7⟩ := hc 7 (by decide)
    obtain ⟨a8, e8, i8⟩ := hc 8 (by decide)
    obtain ⟨a9, e9, i9⟩ := hc 9 (by decide)
    obtain ⟨a10, e10, i10⟩ := hc 10 (by decide)
    obtain ⟨a11, e11, i11⟩ := hc 11 (by decide)
    obtain ⟨a12, e12, i12⟩ := hc 12 (by decide)
    obtain ⟨a13, e13, i13⟩ := hc 13 (by decide)
    obtain ⟨a14, e14, i14⟩ := hc 14 (by decide)
    obtain ⟨a15, e15, i15⟩ := hc 15 (by decide)
    simp at e0 e1 e2 e3 e4 e5 e6 e7 e8 e9 e10 e11 e12 e13 e14 e15
    subst e0 e1 e2 e3 e4 e5 e6 e7 e8 e9 e10 e11 e12 e13 e14 e15
    exact ⟨⟨a0, a1, a2, a3, a4, a5, a6, a7, a8, a9, a10, a11, a12, a13, a14, a15⟩, rfl, ⟨i0, i1, i2, i3, i4, i5, i6, i7, i8, i9, i10, i11, i12, i13, i14, i15⟩⟩
set_option maxRecDepth 100000 in
theorem trod_row (n : Nat) (cs : List Value) (y : DataW H × List MemPlace) (h : DataW.trod enc Try.prog w 0 (fun _ => true) true n 54 cs = some y) : ∃ r : Rw, cs = r.cells ∧ r.I := by
  obtain ⟨hl, hc⟩ := trod_intsI Try.underlying54 (by kernel_rfl) (by kernel_rfl) (by kernel_rfl) h
  have hl2 : cs.length = 2 := hl
  match cs, hl2 with
  | [c0, c1], _ =>
    obtain ⟨a0, e0, i0⟩ := hc 0 (by decide)
    obtain ⟨a1, e1, i1⟩ := hc 1 (by decide)
    simp at e0 e1
    subst e0 e1
    exact ⟨⟨a0, a1⟩, rfl, ⟨i0, i1⟩⟩
set_option maxRecDepth 100000 in
theorem trod_cfg (n : Nat) (cs : List Value) (y : DataW H × List MemPlace) (h : DataW.trod enc Try.prog w 0 (fun _ => true) true n 27 cs = some y) : ∃ x : Cfg, cs = (#[.slice x.A x.l.length x.c, .slice x.B x.t.length x.d, .int .i64 x.ix, .int .i64 x.f1, .int .i64 x.f2, .int .i64 x.f3, .int .i64 x.h1, .int .i64 x.h2]).toList ∧ x.At w := by
  obtain ⟨ys, m, _, _, hlen, hyl, hg⟩ := DataW.trod_struct Try.underlying27 h
  have hl : cs.length = 8 := by rw [hlen]; kernel_rfl
  have hy : ys.length = 5 := hyl
  match cs, ys, hl, hy with
  | [c0, c1, c2, c3, c4, c5, c6, c7], [y0, y1, y2, y3, y4], _, _ =>
    have g0 : DataW.trod enc Try.prog w 0 (fun _ => true) true m 22 [c0] = some y0 := hg 0 _ rfl
    have g1 : DataW.trod enc Try.prog w 0 (fun _ => true) true m 23 [c1] = some y1 := hg 1 _ rfl
    have g2 : DataW.trod enc Try.prog w 0 (fun _ => true) true m 2 [c2] = some y2 := hg 2 _ rfl
    have g3 : DataW.trod enc Try.prog w 0 (fun _ => true) true m 24 [c3, c4, c5] = some y3 := hg 3 _ rfl
    have g4 : DataW.trod enc Try.prog w 0 (fun _ => true) true m 25 [c6, c7] = some y4 := hg 4 _ rfl
    obtain ⟨A, c, l, e0, L0, I0⟩ := trod_list Sym.cells 16 (fun _ => rfl) (by decide) Sym.I Try.underlying22 (by kernel_rfl) trod_sym g0
    obtain ⟨B, d, t, e1, L1, I1⟩ := trod_list Rw.cells 2 (fun _ => rfl) (by decide) Rw.I Try.underlying23 (by kernel_rfl) trod_row g1
    obtain ⟨a2, e2, _, w2⟩ := DataW.trod_int Try.underlying2 g2
    obtain ⟨zs3, m3, _, _, _, hz3, ha3⟩ := DataW.trod_array Try.underlying24 g3
    obtain ⟨zs4, m4, _, _, _, hz4, ha4⟩ := DataW.trod_array Try.underlying25 g4
    match zs3, zs4, hz3, hz4 with
    | [z0, z1, z2], [z3, z4], _, _ =>
      have k0 : DataW.trod enc Try.prog w 0 (fun _ => true) true m3 3 [c3] = some z0 := ha3 0 (by decide)
      have k1 : DataW.trod enc Try.prog w 0 (fun _ => true) true m3 3 [c4] = some z1 := ha3 1 (by decide)
      have k2 : DataW.trod enc Try.prog w 0 (fun _ => true) true m3 3 [c5] = some z2 := ha3 2 (by decide)
      have k3 : DataW.trod enc Try.prog w 0 (fun _ => true) true m4 2 [c6] = some z3 := ha4 0 (by decide)
      have k4 : DataW.trod enc Try.prog w 0 (fun _ => true) true m4 2 [c7] = some z4 := ha4 1 (by decide)
      obtain ⟨a3, e3, _, w3⟩ := DataW.trod_int Try.underlying3 k0
      obtain ⟨a4, e4, _, w4⟩ := DataW.trod_int Try.underlying3 k1
      obtain ⟨a5, e5, _, w5⟩ := DataW.trod_int Try.underlying3 k2
      obtain ⟨a6, e6, _, w6⟩ := DataW.trod_int Try.underlying2 k3
      obtain ⟨a7, e7, _, w7⟩ := DataW.trod_int Try.underlying2 k4
      injection e0 with e0
      injection e1 with e1
      injection e2 with e2
      injection e3 with e3
      injection e4 with e4
      injection e5 with e5
      injection e6 with e6
      injection e7 with e7
      subst e0 e1 e2 e3 e4 e5 e6 e7
      exact ⟨⟨A, c, l, B, d, t, a2, a3, a4, a5, a6, a7⟩, rfl, ⟨L0, I0, L1, I1, I64.of_wf w2, I64.of_wf w3, I64.of_wf w4, I64.of_wf w5, I64.of_wf w6, I64.of_wf w7⟩⟩
set_option maxRecDepth 100000 in
theorem open_apiConfig {r : Reach} {b0 : Nat} {v : Value} {d : DataW H} {p : List MemPlace} (hv : Value.okWide Try.prog w r b0 27 v) (h : DataW.Trod enc Try.prog w 0 (fun _ => true) true 27 v d p) (hlt : ∀ x ∈ p, x.block < w.heap.size) : ∃ x : Cfg, v = x.v ∧ x.At w := by
  obtain ⟨cs, rfl, hsz⟩ := okWide_struct Try.underlying27 hv
  obtain ⟨fuel, hf⟩ := h
  obtain ⟨x, hx, hA⟩ := trod_cfg _ _ _ hf
  refine ⟨x, ?_, hA⟩
  unfold Cfg.v
  congr 1
  obtain ⟨cs⟩ := cs
  have : (Value.agg ⟨cs⟩).cells.toList = cs := rfl
  rw [this] at hx
  rw [hx]
end
end Go.Proofs.Ytfbpmngdamaobaa
