/- Things that are put and read, as they come in (law03.Part). No condition. -/
import Derived.Test.YthophidcgkjdeaaSb
import Derived.Test.YthophidcgkjdeaaR2
import Derived.Test.YthophidcgkjdeaaL03
namespace Go.Proofs.Ythophidcgkjdeaa
open Go.RowKit Go.WideShapes Go.ChangeShapes Go.Deep Go.Joins
attribute [local go_sem] Later.cell QUpon_value QUpon_enter MUpon_value run_eql_slice_nil

attribute [local go_sem] one_int one_bool one_slice one_ptr one_str setRow_new setRow_past cell_ca frozen_ca cellsAt_alloc_at cellsAt_alloc_past cellsAt_drew cellsAt_later cellsAt_setCell cellsAt_set_same cellsAt_setRow_same cellsAt_setRow_far subAt_alloc subAt_drew subAt_later subAt_setCell subAt_setRow ltn_2 ltn_3 ltn_4 ltn_5
structure Pt where
  kind : Int
  size : Int
  n : Nat
  s : Int
  raw : Bs
structure Pt.Ok (p : Pt) (w : World) : Prop where
  kind : I64 p.kind
  size : I64 p.size
  n : p.n < 18446744073709551616
  s : I64 p.s
  raw : p.raw.At w
def Pt.cells (p : Pt) : List Value := [.int .i64 p.kind, .int .i64 p.size, .int .u64 (p.n : Int), .int .i64 p.s, p.raw.v]
instance : Inhabited Pt := ⟨⟨0, 0, 0, 0, ⟨none, 0, []⟩⟩⟩
structure Pts where
  A : Option Addr
  c : Nat
  l : List Pt
def Pts.v (x : Pts) : Value := .slice x.A x.l.length x.c
structure Pts.At (x : Pts) (w : World) : Prop where
  le : x.l.length ≤ x.c
  max : x.c ≤ maxLen
  src : Src w 5 x.A x.l.length (x.l.flatMap Pt.cells)
  ok : ∀ p ∈ x.l, p.Ok w
theorem Bs.At.ext {b : Bs} {w w' : World} (h : b.At w) (hx : Ext w w') : b.At w' := ⟨h.le, h.max, h.src.ext hx, h.byt⟩
theorem Pt.Ok.ext {p : Pt} {w w' : World} (h : p.Ok w) (hx : Ext w w') : p.Ok w' := ⟨h.kind, h.size, h.n, h.s, h.raw.ext hx⟩
theorem Pts.At.ext {x : Pts} {w w' : World} (h : x.At w) (hx : Ext w w') : x.At w' := ⟨h.le, h.max, h.src.ext hx, fun p hp => (h.ok p hp).ext hx⟩
/-- The cells of one that comes in. -/
theorem Pts.At.cell {x : Pts} {w : World} (h : x.At w) (h0 : 0 < x.l.length) : ∃ b off, x.A = some ⟨b, off, none⟩ ∧ b < w.heap.size ∧ ∀ (i : Nat) (hi : i < x.l.length) (r : Nat), r < 5 → w.cell? ⟨b, off + (i * 5 + r), none⟩ = (x.l[i].cells)[r]? := by
  obtain ⟨b, off, hA, hb, hc⟩ := h.src.lt h0 (by decide)
  refine ⟨b, off, hA, hb, fun i hi r hr => ?_⟩
  rw [hc (i * 5 + r) (by omega), flat_get Pt.cells 5 (fun _ => rfl) _ i r hi hr]
section
variable {H : Type} {enc : TypeId × Value → H} {w : World}
end
end Go.Proofs.Ythophidcgkjdeaa
