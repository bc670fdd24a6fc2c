/- Messages that come in. No condition. -/
import Derived.Test.YtndcmjpacailjaaM1
import Derived.Test.YtndcmjpacailjaaFv
/- Messages that come in. No condition. -/
namespace Go.Proofs.Ytndcmjpacailjaa
open Go.RowKit Go.WideShapes Go.ChangeShapes Go.Deep Go.Joins
theorem msg_of (xs : List Int) (h : xs.length = 9) (hI : ∀ x ∈ xs, I64 x) : ∃ m : Mg, Value.agg (xs.map (Value.int .i64)).toArray = .agg #[.int .i64 m.kind, .int .i64 m.sym, .int .i64 m.seq, .int .i64 m.tick, .int .i64 m.id, .int .i64 m.wth, .int .i64 m.price, .int .i64 m.qty, .int .i64 m.code] ∧ m.Ok := by
  match xs, h with
  | [a, b, c, d, e, f, g, i, j], _ =>
    exact ⟨⟨a, b, c, d, e, f, g, i, j⟩, rfl, ⟨hI _ (by simp), hI _ (by simp), hI _ (by simp), hI _ (by simp), hI _ (by simp), hI _ (by simp), hI _ (by simp), hI _ (by simp), hI _ (by simp)⟩⟩
section
variable {H : Type} {enc : TypeId × Value → H} {w : World} {base : Nat} {spare : Nat → Bool} {held : Bool}
theorem open_apiMsg {r : Reach} {b0 : Nat} {v : Value} {d : DataW H} {p : List MemPlace} (hv : Value.okWide Try.prog w r b0 23 v) (h : DataW.Trod enc Try.prog w base spare held 23 v d p) (hlt : ∀ x ∈ p, x.block < w.heap.size) : ∃ m : Mg, v = .agg #[.int .i64 m.kind, .int .i64 m.sym, .int .i64 m.seq, .int .i64 m.tick, .int .i64 m.id, .int .i64 m.wth, .int .i64 m.price, .int .i64 m.qty, .int .i64 m.code] ∧ m.Ok := by
  obtain ⟨xs, rfl, hl, hI⟩ := open_aggI Try.underlying23 (by kernel_rfl) (by kernel_rfl) (by kernel_rfl) hv h
  exact msg_of xs hl hI
end
end Go.Proofs.Ytndcmjpacailjaa
/- Messages that come in, many. No condition. -/
namespace Go.Proofs.Ytndcmjpacailjaa
open Go.RowKit Go.WideShapes Go.ChangeShapes Go.Deep Go.Joins
def Mg.cells (m : Mg) : List Value := [.int .i64 m.kind, .int .i64 m.sym, .int .i64 m.seq, .int .i64 m.tick, .int .i64 m.id, .int .i64 m.wth, .int .i64 m.price, .int .i64 m.qty, .int .i64 m.code]
instance : Inhabited Mg := ⟨⟨0, 0, 0, 0, 0, 0, 0, 0, 0⟩⟩
structure Mgs where
  A : Option Addr
  c : Nat
  l : List Mg
def Mgs.v (x : Mgs) : Value := .slice x.A x.l.length x.c
structure Mgs.At (x : Mgs) (w : World) : Prop where
  lies : Lies Mg.cells 9 w x.A x.c x.l
  ok : ∀ m ∈ x.l, m.Ok
section
variable {H : Type} {enc : TypeId × Value → H} {w : World}
theorem trod_msg (n : Nat) (cs : List Value) (y : DataW H × List MemPlace) (h : DataW.trod enc Try.prog w 0 (fun _ => true) true n 23 cs = some y) : ∃ m : Mg, cs = m.cells ∧ m.Ok := by
  obtain ⟨hl, hc⟩ := trod_intsI Try.underlying23 (by kernel_rfl) (by kernel_rfl) (by kernel_rfl) h
  have hl9 : cs.length = 9 := hl
  match cs, hl9 with
  | [c0, c1, c2, c3, c4, c5, c6, c7, c8], _ =>
    obtain ⟨a0, e0, i0⟩ := hc 0 (by decide)
    obtain ⟨a1, e1, i1⟩ := hc 1 (by decide)
    obtain ⟨a2, e2, i2⟩ := hc 2 (by decide)
    obtain ⟨a3, e3, i3⟩ := hc 3 (by decide)
    obtain ⟨a4, e4, i4⟩ := hc 4 (by decide)
    obtain ⟨a5, e5, i5⟩ := hc 5 (by decide)
    obtain ⟨a6, e6, i6⟩ := hc 6 (by decide)
    obtain ⟨a7, e7, i7⟩ := hc 7 (by decide)
    obtain ⟨a8, e8, i8⟩ := hc 8 (by decide)
    simp at e0 e1 e2 e3 e4 e5 e6 e7 e8
    subst e0 e1 e2 e3 e4 e5 e6 e7 e8
    exact ⟨⟨a0, a1, a2, a3, a4, a5, a6, a7, a8⟩, rfl, ⟨i0, i1, i2, i3, i4, i5, i6, i7, i8⟩⟩
theorem open_sapiMsg {r : Reach} {b0 : Nat} {v : Value} {d : DataW H} {p : List MemPlace} (hv : Value.okWide Try.prog w r b0 35 v) (h : DataW.Trod enc Try.prog w 0 (fun _ => true) true 35 v d p) (hlt : ∀ x ∈ p, x.block < w.heap.size) : ∃ x : Mgs, v = x.v ∧ x.At w := by
  obtain ⟨A, c, l, h1, h2, h3⟩ := open_list' Mg.cells 9 (fun _ => rfl) (by decide) Mg.Ok Try.underlying35 (by kernel_rfl) trod_msg hv h
  exact ⟨⟨A, c, l⟩, h1, h2, h3⟩
end
theorem Lies.msg {w : World} {A : Option Addr} {c : Nat} {l : List Mg} (h : Lies Mg.cells 9 w A c l) (i : Nat) (hi : i < l.length) : ∃ b off, A = some ⟨b, off, none⟩ ∧ b < w.heap.size ∧ subAt w b (off + i * 9) 9 = #[.int .i64 l[i].kind, .int .i64 l[i].sym, .int .i64 l[i].seq, .int .i64 l[i].tick, .int .i64 l[i].id, .int .i64 l[i].wth, .int .i64 l[i].price, .int .i64 l[i].qty, .int .i64 l[i].code] ∧ w.cell? ⟨b, off + i * 9 + 2, none⟩ = some (.int .i64 l[i].seq) := by
  obtain ⟨b, off, hA, hb, hc⟩ := h.cell (fun _ => rfl) (by decide) i hi
  exact ⟨b, off, hA, hb, subAt_is rfl hc, hc 2 (by decide)⟩
end Go.Proofs.Ytndcmjpacailjaa
