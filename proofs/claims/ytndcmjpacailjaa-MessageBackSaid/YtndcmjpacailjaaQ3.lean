/- Law OctetsPuts. No condition. -/
import Derived.Test.YtndcmjpacailjaaQ2
namespace Go.Proofs.Ytndcmjpacailjaa
open Go.RowKit
attribute [local go_sem] Later.cell QUpon_value QUpon_enter MUpon_value run_eql_slice_nil
attribute [local go_sem ↓ high] loadPrt_is storePrt_is
attribute [local go_sem] run_loadPrt run_loadPrt_at run_storePrt one_int one_bool one_slice one_ptr one_str setRow_new setRow_past cell_ca frozen_ca cellsAt_alloc_at cellsAt_alloc_past cellsAt_drew cellsAt_later cellsAt_setCell cellsAt_set_same cellsAt_setRow_same cellsAt_setRow_far subAt_alloc subAt_drew subAt_later subAt_setCell subAt_setRow ltn_2 ltn_3 ltn_4 ltn_5
theorem ptr_same (b : Nat) (w : World) : (binOp .neq 41 (.pointer (some ⟨b, 0, none⟩)) (.pointer (some ⟨b, 0, none⟩))).run Try.prog w = .ok (.bool false) w := by
  have e : ∀ d, (Op.equalIn (d + 1) 41 (.pointer (some ⟨b, 0, none⟩)) (.pointer (some ⟨b, 0, none⟩))).run Try.prog w = .ok true w := fun d => by
    have hs : ∀ w, (sizeOf 43).run Try.prog w = .ok 1 w := fun w => by kernel_rfl
    simp [Op.equalIn, run_underlying Try.underlying41, hs, sameAddr]
  have e2 : (Op.equalIn Op.maxDepth 41 (.pointer (some ⟨b, 0, none⟩)) (.pointer (some ⟨b, 0, none⟩))).run Try.prog w = .ok true w := e 9999
  simp only [binOp, Op.equal]
  simp [e2]
attribute [local go_sem] ptr_same
def lightB (l : List Pt) : Bool := decide (l.length ≤ 40) && l.all (fun p => decide (p.raw.xs.length ≤ 60))
theorem Pts.At.sub {x : Pts} {w : World} (h : x.At w) {b off : Nat} (hA : x.A = some ⟨b, off, none⟩) (i : Nat) (hi : i < x.l.length) : subAt w b (off + i * 5) 5 = (x.l[i].cells).toArray := by
  obtain ⟨b', off', hA', _, hc⟩ := h.cell (by omega)
  rw [hA] at hA'
  injection hA' with hA'
  injection hA' with h1 h2
  subst h1 h2
  exact subAt_is rfl (fun j hj => by rw [Nat.add_assoc]; exact hc i hi j hj)
theorem Pts.At.elem {x : Pts} {w : World} (h : x.At w) (k : Nat) (hk : k < x.l.length) : ∃ b off, x.A = some ⟨b, off, none⟩ ∧ b < w.heap.size ∧ subAt w b (off + k * 5) 5 = #[.int .i64 x.l[k].kind, .int .i64 x.l[k].size, .int .u64 (x.l[k].n : Int), .int .i64 x.l[k].s, .slice x.l[k].raw.A x.l[k].raw.xs.length x.l[k].raw.c] := by
  obtain ⟨b, off, hA, hb, _⟩ := h.cell (by omega)
  exact ⟨b, off, hA, hb, h.sub hA k hk⟩
theorem lightB_of {l : List Pt} (h : lightB l = true) : l.length ≤ 40 ∧ ∀ p ∈ l, p.raw.xs.length ≤ 60 := by
  unfold lightB at h
  simp only [Bool.and_eq_true, decide_eq_true_eq, List.all_eq_true] at h
  exact h
def Pt.form (p : Pt) : List Int := formP p.kind p.size p.n p.s p.raw.xs
def forms (l : List Pt) : List Int := l.flatMap Pt.form
theorem forms_byt {l : List Pt} {w : World} (h : ∀ p ∈ l, p.Ok w) : Byt (forms l) := by
  intro x hx
  obtain ⟨p, hp, hx⟩ := List.mem_flatMap.1 hx
  exact formP_byt (h p hp).raw.byt x hx
theorem forms_len {l : List Pt} (h : ∀ p ∈ l, p.n < 18446744073709551616 ∧ p.raw.xs.length ≤ 60) : (forms l).length ≤ 70 * l.length := by
  induction l with
  | nil => simp [forms]
  | cons p l ih =>
    have h1 := ih (fun q hq => h q (by simp [hq]))
    have h2 := h p (by simp)
    have h3 := formP_len (k := p.kind) (z := p.size) (n := p.n) (s := p.s) (xs := p.raw.xs) h2.1
    have h4 : (forms (p :: l)).length = (formP p.kind p.size p.n p.s p.raw.xs).length + (forms l).length := by unfold forms; rw [List.flatMap_cons, List.length_append]; rfl
    rw [h4, List.length_cons]
    omega
theorem forms_take {l : List Pt} {k : Nat} (h : k < l.length) : forms (l.take (k + 1)) = forms (l.take k) ++ l[k].form := by
  unfold forms
  rw [List.take_add_one, List.getElem?_eq_getElem h, List.flatMap_append]
  simp
theorem Own.chgD {w0 w w' : World} {A : Option Addr} {n c : Nat} {bs : List Int} {m : List Nat} (h : Own w0 w (.slice A n c) bs) (hx : Chg w w' m) (hd : ∀ g ∈ ablk A, g ∉ m) : Own w0 w' (.slice A n c) bs := by
  obtain ⟨A1, c1, h1, hR, hf⟩ := h
  injection h1 with h1 h2 h3
  subst h1 h2 h3
  exact ⟨A, c, rfl, hR.chg hx hd, fun k hk => ⟨(hf k hk).1, Nat.lt_of_lt_of_le (hf k hk).2 hx.size⟩⟩
theorem Chg.extOf {w0 a b : World} {m : List Nat} (h : Chg a b m) (hx : Ext w0 a) (hm : ∀ i ∈ m, w0.heap.size ≤ i) : Ext w0 b := (Chg.step (Chg.of_ext hx []) h (fun i hi => .inr (hm i hi))).ext (by simp)
end Go.Proofs.Ytndcmjpacailjaa
