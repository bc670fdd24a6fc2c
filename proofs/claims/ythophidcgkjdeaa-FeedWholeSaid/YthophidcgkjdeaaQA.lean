/- Frames (layer 3): what is read. No condition. -/
import Derived.Test.YthophidcgkjdeaaQ1
import Derived.Test.YthophidcgkjdeaaH1
/- Laws of layer 3: what is put, read, and told of one thing. No condition. -/
namespace Go.Proofs.Ythophidcgkjdeaa
open Go.RowKit
attribute [local go_sem] Later.cell QUpon_value QUpon_enter MUpon_value run_eql_slice_nil

attribute [local go_sem] one_int one_bool one_slice one_ptr one_str setRow_new setRow_past cell_ca frozen_ca cellsAt_alloc_at cellsAt_alloc_past cellsAt_drew cellsAt_later cellsAt_setCell cellsAt_set_same cellsAt_setRow_same cellsAt_setRow_far subAt_alloc subAt_drew subAt_later subAt_setCell subAt_setRow ltn_2 ltn_3 ltn_4 ltn_5
def formP (k z : Int) (n : Nat) (s : Int) (xs : List Int) : List Int := if k = 1 then (if 1 ≤ z ∧ z ≤ 8 then uintB n z.toNat else []) else if k = 2 then intB s else if k = 3 then numB n else if k = 4 then xs else []
theorem formP_byt {k z : Int} {n : Nat} {s : Int} {xs : List Int} (h : Byt xs) : Byt (formP k z n s xs) := by
  unfold formP
  split
  · split
    · exact uintB_byt _ _
    · intro x hx; cases hx
  split
  · exact uintB_byt _ _
  split
  · exact numB_byt _
  split
  · exact h
  · intro x hx; cases hx
theorem formP_len {k z : Int} {n : Nat} {s : Int} {xs : List Int} (hn : n < 18446744073709551616) : (formP k z n s xs).length ≤ 10 + xs.length := by
  unfold formP
  split
  · split
    · rw [uintB_len]; omega
    · simp
  split
  · unfold intB; rw [uintB_len]; omega
  split
  · have := numB_len64 hn; omega
  split
  · omega
  · simp
theorem ruint_out (n size : Int) (hs : size < 1 ∨ 8 < size) (w : World) : Calls Try.prog 35 #[.int .u64 n, .int .i64 size] w fun e w' => e = .returned (.slice none 0 0) ∧ Ext w w' := by
  by_cases h : size < 1
  ·
    go_enter Try.func35, Try.ntmps35
    go_wp2_with fail
    first | refine fin_ret rfl (fun K hK => ?_) | refine fin_norm rfl (fun K hK => ?_)
    simp [results, Try.results35, go_sem, rsat]
    try go_simp
    refine hK _ ?_
    clear hK K
    exact ⟨rfl, (by repeat (first | (with_reducible exact Ext.refl _) | (with_reducible assumption) | (with_reducible refine Ext.alloc ?_ _) | (with_reducible refine Ext.drew ?_) | (with_reducible refine Ext.drewN ?_ _) | (with_reducible refine Ext.setCell ?_ (by simp; try omega) _) | (with_reducible refine Ext.setRow ?_ (by simp; try omega) _)))⟩
  · have h2 : 8 < size := by omega
    go_enter Try.func35, Try.ntmps35
    go_wp2_with fail
    first | refine fin_ret rfl (fun K hK => ?_) | refine fin_norm rfl (fun K hK => ?_)
    simp [results, Try.results35, go_sem, rsat]
    try go_simp
    refine hK _ ?_
    clear hK K
    exact ⟨rfl, (by repeat (first | (with_reducible exact Ext.refl _) | (with_reducible assumption) | (with_reducible refine Ext.alloc ?_ _) | (with_reducible refine Ext.drew ?_) | (with_reducible refine Ext.drewN ?_ _) | (with_reducible refine Ext.setCell ?_ (by simp; try omega) _) | (with_reducible refine Ext.setRow ?_ (by simp; try omega) _)))⟩
theorem beqI {x y : Int} (h : ¬ x = y) : (x == y) = false := beq_eq_false_iff_ne.2 h
/-- What a reader tells of one thing. -/
def gotR (k z : Int) (bs : List Int) (f : Int) : Nat × Int × List Int × List Int × Int :=
  if k = 1 then (if 1 ≤ z ∧ z ≤ 8 then ((uintR bs f z.toNat).1, 0, [], (uintR bs f z.toNat).2.1, (uintR bs f z.toNat).2.2) else (0, 0, [], bs, f))
  else if k = 2 then (0, backN (uintR bs f 8).1, [], (uintR bs f 8).2.1, (uintR bs f 8).2.2)
  else if k = 3 then ((numR bs f).1, 0, [], (numR bs f).2.1, (numR bs f).2.2)
  else if k = 4 then (if z < 0 then (0, 0, [], bs, f) else (0, 0, (rawR bs f z.toNat).1, (rawR bs f z.toNat).2.1, (rawR bs f z.toNat).2.2))
  else (0, 0, [], bs, f)
theorem Reads.extL {w w0 w1 : World} {g : Nat} {A A1 : Option Addr} {bs : List Int} {f : Int} (hx : Ext w w0) (h : Reads w0 g A bs f w1 A1) : Reads w g A bs f w1 A1 := ⟨h.rd, h.blk, (Chg.of_ext hx _).trans h.chg⟩
theorem Reads.setRow {w w1 : World} {g : Nat} {A A1 : Option Addr} {bs bs0 : List Int} {f f0 : Int} (h : Reads w g A bs f w1 A1) (h0 : Rdr w g A bs0 f0) (hg : g < w.heap.size) {p : Nat} (hp : w.heap.size ≤ p) (cs : Array Value) : Reads w g A bs f (w1.setRow p cs) A1 :=
  ⟨h.rd.chg ((Chg.refl w1 [p]).setRow (.inl (by simp)) cs) (by simp; omega) (fun k hk => by rw [h.blk] at hk; have := (h0.alt k hk).1; simp; omega), h.blk, h.chg.setRow (.inr hp) cs⟩
end Go.Proofs.Ythophidcgkjdeaa
/- Law OctetsPuts. No condition. -/
namespace Go.Proofs.Ythophidcgkjdeaa
open Go.RowKit
attribute [local go_sem] Later.cell QUpon_value QUpon_enter MUpon_value run_eql_slice_nil

attribute [local go_sem] one_int one_bool one_slice one_ptr one_str setRow_new setRow_past cell_ca frozen_ca cellsAt_alloc_at cellsAt_alloc_past cellsAt_drew cellsAt_later cellsAt_setCell cellsAt_set_same cellsAt_setRow_same cellsAt_setRow_far subAt_alloc subAt_drew subAt_later subAt_setCell subAt_setRow ltn_2 ltn_3 ltn_4 ltn_5
theorem ptr_same (b : Nat) (w : World) : (binOp .neq 81 (.pointer (some ⟨b, 0, none⟩)) (.pointer (some ⟨b, 0, none⟩))).run Try.prog w = .ok (.bool false) w := by
  have e : ∀ d, (Op.equalIn (d + 1) 81 (.pointer (some ⟨b, 0, none⟩)) (.pointer (some ⟨b, 0, none⟩))).run Try.prog w = .ok true w := fun d => by
    have hs : ∀ w, (sizeOf 83).run Try.prog w = .ok 1 w := fun w => by kernel_rfl
    simp [Op.equalIn, run_underlying Try.underlying81, hs, sameAddr]
  have e2 : (Op.equalIn Op.maxDepth 81 (.pointer (some ⟨b, 0, none⟩)) (.pointer (some ⟨b, 0, none⟩))).run Try.prog w = .ok true w := e 9999
  simp only [binOp, Op.equal]
  simp [e2]
attribute [local go_sem] ptr_same
def lightB (l : List Pt) : Bool := decide (l.length ≤ 40) && l.all (fun p => decide (p.raw.xs.length ≤ 60))
theorem Pts.At.sub {x : Pts} {w : World} (h : x.At w) {b off : Nat} (hA : x.A = some ⟨b, off, none⟩) (i : Nat) (hi : i < x.l.length) : subAt w b (off + i * 5) 5 = (x.l[i].cells).toArray := by
  obtain ⟨b', off', hA', _, hc⟩ := h.cell (by omega)
  rw [hA] at hA'
  injection hA' with hA'
  injection hA' with h1 h2
  subst h1 h2
  exact subAt_is rfl (fun j hj => by rw [Nat.add_assoc]; exact hc i hi j hj)
theorem Pts.At.elem {x : Pts} {w : World} (h : x.At w) (k : Nat) (hk : k < x.l.length) : ∃ b off, x.A = some ⟨b, off, none⟩ ∧ b < w.heap.size ∧ subAt w b (off + k * 5) 5 = #[.int .i64 x.l[k].kind, .int .i64 x.l[k].size, .int .u64 (x.l[k].n : Int), .int .i64 x.l[k].s, .slice x.l[k].raw.A x.l[k].raw.xs.length x.l[k].raw.c] := by
  obtain ⟨b, off, hA, hb, _⟩ := h.cell (by omega)
  exact ⟨b, off, hA, hb, h.sub hA k hk⟩
theorem lightB_of {l : List Pt} (h : lightB l = true) : l.length ≤ 40 ∧ ∀ p ∈ l, p.raw.xs.length ≤ 60 := by
  unfold lightB at h
  simp only [Bool.and_eq_true, decide_eq_true_eq, List.all_eq_true] at h
  exact h
def Pt.form (p : Pt) : List Int := formP p.kind p.size p.n p.s p.raw.xs
def forms (l : List Pt) : List Int := l.flatMap Pt.form
theorem forms_byt {l : List Pt} {w : World} (h : ∀ p ∈ l, p.Ok w) : Byt (forms l) := by
  intro x hx
  obtain ⟨p, hp, hx⟩ := List.mem_flatMap.1 hx
  exact formP_byt (h p hp).raw.byt x hx
theorem forms_len {l : List Pt} (h : ∀ p ∈ l, p.n < 18446744073709551616 ∧ p.raw.xs.length ≤ 60) : (forms l).length ≤ 70 * l.length := by
  induction l with
  | nil => simp [forms]
  | cons p l ih =>
    have h1 := ih (fun q hq => h q (by simp [hq]))
    have h2 := h p (by simp)
    have h3 := formP_len (k := p.kind) (z := p.size) (n := p.n) (s := p.s) (xs := p.raw.xs) h2.1
    have h4 : (forms (p :: l)).length = (formP p.kind p.size p.n p.s p.raw.xs).length + (forms l).length := by unfold forms; rw [List.flatMap_cons, List.length_append]; rfl
    rw [h4, List.length_cons]
    omega
theorem forms_take {l : List Pt} {k : Nat} (h : k < l.length) : forms (l.take (k + 1)) = forms (l.take k) ++ l[k].form := by
  unfold forms
  rw [List.take_add_one, List.getElem?_eq_getElem h, List.flatMap_append]
  simp
theorem Own.chgD {w0 w w' : World} {A : Option Addr} {n c : Nat} {bs : List Int} {m : List Nat} (h : Own w0 w (.slice A n c) bs) (hx : Chg w w' m) (hd : ∀ g ∈ ablk A, g ∉ m) : Own w0 w' (.slice A n c) bs := by
  obtain ⟨A1, c1, h1, hR, hf⟩ := h
  injection h1 with h1 h2 h3
  subst h1 h2 h3
  exact ⟨A, c, rfl, hR.chg hx hd, fun k hk => ⟨(hf k hk).1, Nat.lt_of_lt_of_le (hf k hk).2 hx.size⟩⟩
theorem Chg.extOf {w0 a b : World} {m : List Nat} (h : Chg a b m) (hx : Ext w0 a) (hm : ∀ i ∈ m, w0.heap.size ≤ i) : Ext w0 b := (Chg.step (Chg.of_ext hx []) h (fun i hi => .inr (hm i hi))).ext (by simp)
end Go.Proofs.Ythophidcgkjdeaa
/- Law OctetsReads, 1: what the document reads of one thing; it is what a reader tells. No condition. -/
namespace Go.Proofs.Ythophidcgkjdeaa
open Go.RowKit
attribute [local go_sem] Later.cell QUpon_value QUpon_enter MUpon_value run_eql_slice_nil

attribute [local go_sem] one_int one_bool one_slice one_ptr one_str setRow_new setRow_past cell_ca frozen_ca cellsAt_alloc_at cellsAt_alloc_past cellsAt_drew cellsAt_later cellsAt_setCell cellsAt_set_same cellsAt_setRow_same cellsAt_setRow_far subAt_alloc subAt_drew subAt_later subAt_setCell subAt_setRow ltn_2 ltn_3 ltn_4 ltn_5
def readR (k z : Int) (bs : List Int) : Nat × Int × List Int × Int × Int :=
  if k = 1 then (if 1 ≤ z ∧ z ≤ 8 then ((uintP bs z.toNat).1, 0, [], (uintP bs z.toNat).2.1, (uintP bs z.toNat).2.2) else (0, 0, [], 0, 0))
  else if k = 2 then (0, backN (uintP bs 8).1, [], (uintP bs 8).2.1, (uintP bs 8).2.2)
  else if k = 3 then ((numP bs).1, 0, [], (numP bs).2.1, (numP bs).2.2)
  else if k = 4 then (if z < 0 then (0, 0, [], 0, 0) else (0, 0, (rawP bs z.toNat).1, (rawP bs z.toNat).2.1, (rawP bs z.toNat).2.2))
  else (0, 0, [], 0, 0)
theorem numG_is : ∀ (k i acc : Nat) (bs : List Int), (∃ s, s ≤ bs.length ∧ (numG k i acc bs).2.1 = bs.drop s) ∧ ((numG k i acc bs).2.2 ≠ 0 → (numG k i acc bs).1 = 0)
  | 0, i, acc, bs => ⟨⟨0, Nat.zero_le _, rfl⟩, fun _ => rfl⟩
  | k + 1, i, acc, [] => ⟨⟨0, Nat.zero_le _, rfl⟩, fun _ => rfl⟩
  | k + 1, i, acc, b :: bs => by
    have ih := numG_is k (i + 1) (acc + b.toNat % 128 * 128 ^ i) bs
    unfold numG
    split
    · exact ⟨⟨1, by simp, rfl⟩, fun _ => rfl⟩
    split
    · obtain ⟨⟨s, h1, h2⟩, h3⟩ := ih
      exact ⟨⟨s + 1, by simpa using h1, by rw [h2]; rfl⟩, h3⟩
    split
    · exact ⟨⟨1, by simp, rfl⟩, fun _ => rfl⟩
    · exact ⟨⟨1, by simp, rfl⟩, fun h => absurd rfl h⟩
/-- Bytes that lie in a row as long as that row reads as it did. -/
def RawOf (B : Option Addr) (bs : List Int) (v : Value) (raw : List Int) : Prop := ∃ R d, v = .slice R raw.length d ∧ ∀ W, Src W 1 B bs.length (bc bs) → Src W 1 R raw.length (bc raw)
theorem RawOf.nil (B : Option Addr) (bs : List Int) : RawOf B bs (.slice none 0 0) [] := ⟨none, 0, rfl, fun _ _ => ⟨rfl, fun h => absurd h (by decide)⟩⟩
/-- What both tell is the same. -/
structure GotIs (g : Nat × Int × List Int × List Int × Int) (r : Nat × Int × List Int × Int × Int) (bs : List Int) : Prop where
  n : g.1 = r.1
  s : g.2.1 = r.2.1
  raw : g.2.2.1 = r.2.2.1
  f : g.2.2.2.2 = r.2.2.2.2
  rest : g.2.2.2.1.length ≤ bs.length
  size : ∃ s : Nat, r.2.2.2.1 = s ∧ s ≤ bs.length ∧ (r.2.2.2.2 = 0 → g.2.2.2.1 = bs.drop s)
theorem uint_is (bs : List Int) (z : Nat) : (uintR bs 0 z).1 = (uintP bs z).1 ∧ (uintR bs 0 z).2.2 = (uintP bs z).2.2 ∧ (uintR bs 0 z).2.1.length ≤ bs.length ∧ ∃ s : Nat, (uintP bs z).2.1 = s ∧ s ≤ bs.length ∧ ((uintP bs z).2.2 = 0 → (uintR bs 0 z).2.1 = bs.drop s) := by
  unfold uintR uintP
  rw [if_neg (by simp)]
  by_cases h : bs.length < z
  · simp only [h, if_true]
    exact ⟨by trivial, by trivial, Nat.le_refl _, 0, rfl, by omega, fun h => absurd h (by decide)⟩
  · simp only [h, if_false]
    exact ⟨by trivial, by trivial, by simp only [List.length_drop]; omega, z, rfl, by omega, fun _ => rfl⟩
theorem got_is (k z : Int) (bs : List Int) : GotIs (gotR k z bs 0) (readR k z bs) bs := by
  unfold gotR readR
  by_cases h1 : k = 1
  · simp only [h1, if_true]
    by_cases hz : 1 ≤ z ∧ z ≤ 8
    · simp only [hz, and_self, if_true]
      obtain ⟨a, b, d, c⟩ := uint_is bs z.toNat
      exact ⟨a, rfl, rfl, b, d, c⟩
    · simp only [hz, if_false]
      exact ⟨rfl, rfl, rfl, rfl, Nat.le_refl _, 0, rfl, by omega, fun _ => rfl⟩
  simp only [h1, if_false]
  by_cases h2 : k = 2
  · simp only [h2, if_true]
    obtain ⟨a, b, d, c⟩ := uint_is bs 8
    exact ⟨rfl, by simp only [a], rfl, b, d, c⟩
  simp only [h2, if_false]
  by_cases h3 : k = 3
  · simp only [h3, if_true]
    have hg := numG_is 10 0 0 bs
    unfold numR numP
    rw [if_neg (by simp)]
    generalize numG 10 0 0 bs = r at hg ⊢
    obtain ⟨n, cs, f⟩ := r
    obtain ⟨⟨s, hs, e⟩, hf⟩ := hg
    simp only at e hf ⊢
    subst e
    by_cases h : f = 0
    · subst h
      simp only [if_true]
      exact ⟨rfl, rfl, rfl, rfl, by simp only [List.length_drop]; omega, s, by simp only [List.length_drop]; omega, hs, fun _ => rfl⟩
    · simp only [h, if_false]
      exact ⟨hf h, rfl, rfl, rfl, by simp only [List.length_drop]; omega, 0, rfl, by omega, fun h1 => absurd h1 h⟩
  simp only [h3, if_false]
  by_cases h4 : k = 4
  · simp only [h4, if_true]
    by_cases hz : z < 0
    · simp only [hz, if_true]
      exact ⟨rfl, rfl, rfl, rfl, Nat.le_refl _, 0, rfl, by omega, fun _ => rfl⟩
    · simp only [hz, if_false]
      unfold rawR rawP
      rw [if_neg (by simp)]
      by_cases h : bs.length < z.toNat
      · simp only [h, if_true]
        exact ⟨rfl, rfl, rfl, rfl, Nat.le_refl _, 0, rfl, by omega, fun h => absurd h (by decide)⟩
      · simp only [h, if_false]
        exact ⟨rfl, rfl, rfl, rfl, by simp only [List.length_drop]; omega, z.toNat, rfl, by omega, fun _ => rfl⟩
  · simp only [h4, if_false]
    exact ⟨rfl, rfl, rfl, rfl, Nat.le_refl _, 0, rfl, by omega, fun _ => rfl⟩
/-- Behind a fault nothing comes. -/
theorem got_bad (k z : Int) (bs : List Int) (f : Int) (hf : f ≠ 0) : gotR k z bs f = (0, 0, [], bs, f) := by
  have e8 : ∀ m, uintR bs f m = (0, bs, f) := fun m => if_pos hf
  have en : numR bs f = (0, bs, f) := if_pos hf
  have er : ∀ m, rawR bs f m = ([], bs, f) := fun m => if_pos hf
  unfold gotR
  simp only [e8, en, er, show backN 0 = 0 by decide, ite_self]
theorem raw_byt {bs : List Int} (h : Byt bs) (k z : Int) : Byt (readR k z bs).2.2.1 := by
  have hn : Byt [] := fun x hx => by cases hx
  unfold readR
  split
  · split <;> exact hn
  split
  · exact hn
  split
  · exact hn
  split
  · split
    · exact hn
    · unfold rawP
      split
      · exact hn
      · exact fun x hx => h x (List.mem_of_mem_take hx)
  · exact hn
end Go.Proofs.Ythophidcgkjdeaa
