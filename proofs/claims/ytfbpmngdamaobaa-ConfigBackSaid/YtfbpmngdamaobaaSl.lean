/- A small separation logic over the model's worlds: assertions with a footprint of blocks; what a call may change; how a state is carried through an operation. No condition. -/
import Derived.WalkKit
import Derived.Deep.Draws
import Derived.Deep.QuietTactic
import Derived.BigQuiet
import Derived.Lib.Hide
namespace Go.Proofs.Ytfbpmngdamaobaa
open Go.RowKit

theorem perm_erase {α : Type} : ∀ (L : List α) (i : Nat) (A : α), L[i]? = some A → L.Perm (A :: L.eraseIdx i)
  | [], _, _, h => by simp at h
  | x :: L, 0, A, h => by simp at h; subst h; exact List.Perm.refl _
  | x :: L, i + 1, A, h => by
    have := perm_erase L i A (by simpa using h)
    exact (this.cons x).trans (List.Perm.swap A x _)
theorem perm_set {α : Type} : ∀ (L : List α) (i : Nat) (A A' : α), L[i]? = some A → (L.set i A').Perm (A' :: L.eraseIdx i)
  | [], _, _, _, h => by simp at h
  | x :: L, 0, A, A', h => List.Perm.refl _
  | x :: L, i + 1, A, A', h => by
    have := perm_set L i A A' (by simpa using h)
    exact (this.cons x).trans (List.Perm.swap A' x _)

abbrev Fp := Nat → Prop

/-- An assertion on the blocks of a footprint. -/
structure HP where
  h : World → Fp → Prop
  stab : ∀ (w w' : World) (F : Fp), h w F → (∀ k, F k → w'.heap[k]? = w.heap[k]?) → h w' F
  lt : ∀ (w : World) (F : Fp), h w F → ∀ k, F k → k < w.heap.size

/-- Assertions that hold side by side, on blocks of their own. -/
def Sep : List HP → World → Fp → Prop
  | [], _, _ => True
  | A :: L, w, F => ∃ F1 : Fp, (∀ k, F1 k → F k) ∧ A.h w F1 ∧ Sep L w (fun k => F k ∧ ¬ F1 k)

theorem Sep.mono : ∀ {L : List HP} {w : World} {F F' : Fp}, Sep L w F → (∀ k, F k → F' k) → Sep L w F'
  | [], _, _, _, _, _ => trivial
  | _ :: _, _, _, _, ⟨F1, h1, h2, h3⟩, h => ⟨F1, fun k hk => h k (h1 k hk), h2, Sep.mono h3 (fun k hk => ⟨h k hk.1, hk.2⟩)⟩

theorem Sep.stab : ∀ {L : List HP} {w w' : World} {F : Fp}, Sep L w F → (∀ k, F k → w'.heap[k]? = w.heap[k]?) → Sep L w' F
  | [], _, _, _, _, _ => trivial
  | A :: _, w, w', _, ⟨F1, h1, h2, h3⟩, hk => ⟨F1, h1, A.stab w w' F1 h2 (fun k h => hk k (h1 k h)), Sep.stab h3 (fun k h => hk k h.1)⟩

theorem Sep.cut : ∀ {L : List HP} {w : World} {F : Fp}, Sep L w F → Sep L w (fun k => F k ∧ k < w.heap.size)
  | [], _, _, _ => trivial
  | A :: _, w, _, ⟨F1, h1, h2, h3⟩ => ⟨F1, fun k hk => ⟨h1 k hk, A.lt w F1 h2 k hk⟩, h2, (Sep.cut h3).mono (fun _ hk => ⟨⟨hk.1.1, hk.2⟩, hk.1.2⟩)⟩

theorem Sep.swap {A B : HP} {L : List HP} {w : World} {F : Fp} (h : Sep (A :: B :: L) w F) : Sep (B :: A :: L) w F := by
  obtain ⟨F1, h1, hA, F2, h2, hB, h3⟩ := h
  exact ⟨F2, fun k hk => (h2 k hk).1, hB, F1, fun k hk => ⟨h1 k hk, fun h => (h2 k h).2 hk⟩, hA, h3.mono (fun k hk => ⟨⟨hk.1.1, hk.2⟩, hk.1.2⟩)⟩

theorem Sep.perm {L L' : List HP} (p : L.Perm L') : ∀ {w : World} {F : Fp}, Sep L w F → Sep L' w F := by
  induction p with
  | nil => exact fun h => h
  | cons x _ ih => exact fun ⟨F1, h1, h2, h3⟩ => ⟨F1, h1, h2, ih h3⟩
  | swap x y l => exact fun h => h.swap
  | trans _ _ ih1 ih2 => exact fun h => ih2 (ih1 h)

theorem Sep.split : ∀ {L1 L2 : List HP} {w : World} {F : Fp}, Sep (L1 ++ L2) w F → ∃ F1 : Fp, (∀ k, F1 k → F k) ∧ Sep L1 w F1 ∧ Sep L2 w (fun k => F k ∧ ¬ F1 k)
  | [], _, _, _, h => ⟨fun _ => False, fun _ h => h.elim, trivial, Sep.mono h (fun _ hk => ⟨hk, fun h => h⟩)⟩
  | A :: L1, L2, w, F, ⟨Fa, ha, hA, hr⟩ => by
    obtain ⟨F1, h1, hs1, hs2⟩ := Sep.split (L1 := L1) (L2 := L2) hr
    refine ⟨fun k => Fa k ∨ F1 k, fun k hk => hk.elim (ha k) (fun h => (h1 k h).1), ⟨Fa, fun _ h => .inl h, hA, hs1.mono (fun k hk => ⟨.inr hk, (h1 k hk).2⟩)⟩, hs2.mono (fun k hk => ⟨hk.1.1, fun h => h.elim hk.1.2 hk.2⟩)⟩

theorem Sep.join : ∀ {L1 L2 : List HP} {w : World} {F1 F2 : Fp}, Sep L1 w F1 → Sep L2 w F2 → (∀ k, F1 k → ¬ F2 k) → Sep (L1 ++ L2) w (fun k => F1 k ∨ F2 k)
  | [], _, _, _, _, _, h2, _ => h2.mono (fun _ h => .inr h)
  | A :: L1, L2, w, F1, F2, ⟨Fa, ha, hA, hr⟩, h2, hd => by
    have := Sep.join (L1 := L1) hr h2 (fun k hk => hd k hk.1)
    exact ⟨Fa, fun k hk => .inl (ha k hk), hA, this.mono (fun k hk => hk.elim (fun h => ⟨.inl h.1, h.2⟩) (fun h => ⟨.inr h, fun hf => hd k (ha k hf) h⟩))⟩

/-- Outside E the blocks of w are in w' as they were. -/
structure Kept (E : Fp) (w w' : World) : Prop where
  os : w'.os = w.os
  tape : w'.tape = w.tape
  output : w'.output = w.output
  size : w.heap.size ≤ w'.heap.size
  block : ∀ k, k < w.heap.size → ¬ E k → w'.heap[k]? = w.heap[k]?

theorem Kept.refl (E : Fp) (w : World) : Kept E w w := ⟨rfl, rfl, rfl, Nat.le_refl _, fun _ _ _ => rfl⟩
theorem Kept.trans {E E1 : Fp} {a b c : World} (h : Kept E a b) (k : Kept E1 b c) (hE : ∀ i, E1 i → E i ∨ a.heap.size ≤ i) : Kept E a c :=
  ⟨k.os.trans h.os, k.tape.trans h.tape, k.output.trans h.output, Nat.le_trans h.size k.size, fun i hi hn =>
    (k.block i (Nat.lt_of_lt_of_le hi h.size) (fun h1 => (hE i h1).elim hn (fun h2 => by omega))).trans (h.block i hi hn)⟩
theorem Kept.below {w w' : World} {E : Fp} (h : Kept E w w') (hE : ∀ k, ¬ E k) : Below w.heap.size w w' := ⟨h.os, h.tape, h.output, h.size, fun k hk => h.block k hk (hE k)⟩

/-- The state in world w of a call that began in w0 and may change the blocks E: these assertions hold, all else of w0 stands. -/
structure St (E : Fp) (w0 w : World) (L : List HP) : Prop where
  kept : Kept E w0 w
  sep : Sep L w (fun k => (E k ∨ w0.heap.size ≤ k) ∧ k < w.heap.size)

theorem St.start {L : List HP} {w : World} {F : Fp} (h : Sep L w F) : St F w w L := ⟨Kept.refl _ _, h.cut.mono (fun _ hk => ⟨.inl hk.1, hk.2⟩)⟩
theorem St.nil (E : Fp) (w : World) : St E w w [] := ⟨Kept.refl _ _, trivial⟩
theorem St.perm {E : Fp} {w0 w : World} {L L' : List HP} (h : St E w0 w L) (p : L.Perm L') : St E w0 w L' := ⟨h.kept, h.sep.perm p⟩
theorem St.drop {E : Fp} {w0 w : World} {A : HP} {L : List HP} (h : St E w0 w (A :: L)) : St E w0 w L := by
  obtain ⟨h1, F1, _, _, h2⟩ := h
  exact ⟨h1, h2.mono (fun _ hk => hk.1)⟩
theorem St.none {E : Fp} {w0 w : World} {L : List HP} (h : St E w0 w L) : St E w0 w [] := ⟨h.kept, trivial⟩
theorem St.below {w0 w : World} {L : List HP} (h : St (fun _ => False) w0 w L) : Below w0.heap.size w0 w := h.kept.below (fun _ h => h)

/-- THE FRAME RULE. A call, or an operation, that takes the assertions 'pre' and leaves 'post'. -/
theorem St.focus {E : Fp} {w0 w : World} {pre L : List HP} (h : St E w0 w (pre ++ L)) :
    ∃ F1 : Fp, Sep pre w F1 ∧ (∀ k, F1 k → (E k ∨ w0.heap.size ≤ k) ∧ k < w.heap.size) ∧ Sep L w (fun k => ((E k ∨ w0.heap.size ≤ k) ∧ k < w.heap.size) ∧ ¬ F1 k) ∧
      ∀ (w' : World) (post : List HP), St F1 w w' post → St E w0 w' (post ++ L) := by
  obtain ⟨hk, hs⟩ := h
  obtain ⟨F1, h1, hp, hl⟩ := hs.split
  refine ⟨F1, hp, h1, hl, fun w' post h' => ?_⟩
  obtain ⟨hk', hs'⟩ := h'
  refine ⟨hk.trans hk' (fun i hi => (h1 i hi).1), ?_⟩
  have hl' : Sep L w' (fun k => ((E k ∨ w0.heap.size ≤ k) ∧ k < w.heap.size) ∧ ¬ F1 k) := hl.stab (fun k hk0 => hk'.block k hk0.1.2 hk0.2)
  refine (Sep.join hs' hl' ?_).mono ?_
  · rintro k ⟨h2 | h2, h3⟩ ⟨⟨h4, h5⟩, h6⟩
    · exact h6 h2
    · omega
  · rintro k (⟨h2 | h2, h3⟩ | ⟨⟨h4, h5⟩, h6⟩)
    · exact ⟨(h1 k h2).1, h3⟩
    · exact ⟨.inr (Nat.le_trans hk.size h2), h3⟩
    · exact ⟨h4, Nat.lt_of_lt_of_le h5 hk'.size⟩

/-- The same at one assertion, wherever it stands. -/
theorem St.upd {E : Fp} {w0 w : World} {L : List HP} (h : St E w0 w L) (i : Nat) {A : HP} (hi : L[i]? = some A) :
    ∃ F1 : Fp, A.h w F1 ∧ (∀ k, F1 k → (E k ∨ w0.heap.size ≤ k) ∧ k < w.heap.size) ∧
      ∀ (w' : World) (A' : HP), Kept F1 w w' → (∃ F' : Fp, (∀ k, F' k → F1 k ∨ w.heap.size ≤ k) ∧ A'.h w' F') → St E w0 w' (L.set i A') := by
  have hp : L.Perm ([A] ++ L.eraseIdx i) := perm_erase L i A hi
  obtain ⟨F0, ⟨F1, h01, hA, _⟩, h1, hl, hback⟩ := (h.perm hp).focus
  refine ⟨F1, hA, fun k hk => h1 k (h01 k hk), fun w' A' hk' ⟨F', hF', hA'⟩ => ?_⟩
  have hk0 : Kept F0 w w' := ⟨hk'.os, hk'.tape, hk'.output, hk'.size, fun k hk hn => hk'.block k hk (fun h => hn (h01 k h))⟩
  have h2 := hback w' [A'] ⟨hk0, F', fun k hk => ⟨(hF' k hk).imp (h01 k) id, A'.lt w' F' hA' k hk⟩, hA', trivial⟩
  exact h2.perm (perm_set L i A A' hi).symm

/-- Something new. -/
theorem St.new {E : Fp} {w0 w w' : World} {L : List HP} (h : St E w0 w L) {A : HP} {F' : Fp} (hk : Kept (fun _ => False) w w') (hF : ∀ k, F' k → w.heap.size ≤ k) (hA : A.h w' F') : St E w0 w' (A :: L) := by
  obtain ⟨F1, hp, h1, hl, hback⟩ := St.focus (pre := []) h
  exact hback w' [A] ⟨⟨hk.os, hk.tape, hk.output, hk.size, fun k hk1 _ => hk.block k hk1 (fun h => h)⟩, F', fun k hk => ⟨.inr (hF k hk), A.lt w' F' hA k hk⟩, hA, trivial⟩

/-- A world that differs in blocks that nobody owns (new ones; draws). -/
theorem St.same {E : Fp} {w0 w w' : World} {L : List HP} (h : St E w0 w L) (hk : Kept (fun _ => False) w w') : St E w0 w' L := by
  obtain ⟨F1, hp, h1, hl, hback⟩ := St.focus (pre := []) h
  exact hback w' [] ⟨⟨hk.os, hk.tape, hk.output, hk.size, fun k hk1 _ => hk.block k hk1 (fun h => h)⟩, trivial⟩

/-- Another word for an assertion. -/
theorem St.conv {E : Fp} {w0 w : World} {L : List HP} (h : St E w0 w L) (i : Nat) {A A' : HP} (hi : L[i]? = some A) (hc : ∀ F, A.h w F → ∃ F', (∀ k, F' k → F k) ∧ A'.h w F') : St E w0 w (L.set i A') := by
  obtain ⟨F1, hA, h1, hb⟩ := h.upd i hi
  obtain ⟨F', h2, h3⟩ := hc F1 hA
  exact hb w A' (Kept.refl _ _) ⟨F', fun k hk => .inl (h2 k hk), h3⟩

theorem kept_drew (E : Fp) (w : World) : Kept E w w.drew := ⟨rfl, rfl, rfl, Nat.le_refl _, fun _ _ _ => rfl⟩
theorem kept_drewN (E : Fp) (w : World) (n : Nat) : Kept E w (w.drewN n) := ⟨rfl, rfl, rfl, Nat.le_refl _, fun _ _ _ => rfl⟩
theorem kept_alloc (E : Fp) (w : World) (o : Obj) : Kept E w (w.alloc o) := ⟨rfl, rfl, rfl, by simp, fun k hk _ => heap_alloc_old w o hk⟩
theorem kept_setCell {E : Fp} (w : World) (a : Addr) (v : Value) (h : E a.block) : Kept E w (w.setCell a v) :=
  ⟨rfl, rfl, rfl, by simp, fun k _ hn => heap_setCell_other w a k v (fun e => hn (e ▸ h))⟩
theorem kept_setRow {E : Fp} (w : World) (g : Nat) (cs : Array Value) (h : E g) : Kept E w (w.setRow g cs) :=
  ⟨rfl, rfl, rfl, by simp, fun k _ hn => setRow_other w g k cs (fun e => hn (e ▸ h))⟩

/-- Block g is just these cells of element type t. -/
def blk (g : Nat) (t : TypeId) (cs : List Value) : HP where
  h w F := (∀ k, F k ↔ k = g) ∧ w.heap[g]? = some (.cells cs.toArray t (0, 0))
  stab := fun w w' F ⟨a, b⟩ hk => ⟨a, by rw [hk g ((a g).2 rfl)]; exact b⟩
  lt := fun w F ⟨a, b⟩ k hk => by
    obtain rfl := (a k).1 hk
    exact (Array.getElem?_eq_some_iff.1 b).1

/-- The slice v has the cells xs (each element takes 'size'), in a block that nobody else has. -/
def SlcIs (w : World) (F : Fp) (v : Value) (e : TypeId) (size : Nat) (xs : List Value) : Prop :=
  ∃ A n c, v = .slice A n c ∧ n ≤ c ∧ c ≤ maxLen ∧ xs.length = n * size ∧
    ((c = 0 ∧ ∀ k, ¬ F k) ∨ ∃ g off cur, A = some ⟨g, off, none⟩ ∧ (∀ k, F k ↔ k = g) ∧ w.heap[g]? = some (.cells cur e (0, 0)) ∧ off + c * size ≤ cur.size ∧ ∀ j, j < n * size → cur[off + j]? = xs[j]?)
def slc (v : Value) (e : TypeId) (size : Nat) (xs : List Value) : HP where
  h w F := SlcIs w F v e size xs
  stab := by
    rintro w w' F ⟨A, n, c, hv, hn, hc, hl, h⟩ hk
    refine ⟨A, n, c, hv, hn, hc, hl, ?_⟩
    rcases h with h | ⟨g, off, cur, hA, hF, hg, r⟩
    · exact .inl h
    · exact .inr ⟨g, off, cur, hA, hF, by rw [hk g ((hF g).2 rfl)]; exact hg, r⟩
  lt := by
    rintro w F ⟨A, n, c, hv, hn, hc, hl, h⟩ k hk
    rcases h with h | ⟨g, off, cur, hA, hF, hg, r⟩
    · exact absurd hk (h.2 k)
    · obtain rfl := (hF k).1 hk
      exact (Array.getElem?_eq_some_iff.1 hg).1

/-- There is something. -/
def hex {α : Type} (p : α → HP) : HP where
  h w F := ∃ x, (p x).h w F
  stab := fun w w' F ⟨x, hx⟩ hk => ⟨x, (p x).stab w w' F hx hk⟩
  lt := fun w F ⟨x, hx⟩ => (p x).lt w F hx
/-- Side by side, in one. -/
def hsep (L : List HP) : HP where
  h w F := Sep L w (fun k => F k ∧ k < w.heap.size) ∧ ∀ k, F k → k < w.heap.size
  stab := fun w w' F ⟨h1, h2⟩ hk => ⟨(h1.stab (fun k h => hk k h.1)).cut.mono (fun k h => ⟨h.1.1, h.2⟩), fun k h => by
    have := h2 k h
    have e := hk k h
    rcases Nat.lt_or_ge k w'.heap.size with h' | h'
    · exact h'
    · rw [Array.getElem?_eq_none h', Array.getElem?_eq_getElem this] at e
      cases e⟩
  lt := fun _ _ h => h.2
/-- And a plain fact. -/
def hand (p : Prop) (A : HP) : HP where
  h w F := p ∧ A.h w F
  stab := fun w w' F h hk => ⟨h.1, A.stab w w' F h.2 hk⟩
  lt := fun w F h => A.lt w F h.2

theorem St.hex {E : Fp} {w0 w : World} {L : List HP} {α : Type} {p : α → HP} (h : St E w0 w L) (i : Nat) (hi : L[i]? = some (hex p)) : ∃ x, St E w0 w (L.set i (p x)) := by
  obtain ⟨F1, ⟨x, hx⟩, h1, hb⟩ := h.upd i hi
  exact ⟨x, hb w (p x) (Kept.refl _ _) ⟨F1, fun k hk => .inl hk, hx⟩⟩

/-- The slice v reads as the cells xs in w, in a block that is not of E. -/
def Rd (E : Fp) (w : World) (v : Value) (size : Nat) (xs : List Value) : Prop :=
  ∃ A n c, v = .slice A n c ∧ n ≤ c ∧ c ≤ maxLen ∧ xs.length = n * size ∧
    (0 < n → ∃ ad : Addr, A = some ad ∧ ad.block < w.heap.size ∧ ¬ E ad.block ∧ ∀ j u, xs[j]? = some u → w.cell? (ad.add j) = some u)

/-! ### The end of a walk; the world behind a call that makes memory alone -/
def rsat {α : Type} (K : α → World → Prop) : Result α → Prop
  | .ok v w => K v w
  | .halt _ _ => False
theorem fin_ret {P : Program} {fn : Func} {R : Ending → World → Prop} {a : Act} {w : World} (hd : a.defers = [])
    (h : ∀ K : Value → World → Prop, (∀ v, R (.returned v) w → K v w) → rsat K ((results fn a.tmps).run P w)) : bodyPost P fn R .ret a w := by
  have := h (fun v w' => w' = w ∧ R (.returned v) w) (fun v hv => ⟨rfl, hv⟩)
  cases hr : (results fn a.tmps).run P w with
  | ok v w' =>
    rw [hr] at this
    obtain ⟨rfl, h2⟩ := this
    exact ⟨hd, v, hr, h2⟩
  | halt x w' => rw [hr] at this; exact this.elim

/-- Only new blocks. -/
def Ext (w w' : World) : Prop := Below w.heap.size w w'
theorem Ext.refl (w : World) : Ext w w := Below.refl _ _
theorem Ext.alloc {w w1 : World} (h : Ext w w1) (o : Obj) : Ext w (w1.alloc o) := Below.alloc h h.size o
theorem Ext.drew {w w1 : World} (h : Ext w w1) : Ext w w1.drew := Below.drew h
theorem Ext.drewN {w w1 : World} (h : Ext w w1) (n : Nat) : Ext w (w1.drewN n) := ⟨h.os, h.tape, h.output, h.size, h.block⟩
theorem Ext.setCell {w w1 : World} (h : Ext w w1) {p : Addr} (hp : w.heap.size ≤ p.block) (v : Value) : Ext w (w1.setCell p v) := Below.setCell h hp v
theorem Ext.trans {a b c : World} (h : Ext a b) (k : Ext b c) : Ext a c := Below.trans h (Below.mono k h.size)
theorem Ext.below {w w' : World} (h : Ext w w') : Below w.heap.size w w' := h
theorem Ext.le {w w' : World} (h : Ext w w') : w.heap.size ≤ w'.heap.size := h.size
theorem Ext.facts {W w1 : World} (hb : Ext W w1) : (∀ b o, b < W.heap.size → w1.cell? ⟨b, o, none⟩ = W.cell? ⟨b, o, none⟩) ∧ (∀ b o, b < W.heap.size → w1.frozen? ⟨b, o, none⟩ = W.frozen? ⟨b, o, none⟩) :=
  ⟨fun b o h => Below.cell (p := ⟨b, o, none⟩) hb h, fun b o h => Below.frozen (p := ⟨b, o, none⟩) hb h⟩
theorem gen_world {P : Program} {c : Code} {Q : Exit → Act → World → Prop} {a : Act} {W : World} (F : World → Prop) (hF : F W) (h : ∀ W', F W' → Code.wp P c Q a W') : Code.wp P c Q a W := h W hF
/-- Block g of w: these cells. -/
def At (w : World) (g : Nat) (t : TypeId) (cs : Array Value) : Prop := w.heap[g]? = some (.cells cs t (0, 0))
theorem At.lt {w : World} {g : Nat} {t : TypeId} {cs : Array Value} (h : At w g t cs) : g < w.heap.size := (Array.getElem?_eq_some_iff.1 h).1
theorem At.cell {w : World} {g : Nat} {t : TypeId} {cs : Array Value} (h : At w g t cs) (i : Nat) : w.cell? ⟨g, i, none⟩ = cs[i]? := cell_of_row w g i cs t (0, 0) h
theorem At.frozen {w : World} {g : Nat} {t : TypeId} {cs : Array Value} (h : At w g t cs) (i : Nat) : w.frozen? ⟨g, i, none⟩ = false := frozen_of_row w g i cs t h
theorem At.ext {w w' : World} {g : Nat} {t : TypeId} {cs : Array Value} (h : At w g t cs) (hx : Ext w w') : At w' g t cs := (hx.block g h.lt).trans h
theorem At.new (w : World) (t : TypeId) (cs : Array Value) : At (w.alloc (.cells cs t)) w.heap.size t cs := heap_alloc_new w _
theorem At.new' (w : World) (t : TypeId) (cs : Array Value) (n : Nat) (hn : n = w.heap.size) : At (w.alloc (.cells cs t)) n t cs := hn ▸ heap_alloc_new w _
theorem At.alloc {w : World} {g : Nat} {t : TypeId} {cs : Array Value} (h : At w g t cs) (o : Obj) : At (w.alloc o) g t cs := h.ext ((Ext.refl w).alloc o)
theorem At.drew {w : World} {g : Nat} {t : TypeId} {cs : Array Value} (h : At w g t cs) : At w.drew g t cs := h
theorem At.far {w : World} {g : Nat} {t : TypeId} {cs : Array Value} (h : At w g t cs) {p : Addr} (hp : g ≠ p.block) (v : Value) : At (w.setCell p v) g t cs := (Below.heap_setCell w p v g hp).trans h
theorem At.set {w : World} {g : Nat} {t : TypeId} {cs : Array Value} (h : At w g t cs) (i : Nat) (v : Value) : At (w.setCell ⟨g, i, none⟩ v) g t (cs.setIfInBounds i v) := heap_setCell_same w g i cs t v h
/-! What an operation of a region that draws its order may lean on: the old blocks, but for block T. -/
section
variable {W w' w1 : World} {T : Nat}
theorem Lat.base : W.heap.size ≤ W.drew.heap.size ∧ (∀ b o, b < W.heap.size → b ≠ T → W.drew.cell? ⟨b, o, none⟩ = W.cell? ⟨b, o, none⟩) ∧ (∀ b o, b < W.heap.size → b ≠ T → W.drew.frozen? ⟨b, o, none⟩ = W.frozen? ⟨b, o, none⟩) :=
  ⟨Nat.le_refl _, fun _ _ _ _ => rfl, fun _ _ _ _ => rfl⟩
theorem Lat.ext (hx : Ext w' w1) (h : W.heap.size ≤ w'.heap.size ∧ (∀ b o, b < W.heap.size → b ≠ T → w'.cell? ⟨b, o, none⟩ = W.cell? ⟨b, o, none⟩) ∧ (∀ b o, b < W.heap.size → b ≠ T → w'.frozen? ⟨b, o, none⟩ = W.frozen? ⟨b, o, none⟩)) :
    W.heap.size ≤ w1.heap.size ∧ (∀ b o, b < W.heap.size → b ≠ T → w1.cell? ⟨b, o, none⟩ = W.cell? ⟨b, o, none⟩) ∧ (∀ b o, b < W.heap.size → b ≠ T → w1.frozen? ⟨b, o, none⟩ = W.frozen? ⟨b, o, none⟩) :=
  ⟨Nat.le_trans h.1 hx.size, fun b o hb hT => (hx.facts.1 b o (Nat.lt_of_lt_of_le hb h.1)).trans (h.2.1 b o hb hT), fun b o hb hT => (hx.facts.2 b o (Nat.lt_of_lt_of_le hb h.1)).trans (h.2.2 b o hb hT)⟩
theorem Lat.alloc (o : Obj) (h : W.heap.size ≤ w'.heap.size ∧ (∀ b o, b < W.heap.size → b ≠ T → w'.cell? ⟨b, o, none⟩ = W.cell? ⟨b, o, none⟩) ∧ (∀ b o, b < W.heap.size → b ≠ T → w'.frozen? ⟨b, o, none⟩ = W.frozen? ⟨b, o, none⟩)) :
    W.heap.size ≤ (w'.alloc o).heap.size ∧ (∀ b i, b < W.heap.size → b ≠ T → (w'.alloc o).cell? ⟨b, i, none⟩ = W.cell? ⟨b, i, none⟩) ∧ (∀ b i, b < W.heap.size → b ≠ T → (w'.alloc o).frozen? ⟨b, i, none⟩ = W.frozen? ⟨b, i, none⟩) :=
  Lat.ext ((Ext.refl w').alloc o) h
theorem Lat.set {p : Addr} (hp : p.block = T ∨ W.heap.size ≤ p.block) (v : Value) (h : W.heap.size ≤ w'.heap.size ∧ (∀ b o, b < W.heap.size → b ≠ T → w'.cell? ⟨b, o, none⟩ = W.cell? ⟨b, o, none⟩) ∧ (∀ b o, b < W.heap.size → b ≠ T → w'.frozen? ⟨b, o, none⟩ = W.frozen? ⟨b, o, none⟩)) :
    W.heap.size ≤ (w'.setCell p v).heap.size ∧ (∀ b o, b < W.heap.size → b ≠ T → (w'.setCell p v).cell? ⟨b, o, none⟩ = W.cell? ⟨b, o, none⟩) ∧ (∀ b o, b < W.heap.size → b ≠ T → (w'.setCell p v).frozen? ⟨b, o, none⟩ = W.frozen? ⟨b, o, none⟩) :=
  ⟨by simpa using h.1, fun b o hb hT => (World.cell?_setCell_other w' p ⟨b, o, none⟩ v (fun e => by rcases hp with hp | hp <;> rw [e] at hp <;> simp at hp <;> omega)).trans (h.2.1 b o hb hT), fun b o hb hT => by rw [World.frozen?_setCell]; exact h.2.2 b o hb hT⟩
end
theorem ret_eq {v v' : Value} (h : v = v') : Ending.returned v = Ending.returned v' := by rw [h]

end Go.Proofs.Ytfbpmngdamaobaa
