/- Whole blocks by one fact; own rows. No condition. -/
import Derived.Test.YtndcmjpacailjaaRg
import Derived.WalkKit
import Derived.Laws.Tables
import Derived.Laws.CopyOwn
import Derived.Laws.NewBlocks
import Derived.Test.YtndcmjpacailjaaSl
import Derived.Test.YtndcmjpacailjaaProg
import Derived.OwnWalk
import Derived.Laws.OwnMore
/- Blocks by their cells: what a walk reads and writes of a block that is known whole, by few facts. No condition. -/
namespace Go.Proofs.Ytndcmjpacailjaa
open Go.RowKit

/-- The cells of block g. -/
def cellsAt (w : World) (g : Nat) : Array Value := match w.heap[g]? with | some (.cells c _ (0, 0)) => c | _ => #[]
theorem cellsAt_at {w : World} {g : Nat} {t : TypeId} {cs : Array Value} (h : At w g t cs) : cellsAt w g = cs := by
  unfold At at h
  unfold cellsAt
  rw [h]
  rfl
theorem cellsAt_alloc_at (w : World) (c : Array Value) (t : TypeId) (n : Nat) (hn : n = w.heap.size) : cellsAt (w.alloc (.cells c t)) n = c := cellsAt_at (At.new' w t c n hn)
theorem cellsAt_alloc_past (w : World) (o : Obj) (n : Nat) (hn : n < w.heap.size) : cellsAt (w.alloc o) n = cellsAt w n := by
  unfold cellsAt; rw [heap_alloc_old w o hn]
theorem cellsAt_drew (w : World) (n : Nat) : cellsAt w.drew n = cellsAt w n := rfl
theorem cellsAt_setCell (w : World) (g i : Nat) (v : Value) (n : Nat) (h : n ≠ g) : cellsAt (w.setCell ⟨g, i, none⟩ v) n = cellsAt w n := by
  unfold cellsAt; rw [Below.heap_setCell w ⟨g, i, none⟩ v n h]
theorem cellsAt_later {W : World} (x : Later W) (n : Nat) (h : n < W.heap.size) : cellsAt x.val n = cellsAt W n := by
  unfold cellsAt; rw [x.ext.block n h]
theorem cellsAt_cell (w : World) (g i : Nat) (v : Value) (h : (cellsAt w g)[i]? = some v) : w.cell? ⟨g, i, none⟩ = some v := by
  unfold cellsAt at h
  split at h
  · rename_i c _ e
    rw [cell_of_row w g i _ _ _ e]; exact h
  · simp at h

theorem cellsAt_row {w : World} {g : Nat} (h : (cellsAt w g).size = 128) : ∃ t, At w g t (cellsAt w g) := by
  unfold cellsAt at h ⊢
  split at h
  · rename_i c t e
    exact ⟨t, e⟩
  · simp at h
theorem At.setRow {w : World} {g : Nat} {t : TypeId} {cs : Array Value} (h : At w g t cs) (cs' : Array Value) : At (w.setRow g cs') g t cs' := setRow_heap w g cs cs' t (0, 0) h
theorem At.rowFar {w : World} {g n : Nat} {t : TypeId} {cs : Array Value} (h : At w n t cs) (hn : n ≠ g) (cs' : Array Value) : At (w.setRow g cs') n t cs := (setRow_other w g n cs' hn).trans h
theorem Ext.setRow {w w1 : World} (h : Ext w w1) {g : Nat} (hg : w.heap.size ≤ g) (cs : Array Value) : Ext w (w1.setRow g cs) :=
  ⟨h.os, h.tape, h.output, by simpa using h.size, fun k hk => (setRow_other w1 g k cs (by omega)).trans (h.block k hk)⟩
theorem cellsAt_setRow_far (w : World) (g n : Nat) (cs : Array Value) (h : n ≠ g) : cellsAt (w.setRow g cs) n = cellsAt w n := by
  unfold cellsAt; rw [setRow_other w g n cs h]

theorem ltn_2 (a : Nat) : (a < a + 1 + 1) = True := eq_true (by omega)
theorem ltn_3 (a : Nat) : (a < a + 1 + 1 + 1) = True := eq_true (by omega)
theorem ltn_4 (a : Nat) : (a < a + 1 + 1 + 1 + 1) = True := eq_true (by omega)
theorem ltn_5 (a : Nat) : (a < a + 1 + 1 + 1 + 1 + 1) = True := eq_true (by omega)
theorem setRow_new (w : World) (c cs : Array Value) (t : TypeId) (n : Nat) (hn : n = w.heap.size) : (w.alloc (.cells c t)).setRow n cs = w.alloc (.cells cs t) := by
  subst hn
  unfold World.setRow World.alloc
  congr 1
  apply Array.ext_getElem?
  intro k
  simp only [Array.getElem?_modify, Array.getElem?_push]
  by_cases hk : k = w.heap.size
  · subst hk
    simp
  · simp [hk, Ne.symm hk]
theorem setRow_past (w : World) (o : Obj) (cs : Array Value) (n : Nat) (hn : n < w.heap.size) : (w.alloc o).setRow n cs = (w.setRow n cs).alloc o := by
  unfold World.setRow World.alloc
  congr 1
  apply Array.ext_getElem?
  intro k
  simp only [Array.getElem?_modify, Array.getElem?_push, Array.size_modify]
  by_cases hk : k = w.heap.size
  · subst hk
    simp [Nat.ne_of_lt hn]
  · simp [hk]
theorem cell_ca (w : World) (g i : Nat) (h : (cellsAt w g).isEmpty = false) : w.cell? ⟨g, i, none⟩ = (cellsAt w g)[i]? := by
  unfold cellsAt at h ⊢
  split at h
  · rename_i c t e
    rw [cell_of_row w g i _ _ _ e]
  · simp at h
theorem frozen_ca (w : World) (g i : Nat) (h : (cellsAt w g).isEmpty = false) : w.frozen? ⟨g, i, none⟩ = false := by
  unfold cellsAt at h
  split at h
  · rename_i c t e
    exact frozen_of_row w g i c t e
  · simp at h
theorem cellsAt_set_same (w : World) (g i : Nat) (v : Value) : cellsAt (w.setCell ⟨g, i, none⟩ v) g = (cellsAt w g).setIfInBounds i v := by
  by_cases h : (cellsAt w g).isEmpty = false
  · have h2 := h
    unfold cellsAt at h2
    split at h2
    · rename_i c t e
      have := At.set (w := w) (g := g) (t := t) (cs := c) e i v
      rw [cellsAt_at this, cellsAt_at (w := w) (t := t) (cs := c) e]
    · simp at h2
  · have e0 : cellsAt w g = #[] := by
      have : (cellsAt w g).isEmpty = true := by simpa using h
      exact Array.isEmpty_iff.1 this
    rw [e0]
    have e1 : (w.setCell ⟨g, i, none⟩ v).heap[g]? = (w.heap[g]?).map (fun o => match o with | .cells c t f => .cells (c.setIfInBounds i v) t f | o => o) := by
      unfold World.setCell
      rw [Array.getElem?_modify, if_pos rfl]
      rfl
    unfold cellsAt at e0 ⊢
    rw [e1]
    cases ho : w.heap[g]? with
    | none => rfl
    | some o =>
      rw [ho] at e0
      cases o with
      | cells c t f =>
        obtain ⟨f1, f2⟩ := f
        simp only [Option.map_some] at e0 ⊢
        split at e0
        · rename_i h3
          injection h3 with h3
          injection h3 with h4 h5 h6
          subst h4
          rw [h6, e0]
          rfl
        · rename_i h3
          split
          · rename_i c2 t2 h4
            injection h4 with h4
            injection h4 with h5 h6 h7
            exact absurd (by rw [h7]) (h3 c t)
          · rfl
      | _ => rfl
theorem cellsAt_setRow_same (w : World) (g : Nat) (cs : Array Value) (h : (cellsAt w g).isEmpty = false) : cellsAt (w.setRow g cs) g = cs := by
  unfold cellsAt at h
  split at h
  · rename_i c t e
    exact cellsAt_at (At.setRow (w := w) (g := g) (t := t) (cs := c) e cs)
  · simp at h
theorem one_int (k : IntKind) (n : Int) : (Value.int k n).oneCell' = true := rfl
theorem one_bool (b : Bool) : (Value.bool b).oneCell' = true := rfl
theorem one_slice (a : Option Addr) (n c : Nat) : (Value.slice a n c).oneCell' = true := rfl
theorem one_ptr (a : Option Addr) : (Value.pointer a).oneCell' = true := rfl
theorem one_str (s : ByteArray) : (Value.string s).oneCell' = true := rfl
/-- A struct, read whole. -/
theorem loadVar_ca {P : Program} (T : TypeId) (n : Nat) (hA : ∀ w, (isAgg T).run P w = .ok true w) (hS : ∀ w, (sizeOf T).run P w = .ok n w) (w : World) (g : Nat) (h : (cellsAt w g).size = n) : (loadVar T ⟨g, 0, none⟩).run P w = .ok (.agg (cellsAt w g)) w := by
  have hl := run_loadCells_list (P := P) w ⟨g, 0, none⟩ (cellsAt w g).toList (fun j v hj => by
    rw [Addr.add_lit, Nat.zero_add]
    exact cellsAt_cell w g j v (by simpa using hj))
  simp only [Array.length_toList, h, Array.toArray_toList] at hl
  simp only [loadVar]
  simp [hA, hS, hl]
/-- A struct, written whole. -/
theorem storeVar_ca {P : Program} (T : TypeId) (n : Nat) (hS : ∀ w, (sizeOf T).run P w = .ok n w) (w : World) (g : Nat) (cs : Array Value) (hc : cs.size = n) (h : (cellsAt w g).size = n) (h1 : cs.toList.all (·.oneCell') = true) (hn : n ≠ 0) : (storeVar T ⟨g, 0, none⟩ (.agg cs)).run P w = .ok () (w.setRow g cs) := by
  obtain ⟨t, ht⟩ : ∃ t, At w g t (cellsAt w g) := by
    unfold cellsAt at h ⊢
    split at h
    · rename_i c t e
      exact ⟨t, e⟩
    · simp at h; omega
  have hl := run_storeCells_at P g 0 t cs.toList 0 (cellsAt w g) w ht (by simp [hc, h]) (List.all_eq_true.1 h1)
  simp only [Nat.zero_add, List.take_zero, List.nil_append, Array.length_toList, hc] at hl
  rw [List.drop_of_length_le (by simp [h]), List.append_nil, Array.toArray_toList] at hl
  simp only [storeVar]
  simp [hS, Value.cells, hc, hl]
/-- Some cells that lie side by side. -/
def subAt (w : World) (g off n : Nat) : Array Value := match (List.range n).mapM (fun j => w.cell? ⟨g, off + j, none⟩) with | some l => l.toArray | none => #[]
theorem mapM_some {α β : Type} (f : α → Option β) : ∀ (l : List α) (r : List β), l.mapM f = some r ↔ r.length = l.length ∧ ∀ (i : Nat) (a : α), l[i]? = some a → f a = r[i]?
  | [], r => by
    simp only [List.mapM_nil, Option.pure_def, Option.some.injEq, List.length_nil]
    constructor
    · rintro rfl; exact ⟨rfl, fun i a h => by simp at h⟩
    · rintro ⟨h, _⟩; exact (List.eq_nil_of_length_eq_zero h).symm
  | a :: l, r => by
    rw [List.mapM_cons]
    constructor
    · intro h
      simp only [Option.bind_eq_bind, Option.bind_eq_some_iff, Option.pure_def, Option.some.injEq] at h
      obtain ⟨b, hb, r', hr, rfl⟩ := h
      obtain ⟨h1, h2⟩ := (mapM_some f l r').1 hr
      refine ⟨by simp [h1], fun i x hx => ?_⟩
      rcases i with _ | i
      · simp at hx; subst hx; simpa using hb
      · simpa using h2 i x (by simpa using hx)
    · rintro ⟨h1, h2⟩
      match r, h1, h2 with
      | b :: r, h1, h2 =>
        have hb := h2 0 a rfl
        have hr := (mapM_some f l r).2 ⟨by simpa using h1, fun i x hx => by simpa using h2 (i + 1) x (by simpa using hx)⟩
        simp only [List.getElem?_cons_zero] at hb
        simp [hb, hr]
theorem subAt_is {w : World} {g off n : Nat} {cs : List Value} (hl : cs.length = n) (h : ∀ j, j < n → w.cell? ⟨g, off + j, none⟩ = cs[j]?) : subAt w g off n = cs.toArray := by
  have : (List.range n).mapM (fun j => w.cell? ⟨g, off + j, none⟩) = some cs := (mapM_some _ _ _).2 ⟨by simpa using hl, fun i a ha => by
    have hi : i < n := by
      have := (List.getElem?_eq_some_iff.1 ha).1
      simpa using this
    rw [List.getElem?_range hi] at ha
    injection ha with ha
    subst ha
    exact h i hi⟩
  unfold subAt
  rw [this]
theorem subAt_cell {w : World} {g off n : Nat} (hn : (subAt w g off n).size = n) (j : Nat) (hj : j < n) : w.cell? ⟨g, off + j, none⟩ = (subAt w g off n)[j]? := by
  unfold subAt at hn ⊢
  split at hn
  · rename_i l e
    have := ((mapM_some _ _ _).1 e).2 j j (List.getElem?_range hj)
    simpa using this
  · simp at hn; omega
theorem subAt_same {w w' : World} {g off n : Nat} (h : ∀ j, j < n → w'.cell? ⟨g, off + j, none⟩ = w.cell? ⟨g, off + j, none⟩) : subAt w' g off n = subAt w g off n := by
  unfold subAt
  have : (List.range n).mapM (fun j => w'.cell? ⟨g, off + j, none⟩) = (List.range n).mapM (fun j => w.cell? ⟨g, off + j, none⟩) := by
    have key : ∀ l : List Nat, (∀ j ∈ l, j < n) → l.mapM (fun j => w'.cell? ⟨g, off + j, none⟩) = l.mapM (fun j => w.cell? ⟨g, off + j, none⟩) := by
      intro l
      induction l with
      | nil => exact fun _ => rfl
      | cons a l ih =>
        intro hl
        rw [List.mapM_cons, List.mapM_cons, h a (hl a (by simp)), ih (fun j hj => hl j (by simp [hj]))]
    exact key _ (fun j hj => List.mem_range.1 hj)
  rw [this]
theorem subAt_ext {w w' : World} {g off n : Nat} (hx : Ext w w') (hg : g < w.heap.size) : subAt w' g off n = subAt w g off n := subAt_same fun j _ => hx.facts.1 _ _ hg
theorem subAt_alloc (w : World) (o : Obj) (g off n : Nat) (hg : g < w.heap.size) : subAt (w.alloc o) g off n = subAt w g off n := subAt_ext ((Ext.refl w).alloc o) hg
theorem subAt_drew (w : World) (g off n : Nat) : subAt w.drew g off n = subAt w g off n := rfl
theorem subAt_later {W : World} (x : Later W) (g off n : Nat) (hg : g < W.heap.size) : subAt x.val g off n = subAt W g off n := subAt_ext x.ext hg
theorem subAt_setCell (w : World) (p i : Nat) (v : Value) (g off n : Nat) (hg : g ≠ p) : subAt (w.setCell ⟨p, i, none⟩ v) g off n = subAt w g off n :=
  subAt_same fun j _ => World.cell?_of_block (Below.heap_setCell w ⟨p, i, none⟩ v g hg)
theorem subAt_setRow (w : World) (p : Nat) (cs : Array Value) (g off n : Nat) (hg : g ≠ p) : subAt (w.setRow p cs) g off n = subAt w g off n :=
  subAt_same fun j _ => World.cell?_of_block (setRow_other w p g cs hg)
/-- A struct that lies among others, read whole. -/
theorem loadVar_sub {P : Program} (T : TypeId) (n : Nat) (hA : ∀ w, (isAgg T).run P w = .ok true w) (hS : ∀ w, (sizeOf T).run P w = .ok n w) (w : World) (g off : Nat) (h : (subAt w g off n).size = n) : (loadVar T ⟨g, off, none⟩).run P w = .ok (.agg (subAt w g off n)) w := by
  have hl := run_loadCells_list (P := P) w ⟨g, off, none⟩ (subAt w g off n).toList (fun j v hj => by
    rw [Addr.add_lit]
    have hj' : j < n := by
      have := (List.getElem?_eq_some_iff.1 hj).1
      simpa [h] using this
    rw [subAt_cell h j hj']
    simpa using hj)
  simp only [Array.length_toList, h, Array.toArray_toList] at hl
  simp only [loadVar]
  simp [hA, hS, hl]
end Go.Proofs.Ytndcmjpacailjaa
/- Small words on blocks that are known whole: a store, a load of the whole. No condition. -/
namespace Go.Proofs.Ytndcmjpacailjaa
open Go.RowKit
theorem At.upd {w : World} {g : Nat} {t : TypeId} {cs cs' : Array Value} (h : At w g t cs) (i : Nat) (v : Value) (e : cs.setIfInBounds i v = cs') : At (w.setCell ⟨g, i, none⟩ v) g t cs' := e ▸ h.set i v
theorem At.drewN {w : World} {g : Nat} {t : TypeId} {cs : Array Value} (h : At w g t cs) (n : Nat) : At (w.drewN n) g t cs := h
theorem tup_open {α : Type} (P : α → Prop) (x : α) (h : P x) : ∃ y, y = x ∧ P y := ⟨x, rfl, h⟩
end Go.Proofs.Ytndcmjpacailjaa
/- Rows that a call has made and appends to: how they are kept, and one element more. No condition. -/
namespace Go.Proofs.Ytndcmjpacailjaa
open Go.RowKit

section
variable {w w' : World} {g : Nat} {t : TypeId} {cs : Array Value} {base : Nat} {e : TypeId} {size n : Nat} {v : Value} {xs : List Value}
theorem At.grown (h : At w g t cs) {row : Option Nat} (hg : w.grownBy w' row) (hne : row ≠ some g) : At w' g t cs := (hg.block g h.lt (fun e => hne e.symm)).trans h
theorem At.ne_ {g' : Nat} {t' : TypeId} {cs' : Array Value} (h : At w g t cs) (h' : At w g' t' cs') (hne : t ≠ t') : g ≠ g' := by
  rintro rfl
  unfold At at h h'
  rw [h] at h'
  injection h' with h'
  injection h' with _ ht
  exact hne ht
theorem own_ne (h : w.ownsRow base e size v n xs) (hg : At w g t cs) (hne : e ≠ t) : v.ownBlock ≠ some g := by
  rcases h.2 with ⟨rfl, _⟩ | ⟨g', cap, cur, rfl, _, hh, _⟩
  · simp [Value.ownBlock]
  · intro he
    have : g' = g := by simpa [Value.ownBlock] using he
    subst this
    exact At.ne_ (t := e) hh hg hne rfl
theorem own_far (h : w.ownsRow base e size v n xs) (hg : g < base) : v.ownBlock ≠ some g := fun he => by
  have := (h.lt g he).1; omega
theorem Ext.grown {w0 : World} {row : Option Nat} (hx : Ext w0 w) (hg : w.grownBy w' row) (hr : ∀ k, row = some k → w0.heap.size ≤ k) : Ext w0 w' :=
  ⟨hg.os.trans hx.os, hg.tape.trans hx.tape, hg.output.trans hx.output, Nat.le_trans hx.size hg.size, fun k hk => (hg.block k (Nat.lt_of_lt_of_le hk hx.size) (fun e => by have := hr k e.symm; omega)).trans (hx.block k hk)⟩
theorem Ext.row (h : Ext w w') (row : Option Nat) : w.grownBy w' row := ⟨h.os, h.tape, h.output, h.size, fun k hk _ => h.block k hk⟩
theorem own_ext (h : w.ownsRow base e size v n xs) (hx : Ext w w') : w'.ownsRow base e size v n xs := h.kept (hx.row none) (by
  rcases e : v.ownBlock with _ | k
  · exact .inl rfl
  · exact .inr (by simp))
theorem own_set (h : w.ownsRow base e size v n xs) {p : Addr} (hp : v.ownBlock ≠ some p.block) (u : Value) : (w.setCell p u).ownsRow base e size v n xs :=
  h.kept (row := some p.block) ⟨rfl, rfl, rfl, by simp, fun k _ hk => Below.heap_setCell _ _ _ _ (fun e => hk (by simp [e]))⟩ (.inr hp)
theorem own_drew (h : w.ownsRow base e size v n xs) : w.drew.ownsRow base e size v n xs := h
theorem own_setRow (h : w.ownsRow base e size v n xs) {p : Nat} (hp : v.ownBlock ≠ some p) (u : Array Value) : (w.setRow p u).ownsRow base e size v n xs :=
  h.kept (row := some p) ⟨rfl, rfl, rfl, by simp, fun k _ hk => setRow_other w p k u (fun e => hk (by simp [e]))⟩ (.inr hp)
theorem own_mono (h : w.ownsRow base e size v n xs) {b : Nat} (hb : b ≤ base) : w.ownsRow b e size v n xs := by
  refine ⟨h.1, ?_⟩
  rcases h.2 with h2 | ⟨g, cap, cur, h1, h2, h3⟩
  · exact .inl h2
  · exact .inr ⟨g, cap, cur, h1, Nat.le_trans hb h2, h3⟩
theorem own_open (h : w.ownsRow base e size v n xs) : ∃ A c, v = .slice A n c := by
  rcases h.2 with ⟨rfl, rfl⟩ | ⟨g, cap, cur, rfl, _⟩
  · exact ⟨_, _, rfl⟩
  · exact ⟨_, _, rfl⟩
end
/-- An element of a row. -/
theorem own_sub {w : World} {base g : Nat} {e : TypeId} {size n c : Nat} {xs : List Value} (h : w.ownsRow base e size (.slice (some ⟨g, 0, none⟩) n c) n xs) (i : Nat) (hi : i < n) (hs : 0 < size) :
    subAt w g (i * size) size = ((xs.drop (i * size)).take size).toArray := by
  have hl := h.1
  have hb : i * size + size ≤ n * size := by
    have : (i + 1) * size ≤ n * size := Nat.mul_le_mul_right _ hi
    rwa [Nat.add_mul, Nat.one_mul] at this
  refine subAt_is (by rw [List.length_take, List.length_drop]; omega) (fun j hj => ?_)
  rw [h.cellAt (i * size + j) (by omega), List.getElem?_take, if_pos hj, List.getElem?_drop]
theorem cells_new (W : World) (e : TypeId) (news : List Value) : ∀ j u, news[j]? = some u → (W.alloc (.cells news.toArray e)).cell? ((⟨W.heap.size, 0, none⟩ : Addr).add j) = some u := by
  intro j u hj
  rw [Addr.add_lit, Nat.zero_add, At.cell (At.new W e news.toArray) j]
  simpa using hj
/-- One element more, which the caller has just laid. -/
theorem wpList_app1 {P : Program} {ops : Array Oper} {rest : List Oper} {o : Oper} {a : Act} {Q : Exit → Act → World → Prop} (hgd : o.guard = none) (s x : Operand) (T E size bytes : Nat) (zero : Value)
    (ho : o.op = .call { callee := .builtin .append, args := #[s, x], argTypes := #[T, T] }) (hU : P.underlying T = some (.slice E))
    (hI : (P.info? E).map (fun i => (i.zero, i.size, i.bytes)) = some (some zero, size, bytes)) (hzs : zero.cells.size = size) (hpos : 0 < size)
    (W : World) (base : Nat) (v : Value) (n : Nat) (xs : List Value) (hs : a.eval s = v) (hown : W.ownsRow base E size v n xs)
    (news : List Value) (hx : a.eval x = .slice (some ⟨W.heap.size, 0, none⟩) 1 1) (hn : news.length = size) (h1 : news.all (·.oneCell') = true) (hm : n + 1 ≤ maxLen) (hlen : (n + 1) * bytes ≤ 140737488355328) (hbase : base ≤ W.heap.size)
    (h : ∀ v' w', w'.ownsRow base E size v' (n + 1) (xs ++ news) → (W.alloc (.cells news.toArray E)).grownBy w' v.ownBlock → wpList P ops Q rest (a.put o.dst v') w') :
    wpList P ops Q (o :: rest) a (W.alloc (.cells news.toArray E)) := by
  obtain ⟨i0, hi, hz0, hz1, hz2⟩ := info_parts hI
  exact wpList_append_own _ hgd s x T ho base E i0 zero size bytes hU hi hz0 hz1 hz2 hzs hpos v n xs hs (hown.alloc _) ⟨W.heap.size, 0, none⟩ 1 1 news hx (by omega) (cells_new W E news) (List.all_eq_true.1 h1) hm hlen (by simp; omega) (fun v' w' a1 a2 _ => h v' w' a1 a2)
end Go.Proofs.Ytndcmjpacailjaa
