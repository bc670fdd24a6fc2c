/- Slices of the call's own, anywhere in their block: one element more, the first one left out. No condition. -/
import Derived.Test.YtndcmjpacailjaaCaOw
import Derived.Deep.Onto
namespace Go.Proofs.Ytndcmjpacailjaa
open Go.RowKit

/-- The end of a function without results. -/
theorem fin_norm {P : Program} {fn : Func} {R : Ending → World → Prop} {a : Act} {w : World} (hd : a.defers = [])
    (h : ∀ K : Value → World → Prop, (∀ v, R (.returned v) w → K v w) → rsat K ((results fn a.tmps).run P w)) : bodyPost P fn R .normal a w := fin_ret hd h
/-- Two worlds: the later one is the elder one with new blocks, and with other cells in the blocks told. -/
structure Chg (w w' : World) (l : List Nat) : Prop where
  os : w'.os = w.os
  tape : w'.tape = w.tape
  output : w'.output = w.output
  size : w.heap.size ≤ w'.heap.size
  block : ∀ k, k < w.heap.size → k ∉ l → w'.heap[k]? = w.heap[k]?
theorem Chg.refl (w : World) (l : List Nat) : Chg w w l := ⟨rfl, rfl, rfl, Nat.le_refl _, fun _ _ _ => rfl⟩
theorem Chg.trans {a b c : World} {l : List Nat} (h : Chg a b l) (k : Chg b c l) : Chg a c l :=
  ⟨k.os.trans h.os, k.tape.trans h.tape, k.output.trans h.output, Nat.le_trans h.size k.size, fun i hi hn => (k.block i (Nat.lt_of_lt_of_le hi h.size) hn).trans (h.block i hi hn)⟩
theorem Chg.mono {a b : World} {l m : List Nat} (h : Chg a b l) (hs : ∀ k, k < a.heap.size → k ∈ l → k ∈ m) : Chg a b m :=
  ⟨h.os, h.tape, h.output, h.size, fun i hi hn => h.block i hi (fun hl => hn (hs i hi hl))⟩
theorem Chg.of_ext {a b : World} (h : Ext a b) (l : List Nat) : Chg a b l := ⟨h.os, h.tape, h.output, h.size, fun i hi _ => h.block i hi⟩
theorem Chg.ext {a b : World} {l : List Nat} (h : Chg a b l) (hl : ∀ k ∈ l, a.heap.size ≤ k) : Ext a b := ⟨h.os, h.tape, h.output, h.size, fun i hi => h.block i hi (fun hm => by have := hl i hm; omega)⟩
theorem Chg.at {a b : World} {l : List Nat} (h : Chg a b l) {g : Nat} {t : TypeId} {cs : Array Value} (hg : At a g t cs) (hn : g ∉ l) : At b g t cs := (h.block g hg.lt hn).trans hg
/-- A step between: the inner one changes blocks that the outer world lacks, or that are told. -/
theorem Chg.step {a b c : World} {l m : List Nat} (h : Chg a b l) (k : Chg b c m) (hm : ∀ i ∈ m, i ∈ l ∨ a.heap.size ≤ i) : Chg a c l :=
  ⟨k.os.trans h.os, k.tape.trans h.tape, k.output.trans h.output, Nat.le_trans h.size k.size, fun i hi hn => (k.block i (Nat.lt_of_lt_of_le hi h.size) (fun hi2 => by rcases hm i hi2 with h1 | h1; exact hn h1; omega)).trans (h.block i hi hn)⟩

section
variable {w w' w2 : World} {l : List Nat}
theorem Chg.alloc (h : Chg w w' l) (o : Obj) : Chg w (w'.alloc o) l := h.trans (Chg.of_ext ((Ext.refl w').alloc o) l)
theorem Chg.drew (h : Chg w w' l) : Chg w w'.drew l := h.trans (Chg.of_ext (Ext.drew (Ext.refl w')) l)
theorem Chg.drewN (h : Chg w w' l) (n : Nat) : Chg w (w'.drewN n) l := h.trans (Chg.of_ext (Ext.drewN (Ext.refl w') n) l)
theorem Chg.extR (h : Chg w w' l) (hx : Ext w' w2) : Chg w w2 l := h.trans (Chg.of_ext hx l)
theorem Chg.set (h : Chg w w' l) {p : Addr} (hp : p.block ∈ l ∨ w.heap.size ≤ p.block) (v : Value) : Chg w (w'.setCell p v) l :=
  ⟨h.os, h.tape, h.output, by simpa using h.size, fun k hk hn => (Below.heap_setCell w' p v k (fun e => by subst e; rcases hp with h1 | h1; exact hn h1; omega)).trans (h.block k hk hn)⟩
theorem Chg.setRow (h : Chg w w' l) {p : Nat} (hp : p ∈ l ∨ w.heap.size ≤ p) (cs : Array Value) : Chg w (w'.setRow p cs) l :=
  ⟨h.os, h.tape, h.output, by simpa using h.size, fun k hk hn => (setRow_other w' p k cs (fun e => by subst e; rcases hp with h1 | h1; exact hn h1; omega)).trans (h.block k hk hn)⟩
end
def ablk : Option Addr → List Nat
  | some a => [a.block]
  | none => []

/-- A slice of n elements (their cells: xs), anywhere in its block of type e. -/
structure Row (w : World) (e : TypeId) (size : Nat) (A : Option Addr) (n c : Nat) (xs : List Value) : Prop where
  le : n ≤ c
  max : c ≤ maxLen
  len : xs.length = n * size
  at_ : 0 < c → ∃ g off cur, A = some ⟨g, off, none⟩ ∧ w.heap[g]? = some (.cells cur e (0, 0)) ∧ off + c * size ≤ cur.size ∧ ∀ j, j < n * size → cur[off + j]? = xs[j]?
section
variable {w w' : World} {e : TypeId} {size n c : Nat} {A : Option Addr} {xs : List Value}
theorem Row.nil (w : World) (e : TypeId) (size : Nat) (A : Option Addr) : Row w e size A 0 0 [] := ⟨Nat.le_refl _, Nat.zero_le _, by simp, fun h => absurd h (by omega)⟩
theorem Row.kept (h : Row w e size A n c xs) (hb : ∀ g ∈ ablk A, g < w.heap.size → w'.heap[g]? = w.heap[g]?) : Row w' e size A n c xs :=
  ⟨h.le, h.max, h.len, fun h0 => by
    obtain ⟨g, off, cur, rfl, h1, h2⟩ := h.at_ h0
    refine ⟨g, off, cur, rfl, ?_, h2⟩
    rw [hb g (by simp [ablk]) (by rcases Nat.lt_or_ge g w.heap.size with h3 | h3; exact h3; rw [Array.getElem?_eq_none h3] at h1; cases h1)]
    exact h1⟩
theorem Row.lt (h : Row w e size A n c xs) (hn : 0 < c) {k : Nat} (hk : k ∈ ablk A) : k < w.heap.size := by
  obtain ⟨g, off, cur, rfl, h1, h2⟩ := h.at_ hn
  obtain rfl : k = g := by simpa [ablk] using hk
  exact (Array.getElem?_eq_some_iff.1 h1).1
theorem Row.ext (h : Row w e size A n c xs) (hx : Ext w w') : Row w' e size A n c xs := h.kept fun g _ hg => hx.block g hg
theorem Row.chg {l : List Nat} (h : Row w e size A n c xs) (hx : Chg w w' l) (hl : ∀ g ∈ ablk A, g ∉ l) : Row w' e size A n c xs := h.kept fun g hg hs => hx.block g hs (hl g hg)
theorem Row.alloc (h : Row w e size A n c xs) (o : Obj) : Row (w.alloc o) e size A n c xs := h.ext ((Ext.refl w).alloc o)
theorem Row.drew (h : Row w e size A n c xs) : Row w.drew e size A n c xs := h.ext (Ext.drew (Ext.refl w))
theorem Row.drewN (h : Row w e size A n c xs) (k : Nat) : Row (w.drewN k) e size A n c xs := h.ext (Ext.drewN (Ext.refl w) k)
theorem Row.set (h : Row w e size A n c xs) {p : Addr} (hp : p.block ∉ ablk A) (v : Value) : Row (w.setCell p v) e size A n c xs := h.kept fun g hg _ => Below.heap_setCell w p v g (fun e => hp (e ▸ hg))
theorem Row.setRow (h : Row w e size A n c xs) {p : Nat} (hp : p ∉ ablk A) (cs : Array Value) : Row (w.setRow p cs) e size A n c xs := h.kept fun g hg _ => setRow_other w p g cs (fun e => hp (e ▸ hg))
theorem tape_setCells (b : Nat) : ∀ (vs : List Value) (o : Nat) (w : World), (w.setCells b o vs).tape = w.tape
  | [], _, _ => rfl
  | v :: r, o, w => by
    show ((w.setCell ⟨b, o, none⟩ v).setCells b (o + 1) r).tape = _
    rw [tape_setCells b r]
    simp
theorem heap_setCells_far (b : Nat) : ∀ (vs : List Value) (o : Nat) (w : World) (k : Nat), k ≠ b → (w.setCells b o vs).heap[k]? = w.heap[k]?
  | [], _, _, _, _ => rfl
  | v :: r, o, w, k, hk => by
    show ((w.setCell ⟨b, o, none⟩ v).setCells b (o + 1) r).heap[k]? = _
    rw [heap_setCells_far b r _ _ k hk]
    exact Below.heap_setCell _ _ _ _ hk
/-- The cells of the element i. -/
theorem Row.cell (h : Row w e size A n c xs) {g off : Nat} (hA : A = some ⟨g, off, none⟩) {j : Nat} (hj : j < n * size) : w.cell? ⟨g, off + j, none⟩ = xs[j]? := by
  have h0 : 0 < c := by
    rcases Nat.eq_zero_or_pos c with h1 | h1
    · have := h.le; subst h1; have : n = 0 := by omega
      subst this; simp at hj
    · exact h1
  obtain ⟨g', off', cur, hA', h1, h2, h3⟩ := h.at_ h0
  rw [hA] at hA'
  injection hA' with hA'
  injection hA' with e1 e2
  subst e1 e2
  rw [cell_of_row w g _ cur e (0, 0) h1]
  exact h3 j hj
theorem Row.of_own {base : Nat} {v : Value} (h : w.ownsRow base e size v n xs) (hm : 0 < n) : ∃ A c, v = .slice A n c ∧ Row w e size A n c xs ∧ ∃ g, ablk A = [g] ∧ base ≤ g := by
  obtain ⟨hl, h2⟩ := h
  rcases h2 with ⟨_, h0⟩ | ⟨g, cap, cur, rfl, hb, hg, hn, hm2, hcs, ht⟩
  · omega
  · refine ⟨some ⟨g, 0, none⟩, cap, rfl, ⟨hn, hm2, hl, fun _ => ⟨g, 0, cur, rfl, hg, by omega, fun j hj => ?_⟩⟩, g, rfl, hb⟩
    rw [← ht, List.getElem?_take, if_pos hj]; simp
theorem Chg.of_grown {l : List Nat} (h : w.grownBy w' none) : Chg w w' l := ⟨h.os, h.tape, h.output, h.size, fun k hk _ => h.block k hk (by simp)⟩
/-- A row that was just laid. -/
theorem Row.newRow (w : World) (e : TypeId) (size k : Nat) (news : List Value) (hn : news.length = k * size) (hk : k ≤ maxLen) : Row (w.alloc (.cells news.toArray e)) e size (some ⟨w.heap.size, 0, none⟩) k k news :=
  ⟨Nat.le_refl _, hk, hn, fun _ => ⟨w.heap.size, 0, _, rfl, heap_alloc_new w _, by simp [hn], fun j hj => by simp⟩⟩
theorem Row.of_at {g k : Nat} {cs : Array Value} (h : At w g e cs) (hn : cs.size = k * size) (hk : k ≤ maxLen) : Row w e size (some ⟨g, 0, none⟩) k k cs.toList :=
  ⟨Nat.le_refl _, hk, by simpa using hn, fun _ => ⟨g, 0, cs, rfl, h, by omega, fun j hj => by simp⟩⟩
/-- What is appended: k elements that can be read. -/
structure Src (w : World) (size : Nat) (B : Option Addr) (k : Nat) (xs : List Value) : Prop where
  len : xs.length = k * size
  at_ : 0 < k → ∃ ad, B = some ad ∧ ∀ j u, xs[j]? = some u → w.cell? (ad.add j) = some u
theorem Row.src (h : Row w e size A n c xs) : Src w size A n xs := ⟨h.len, fun h0 => by
  obtain ⟨g, off, cur, hA, _⟩ := h.at_ (by have := h.le; omega)
  refine ⟨_, hA, fun j u hj => ?_⟩
  have hl := (List.getElem?_eq_some_iff.1 hj).1
  rw [h.len] at hl
  rw [Addr.add_lit, h.cell hA hl, hj]⟩
theorem cell_lt {w : World} {a : Addr} {u : Value} (h : w.cell? a = some u) : a.block < w.heap.size := by
  rcases Nat.lt_or_ge a.block w.heap.size with h1 | h1
  · exact h1
  · simp [World.cell?, Array.getElem?_eq_none h1] at h
theorem Src.chg {k : Nat} {B : Option Addr} {l : List Nat} (h : Src w size B k xs) (hx : Chg w w' l) (hl : ∀ g ∈ ablk B, g ∉ l) : Src w' size B k xs := ⟨h.len, fun h0 => by
  obtain ⟨ad, h1, h2⟩ := h.at_ h0
  refine ⟨ad, h1, fun j u hj => ?_⟩
  have h3 := h2 j u hj
  have h4 : (ad.add j).block = ad.block := by simp [Addr.add]; try (split <;> rfl)
  rw [← h3]
  exact World.cell?_of_block (hx.block _ (cell_lt h3) (by rw [h4]; exact hl _ (by rw [h1]; simp [ablk])))⟩
theorem Src.ext {k : Nat} {B : Option Addr} (h : Src w size B k xs) (hx : Ext w w') : Src w' size B k xs := h.chg (Chg.of_ext hx []) (fun _ _ h => by cases h)
theorem Src.new (W : World) (E : TypeId) (news : List Value) (hn : news.length = size) : Src (W.alloc (.cells news.toArray E)) size (some ⟨W.heap.size, 0, none⟩) 1 news :=
  ⟨by omega, fun _ => ⟨_, rfl, cells_new W E news⟩⟩
theorem Src.at {g k : Nat} {cs : Array Value} (h : At w g e cs) (hn : cs.size = k * size) : Src w size (some ⟨g, 0, none⟩) k cs.toList :=
  ⟨by simpa using hn, fun _ => ⟨_, rfl, fun j u hj => by rw [Addr.add_lit, h.cell, Nat.zero_add]; simpa using hj⟩⟩
/-- Elements more. -/
theorem run_row_cat {P : Program} (h : Row w e size A n c xs) (t ty : TypeId) (i : TypeInfo) (z : Value) (bytes : Nat) (ht : P.underlying t = some (.slice e)) (hi : P.info? e = some i) (hz : i.zero = some z) (hsize : i.size = size) (hby : i.bytes = bytes) (hzs : z.cells.size = size) (hsz : 0 < size)
    {B : Option Addr} {k : Nat} {news : List Value} (hS : Src w size B k news) (cc : Nat) (h1 : ∀ u ∈ news, u.oneCell' = true)
    (h63 : n + k ≤ maxLen) (hbytes : (n + k) * bytes ≤ 140737488355328) :
    ∃ A' c' w', (Builtin.append_ #[t, t] ty #[.slice A n c, .slice B k cc]).run P w = .ok (.slice A' (n + k) c') w' ∧ Row w' e size A' (n + k) c' (xs ++ news) ∧ Chg w w' (ablk A) ∧ ∀ g ∈ ablk A', g ∈ ablk A ∨ (w.heap.size ≤ g ∧ g < w'.heap.size) := by
  obtain ⟨hl, hat⟩ := hS
  rcases Nat.eq_zero_or_pos k with hk0 | hk0
  · subst hk0
    obtain rfl : news = [] := List.eq_nil_of_length_eq_zero (by simpa using hl)
    refine ⟨A, c, w, ?_, by simpa using h, Chg.refl _ _, fun g hg => .inl hg⟩
    have hle := h.le
    cases A <;> cases B <;> simp [Builtin.append_, run_underlying ht, sizeOf, typeInfo, hi, Builtin.lenOf, hle, Builtin.firstCells, storeCells, loadCells, loadCellsFrom]
  obtain ⟨ad, rfl, hnews⟩ := hat hk0
  have grow : ∀ v' w1, (Builtin.append_ #[t, t] ty #[.slice A n c, .slice (some ad) k cc]).run P w = .ok v' w1 → w1.ownsRow w.heap.size e size v' (n + k) (xs ++ news) → w.grownBy w1 none →
      ∃ A' c' w', (Builtin.append_ #[t, t] ty #[.slice A n c, .slice (some ad) k cc]).run P w = .ok (.slice A' (n + k) c') w' ∧ Row w' e size A' (n + k) c' (xs ++ news) ∧ Chg w w' (ablk A) ∧ ∀ g ∈ ablk A', g ∈ ablk A ∨ (w.heap.size ≤ g ∧ g < w'.heap.size) := by
    intro v' w1 hr ho hg
    obtain ⟨A', c', rfl, hR, g, hA, hb⟩ := Row.of_own ho (by omega)
    exact ⟨A', c', w1, hr, hR, Chg.of_grown hg, fun g' h' => .inr ⟨by rw [hA] at h'; simp at h'; omega, hR.lt (by have := hR.le; omega) h'⟩⟩
  by_cases hroom : n + k ≤ c
  · obtain ⟨g, off, cur, rfl, hg, hs, hx⟩ := h.at_ (by omega)
    have hcs : n * size + k * size ≤ c * size := by have : (n + k) * size ≤ c * size := Nat.mul_le_mul_right _ hroom; rwa [Nat.add_mul] at this
    have hcell : ∀ j, j < news.length → (w.cell? ⟨g, off + n * i.size + j, none⟩).isSome = true := fun j hj => by
      rw [cell_of_row w g _ cur e (0, 0) hg, hsize, Array.getElem?_eq_getElem (by omega)]; rfl
    have hfr : ∀ j, j < news.length → w.frozen? ⟨g, off + n * i.size + j, none⟩ = false := fun j hj => by simp [World.frozen?, hg]
    have hrun := run_append_room_cells (P := P) w t ty e i ht hi g off n c ad k cc news (by rw [hl, hsize]) hnews h1 hroom hcell hfr
    rw [hsize] at hrun hcell
    have hk := World.keptBut_setCells g (may := fun p => ∃ j, j < news.length ∧ p = .cell g (off + n * size + j)) news (off + n * size) w (fun j hj => ⟨j, hj, rfl⟩)
    have hgl : g < w.heap.size := by
      rcases Nat.lt_or_ge g w.heap.size with h3 | h3
      · exact h3
      · rw [Array.getElem?_eq_none h3] at hg; cases hg
    have hkb := hk.2.2 g hgl
    rw [hg] at hkb
    obtain ⟨cur', hg', hsz', hold⟩ : ∃ cur', (w.setCells g (off + n * size) news).heap[g]? = some (.cells cur' e (0, 0)) ∧ cur'.size = cur.size ∧ ∀ j, (∀ i, i < news.length → j ≠ off + n * size + i) → cur'[j]? = cur[j]? := by
      revert hkb
      cases hh : (w.setCells g (off + n * size) news).heap[g]? with
      | none => intro h; simp at h
      | some o =>
        cases o with
        | cells c' t' fr' =>
          rintro ⟨rfl, rfl, h3, h4⟩
          exact ⟨c', rfl, h3, fun j hj => h4 j (by rintro ⟨i, hi, he⟩; injection he with _ he; exact hj i hi he)⟩
        | map _ _ => intro h; simp at h
        | _ => intro h; simp at h
    refine ⟨_, _, _, hrun, ⟨hroom, h.max, by rw [List.length_append, h.len, hl, Nat.add_mul], fun _ => ⟨g, off, cur', rfl, hg', by omega, fun j hj => ?_⟩⟩, ⟨hk.1, tape_setCells _ _ _ _, hk.2.1, hk.size, fun k hk2 hne => heap_setCells_far g news _ w k (by simpa [ablk] using hne)⟩, fun g' h' => .inl h'⟩
    rw [Nat.add_mul] at hj
    by_cases hj2 : j < n * size
    · rw [hold _ (fun i _ => by omega), hx j hj2, List.getElem?_append_left (by rw [h.len]; exact hj2)]
    · have h5 := World.cell?_setCells_in g news (off + n * size) w hcell (j - n * size) (by omega)
      rw [cell_of_row _ g _ cur' e (0, 0) hg', show off + n * size + (j - n * size) = off + j by omega] at h5
      rw [h5, List.getElem?_append_right (by rw [h.len]; omega), h.len, List.getElem?_eq_getElem (by omega)]
  · have hle := h.le
    cases A with
    | none =>
      have h0 : c = 0 := by
        rcases Nat.eq_zero_or_pos c with h1 | h1
        · exact h1
        · obtain ⟨_, _, _, h2, _⟩ := h.at_ h1; cases h2
      subst h0
      obtain rfl : n = 0 := by omega
      obtain rfl : xs = [] := List.eq_nil_of_length_eq_zero (by simpa using h.len)
      obtain ⟨v', w1, hrun, r1, r2, _⟩ := run_append_own (P := P) w w.heap.size t ty e i z size bytes ht hi hz hsize hby hzs hsz (.slice none 0 0) 0 [] (World.ownsRow_nil w _ e size) ad k cc news hl hnews h1 (by omega) (by omega) (Nat.le_refl _)
      exact grow v' w1 hrun (by simpa using r1) (by simpa [Value.ownBlock] using r2)
    | some a =>
      have holds : ∀ j u, xs[j]? = some u → w.cell? (a.add j) = some u := by
        intro j u hj
        have hjl := (List.getElem?_eq_some_iff.1 hj).1
        rw [h.len] at hjl
        have h0 : 0 < c := by
          rcases Nat.eq_zero_or_pos c with h1 | h1
          · subst h1; obtain rfl : n = 0 := by omega
            simp at hjl
          · exact h1
        obtain ⟨g, off, cur, hA, _⟩ := h.at_ h0
        injection hA with hA
        subst hA
        rw [Addr.add_lit, h.cell rfl hjl, hj]
      obtain ⟨v', w1, hrun, r1, r2⟩ := run_append_arg_grows (P := P) w t ty e i z size bytes ht hi hz hsize hby hzs hsz a n c xs h.len holds ad k cc news hl hnews (by omega) h63 hbytes
      exact grow v' w1 hrun r1 r2
def tailA (A : Option Addr) (c size : Nat) : Option Addr := if c = 1 then A else A.map (·.add (1 * size))
/-- The first element left out. -/
theorem Row.tail (h : Row w e size A (n + 1) c xs) : Row w e size (tailA A c size) n (c - 1) (xs.drop size) := by
  have hle := h.le
  have hmx := h.max
  refine ⟨by omega, by omega, by rw [List.length_drop, h.len, Nat.add_mul]; omega, fun h0 => ?_⟩
  obtain ⟨g, off, cur, rfl, h1, h2, h3⟩ := h.at_ (by omega)
  have hc : (c - 1) * size + size = c * size := by
    obtain ⟨d, rfl⟩ : ∃ d, c = d + 1 := ⟨c - 1, by omega⟩
    rw [Nat.add_sub_cancel, Nat.add_mul, Nat.one_mul]
  refine ⟨g, off + size, cur, ?_, h1, by omega, fun j hj => ?_⟩
  · unfold tailA
    rw [if_neg (by omega)]
    simp [Addr.add_lit]
  · rw [Nat.add_assoc, h3 _ (by rw [Nat.add_mul]; omega), List.getElem?_drop]
/-- The first k elements. -/
theorem Row.takeN (h : Row w e size A n c xs) {k : Nat} (hk : k ≤ n) : Row w e size A k c (xs.take (k * size)) := by
  have hle := h.le
  have hks : k * size ≤ n * size := Nat.mul_le_mul_right _ hk
  refine ⟨by omega, h.max, by rw [List.length_take, h.len]; omega, fun h0 => ?_⟩
  obtain ⟨g, off, cur, rfl, h1, h2, h3⟩ := h.at_ h0
  exact ⟨g, off, cur, rfl, h1, h2, fun j hj => by rw [h3 j (by omega), List.getElem?_take, if_pos hj]⟩
def cutA (A : Option Addr) (c k size : Nat) : Option Addr := if c - k = 0 then A else A.map (·.add (k * size))
/-- All but the first k elements. -/
theorem Row.dropN (h : Row w e size A n c xs) {k : Nat} (hk : k ≤ n) : Row w e size (cutA A c k size) (n - k) (c - k) (xs.drop (k * size)) := by
  have hle := h.le
  have hmx := h.max
  have hns : n * size = k * size + (n - k) * size := by rw [← Nat.add_mul]; congr 1; omega
  refine ⟨by omega, by omega, by rw [List.length_drop, h.len]; omega, fun h0 => ?_⟩
  obtain ⟨g, off, cur, rfl, h1, h2, h3⟩ := h.at_ (by omega)
  have hcs : c * size = k * size + (c - k) * size := by rw [← Nat.add_mul]; congr 1; omega
  refine ⟨g, off + k * size, cur, ?_, h1, by omega, fun j hj => ?_⟩
  · unfold cutA
    rw [if_neg (by omega)]
    simp [Addr.add_lit]
  · rw [Nat.add_assoc, h3 _ (by omega), List.getElem?_drop]
theorem ablk_cut (A : Option Addr) (c k size : Nat) : ablk (cutA A c k size) = ablk A := by
  unfold cutA
  split
  · rfl
  · cases A with
    | none => rfl
    | some a => simp [ablk, Addr.add]; try (split <;> rfl)
theorem ablk_tail (A : Option Addr) (c size : Nat) : ablk (tailA A c size) = ablk A := by
  unfold tailA
  split
  · rfl
  · cases A with
    | none => rfl
    | some a => simp [ablk, Addr.add]; try (split <;> rfl)
/-- Elements more: in a walk. -/
theorem wpList_rowcat {P : Program} {ops : Array Oper} {rest : List Oper} {o : Oper} {a : Act} {Q : Exit → Act → World → Prop} (hgd : o.guard = none) (s x : Operand) (T E size bytes : Nat) (zero : Value)
    (ho : o.op = .call { callee := .builtin .append, args := #[s, x], argTypes := #[T, T] }) (hU : P.underlying T = some (.slice E))
    (hI : (P.info? E).map (fun i => (i.zero, i.size, i.bytes)) = some (some zero, size, bytes)) (hzs : zero.cells.size = size) (hpos : 0 < size)
    (W : World) (A : Option Addr) (n c : Nat) (xs : List Value) (hs : a.eval s = .slice A n c) (h : Row W E size A n c xs)
    (B : Option Addr) (k cc : Nat) (news : List Value) (hx : a.eval x = .slice B k cc) (hS : Src W size B k news) (h1 : news.all (·.oneCell') = true) (hm : n + k ≤ maxLen) (hlen : (n + k) * bytes ≤ 140737488355328)
    (hK : ∀ A' c' w', Row w' E size A' (n + k) c' (xs ++ news) → Chg W w' (ablk A) → (∀ g ∈ ablk A', g ∈ ablk A ∨ (W.heap.size ≤ g ∧ g < w'.heap.size)) → wpList P ops Q rest (a.put o.dst (.slice A' (n + k) c')) w') :
    wpList P ops Q (o :: rest) a W := by
  obtain ⟨i0, hi, hz0, hz1, hz2⟩ := info_parts hI
  refine wpList_plain hgd fun K hK' => ?_
  obtain ⟨A', c', w', hr, h2, h3, h4⟩ := run_row_cat (P := P) (w := W) h T o.type i0 zero bytes hU hi hz0 hz1 hz2 hzs hpos hS cc (List.all_eq_true.1 h1) hm hlen
  unfold Oper.wp execOp
  simp only [ho, resolve, invoke, builtin, Sem.run_bind, Sem.run_pure, Result.andThen_ok, List.map_toArray, List.map_cons, List.map_nil, hs, hx, hr]
  exact hK' _ _ (hK A' c' w' h2 h3 h4)
/-- One element more, which the caller has just laid. -/
theorem wpList_rowapp {P : Program} {ops : Array Oper} {rest : List Oper} {o : Oper} {a : Act} {Q : Exit → Act → World → Prop} (hgd : o.guard = none) (s x : Operand) (T E size bytes : Nat) (zero : Value)
    (ho : o.op = .call { callee := .builtin .append, args := #[s, x], argTypes := #[T, T] }) (hU : P.underlying T = some (.slice E))
    (hI : (P.info? E).map (fun i => (i.zero, i.size, i.bytes)) = some (some zero, size, bytes)) (hzs : zero.cells.size = size) (hpos : 0 < size)
    (W : World) (A : Option Addr) (n c : Nat) (xs : List Value) (hs : a.eval s = .slice A n c) (h : Row W E size A n c xs)
    (news : List Value) (hx : a.eval x = .slice (some ⟨W.heap.size, 0, none⟩) 1 1) (hn : news.length = size) (h1 : news.all (·.oneCell') = true) (hm : n + 1 ≤ maxLen) (hlen : (n + 1) * bytes ≤ 140737488355328)
    (hK : ∀ A' c' w', Row w' E size A' (n + 1) c' (xs ++ news) → Chg (W.alloc (.cells news.toArray E)) w' (ablk A) → (∀ g ∈ ablk A', g ∈ ablk A ∨ (W.heap.size ≤ g ∧ g < w'.heap.size)) → wpList P ops Q rest (a.put o.dst (.slice A' (n + 1) c')) w') :
    wpList P ops Q (o :: rest) a (W.alloc (.cells news.toArray E)) :=
  wpList_rowcat hgd s x T E size bytes zero ho hU hI hzs hpos _ A n c xs hs (h.alloc _) _ 1 1 news hx (Src.new W E news hn) h1 hm hlen
    fun A' c' w' r1 r2 r3 => hK A' c' w' r1 r2 (fun g hg => by rcases r3 g hg with h5 | h5; exact .inl h5; right; simp at h5; exact ⟨by omega, h5.2⟩)
end
end Go.Proofs.Ytndcmjpacailjaa
