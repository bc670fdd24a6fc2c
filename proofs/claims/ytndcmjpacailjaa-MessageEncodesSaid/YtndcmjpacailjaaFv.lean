/- Slices of structs of integers that come in; structs with such slices and arrays. No condition. -/
import Derived.Test.YtndcmjpacailjaaFs
import Derived.Test.YtndcmjpacailjaaRo
import Derived.Test.YtndcmjpacailjaaCaOw
namespace Go.Proofs.Ytndcmjpacailjaa
open Go.RowKit Go.WideShapes Go.ChangeShapes Go.Deep Go.Joins
section
variable {H : Type} {enc : TypeId × Value → H} {P : Program} {w : World} {base : Nat} {spare : Nat → Bool} {held : Bool}
/-- A struct's cells, where all are integers. -/
theorem trod_intsI {t : TypeId} {fs : Array Field} {fuel : Nat} {cs : List Value} {x : DataW H × List MemPlace} (hs : P.underlying t = some (.struct fs)) (hone : oneCellFields P fs = true) (hC : P.cellsOf t = fs.size) (hint : intFields P fs = true)
    (h : DataW.trod enc P w base spare held fuel t cs = some x) : cs.length = fs.size ∧ ∀ j, j < fs.size → ∃ a, cs[j]? = some (.int .i64 a) ∧ I64 a := by
  obtain ⟨ys, n, _, _, hlen, hyl, hg⟩ := DataW.trod_struct hs h
  have hl : cs.length = fs.size := by rw [← hC, ← hlen]
  refine ⟨hl, fun j hj => ?_⟩
  obtain ⟨f, hfj⟩ : ∃ f, fs[j]? = some f := ⟨fs[j]'hj, Array.getElem?_eq_getElem hj⟩
  obtain ⟨ho, hk⟩ := hone_of hone j f hfj
  have h1 := hg j f hfj
  rw [ho, hk] at h1
  have hone' : (cs.drop j).take 1 = [cs[j]'(by omega)] := by
    rw [List.drop_eq_getElem_cons (by omega)]
    rfl
  rw [hone'] at h1
  have hys : ys[j]? = some (ys[j]'(by omega)) := List.getElem?_eq_getElem (by omega)
  rw [hys] at h1
  obtain ⟨a, e0, _, wa⟩ := DataW.trod_int (intFields_of hint j f hfj) h1
  injection e0 with e0
  exact ⟨a, by rw [List.getElem?_eq_getElem (by omega), e0], I64.of_wf wa⟩
/-- A slice of structs of integers: n elements, their cells one behind the other. -/
theorem trod_rowsI {t e : TypeId} {fs : Array Field} {fuel : Nat} {cs : List Value} {x : DataW H × List MemPlace} (ht : P.underlying t = some (.slice e)) (hs : P.underlying e = some (.struct fs)) (hone : oneCellFields P fs = true) (hC : P.cellsOf e = fs.size) (hint : intFields P fs = true) (hpos : 0 < fs.size)
    (h : DataW.trod enc P w base spare held fuel t cs = some x) :
    ∃ (A : Option Addr) (n c : Nat) (xs : List Int), cs = [.slice A n c] ∧ n ≤ c ∧ c ≤ maxLen ∧ Src w fs.size A n (xs.map (Value.int .i64)) ∧ ∀ a ∈ xs, I64 a := by
  rcases open_slice ht h with ⟨rfl, _⟩ | ⟨a, len, cap, m, n, D, Pl, rfl, _, hl, hm, hmm, _, hx⟩
  · exact ⟨none, 0, 0, [], rfl, Nat.le_refl _, Nat.zero_le _, ⟨by simp, fun h0 => absurd h0 (by omega)⟩, by simp⟩
  have hlm : len ≤ m := by rw [hmm]; split <;> omega
  obtain ⟨X, hX⟩ := choose_lt (α := Int) (n := len * fs.size) (p := fun k a0 => w.cell? (a.add k) = some (.int .i64 a0) ∧ I64 a0) (fun k hk => by
    have hi : k / fs.size < len := Nat.div_lt_of_lt_mul (by rw [Nat.mul_comm]; exact hk)
    obtain ⟨cs', h1, h2⟩ := hx (k / fs.size) (by omega)
    obtain ⟨hl', hc'⟩ := trod_intsI hs hone hC hint h2
    have hj : k % fs.size < fs.size := Nat.mod_lt _ hpos
    obtain ⟨a0, e0, i0⟩ := hc' _ hj
    obtain ⟨_, _, h3⟩ := World.cells?_some h1
    have h4 := h3 (k % fs.size) (by rw [hC]; exact hj)
    rw [add_add, hC, Nat.div_add_mod' k fs.size, e0] at h4
    exact ⟨a0, h4, i0⟩)
  refine ⟨some a, len, cap, (List.range (len * fs.size)).map X, rfl, hl, hm, ⟨by simp, fun h0 => ⟨a, rfl, fun j u hj => ?_⟩⟩, fun y hy => ?_⟩
  · have hjl := (List.getElem?_eq_some_iff.1 hj).1
    simp only [List.length_map, List.length_range] at hjl
    rw [(hX j hjl).1]
    rw [← hj]
    simp [hjl]
  · obtain ⟨k, hk, rfl⟩ := List.mem_map.1 hy
    exact (hX k (List.mem_range.1 hk)).2
/-- .. an argument. -/
theorem open_rowsI {r : Reach} {b0 : Nat} {t e : TypeId} {fs : Array Field} {v : Value} {d : DataW H} {p : List MemPlace} (ht : P.underlying t = some (.slice e)) (hs : P.underlying e = some (.struct fs)) (hone : oneCellFields P fs = true) (hC : P.cellsOf e = fs.size) (hint : intFields P fs = true) (hpos : 0 < fs.size)
    (hv : Value.okWide P w r b0 t v) (h : DataW.Trod enc P w base spare held t v d p) :
    ∃ (A : Option Addr) (n c : Nat) (xs : List Int), v = .slice A n c ∧ n ≤ c ∧ c ≤ maxLen ∧ Src w fs.size A n (xs.map (Value.int .i64)) ∧ ∀ a ∈ xs, I64 a := by
  obtain ⟨a, len, cap, rfl⟩ := okWide_slice ht hv
  obtain ⟨fuel, hf⟩ := h
  obtain ⟨A, n, c, xs, hcs, h1, h2, h3, h4⟩ := trod_rowsI ht hs hone hC hint hpos hf
  simp [Value.cells] at hcs
  obtain ⟨rfl, rfl, rfl⟩ := hcs
  exact ⟨_, _, _, xs, rfl, h1, h2, h3, h4⟩
theorem open_intsI {t e : TypeId} {fuel : Nat} {cs : List Value} {k : IntKind} {x : DataW H × List MemPlace} (ht : P.underlying t = some (.slice e)) (he : P.underlying e = some (.int k)) (hC : P.cellsOf e = 1) (h : DataW.trod enc P w 0 (fun _ => true) true fuel t cs = some x) :
    ∃ (A : Option Addr) (n c : Nat) (xs : List Int), cs = [.slice A n c] ∧ n ≤ c ∧ c ≤ maxLen ∧ Src w 1 A n (xs.map (Value.int k)) ∧ ∀ a ∈ xs, (Lit.int k a).wf = true := by
  rcases open_ints ht he hC h with ⟨hcs, _⟩ | ⟨x, l, c, zs, hcs, _, hl, hm, hz, hx, hcell, hwz⟩
  · exact ⟨none, 0, 0, [], hcs, Nat.le_refl _, Nat.zero_le _, ⟨by simp, fun h0 => absurd h0 (by omega)⟩, by simp⟩
  have hz' : zs.length = c := by simpa using hz
  have hlen : ((zs.take l).map (Value.int k)).length = l * 1 := by rw [List.length_map, List.length_take]; omega
  refine ⟨some x, l, c, zs.take l, hcs, hl, hm, ⟨hlen, fun h0 => ⟨x, rfl, fun j u hj => ?_⟩⟩, fun y hy => hwz y (List.mem_of_mem_take hy)⟩
  have hjl := (List.getElem?_eq_some_iff.1 hj).1
  simp only [List.length_map, List.length_take] at hjl
  rw [hcell j (by omega), ← hj]
  have hjz : j < zs.length := by omega
  simp only [List.getElem?_map, List.getElem?_take]
  rw [if_pos (by omega), List.getElem?_eq_getElem hjz]
  simp [hjz]
end
theorem Src.lt {w : World} {size k : Nat} {A : Option Addr} {xs : List Value} (h : Src w size A k xs) (hk : 0 < k) (hs : 0 < size) : ∃ b off, A = some ⟨b, off, none⟩ ∧ b < w.heap.size ∧ ∀ j, j < k * size → w.cell? ⟨b, off + j, none⟩ = xs[j]? := by
  obtain ⟨ad, hA, hc⟩ := h.at_ hk
  have hl := h.len
  have hm : 0 < k * size := Nat.mul_pos hk hs
  obtain ⟨b, off, spot⟩ := ad
  have h0 := hc 0 (xs[0]'(by omega)) (List.getElem?_eq_getElem (by omega))
  have hspot : spot = none := by simpa [Addr.add] using World.cell?_spot h0
  subst hspot
  refine ⟨b, off, hA, by simpa [Addr.add] using cell_lt h0, fun j hj => ?_⟩
  rw [List.getElem?_eq_getElem (by omega)]
  have := hc j (xs[j]'(by omega)) (List.getElem?_eq_getElem (by omega))
  rwa [Addr.add_lit] at this
theorem flat_len {α : Type} (f : α → List Value) (k : Nat) (hf : ∀ a, (f a).length = k) : ∀ l : List α, (l.flatMap f).length = l.length * k
  | [] => by simp
  | a :: l => by
    rw [List.flatMap_cons, List.length_append, hf, flat_len f k hf l, List.length_cons, Nat.add_mul, Nat.one_mul, Nat.add_comm]
theorem flat_get {α : Type} (f : α → List Value) (k : Nat) (hf : ∀ a, (f a).length = k) : ∀ (l : List α) (i r : Nat) (h : i < l.length), r < k → (l.flatMap f)[i * k + r]? = (f l[i])[r]?
  | a :: l, 0, r, _, hr => by
    rw [List.flatMap_cons, Nat.zero_mul, Nat.zero_add, List.getElem?_append_left (by rw [hf]; exact hr)]
    rfl
  | a :: l, i + 1, r, h, hr => by
    have hil : i < l.length := by simpa using h
    rw [List.flatMap_cons, List.getElem?_append_right (by rw [hf, Nat.add_mul]; omega), hf, show (i + 1) * k + r - k = i * k + r by rw [Nat.add_mul]; omega, flat_get f k hf l i r hil hr]
    rfl
/-- A list that lies in a slice, element behind element. -/
structure Lies {α : Type} (f : α → List Value) (k : Nat) (w : World) (A : Option Addr) (c : Nat) (l : List α) : Prop where
  le : l.length ≤ c
  max : c ≤ maxLen
  src : Src w k A l.length (l.flatMap f)
theorem Lies.ext {α : Type} {f : α → List Value} {k : Nat} {w w' : World} {A : Option Addr} {c : Nat} {l : List α} (h : Lies f k w A c l) (hx : Ext w w') : Lies f k w' A c l := ⟨h.le, h.max, h.src.ext hx⟩
theorem Lies.nil {α : Type} (f : α → List Value) (k : Nat) (w : World) : Lies f k w none 0 [] := ⟨Nat.le_refl _, Nat.zero_le _, ⟨by simp, fun h => absurd h (by simp)⟩⟩
theorem Lies.cell {α : Type} {f : α → List Value} {k : Nat} {w : World} {A : Option Addr} {c : Nat} {l : List α} (h : Lies f k w A c l) (hf : ∀ a, (f a).length = k) (hk : 0 < k) (i : Nat) (hi : i < l.length) : ∃ b off, A = some ⟨b, off, none⟩ ∧ b < w.heap.size ∧ ∀ r, r < k → w.cell? ⟨b, off + i * k + r, none⟩ = (f l[i])[r]? := by
  obtain ⟨b, off, hA, hb, hc⟩ := h.src.lt (by omega) hk
  refine ⟨b, off, hA, hb, fun r hr => ?_⟩
  have h1 : (i + 1) * k ≤ l.length * k := Nat.mul_le_mul_right _ hi
  rw [Nat.add_mul] at h1
  rw [Nat.add_assoc, hc (i * k + r) (by omega), flat_get f k hf l i r hi hr]
/-- .. its i-th element, read whole. -/
theorem Lies.sub {α : Type} {f : α → List Value} {k : Nat} {w : World} {A : Option Addr} {c : Nat} {l : List α} (h : Lies f k w A c l) (hf : ∀ a, (f a).length = k) (hk : 0 < k) (i : Nat) (hi : i < l.length) : ∃ b off, A = some ⟨b, off, none⟩ ∧ b < w.heap.size ∧ subAt w b (off + i * k) k = (f l[i]).toArray := by
  obtain ⟨b, off, hA, hb, hc⟩ := h.cell hf hk i hi
  exact ⟨b, off, hA, hb, subAt_is (hf _) hc⟩
section
variable {H : Type} {enc : TypeId × Value → H} {P : Program} {w : World}
theorem trod_list {α : Type} [Inhabited α] (f : α → List Value) (k : Nat) (hf : ∀ a, (f a).length = k) (hk : 0 < k) (ok : α → Prop) {t e : TypeId} {fuel : Nat} {cs : List Value} {x : DataW H × List MemPlace} (ht : P.underlying t = some (.slice e)) (hC : P.cellsOf e = k)
    (he : ∀ n cs y, DataW.trod enc P w 0 (fun _ => true) true n e cs = some y → ∃ q, cs = f q ∧ ok q)
    (h : DataW.trod enc P w 0 (fun _ => true) true fuel t cs = some x) : ∃ (A : Option Addr) (c : Nat) (l : List α), cs = [.slice A l.length c] ∧ Lies f k w A c l ∧ ∀ q ∈ l, ok q := by
  rcases open_slice ht h with ⟨rfl, _⟩ | ⟨a, len, cap, m, n, D, Pl, rfl, _, hl, hm, hmm, _, hx⟩
  · exact ⟨none, 0, [], rfl, Lies.nil _ _ _, by simp⟩
  have hlm : len ≤ m := by rw [hmm]; split <;> omega
  obtain ⟨X, hX⟩ := choose_lt (α := α) (n := len) (p := fun i q => (∀ r, r < k → w.cell? (a.add (i * k + r)) = (f q)[r]?) ∧ ok q) (fun i hi => by
    obtain ⟨cs', h1, h2⟩ := hx i (by omega)
    obtain ⟨q, rfl, hq⟩ := he _ _ _ h2
    obtain ⟨_, _, h3⟩ := World.cells?_some h1
    rw [hC] at h3
    refine ⟨q, fun r hr => ?_, hq⟩
    have := h3 r hr
    rwa [add_add] at this)
  have hln : ((List.range len).map X).length = len := by simp
  refine ⟨some a, cap, (List.range len).map X, by rw [hln], ⟨by rw [hln]; exact hl, hm, ⟨flat_len f k hf _, fun h0 => ⟨a, rfl, fun j u hj => ?_⟩⟩⟩, fun q hq => ?_⟩
  · have hjl := (List.getElem?_eq_some_iff.1 hj).1
    rw [flat_len f k hf, hln] at hjl
    have hi : j / k < len := Nat.div_lt_of_lt_mul (by rw [Nat.mul_comm]; exact hjl)
    have hr : j % k < k := Nat.mod_lt _ hk
    have h1 := flat_get f k hf ((List.range len).map X) (j / k) (j % k) (by rw [hln]; exact hi) hr
    rw [Nat.div_add_mod' j k] at h1
    rw [h1] at hj
    have h2 := (hX (j / k) hi).1 (j % k) hr
    rw [Nat.div_add_mod' j k] at h2
    rw [h2, ← hj]
    simp
  · obtain ⟨i, hi, rfl⟩ := List.mem_map.1 hq
    exact (hX i (List.mem_range.1 hi)).2
theorem open_list' {α : Type} [Inhabited α] (f : α → List Value) (k : Nat) (hf : ∀ a, (f a).length = k) (hk : 0 < k) (ok : α → Prop) {r : Reach} {b0 : Nat} {t e : TypeId} {v : Value} {d : DataW H} {p : List MemPlace} (ht : P.underlying t = some (.slice e)) (hC : P.cellsOf e = k)
    (he : ∀ n cs y, DataW.trod enc P w 0 (fun _ => true) true n e cs = some y → ∃ q, cs = f q ∧ ok q)
    (hv : Value.okWide P w r b0 t v) (h : DataW.Trod enc P w 0 (fun _ => true) true t v d p) : ∃ (A : Option Addr) (c : Nat) (l : List α), v = .slice A l.length c ∧ Lies f k w A c l ∧ ∀ q ∈ l, ok q := by
  obtain ⟨a, len, cap, rfl⟩ := okWide_slice ht hv
  obtain ⟨fuel, hfu⟩ := h
  obtain ⟨A, c, l, hcs, h1, h2⟩ := trod_list f k hf hk ok ht hC he hfu
  simp [Value.cells] at hcs
  obtain ⟨rfl, rfl, rfl⟩ := hcs
  exact ⟨_, _, l, rfl, h1, h2⟩
end
end Go.Proofs.Ytndcmjpacailjaa
