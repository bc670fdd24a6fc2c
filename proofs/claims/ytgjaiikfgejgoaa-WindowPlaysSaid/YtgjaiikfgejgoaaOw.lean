/- Rows that a call has made and appends to: how they are kept, and one element more. No condition. -/
import Derived.Test.YtgjaiikfgejgoaaCa
import Derived.Test.YtgjaiikfgejgoaaSm
import Derived.OwnWalk
import Derived.Laws.OwnMore
namespace Go.Proofs.Ytgjaiikfgejgoaa
open Go.RowKit

section
variable {w w' : World} {g : Nat} {t : TypeId} {cs : Array Value} {base : Nat} {e : TypeId} {size n : Nat} {v : Value} {xs : List Value}
theorem At.grown (h : At w g t cs) {row : Option Nat} (hg : w.grownBy w' row) (hne : row ≠ some g) : At w' g t cs := (hg.block g h.lt (fun e => hne e.symm)).trans h
theorem At.ne_ {g' : Nat} {t' : TypeId} {cs' : Array Value} (h : At w g t cs) (h' : At w g' t' cs') (hne : t ≠ t') : g ≠ g' := by
  rintro rfl
  unfold At at h h'
  rw [h] at h'
  injection h' with h'
  injection h' with _ ht
  exact hne ht
theorem own_ne (h : w.ownsRow base e size v n xs) (hg : At w g t cs) (hne : e ≠ t) : v.ownBlock ≠ some g := by
  rcases h.2 with ⟨rfl, _⟩ | ⟨g', cap, cur, rfl, _, hh, _⟩
  · simp [Value.ownBlock]
  · intro he
    have : g' = g := by simpa [Value.ownBlock] using he
    subst this
    exact At.ne_ (t := e) hh hg hne rfl
theorem own_far (h : w.ownsRow base e size v n xs) (hg : g < base) : v.ownBlock ≠ some g := fun he => by
  have := (h.lt g he).1; omega
theorem Ext.grown {w0 : World} {row : Option Nat} (hx : Ext w0 w) (hg : w.grownBy w' row) (hr : ∀ k, row = some k → w0.heap.size ≤ k) : Ext w0 w' :=
  ⟨hg.os.trans hx.os, hg.tape.trans hx.tape, hg.output.trans hx.output, Nat.le_trans hx.size hg.size, fun k hk => (hg.block k (Nat.lt_of_lt_of_le hk hx.size) (fun e => by have := hr k e.symm; omega)).trans (hx.block k hk)⟩
theorem Ext.row (h : Ext w w') (row : Option Nat) : w.grownBy w' row := ⟨h.os, h.tape, h.output, h.size, fun k hk _ => h.block k hk⟩
theorem own_ext (h : w.ownsRow base e size v n xs) (hx : Ext w w') : w'.ownsRow base e size v n xs := h.kept (hx.row none) (by
  rcases e : v.ownBlock with _ | k
  · exact .inl rfl
  · exact .inr (by simp))
theorem own_set (h : w.ownsRow base e size v n xs) {p : Addr} (hp : v.ownBlock ≠ some p.block) (u : Value) : (w.setCell p u).ownsRow base e size v n xs :=
  h.kept (row := some p.block) ⟨rfl, rfl, rfl, by simp, fun k _ hk => Below.heap_setCell _ _ _ _ (fun e => hk (by simp [e]))⟩ (.inr hp)
theorem own_drew (h : w.ownsRow base e size v n xs) : w.drew.ownsRow base e size v n xs := h
theorem own_setRow (h : w.ownsRow base e size v n xs) {p : Nat} (hp : v.ownBlock ≠ some p) (u : Array Value) : (w.setRow p u).ownsRow base e size v n xs :=
  h.kept (row := some p) ⟨rfl, rfl, rfl, by simp, fun k _ hk => setRow_other w p k u (fun e => hk (by simp [e]))⟩ (.inr hp)
theorem own_mono (h : w.ownsRow base e size v n xs) {b : Nat} (hb : b ≤ base) : w.ownsRow b e size v n xs := by
  refine ⟨h.1, ?_⟩
  rcases h.2 with h2 | ⟨g, cap, cur, h1, h2, h3⟩
  · exact .inl h2
  · exact .inr ⟨g, cap, cur, h1, Nat.le_trans hb h2, h3⟩
theorem own_open (h : w.ownsRow base e size v n xs) : ∃ A c, v = .slice A n c := by
  rcases h.2 with ⟨rfl, rfl⟩ | ⟨g, cap, cur, rfl, _⟩
  · exact ⟨_, _, rfl⟩
  · exact ⟨_, _, rfl⟩
end
/-- An element of a row. -/
theorem own_sub {w : World} {base g : Nat} {e : TypeId} {size n c : Nat} {xs : List Value} (h : w.ownsRow base e size (.slice (some ⟨g, 0, none⟩) n c) n xs) (i : Nat) (hi : i < n) (hs : 0 < size) :
    subAt w g (i * size) size = ((xs.drop (i * size)).take size).toArray := by
  have hl := h.1
  have hb : i * size + size ≤ n * size := by
    have : (i + 1) * size ≤ n * size := Nat.mul_le_mul_right _ hi
    rwa [Nat.add_mul, Nat.one_mul] at this
  refine subAt_is (by rw [List.length_take, List.length_drop]; omega) (fun j hj => ?_)
  rw [h.cellAt (i * size + j) (by omega), List.getElem?_take, if_pos hj, List.getElem?_drop]
theorem cells_new (W : World) (e : TypeId) (news : List Value) : ∀ j u, news[j]? = some u → (W.alloc (.cells news.toArray e)).cell? ((⟨W.heap.size, 0, none⟩ : Addr).add j) = some u := by
  intro j u hj
  rw [Addr.add_lit, Nat.zero_add, At.cell (At.new W e news.toArray) j]
  simpa using hj
/-- One element more, which the caller has just laid. -/
theorem wpList_app1 {P : Program} {ops : Array Oper} {rest : List Oper} {o : Oper} {a : Act} {Q : Exit → Act → World → Prop} (hgd : o.guard = none) (s x : Operand) (T E size bytes : Nat) (zero : Value)
    (ho : o.op = .call { callee := .builtin .append, args := #[s, x], argTypes := #[T, T] }) (hU : P.underlying T = some (.slice E))
    (hI : (P.info? E).map (fun i => (i.zero, i.size, i.bytes)) = some (some zero, size, bytes)) (hzs : zero.cells.size = size) (hpos : 0 < size)
    (W : World) (base : Nat) (v : Value) (n : Nat) (xs : List Value) (hs : a.eval s = v) (hown : W.ownsRow base E size v n xs)
    (news : List Value) (hx : a.eval x = .slice (some ⟨W.heap.size, 0, none⟩) 1 1) (hn : news.length = size) (h1 : news.all (·.oneCell') = true) (hm : n + 1 ≤ maxLen) (hlen : (n + 1) * bytes ≤ 140737488355328) (hbase : base ≤ W.heap.size)
    (h : ∀ v' w', w'.ownsRow base E size v' (n + 1) (xs ++ news) → (W.alloc (.cells news.toArray E)).grownBy w' v.ownBlock → wpList P ops Q rest (a.put o.dst v') w') :
    wpList P ops Q (o :: rest) a (W.alloc (.cells news.toArray E)) := by
  obtain ⟨i0, hi, hz0, hz1, hz2⟩ := info_parts hI
  exact wpList_append_own _ hgd s x T ho base E i0 zero size bytes hU hi hz0 hz1 hz2 hzs hpos v n xs hs (hown.alloc _) ⟨W.heap.size, 0, none⟩ 1 1 news hx (by omega) (cells_new W E news) (List.all_eq_true.1 h1) hm hlen (by simp; omega) (fun v' w' a1 a2 _ => h v' w' a1 a2)
end Go.Proofs.Ytgjaiikfgejgoaa
