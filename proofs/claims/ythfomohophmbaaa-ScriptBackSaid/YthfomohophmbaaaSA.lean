/- Steps (layer 29): what is read of bytes (plain); one step read and Read, by the program. Condition: at most 10^9 bytes. -/
import Derived.Test.YthfomohophmbaaaS6
import Derived.Test.YthfomohophmbaaaBk
import Derived.WalkMore
/- Steps (layer 29): what is read of bytes, and that it is the way back (plain). No condition. -/
namespace Go.Proofs.Ythfomohophmbaaa
open Go.RowKit
abbrev Ky := Int × Int × Int × List Int
def rightK (k : Ky) : Bool := rightS k.1 k.2.1 k.2.2.1 k.2.2.2.length
def formK (k : Ky) : List Int := formS k.1 k.2.1 k.2.2.1 k.2.2.2
def formsK (l : List Ky) : List Int := l.flatMap formK
theorem right_key (p : Sp) : p.right = rightK p.key := rfl
theorem form_key (p : Sp) : p.form = formK p.key := rfl
theorem forms_key (l : List Sp) : formsS l = formsK (l.map Sp.key) := by unfold formsS formsK; rw [List.flatMap_map]; rfl
theorem ok_key (l : List Sp) : okS l = (l.map Sp.key).all rightK := by unfold okS; rw [List.all_map]; rfl
/-- What is read of a step: itself, what is left, the fault. -/
def stepD (bs : List Int) : Ky × List Int × Int :=
  match bs with
  | [] => ((0, 0, 0, []), [], 3)
  | k :: s =>
    if k = 1 then
      (if (numR s 0).2.2 ≠ 0 then ((1, 0, 0, []), (numR s 0).2.1, (numR s 0).2.2)
       else if 64 < (numR s 0).1 then ((1, 0, 0, []), (numR s 0).2.1, 4)
       else ((1, 0, 0, (rawR (numR s 0).2.1 0 (numR s 0).1).1), (rawR (numR s 0).2.1 0 (numR s 0).1).2))
    else if k = 4 then ((4, ((uintR s 0 1).1 : Int), backN (uintR (uintR s 0 1).2.1 (uintR s 0 1).2.2 8).1, []), (uintR (uintR s 0 1).2.1 (uintR s 0 1).2.2 8).2)
    else if k = 2 ∨ k = 3 then ((k, 0, backN (uintR s 0 8).1, []), (uintR s 0 8).2)
    else ((k, 0, 0, []), s, 4)
def readN : Nat → List Int → List Ky → List Ky × Int
  | 0, bs, acc => if bs = [] then (acc, 0) else ([], 4)
  | n + 1, bs, acc => if (stepD bs).2.2 ≠ 0 then ([], (stepD bs).2.2) else readN n (stepD bs).2.1 (acc ++ [(stepD bs).1])
def readS (bs : List Int) : List Ky × Int := if (numR bs 0).2.2 ≠ 0 then ([], (numR bs 0).2.2) else if 2000 < (numR bs 0).1 then ([], 4) else readN (numR bs 0).1 (numR bs 0).2.1 []
theorem stepD_put {k s n : Int} {xs : List Int} (h : rightS k s n xs.length = true) (hn : I64 n) (rest : List Int) : stepD (formS k s n xs ++ rest) = ((k, s, n, xs), rest, 0) := by
  rcases rightS_k h with rfl | hk | rfl
  · obtain ⟨rfl, rfl, hl⟩ := rightS_1 h
    have e : formS 1 0 0 xs ++ rest = 1 :: (numB xs.length ++ (xs ++ rest)) := by unfold formS; rw [if_pos rfl]; simp
    rw [e]
    unfold stepD
    simp only [if_true]
    rw [numR_put (by omega)]
    simp only [ne_eq, not_true, if_false]
    rw [if_neg (by omega), rawR_put]
  · obtain ⟨rfl, hl⟩ := rightS_23 hk h
    obtain rfl := List.eq_nil_of_length_eq_zero hl
    have e : formS k 0 n [] ++ rest = k :: (intB n ++ rest) := by unfold formS; rw [if_neg (by omega), if_neg (by omega)]; simp
    rw [e]
    unfold stepD
    simp only
    rw [if_neg (by omega), if_neg (by omega), if_pos hk]
    have := intR_put hn rest
    injection this with h1 h2
    rw [h1, h2]
  · obtain ⟨hs, hl⟩ := rightS_4 h
    obtain rfl := List.eq_nil_of_length_eq_zero hl
    have e : formS 4 s n [] ++ rest = 4 :: (s :: (intB n ++ rest)) := by unfold formS; rw [if_neg (by decide), if_pos rfl]; simp
    rw [e]
    unfold stepD
    simp only
    rw [if_neg (by decide), if_pos trivial, one_put]
    simp only
    have := intR_put hn rest
    injection this with h1 h2
    rw [h1, h2, show ((s.toNat : Nat) : Int) = s by omega]
theorem stepD_inv {bs rest : List Int} {ky : Ky} (hb : Byt bs) (h : stepD bs = (ky, rest, 0)) : rightK ky = true ∧ bs = formK ky ++ rest ∧ I64 ky.2.2.1 ∧ Byt ky.2.2.2 := by
  cases bs with
  | nil => unfold stepD at h; injection h with _ h; injection h with _ h; cases h
  | cons k s =>
    have hs : Byt s := fun x hx => hb x (by simp [hx])
    unfold stepD at h
    simp only at h
    by_cases k1 : k = 1
    · subst k1
      rw [if_pos rfl] at h
      obtain ⟨v, r, f, e⟩ : ∃ v r f, numR s 0 = (v, r, f) := ⟨_, _, _, rfl⟩
      rw [e] at h
      simp only at h
      by_cases hf : f ≠ 0
      · rw [if_pos hf] at h
        injection h with _ h; injection h with _ h; exact absurd h hf
      rw [if_neg hf] at h
      by_cases hv : 64 < v
      · rw [if_pos hv] at h
        injection h with _ h; injection h with _ h; cases h
      rw [if_neg hv] at h
      obtain rfl : f = 0 := by omega
      obtain ⟨_, hs2⟩ := num_inv hs e
      unfold rawR at h
      rw [if_neg (by simp)] at h
      by_cases hl : r.length < v
      · rw [if_pos hl] at h
        injection h with _ h; injection h with _ h; cases h
      rw [if_neg hl] at h
      injection h with h1 h; injection h with h2 _
      have hlt : (r.take v).length = v := by rw [List.length_take]; omega
      subst h1 h2
      refine ⟨?_, ?_, (show I64 0 from ⟨by decide, by decide⟩), fun x hx => hs x (by rw [hs2]; exact List.mem_append.2 (.inr (List.mem_of_mem_take hx)))⟩
      · unfold rightK rightS
        simp only [if_true, hlt]
        simp; omega
      · unfold formK formS
        simp only [if_true, hlt]
        rw [hs2]
        simp
    rw [if_neg k1] at h
    by_cases k4 : k = 4
    · subst k4
      rw [if_pos rfl] at h
      obtain ⟨v, r, f, e⟩ : ∃ v r f, uintR s 0 1 = (v, r, f) := ⟨_, _, _, rfl⟩
      rw [e] at h
      simp only at h
      injection h with h1 h
      have hr : Byt r ∨ f ≠ 0 := by
        unfold uintR at e
        rw [if_neg (by simp)] at e
        split at e
        · injection e with _ e; injection e with _ e; exact .inr (by omega)
        · injection e with _ e; injection e with e _; exact .inl (e ▸ fun y hy => hs y (List.mem_of_mem_drop hy))
      rcases hr with hr | hr
      · have e2' : (backN (uintR r f 8).1, (uintR r f 8).2) = (backN (uintR r f 8).1, rest, (0 : Int)) := by rw [h]
        obtain ⟨rfl, hr2, hi⟩ := int_inv hr e2'
        obtain ⟨_, hs2, hv⟩ := one_inv hs e
        subst h1
        refine ⟨?_, ?_, hi, fun x hx => by cases hx⟩
        · unfold rightK rightS
          simp only [if_true, List.length_nil]
          rw [if_neg (by decide), if_neg (by decide)]
          simp; omega
        · unfold formK formS
          simp only [if_true]
          rw [if_neg (by decide), hs2, List.cons_append, List.cons_append, ← hr2]
      · have : (uintR r f 8).2.2 = f := by unfold uintR; rw [if_pos hr]
        rw [h] at this
        exact absurd this.symm hr
    rw [if_neg k4] at h
    by_cases k23 : k = 2 ∨ k = 3
    · rw [if_pos k23] at h
      injection h with h1 h
      have e2 : (backN (uintR s 0 8).1, (uintR s 0 8).2) = (backN (uintR s 0 8).1, rest, (0 : Int)) := by rw [h]
      obtain ⟨_, hr2, hi⟩ := int_inv hs e2
      subst h1
      refine ⟨?_, ?_, hi, fun x hx => by cases hx⟩
      · unfold rightK rightS
        simp only [List.length_nil]
        rw [if_neg k1, if_pos k23]
        simp
      · unfold formK formS
        simp only
        rw [if_neg k1, if_neg k4, List.cons_append, ← hr2]
    · rw [if_neg k23] at h
      injection h with _ h; injection h with _ h; cases h
theorem readN_put : ∀ (l : List Ky) (acc : List Ky) (rest : List Int), (∀ k ∈ l, rightK k = true ∧ I64 k.2.2.1) → readN l.length (formsK l ++ rest) acc = if rest = [] then (acc ++ l, 0) else ([], 4)
  | [], acc, rest, _ => by show (if rest = [] then _ else _) = _; simp
  | k :: l, acc, rest, h => by
    have h1 := h k (by simp)
    have ih := readN_put l (acc ++ [k]) rest (fun x hx => h x (by simp [hx]))
    have e : formsK (k :: l) ++ rest = formS k.1 k.2.1 k.2.2.1 k.2.2.2 ++ (formsK l ++ rest) := by
      show (formK k ++ formsK l) ++ rest = _
      rw [List.append_assoc]; rfl
    rw [e]
    show (if (stepD _).2.2 ≠ 0 then _ else _) = _
    rw [stepD_put h1.1 h1.2]
    simp only [ne_eq, not_true, if_false]
    rw [show ((k.1, k.2.1, k.2.2.1, k.2.2.2) : Ky) = k from rfl, ih]
    simp
theorem readN_inv : ∀ (n : Nat) (bs : List Int) (acc m : List Ky), Byt bs → readN n bs acc = (m, 0) → ∃ l, m = acc ++ l ∧ l.length = n ∧ (∀ k ∈ l, rightK k = true ∧ I64 k.2.2.1 ∧ Byt k.2.2.2) ∧ bs = formsK l
  | 0, bs, acc, m, _, h => by
    have h' : (if bs = [] then (acc, (0 : Int)) else ([], 4)) = (m, 0) := h
    by_cases hb : bs = []
    · rw [if_pos hb] at h'
      injection h' with h1 _
      exact ⟨[], by simp [h1], rfl, by simp, by rw [hb]; rfl⟩
    · rw [if_neg hb] at h'
      injection h' with _ h2; cases h2
  | n + 1, bs, acc, m, hb, h => by
    have h' : (if (stepD bs).2.2 ≠ 0 then ([], (stepD bs).2.2) else readN n (stepD bs).2.1 (acc ++ [(stepD bs).1])) = (m, 0) := h
    obtain ⟨ky, r, f, e⟩ : ∃ ky r f, stepD bs = (ky, r, f) := ⟨_, _, _, rfl⟩
    rw [e] at h'
    simp only at h'
    by_cases hf : f ≠ 0
    · rw [if_pos hf] at h'
      injection h' with _ h2; exact absurd h2 hf
    rw [if_neg hf] at h'
    obtain rfl : f = 0 := by omega
    obtain ⟨h1, h2, h3, h4⟩ := stepD_inv hb e
    obtain ⟨l, i1, i2, i3, i4⟩ := readN_inv n r (acc ++ [ky]) m (fun x hx => hb x (by rw [h2]; exact List.mem_append.2 (.inr hx))) h'
    refine ⟨ky :: l, by simp [i1], by simp [i2], fun k hk => ?_, ?_⟩
    · rcases List.mem_cons.1 hk with rfl | hk
      · exact ⟨h1, h3, h4⟩
      · exact i3 k hk
    · show bs = formK ky ++ formsK l
      rw [← i4]; exact h2
theorem readN_bad : ∀ (n : Nat) (bs : List Int) (acc m : List Ky) (f : Int), readN n bs acc = (m, f) → f ≠ 0 → m = []
  | 0, bs, acc, m, f, h, hf => by
    have h' : (if bs = [] then (acc, (0 : Int)) else ([], 4)) = (m, f) := h
    by_cases hb : bs = []
    · rw [if_pos hb] at h'; injection h' with _ h2; exact absurd h2.symm hf
    · rw [if_neg hb] at h'; injection h' with h1 _; exact h1.symm
  | n + 1, bs, acc, m, f, h, hf => by
    have h' : (if (stepD bs).2.2 ≠ 0 then ([], (stepD bs).2.2) else readN n (stepD bs).2.1 (acc ++ [(stepD bs).1])) = (m, f) := h
    by_cases hq : (stepD bs).2.2 ≠ 0
    · rw [if_pos hq] at h'; injection h' with h1 _; exact h1.symm
    · rw [if_neg hq] at h'; exact readN_bad n _ _ m f h' hf
/-- The whole list's bytes. -/
def bytesK (l : List Ky) : List Int := numB l.length ++ formsK l
theorem readS_put {l : List Ky} (hl : l.length ≤ 2000) (h : ∀ k ∈ l, rightK k = true ∧ I64 k.2.2.1) (rest : List Int) : readS (bytesK l ++ rest) = if rest = [] then (l, 0) else ([], 4) := by
  unfold readS bytesK
  rw [List.append_assoc, numR_put (by omega)]
  simp only [ne_eq, not_true, if_false]
  rw [if_neg (by omega), readN_put l [] rest h]
  simp
theorem readS_inv {bs : List Int} {m : List Ky} (hb : Byt bs) (h : readS bs = (m, 0)) : m.length ≤ 2000 ∧ (∀ k ∈ m, rightK k = true ∧ I64 k.2.2.1 ∧ Byt k.2.2.2) ∧ bs = bytesK m := by
  unfold readS at h
  obtain ⟨v, r, f, e⟩ : ∃ v r f, numR bs 0 = (v, r, f) := ⟨_, _, _, rfl⟩
  rw [e] at h
  simp only at h
  by_cases hf : f ≠ 0
  · rw [if_pos hf] at h; injection h with _ h2; exact absurd h2 hf
  rw [if_neg hf] at h
  by_cases hv : 2000 < v
  · rw [if_pos hv] at h; injection h with _ h2; cases h2
  rw [if_neg hv] at h
  obtain rfl : f = 0 := by omega
  obtain ⟨_, h2⟩ := num_inv hb e
  obtain ⟨l, i1, i2, i3, i4⟩ := readN_inv v r [] m (fun x hx => hb x (by rw [h2]; exact List.mem_append.2 (.inr hx))) h
  rw [List.nil_append] at i1
  subst i1
  refine ⟨by omega, i3, ?_⟩
  unfold bytesK
  rw [i2, ← i4]; exact h2
theorem readS_bad {bs : List Int} {m : List Ky} {f : Int} (h : readS bs = (m, f)) (hf : f ≠ 0) : m = [] := by
  unfold readS at h
  by_cases h1 : (numR bs 0).2.2 ≠ 0
  · rw [if_pos h1] at h; injection h with h _; exact h.symm
  rw [if_neg h1] at h
  by_cases h2 : 2000 < (numR bs 0).1
  · rw [if_pos h2] at h; injection h with h _; exact h.symm
  rw [if_neg h2] at h
  exact readN_bad _ _ _ m f h hf
theorem enc_key (l : List Sp) : (encSF l = 0 → l.length ≤ 2000 ∧ (∀ k ∈ l.map Sp.key, rightK k = true) ∧ encSL l = bytesK (l.map Sp.key)) ∧ (l.length ≤ 2000 → (∀ k ∈ l.map Sp.key, rightK k = true) → encSF l = 0 ∧ encSL l = bytesK (l.map Sp.key)) := by
  unfold encSF encSL bytesK
  rw [forms_key, ok_key, List.length_map]
  constructor
  · intro h
    by_cases h1 : 2000 < l.length
    · rw [if_pos h1] at h; cases h
    rw [if_neg h1] at h ⊢
    by_cases h2 : (l.map Sp.key).all rightK = true
    · rw [if_pos h2]
      exact ⟨by omega, List.all_eq_true.1 h2, rfl⟩
    · rw [if_neg h2] at h; cases h
  · intro h1 h2
    have h3 : ¬ 2000 < l.length := by omega
    rw [if_neg h3, if_neg h3, if_pos (List.all_eq_true.2 h2), if_pos (List.all_eq_true.2 h2)]
    exact ⟨rfl, rfl⟩
end Go.Proofs.Ythfomohophmbaaa
/- Steps (layer 29): one step read, by the program. Condition: at most 10^9 bytes. -/
namespace Go.Proofs.Ythfomohophmbaaa
open Go.RowKit
attribute [local go_sem] Later.cell QUpon_value QUpon_enter MUpon_value run_eql_slice_nil Same.cell
attribute [local go_sem ↓ high] loadStp_is storeStp_is
attribute [local go_sem] run_loadStp run_loadStp_at run_storeStp one_int one_bool one_slice one_ptr one_str setRow_new setRow_past cell_ca frozen_ca cellsAt_alloc_at cellsAt_alloc_past cellsAt_drew cellsAt_later cellsAt_setCell cellsAt_set_same cellsAt_setRow_same cellsAt_setRow_far subAt_alloc subAt_drew subAt_later subAt_setCell subAt_setRow ltn_2 ltn_3 ltn_4 ltn_5
/-- Amid the reading of a step: its block, the reader. -/
structure DS (w W : World) (g : Nat) (A A' : Option Addr) (rs : List Int) (f : Int) (cells : Array Value) : Prop where
  rd : Reads w g A rs f W A'
  m : At W w.heap.size 31 cells
  gl : g < w.heap.size
  al : ∀ k ∈ ablk A, k < w.heap.size
theorem DS.start {w : World} {g : Nat} {A : Option Addr} {bs : List Int} {f : Int} (h : Rdr w g A bs f) (cells : Array Value) : DS w (w.alloc (.cells cells 31)) g A A bs f cells :=
  ⟨(Reads.refl h).extR ((Ext.refl w).alloc _), At.new _ _ _, h.ex.choose_spec.1.lt, fun k hk => (h.alt k hk).1⟩
theorem DS.read {w W W' : World} {g : Nat} {A A1 A2 : Option Addr} {rs rs' : List Int} {f f' : Int} {cells : Array Value} (h : DS w W g A A1 rs f cells) (hr : Reads W g A1 rs' f' W' A2) : DS w W' g A A2 rs' f' cells :=
  ⟨h.rd.trans hr, hr.chg.at h.m (by have := h.gl; simp; omega), h.gl, h.al⟩
theorem DS.rdr {w W : World} {g : Nat} {A A1 : Option Addr} {rs : List Int} {f : Int} {cells : Array Value} (h : DS w W g A A1 rs f cells) {W' : World} (hx : Chg W W' [w.heap.size]) : Rdr W' g A1 rs f :=
  h.rd.rd.chg hx (by have := h.gl; simp; omega) (fun k hk => by rw [h.rd.blk] at hk; have := h.al k hk; simp; omega)
theorem DS.store {w W : World} {g : Nat} {A A1 : Option Addr} {rs : List Int} {f : Int} {cells : Array Value} (h : DS w W g A A1 rs f cells) (i : Nat) (v : Value) : DS w (W.setCell ⟨w.heap.size, i, none⟩ v) g A A1 rs f (cells.setIfInBounds i v) :=
  ⟨⟨h.rdr ((Chg.refl _ _).set (.inl (by simp)) v), h.rd.blk, h.rd.chg.set (.inr (Nat.le_refl _)) v⟩, h.m.set i v, h.gl, h.al⟩
theorem DS.row {w W : World} {g : Nat} {A A1 : Option Addr} {rs : List Int} {f : Int} {cells : Array Value} (h : DS w W g A A1 rs f cells) (cs : Array Value) : DS w (W.setRow w.heap.size cs) g A A1 rs f cs :=
  ⟨⟨h.rdr ((Chg.refl _ _).setRow (.inl (by simp)) cs), h.rd.blk, h.rd.chg.setRow (.inr (Nat.le_refl _)) cs⟩, h.m.setRow cs, h.gl, h.al⟩
theorem numR_zero {bs r : List Int} {v : Nat} {f : Int} (e : numR bs 0 = (v, r, f)) (h : f ≠ 0) : v = 0 := by
  unfold numR at e
  rw [if_neg (by simp)] at e
  have := (numG_is6 10 0 0 bs).2
  rw [e] at this
  exact this h
theorem numR_rest {bs r : List Int} {v : Nat} {f : Int} (e : numR bs 0 = (v, r, f)) : r.length ≤ bs.length := by
  unfold numR at e
  rw [if_neg (by simp)] at e
  obtain ⟨⟨s, _, h⟩, _⟩ := numG_is6 10 0 0 bs
  rw [e] at h
  simp only at h
  rw [h, List.length_drop]; omega
theorem rawR_len {bs : List Int} {f : Int} {n : Nat} (hn : n ≤ 64) : (rawR bs f n).1.length ≤ 64 := by
  unfold rawR
  split
  · simp
  split
  · simp
  · simp only [List.length_take]; omega
theorem rawR_mem {bs : List Int} {f : Int} {n : Nat} (hb : Byt bs) : Byt (rawR bs f n).1 := by
  unfold rawR
  split
  · intro x hx; cases hx
  split
  · intro x hx; cases hx
  · intro x hx; exact hb x (List.mem_of_mem_take hx)
/-- What is told of one step. -/
def StepOf (bs : List Int) (w : World) (g : Nat) (A : Option Addr) (e : Ending) (w' : World) : Prop :=
  ∃ (p : Sp) (is : Bool) (rs : List Int) (f : Int) (A' : Option Addr), e = .returned (.tuple #[.agg p.cells.toArray, .bool is]) ∧ Reads w g A rs f w' A' ∧ p.Ok w' ∧ (∀ k ∈ ablk p.raw.A, w.heap.size ≤ k ∧ k < w'.heap.size) ∧
    ((f ≠ 0 ∧ (stepD bs).2.2 = f) ∨ (f = 0 ∧ is = false ∧ (stepD bs).2.2 = 4) ∨ (f = 0 ∧ is = true ∧ stepD bs = (p.key, rs, 0)))
theorem Sp.bare {k s n : Int} (hk : I64 k) (hs : I64 s) (hn : I64 n) (W : World) : (⟨k, s, n, ⟨none, 0, []⟩⟩ : Sp).Ok W := ⟨hk, hs, hn, ⟨Nat.le_refl _, Nat.zero_le _, ⟨rfl, fun h => absurd h (Nat.lt_irrefl 0)⟩, fun x hx => by cases hx⟩⟩
set_option maxHeartbeats 8000000 in
set_option maxRecDepth 100000 in
theorem step_c (g : Nat) (A : Option Addr) (bs : List Int) (hl : bs.length ≤ 1000000000) (w : World) (h : Rdr w g A bs 0) : Calls Try.prog 37 #[.pointer (some ⟨g, 0, none⟩)] w fun e w' => StepOf bs w g A e w' := by
  have hby := h.by_
  have hg := h.ex.choose_spec.1.lt
  unfold StepOf
  have h0 := DS.start h #[.int .i64 0, .int .i64 0, .int .i64 0, .slice none 0 0]
  clear h
  cases bs with
  | nil =>
    have hD : stepD [] = ((0, 0, 0, []), [], 3) := rfl
    rw [hD]
    have hu : uintR [] 0 1 = (0, [], 3) := rfl
    go_enter Try.func37, Try.ntmps37
    go_wp2_with fail
    have C := rduint_c g A [] 0 1 (by decide) _ h0.rd.rd
    rw [hu] at C
    refine C.mono ?_
    rintro e w1 ⟨rfl, A1, r1⟩
    have h1 := h0.read r1
    have c1 := cellsAt_at h1.m
    have s1 := h1.m.lt
    have f1 := h1.m.frozen 0
    clear C r1
    go_wp2_with fail
    first | refine fin_ret rfl (fun K hK => ?_) | refine fin_norm rfl (fun K hK => ?_)
    simp [results, Try.results37, go_sem, rsat]
    try go_simp
    refine hK _ ?_
    clear hK K
    exact ⟨⟨0, 0, 0, ⟨none, 0, []⟩⟩, false, [], 3, A1, rfl, ((h1.store 0 _).row _).rd, Sp.bare (by decide) (by decide) (by decide) _, by simp [ablk], .inl ⟨by decide, rfl⟩⟩
  | cons b s =>
    have hb0 := hby b (by simp)
    have hs : Byt s := fun x hx => hby x (by simp [hx])
    have hsl : s.length ≤ 1000000000 := by simp at hl; omega
    have hu : uintR (b :: s) 0 1 = (b.toNat, s, 0) := one_put b s
    have C := fun W (h : Rdr W g A (b :: s) 0) => rduint_c g A (b :: s) 0 1 (by decide) W h
    rw [hu] at C
    have hbb : ((b.toNat : Nat) : Int) = b := by omega
    simp only [hbb] at C
    have ew : IntKind.i64.wrap b = b := by rw [IntWalk.i64_left, wrap64_in ⟨by omega, by omega⟩]
    have hbi : I64 b := ⟨by omega, by omega⟩
    have HC := Lib.hid C
    clear C hu hby hl
    by_cases k1 : b = 1
    · subst k1
      obtain ⟨v, r, f, en⟩ : ∃ v r f, numR s 0 = (v, r, f) := ⟨_, _, _, rfl⟩
      have hz := numR_zero en
      have hr := numR_rest en
      have hD : stepD (1 :: s) = (if f ≠ 0 then ((1, 0, 0, []), r, f) else if 64 < v then ((1, 0, 0, []), r, 4) else ((1, 0, 0, (rawR r 0 v).1), (rawR r 0 v).2)) := by
        unfold stepD
        simp only [if_true]
        rw [en]
      generalize stepD (1 :: s) = D at hD ⊢
      have HD := Lib.hid hD
      have C2 := fun A1 W (h : Rdr W g A1 s 0) => rdnum_c g A1 s 0 W h
      simp only [en] at C2
      have HC2 := Lib.hid C2
      have HZ := Lib.hid hz
      clear C2 hD en hz
      go_enter Try.func37, Try.ntmps37
      go_wp2_with fail
      refine (HC.out _ h0.rd.rd).mono ?_
      rintro e w1 ⟨rfl, A1, r1⟩
      have h1 := (h0.read r1).store 0 (.int .i64 1)
      have m1 := (h0.read r1).m
      have q1 := cellsAt_at m1
      have s1 := m1.lt
      have z1 := m1.frozen 0
      have gl1 := h0.gl
      go_wp2_with fail
      obtain ⟨w2, hw2⟩ : ∃ W : World, W = w1.setCell ⟨w.heap.size, 0, none⟩ (.int .i64 1) := ⟨_, rfl⟩
      rw [← hw2] at h1 ⊢
      have q2 := cellsAt_at h1.m
      have s2 := h1.m.lt
      have b2 := h1.m.cell 0
      simp only [Array.getElem?_setIfInBounds] at b2
      clear hw2 q1 s1 z1 m1 r1 h0
      go_wp2_with fail
      refine (HC2.out _ _ h1.rd.rd).mono ?_
      rintro e w3 ⟨rfl, A3, r3⟩
      have h3 := h1.read r3
      have q3 := cellsAt_at h3.m
      have s3 := h3.m.lt
      have z3 := h3.m.frozen 3
      clear q2 s2 b2 r3 h1
      by_cases hv : 64 < v
      · obtain rfl : f = 0 := by
          by_cases h : f = 0
          · exact h
          · have := HZ.out h; omega
        have hvi : (64 : Int) < (v : Int) := by omega
        have HV := Lib.hid hv
        clear hv
        go_wp2_with fail
        first | refine fin_ret rfl (fun K hK => ?_) | refine fin_norm rfl (fun K hK => ?_)
        simp [results, Try.results37, go_sem, rsat]
        try go_simp
        refine hK _ ?_
        clear hK K
        exact ⟨⟨1, 0, 0, ⟨none, 0, []⟩⟩, false, r, 0, A3, rfl, (h3.row _).rd, Sp.bare (by decide) (by decide) (by decide) _, by simp [ablk], .inr (.inl ⟨rfl, rfl, by rw [HD.out, if_neg (by simp), if_pos HV.out]⟩)⟩
      · have hvi : ¬ (64 : Int) < (v : Int) := by omega
        have ewv : IntKind.i64.wrap (v : Int) = (v : Int) := by rw [IntWalk.i64_left, wrap64_in ⟨by omega, by omega⟩]
        have HV := Lib.hid hv
        have C4 := rdraw_c g A3 r f v w3 h3.rd.rd (by omega)
        have hq : (if f ≠ 0 then (((1, 0, 0, []), r, f) : Ky × List Int × Int) else ((1, 0, 0, (rawR r f v).1), (rawR r f v).2)) = (if f ≠ 0 then ((1, 0, 0, []), r, f) else ((1, 0, 0, (rawR r 0 v).1), (rawR r 0 v).2)) := by
          by_cases h : f ≠ 0
          · rw [if_pos h, if_pos h]
          · rw [if_neg h, if_neg h, show f = 0 by omega]
        have hq2 : f ≠ 0 → (rawR r f v).2.2 = f := fun h => by unfold rawR; rw [if_pos h]
        have hrm := rawR_mem (f := f) (n := v) h3.rd.rd.by_
        have HQ := Lib.hid hq
        obtain ⟨xs, rs, f2, hx⟩ : ∃ xs rs f2, rawR r f v = (xs, rs, f2) := ⟨_, _, _, rfl⟩
        rw [hx] at C4 hq2 hrm
        simp only at C4 hq2 hrm
        have HX := Lib.hid hx
        have HQ2 := Lib.hid hq2
        clear hq hq2 hx hv
        go_wp2_with fail
        refine C4.mono ?_
        rintro e w4 ⟨⟨v4, rfl, RA, Rc, rfl, R4, F4⟩, A4, r4⟩
        have h4 := h3.read r4
        have h5 := (h4.store 3 (.slice RA xs.length Rc))
        have q4 := cellsAt_at h4.m
        have s4 := h4.m.lt
        have z4 := h4.m.frozen 3
        have s34 : w.heap.size < w3.heap.size := s3
        clear q3 s3 z3 h3 C4 r4
        go_wp2_with fail
        first | refine fin_ret rfl (fun K hK => ?_) | refine fin_norm rfl (fun K hK => ?_)
        simp [results, Try.results37, go_sem, rsat]
        try go_simp
        refine hK _ ?_
        clear hK K
        have hRA : w.heap.size ∉ ablk RA := fun h => by have := (F4 _ h).1; omega
        refine ⟨⟨1, 0, 0, ⟨RA, Rc, xs⟩⟩, true, rs, f2, A4, rfl, (h5.row _).rd, ⟨(show I64 1 from ⟨by decide, by decide⟩), (show I64 0 from ⟨by decide, by decide⟩), (show I64 0 from ⟨by decide, by decide⟩), ⟨R4.le, R4.max, ((R4.set (p := ⟨w.heap.size, 3, none⟩) hRA _).setRow hRA _).src, hrm⟩⟩, fun k hk => ⟨by have := (F4 k hk).1; omega, by have := (F4 k hk).2; simpa using this⟩, ?_⟩
        rw [HD.out, if_neg HV.out, ← HQ.out, HX.out]
        by_cases hf2 : f2 = 0
        · have hf : f = 0 := by
            by_cases h : f = 0
            · exact h
            · have := HQ2.out h; omega
          rw [if_neg (by omega), hf2]
          exact .inr (.inr ⟨rfl, rfl, rfl⟩)
        · refine .inl ⟨hf2, ?_⟩
          by_cases hf : f ≠ 0
          · rw [if_pos hf]; exact (HQ2.out hf).symm
          · rw [if_neg hf]
    by_cases k4 : b = 4
    · subst k4
      obtain ⟨v, r, f, e1⟩ : ∃ v r f, uintR s 0 1 = (v, r, f) := ⟨_, _, _, rfl⟩
      obtain ⟨hrb, hrl, hv256⟩ := uintR_byt hs hsl e1
      obtain ⟨x, rs, f2, e2⟩ : ∃ x rs f2, (backN (uintR r f 8).1, (uintR r f 8).2) = (x, rs, f2) := ⟨_, _, _, rfl⟩
      have hxi : I64 x := by
        have := backN_I64 (n := (uintR r f 8).1) (uintR_lt hrb f)
        injection e2 with e3 _
        exact e3 ▸ this
      have hD : stepD (4 :: s) = ((4, (v : Int), x, []), rs, f2) := by
        unfold stepD
        simp only
        rw [if_neg (by decide), if_pos trivial, e1]
        simp only
        injection e2 with e3 e4
        rw [e3, e4]
      generalize stepD (4 :: s) = D at hD ⊢
      have HD := Lib.hid hD
      have C2 := fun A1 W (h : Rdr W g A1 s 0) => rduint_c g A1 s 0 1 (by decide) W h
      simp only [e1] at C2
      have HC2 := Lib.hid C2
      have C3 := fun A1 W (h : Rdr W g A1 r f) => rdint_c g A1 r f W h
      have e2' := Prod.ext_iff.1 e2
      simp only at e2'
      simp only [e2'.1, e2'.2] at C3
      have HC3 := Lib.hid C3
      have ewv : IntKind.i64.wrap (v : Int) = (v : Int) := by rw [IntWalk.i64_left, wrap64_in ⟨by omega, by omega⟩]
      clear C2 C3 hD e1 e2 e2'
      go_enter Try.func37, Try.ntmps37
      go_wp2_with fail
      refine (HC.out _ h0.rd.rd).mono ?_
      rintro e w1 ⟨rfl, A1, r1⟩
      have h1 := (h0.read r1).store 0 (.int .i64 4)
      have m1 := (h0.read r1).m
      have q1 := cellsAt_at m1
      have s1 := m1.lt
      have z1 := m1.frozen 0
      have gl1 := h0.gl
      go_wp2_with fail
      obtain ⟨w2, hw2⟩ : ∃ W : World, W = w1.setCell ⟨w.heap.size, 0, none⟩ (.int .i64 4) := ⟨_, rfl⟩
      rw [← hw2] at h1 ⊢
      have q2 := cellsAt_at h1.m
      have s2 := h1.m.lt
      have b2 := h1.m.cell 0
      simp only [Array.getElem?_setIfInBounds] at b2
      clear hw2 q1 s1 z1 m1 r1 h0
      go_wp2_with fail
      refine (HC2.out _ _ h1.rd.rd).mono ?_
      rintro e w5 ⟨rfl, A5, r5⟩
      have h5 := h1.read r5
      have h1 := h5.store 1 (.int .i64 (v : Int))
      have q5 := cellsAt_at h5.m
      have s5 := h5.m.lt
      have z5 := h5.m.frozen 1
      clear q2 s2 b2 r5
      go_wp2_with fail
      obtain ⟨w6, hw6⟩ : ∃ W : World, W = w5.setCell ⟨w.heap.size, 1, none⟩ (.int .i64 (v : Int)) := ⟨_, rfl⟩
      rw [← hw6] at h1 ⊢
      have q2 := cellsAt_at h1.m
      have s2 := h1.m.lt
      have b2 := h1.m.cell 0
      clear hw6 q5 s5 z5 h5
      refine (HC3.out _ _ h1.rd.rd).mono ?_
      rintro e w3 ⟨rfl, A3, r3⟩
      have h3 := h1.read r3
      have h4 := h3.store 2 (.int .i64 x)
      have q3 := cellsAt_at h3.m
      have s3 := h3.m.lt
      have z3 := h3.m.frozen 2
      clear q2 s2 b2 r3 h1 h3
      go_wp2_with fail
      first | refine fin_ret rfl (fun K hK => ?_) | refine fin_norm rfl (fun K hK => ?_)
      simp [results, Try.results37, go_sem, rsat]
      try go_simp
      refine hK _ ?_
      clear hK K
      refine ⟨⟨4, (v : Int), x, ⟨none, 0, []⟩⟩, true, rs, f2, A3, rfl, (h4.row _).rd, Sp.bare (by omega) (by unfold I64; omega) hxi _, by simp [ablk], ?_⟩
      rw [HD.out]
      by_cases hf2 : f2 = 0
      · rw [hf2]; exact .inr (.inr ⟨rfl, rfl, rfl⟩)
      · exact .inl ⟨hf2, rfl⟩
    by_cases k23 : b = 2 ∨ b = 3
    · obtain ⟨x, rs, f2, e2⟩ : ∃ x rs f2, (backN (uintR s 0 8).1, (uintR s 0 8).2) = (x, rs, f2) := ⟨_, _, _, rfl⟩
      have hxi : I64 x := by
        have := backN_I64 (n := (uintR s 0 8).1) (uintR_lt hs 0)
        injection e2 with e3 _
        exact e3 ▸ this
      have hD : stepD (b :: s) = ((b, 0, x, []), rs, f2) := by
        unfold stepD
        simp only
        rw [if_neg k1, if_neg k4, if_pos k23]
        injection e2 with e3 e4
        rw [e3, e4]
      generalize stepD (b :: s) = D at hD ⊢
      have HD := Lib.hid hD
      have C3 := fun A1 W (h : Rdr W g A1 s 0) => rdint_c g A1 s 0 W h
      have e2' := Prod.ext_iff.1 e2
      simp only at e2'
      simp only [e2'.1, e2'.2] at C3
      have HC3 := Lib.hid C3
      have p1 : (b == 1) = false := beq_eq_false_iff_ne.2 k1
      have p4 : (b == 4) = false := beq_eq_false_iff_ne.2 k4
      have p23 : ((b == 2) = true ∧ (b == 3) = false) ∨ ((b == 2) = false ∧ (b == 3) = true) := by rcases k23 with rfl | rfl; exact .inl ⟨rfl, rfl⟩; exact .inr ⟨rfl, rfl⟩
      clear C3 hD e2 e2' k1 k4 k23
      rcases p23 with ⟨p2, p3⟩ | ⟨p2, p3⟩
      all_goals
        go_enter Try.func37, Try.ntmps37
        go_wp2_with fail
        refine (HC.out _ h0.rd.rd).mono ?_
        rintro e w1 ⟨rfl, A1, r1⟩
        have h1 := (h0.read r1).store 0 (.int .i64 b)
        have m1 := (h0.read r1).m
        have q1 := cellsAt_at m1
        have s1 := m1.lt
        have z1 := m1.frozen 0
        have gl1 := h0.gl
        go_wp2_with fail
        obtain ⟨w2, hw2⟩ : ∃ W : World, W = w1.setCell ⟨w.heap.size, 0, none⟩ (.int .i64 b) := ⟨_, rfl⟩
        rw [← hw2] at h1 ⊢
        have q2 := cellsAt_at h1.m
        have s2 := h1.m.lt
        have b2 := h1.m.cell 0
        simp only [Array.getElem?_setIfInBounds] at b2
        clear hw2 q1 s1 z1 m1 r1 h0
        go_wp2_with fail
        refine (HC3.out _ _ h1.rd.rd).mono ?_
        rintro e w3 ⟨rfl, A3, r3⟩
        have h3 := h1.read r3
        have h4 := h3.store 2 (.int .i64 x)
        have q3 := cellsAt_at h3.m
        have s3 := h3.m.lt
        have z3 := h3.m.frozen 2
        clear q2 s2 b2 r3 h1 h3
        go_wp2_with fail
        first | refine fin_ret rfl (fun K hK => ?_) | refine fin_norm rfl (fun K hK => ?_)
        simp [results, Try.results37, go_sem, rsat]
        try go_simp
        refine hK _ ?_
        clear hK K
        refine ⟨⟨b, 0, x, ⟨none, 0, []⟩⟩, true, rs, f2, A3, rfl, (h4.row _).rd, Sp.bare (by omega) (by unfold I64; omega) hxi _, by simp [ablk], ?_⟩
        rw [HD.out]
        by_cases hf2 : f2 = 0
        · rw [hf2]; exact .inr (.inr ⟨rfl, rfl, rfl⟩)
        · exact .inl ⟨hf2, rfl⟩
    · have hD : stepD (b :: s) = ((b, 0, 0, []), s, 4) := by
        unfold stepD
        simp only
        rw [if_neg k1, if_neg k4, if_neg k23]
      generalize stepD (b :: s) = D at hD ⊢
      have HD := Lib.hid hD
      have p1 : (b == 1) = false := beq_eq_false_iff_ne.2 k1
      have p4 : (b == 4) = false := beq_eq_false_iff_ne.2 k4
      have p2 : (b == 2) = false := beq_eq_false_iff_ne.2 (fun h => k23 (.inl h))
      have p3 : (b == 3) = false := beq_eq_false_iff_ne.2 (fun h => k23 (.inr h))
      clear hD k1 k4 k23
      go_enter Try.func37, Try.ntmps37
      go_wp2_with fail
      refine (HC.out _ h0.rd.rd).mono ?_
      rintro e w1 ⟨rfl, A1, r1⟩
      have h1 := (h0.read r1).store 0 (.int .i64 b)
      have m1 := (h0.read r1).m
      have q1 := cellsAt_at m1
      have s1 := m1.lt
      have z1 := m1.frozen 0
      have gl1 := h0.gl
      go_wp2_with fail
      obtain ⟨w2, hw2⟩ : ∃ W : World, W = w1.setCell ⟨w.heap.size, 0, none⟩ (.int .i64 b) := ⟨_, rfl⟩
      rw [← hw2] at h1 ⊢
      have q2 := cellsAt_at h1.m
      have s2 := h1.m.lt
      have b2 := h1.m.cell 0
      simp only [Array.getElem?_setIfInBounds] at b2
      clear hw2 q1 s1 z1 m1 r1 h0
      go_wp2_with fail
      first | refine fin_ret rfl (fun K hK => ?_) | refine fin_norm rfl (fun K hK => ?_)
      simp [results, Try.results37, go_sem, rsat]
      try go_simp
      refine hK _ ?_
      clear hK K
      exact ⟨⟨b, 0, 0, ⟨none, 0, []⟩⟩, false, s, 0, A1, rfl, (h1.row _).rd, Sp.bare hbi (by decide) (by decide) _, by simp [ablk], .inr (.inl ⟨rfl, rfl, by rw [HD.out]⟩)⟩
end Go.Proofs.Ythfomohophmbaaa
/- Steps (layer 29): Read, by the program. Condition: at most 10^6 bytes. -/
namespace Go.Proofs.Ythfomohophmbaaa
open Go.RowKit
attribute [local go_sem] Later.cell QUpon_value QUpon_enter MUpon_value run_eql_slice_nil Same.cell
attribute [local go_sem ↓ high] loadStp_is storeStp_is
attribute [local go_sem] run_loadStp run_loadStp_at run_storeStp one_int one_bool one_slice one_ptr one_str setRow_new setRow_past cell_ca frozen_ca cellsAt_alloc_at cellsAt_alloc_past cellsAt_drew cellsAt_later cellsAt_setCell cellsAt_set_same cellsAt_setRow_same cellsAt_setRow_far subAt_alloc subAt_drew subAt_later subAt_setCell subAt_setRow ltn_2 ltn_3 ltn_4 ltn_5
theorem stpInfo : (Try.prog.info? 31).map (fun i => (i.zero, i.size, i.bytes)) = some (some (.agg #[.int .i64 0, .int .i64 0, .int .i64 0, .slice none 0 0]), 4, 48) := by kernel_rfl
/-- Steps in a row of the call's own. -/
structure OwnS (w0 w : World) (A : Option Addr) (c : Nat) (l : List Sp) : Prop where
  row : Row w 31 4 A l.length c (l.flatMap Sp.cells)
  new : ∀ k ∈ ablk A, w0.heap.size ≤ k ∧ k < w.heap.size
  ok : ∀ p ∈ l, p.Ok w
  raw : ∀ p ∈ l, ∀ k ∈ ablk p.raw.A, k < w.heap.size ∧ k ∉ ablk A
theorem OwnS.nil (w0 w : World) : OwnS w0 w none 0 [] := ⟨Row.nil _ _ _ _, by simp [ablk], by simp, by simp⟩
theorem OwnS.at_ {w0 w : World} {A : Option Addr} {c : Nat} {l : List Sp} (h : OwnS w0 w A c l) : (⟨A, c, l⟩ : Sts).At w := ⟨h.row.le, h.row.max, h.row.src, h.ok⟩
theorem Sp.Ok.chg {p : Sp} {w w' : World} {m : List Nat} (h : p.Ok w) (hx : Chg w w' m) (hm : ∀ k ∈ ablk p.raw.A, k ∉ m) : p.Ok w' := ⟨h.kind, h.sym, h.n, ⟨h.raw.le, h.raw.max, h.raw.src.chg hx hm, h.raw.byt⟩⟩
theorem OwnS.chg {w0 w w' : World} {A : Option Addr} {c : Nat} {l : List Sp} {m : List Nat} (h : OwnS w0 w A c l) (hx : Chg w w' m) (hm : ∀ k ∈ m, k ∉ ablk A) (hr : ∀ p ∈ l, ∀ k ∈ ablk p.raw.A, k ∉ m) : OwnS w0 w' A c l :=
  ⟨h.row.chg hx (fun k hk h1 => hm k h1 hk), fun k hk => ⟨(h.new k hk).1, Nat.lt_of_lt_of_le (h.new k hk).2 hx.size⟩, fun p hp => (h.ok p hp).chg hx (hr p hp), fun p hp k hk => ⟨Nat.lt_of_lt_of_le (h.raw p hp k hk).1 hx.size, (h.raw p hp k hk).2⟩⟩
theorem OwnS.ext {w0 w w' : World} {A : Option Addr} {c : Nat} {l : List Sp} (h : OwnS w0 w A c l) (hx : Ext w w') : OwnS w0 w' A c l := h.chg (Chg.of_ext hx []) (by simp) (by simp)
theorem OwnS.add {w0 w w' : World} {A A' : Option Addr} {c c' : Nat} {l : List Sp} {p : Sp} (h : OwnS w0 w A c l) (hp : p.Ok w) (hpr : ∀ k ∈ ablk p.raw.A, k < w.heap.size ∧ k ∉ ablk A) (hC : Chg w w' (ablk A)) (hR : Row w' 31 4 A' (l.length + 1) c' (l.flatMap Sp.cells ++ p.cells)) (hn : ∀ k ∈ ablk A', k ∈ ablk A ∨ (w.heap.size ≤ k ∧ k < w'.heap.size)) (hw : w0.heap.size ≤ w.heap.size) : OwnS w0 w' A' c' (l ++ [p]) := by
  have hs := hC.size
  refine ⟨?_, fun k hk => ?_, fun q hq => ?_, fun q hq k hk => ?_⟩
  · rw [List.length_append, List.flatMap_append]
    simpa using hR
  · rcases hn k hk with h1 | h1
    · have := h.new k h1; omega
    · omega
  · rcases List.mem_append.1 hq with hq | hq
    · exact (h.ok q hq).chg hC (fun k hk => (h.raw q hq k hk).2)
    · rw [List.mem_singleton.1 hq]; exact hp.chg hC (fun k hk => (hpr k hk).2)
  · have : k < w.heap.size ∧ k ∉ ablk A := by
      rcases List.mem_append.1 hq with hq | hq
      · exact h.raw q hq k hk
      · rw [List.mem_singleton.1 hq] at hk; exact hpr k hk
    refine ⟨by omega, fun h1 => ?_⟩
    rcases hn k h1 with h2 | h2
    · exact this.2 h2
    · omega
/-- What Read answers. -/
def ReadIs (bs : List Int) (w : World) (e : Ending) (w' : World) : Prop := Ext w w' ∧ ∃ (x : Sts) (f : Int), e = .returned (.tuple #[x.v, .int .i64 f]) ∧ x.At w' ∧ (x.l.map Sp.key, f) = readS bs
theorem Sts.none_at (w : World) : (⟨none, 0, []⟩ : Sts).At w := ⟨Nat.le_refl _, Nat.zero_le _, ⟨rfl, fun h => absurd h (by decide)⟩, by simp⟩
/-- Amid Read. -/
structure RdAt (w w1 wr : World) (g : Nat) (A0 : Option Addr) (fn : Int) (B : Option Addr) (d : Nat) (l : List Sp) (A' : Option Addr) (rs : List Int) : Prop where
  ext : Ext w wr
  s1 : w.heap.size ≤ g ∧ g < w1.heap.size ∧ w1.heap.size ≤ wr.heap.size
  out : OwnS w1 wr B d l
  rd : Rdr wr g A' rs fn
  blk : ablk A' = ablk A0
  low : ∀ k ∈ ablk A0, w.heap.size ≤ k ∧ k < w1.heap.size
  raw : ∀ p ∈ l, ∀ k ∈ ablk p.raw.A, w1.heap.size ≤ k
theorem RdAt.mid {w w1 wr w3 : World} {g : Nat} {A0 B A' A3 : Option Addr} {fn f3 : Int} {d : Nat} {l : List Sp} {rs rs3 : List Int} (h : RdAt w w1 wr g A0 fn B d l A' rs) (hr : Reads wr g A' rs3 f3 w3 A3) : RdAt w w1 w3 g A0 f3 B d l A3 rs3 := by
  have hs := hr.chg.size
  have h1 := h.s1
  refine ⟨hr.chg.extOf9 h.ext (fun i hi => by simp at hi; omega), ⟨h1.1, h1.2.1, by omega⟩, h.out.chg hr.chg (fun k hk h2 => ?_) (fun p hp k hk h2 => ?_), hr.rd, hr.blk.trans h.blk, h.low, h.raw⟩
  · simp at hk; subst hk; have := (h.out.new _ h2).1; omega
  · simp at h2; subst h2; have := h.raw p hp _ hk; omega
theorem RdAt.extR {w w1 wr w3 : World} {g : Nat} {A0 B A' : Option Addr} {fn : Int} {d : Nat} {l : List Sp} {rs : List Int} (h : RdAt w w1 wr g A0 fn B d l A' rs) (hx : Ext wr w3) : RdAt w w1 w3 g A0 fn B d l A' rs :=
  ⟨h.ext.trans hx, ⟨h.s1.1, h.s1.2.1, Nat.le_trans h.s1.2.2 hx.size⟩, h.out.ext hx, h.rd.ext hx, h.blk, h.low, h.raw⟩
theorem RdAt.app {w w1 wr w5 : World} {g : Nat} {A0 B B5 A' : Option Addr} {fn : Int} {d d5 : Nat} {l : List Sp} {rs : List Int} {p : Sp} (h : RdAt w w1 wr g A0 fn B d l A' rs) (hp : p.Ok wr) (hpr : ∀ k ∈ ablk p.raw.A, w1.heap.size ≤ k ∧ k < wr.heap.size ∧ k ∉ ablk B) (hC : Chg wr w5 (ablk B)) (hR : Row w5 31 4 B5 (l.length + 1) d5 (l.flatMap Sp.cells ++ p.cells)) (hn : ∀ k ∈ ablk B5, k ∈ ablk B ∨ (wr.heap.size ≤ k ∧ k < w5.heap.size)) : RdAt w w1 w5 g A0 fn B5 d5 (l ++ [p]) A' rs := by
  have h1 := h.s1
  have hs := hC.size
  refine ⟨hC.extOf9 h.ext (fun i hi => by have := (h.out.new i hi).1; omega), ⟨h1.1, h1.2.1, by omega⟩, h.out.add hp (fun k hk => (hpr k hk).2) hC hR hn h1.2.2, h.rd.chg hC (fun h2 => by have := (h.out.new _ h2).1; omega) (fun k hk h2 => by rw [h.blk] at hk; have := (h.low k hk).2; have := (h.out.new _ h2).1; omega), h.blk, h.low, fun q hq k hk => ?_⟩
  rcases List.mem_append.1 hq with hq | hq
  · exact h.raw q hq k hk
  · rw [List.mem_singleton.1 hq] at hk; exact (hpr k hk).1
theorem readN_succ {n k : Nat} (h : k < n) (rs : List Int) (acc : List Ky) : readN (n - k) rs acc = if (stepD rs).2.2 ≠ 0 then ([], (stepD rs).2.2) else readN (n - (k + 1)) (stepD rs).2.1 (acc ++ [(stepD rs).1]) := by
  obtain ⟨m, hm⟩ : ∃ m, n - k = m + 1 := ⟨n - k - 1, by omega⟩
  rw [hm, show n - (k + 1) = m by omega]
  rfl
set_option maxHeartbeats 8000000 in
set_option maxRecDepth 100000 in
theorem sread_c (B : Option Addr) (cb : Nat) (bs : List Int) (hb : Byt bs) (hl : bs.length ≤ 1000000000) (w : World) (hS : Src w 1 B bs.length (bc bs)) : Calls Try.prog 20 #[.slice B bs.length cb] w fun e w' => ReadIs bs w e w' := by
  unfold ReadIs
  obtain ⟨n, r, fn, en⟩ : ∃ v r f, numR bs 0 = (v, r, f) := ⟨_, _, _, rfl⟩
  have hD : readS bs = (if fn ≠ 0 then ([], fn) else if 2000 < n then ([], 4) else readN n r []) := by unfold readS; rw [en]
  have hz := numR_zero en
  have hrl := numR_rest en
  obtain ⟨hrb, _⟩ := numR_byt hb hl en
  have C1 := newreader_c B bs cb w hS hb hl
  have C2 := fun g A W (h : Rdr W g A bs 0) => rdnum_c g A bs 0 W h
  simp only [en] at C2
  have HC1 := Lib.hid C1
  have HC2 := Lib.hid C2
  clear C1 C2 hS en
  obtain ⟨R, hR⟩ : ∃ R, R = readS bs := ⟨_, rfl⟩
  rw [← hR]
  rw [hD] at hR
  clear hD
  go_enter Try.func20, Try.ntmps20
  go_wp2_with fail
  go_step3
  go_wp2_with fail
  refine HC1.out.mono ?_
  rintro e w1 ⟨x1, g, A1, rfl, R1, hg, hA⟩
  have hgl := R1.ex.choose_spec.1.lt
  have hal := R1.alt
  go_wp2_with fail
  refine (HC2.out _ _ _ R1).mono ?_
  rintro e w2 ⟨rfl, A2, r2⟩
  have x2 : Ext w w2 := r2.chg.extOf9 x1 (by simp; exact hg)
  by_cases h2000 : 2000 < n
  · obtain rfl : fn = 0 := by
      by_cases h : fn = 0
      · exact h
      · have := hz h; omega
    rw [if_neg (by simp), if_pos h2000] at hR
    have HR := Lib.hid hR
    have hni : (2000 : Int) < (n : Int) := by omega
    clear hR hz
    go_wp2_with fail
    try first | rw [Exit.noGoto_ret] | rw [Exit.noGoto_normal]
    first | refine fin_ret rfl (fun K hK => ?_) | refine fin_norm rfl (fun K hK => ?_)
    simp [results, Try.results20, go_sem, rsat]
    try go_simp
    refine hK _ ?_
    clear hK K
    exact ⟨x2, ⟨none, 0, []⟩, 4, rfl, Sts.none_at _, HR.out.symm⟩
  have hni : ¬ (2000 : Int) < (n : Int) := by omega
  rw [if_neg h2000] at hR
  have HR := Lib.hid hR
  have HZ := Lib.hid hz
  have hrl2 : r.length ≤ 1000000000 := by omega
  have H0 : RdAt w w1 w2 g A1 fn none 0 [] A2 r := ⟨x2, ⟨hg, hgl, r2.chg.size⟩, OwnS.nil _ _, r2.rd, r2.blk, fun k hk => ⟨hA k hk, (hal k hk).1⟩, by simp⟩
  clear hR hz R1 r2 x2 hA hal x1 hrl
  go_wp2_with fail
  go_step3
  go_wp2_with fail
  go_loopw [2, 15] (fun o i wr => ∃ (k : Nat) (B : Option Addr) (d : Nat) (l : List Sp) (A' : Option Addr) (rs : List Int), i = .int .u64 k ∧ k ≤ n ∧ o = .slice B l.length d ∧ RdAt w w1 wr g A1 fn B d l A' rs ∧ l.length ≤ n ∧ Hid (l.length = k) ∧ rs.length ≤ 1000000000 ∧ Hid (readN n r [] = readN (n - k) rs (l.map Sp.key))) (fun _ i _ => n - (intOf i).toNat)
  case atStart => exact ⟨0, none, 0, [], A2, r, rfl, by omega, rfl, H0, by simp, Lib.hid rfl, hrl2, Lib.hid rfl⟩
  case round =>
    clear H0
    obtain ⟨k, B, d, l, A', rs, rfl, hk, rfl, H, hln, HLK, hrs, HN⟩ := hrel
    by_cases hlt : k < n
    · obtain rfl : fn = 0 := by
        by_cases h : fn = 0
        · exact h
        · have := HZ.out h; omega
      have hrn := readN_succ hlt rs (l.map Sp.key)
      have C := step_c g A' rs hrs wr H.rd
      unfold StepOf at C
      have hinv : ∀ ky r', stepD rs = (ky, r', 0) → r'.length ≤ rs.length := fun ky r' h => by have := congrArg List.length (stepD_inv H.rd.by_ h).2.1; rw [List.length_append] at this; omega
      generalize stepD rs = D at C hrn hinv
      have HRN := Lib.hid hrn
      have hlt2 : (k : Int) < (n : Int) := by omega
      clear hrn
      go_wp2_with fail
      refine C.mono ?_
      rintro e w3 ⟨p, is, rs3, f3, A3, rfl, r3, pok, praw, hor⟩
      obtain ⟨kd, sy, nn, ⟨RA, Rc, rx⟩⟩ := p
      have H3 := H.mid r3
      simp only [Sp.cells, Bs.v] at praw ⊢
      clear C r3
      rcases hor with ⟨hf3, hd⟩ | ⟨rfl, rfl, hd⟩ | ⟨rfl, rfl, hd⟩
      · have hfb : (f3 != 0) = true := bne_iff_ne.2 hf3
        have HD := Lib.hid hd
        have HF := Lib.hid hf3
        clear hd hf3
        go_wp2_with fail
        refine (fault_c g A3 rs3 f3 _ (H3.rd.ext ((Ext.refl w3).alloc _))).mono ?_
        rintro e w4 ⟨rfl, hx4⟩
        have H4 := H3.extR (((Ext.refl w3).alloc _).trans hx4)
        go_wp2_with fail
        refine (fault_c g A3 rs3 f3 _ H4.rd).mono ?_
        rintro e w5 ⟨rfl, hx5⟩
        go_wp2_with fail
        try first | rw [Exit.noGoto_ret] | rw [Exit.noGoto_normal]
        first | refine fin_ret rfl (fun K hK => ?_) | refine fin_norm rfl (fun K hK => ?_)
        simp [results, Try.results20, go_sem, rsat]
        try go_simp
        refine hK _ ?_
        clear hK K
        refine ⟨H4.ext.trans hx5, ⟨none, 0, []⟩, f3, rfl, Sts.none_at _, ?_⟩
        rw [HR.out, if_neg (by simp), HN.out, HRN.out, HD.out, if_pos HF.out]
        rfl
      · have HD := Lib.hid hd
        clear hd
        go_wp2_with fail
        refine (fault_c g A3 rs3 0 _ (H3.rd.ext ((Ext.refl w3).alloc _))).mono ?_
        rintro e w4 ⟨rfl, hx4⟩
        have H4 := H3.extR (((Ext.refl w3).alloc _).trans hx4)
        go_wp2_with fail
        try first | rw [Exit.noGoto_ret] | rw [Exit.noGoto_normal]
        first | refine fin_ret rfl (fun K hK => ?_) | refine fin_norm rfl (fun K hK => ?_)
        simp [results, Try.results20, go_sem, rsat]
        try go_simp
        refine hK _ ?_
        clear hK K
        refine ⟨H4.ext, ⟨none, 0, []⟩, 4, rfl, Sts.none_at _, ?_⟩
        rw [HR.out, if_neg (by simp), HN.out, HRN.out, HD.out, if_pos (by decide)]
        rfl
      · have hr3 := hinv _ _ hd
        have HD := Lib.hid hd
        clear hd hinv
        go_wp2_with fail
        refine (fault_c g A3 rs3 0 _ (H3.rd.ext ((Ext.refl w3).alloc _))).mono ?_
        rintro e w4 ⟨rfl, hx4⟩
        have M4 : At w4 w3.heap.size 31 #[.int .i64 kd, .int .i64 sy, .int .i64 nn, .slice RA rx.length Rc] := At.ext (by repeat (first | (with_reducible exact At.new _ _ _) | ((with_reducible refine At.new' _ _ _ _ ?_); simp; done) | (with_reducible assumption) | (with_reducible refine At.drew ?_) | (with_reducible refine At.alloc ?_ _) | (with_reducible apply At.upd) | (with_reducible apply At.setRow) | (with_reducible refine At.rowFar ?_ (by first | (simp; done) | (simp; omega) | omega) _) | ((with_reducible refine At.far ?_ (by first | (simp; done) | (simp; omega) | omega) _)) | (with_reducible rfl) | (simp; done))) hx4
        have x34 := ((Ext.refl w3).alloc (.cells #[.int .i64 kd, .int .i64 sy, .int .i64 nn, .slice RA rx.length Rc] 31)).trans hx4
        have H4 := (H3.extR x34).extR ((Ext.refl w4).alloc (.cells #[.int .i64 kd, .int .i64 sy, .int .i64 nn, .slice RA rx.length Rc] 31))
        have pok4 := (pok.ext x34).ext ((Ext.refl w4).alloc (.cells #[.int .i64 kd, .int .i64 sy, .int .i64 nn, .slice RA rx.length Rc] 31))
        have e4 := cellsAt_at M4
        have s4 := M4.lt
        have hR4 := H4.out.row
        have hs1 := H.s1
        have praw4 : ∀ k ∈ ablk RA, w1.heap.size ≤ k ∧ k < (w4.alloc (.cells #[.int .i64 kd, .int .i64 sy, .int .i64 nn, .slice RA rx.length Rc] 31)).heap.size ∧ k ∉ ablk B := fun k hk => by
          have h1 := praw k hk
          have := x34.size
          refine ⟨by omega, by simp; omega, fun h2 => ?_⟩
          have := (H.out.new k h2).2
          omega
        clear hx4
        go_wp2_with (at_builtin; refine wpList_rowcat rfl _ _ 22 31 4 48 (.agg #[.int .i64 0, .int .i64 0, .int .i64 0, .slice none 0 0]) rfl Try.underlying22 stpInfo rfl (by decide) _ B l.length d (l.flatMap Sp.cells) rfl hR4 _ 1 1 [.int .i64 kd, .int .i64 sy, .int .i64 nn, .slice RA rx.length Rc] rfl (Src.at (At.new _ _ _) rfl) rfl (by unfold maxLen; omega) (by omega) ?_)
        intro B5 d5 w5 R5 C5 f5
        have H5 := H4.app (p := ⟨kd, sy, nn, ⟨RA, Rc, rx⟩⟩) pok4 praw4 C5 R5 (by rw [World.size_alloc]; exact f5)
        clear H4 H3 C5 R5 f5 hR4 e4 s4 M4
        go_wp2_with fail
        go_roundw
        case rel => exact ⟨k + 1, B5, d5, l ++ [⟨kd, sy, nn, ⟨RA, Rc, rx⟩⟩], A3, rs3, by go_num, by omega, by simp, H5, by have := HLK.out; simp; omega, Lib.hid (by have := HLK.out; simp; omega), by omega, Lib.hid (by rw [HN.out, HRN.out, HD.out, if_neg (by simp), List.map_append]; rfl)⟩
        case measure => simp [intOf]; omega
    · obtain rfl : k = n := by omega
      by_cases hfn : fn = 0
      · subst hfn
        have hx0 := H.out.at_
        by_cases hr0 : rs = []
        · subst hr0
          go_wp2_with fail
          refine (fault_c g A' [] 0 _ H.rd).mono ?_
          rintro e w3 ⟨rfl, hx3⟩
          go_wp2_with fail
          refine (left_c g A' [] 0 _ (H.rd.ext hx3)).mono ?_
          rintro e w4 ⟨rfl, hx4⟩
          simp only [List.length_nil]
          go_wp2_with fail
          try first | rw [Exit.noGoto_ret] | rw [Exit.noGoto_normal]
          first | refine fin_ret rfl (fun K hK => ?_) | refine fin_norm rfl (fun K hK => ?_)
          simp [results, Try.results20, go_sem, rsat]
          try go_simp
          refine hK _ ?_
          clear hK K
          refine ⟨(H.ext.trans hx3).trans hx4, ⟨B, d, l⟩, 0, rfl, (hx0.ext hx3).ext hx4, ?_⟩
          rw [HR.out, if_neg (by simp), HN.out, Nat.sub_self]
          exact (if_pos rfl).symm
        · have hrl3 : 0 < (rs.length : Int) := by have := List.length_pos_iff.2 hr0; omega
          have HR0 := Lib.hid hr0
          clear hr0
          go_wp2_with fail
          refine (fault_c g A' rs 0 _ H.rd).mono ?_
          rintro e w3 ⟨rfl, hx3⟩
          go_wp2_with fail
          refine (left_c g A' rs 0 _ (H.rd.ext hx3)).mono ?_
          rintro e w4 ⟨rfl, hx4⟩
          go_wp2_with fail
          try first | rw [Exit.noGoto_ret] | rw [Exit.noGoto_normal]
          first | refine fin_ret rfl (fun K hK => ?_) | refine fin_norm rfl (fun K hK => ?_)
          simp [results, Try.results20, go_sem, rsat]
          try go_simp
          refine hK _ ?_
          clear hK K
          refine ⟨(H.ext.trans hx3).trans hx4, ⟨none, 0, []⟩, 4, rfl, Sts.none_at _, ?_⟩
          rw [HR.out, if_neg (by simp), HN.out, Nat.sub_self]
          exact (if_neg HR0.out).symm
      · have hfb : (fn != 0) = true := bne_iff_ne.2 hfn
        have HF := Lib.hid hfn
        clear hfn
        go_wp2_with fail
        refine (fault_c g A' rs fn _ H.rd).mono ?_
        rintro e w3 ⟨rfl, hx3⟩
        go_wp2_with fail
        try first | rw [Exit.noGoto_ret] | rw [Exit.noGoto_normal]
        first | refine fin_ret rfl (fun K hK => ?_) | refine fin_norm rfl (fun K hK => ?_)
        simp [results, Try.results20, go_sem, rsat]
        try go_simp
        refine hK _ ?_
        clear hK K
        refine ⟨H.ext.trans hx3, ⟨none, 0, []⟩, fn, rfl, Sts.none_at _, ?_⟩
        rw [HR.out, if_pos HF.out]
        rfl
end Go.Proofs.Ythfomohophmbaaa
