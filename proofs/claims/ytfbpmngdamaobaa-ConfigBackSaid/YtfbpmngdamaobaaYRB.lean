/- Configurations (layer 7) are read, 4 and 5: what both sides read is alike; what is read is of 64 bits; the state of the reading. No program. -/
import Derived.Test.YtfbpmngdamaobaaYRA
import Derived.Test.YtfbpmngdamaobaaY2
import Derived.Test.YtfbpmngdamaobaaY3
/- Configurations (layer 7) are read, 4: what both sides read is alike. No program. -/
namespace Go.Proofs.Ytfbpmngdamaobaa
open Go.RowKit
def seqV {α : Type} (rd : RS → α × RS) : Nat → RS → List α × RS
  | 0, s => ([], s)
  | n + 1, s => ((seqV rd n s).1 ++ [(rd (seqV rd n s).2).1], (rd (seqV rd n s).2).2)
theorem seqV_len {α : Type} (rd : RS → α × RS) (s : RS) : ∀ n, (seqV rd n s).1.length = n
  | 0 => rfl
  | n + 1 => by
    show ((seqV rd n s).1 ++ _).length = _
    rw [List.length_append, seqV_len rd s n, List.length_singleton]
theorem seqV_zero {α : Type} (rd : RS → α × RS) (s : RS) : seqV rd 0 s = ([], s) := rfl
theorem seqV_succ {α : Type} (rd : RS → α × RS) (n : Nat) (s : RS) : seqV rd (n + 1) s = ((seqV rd n s).1 ++ [(rd (seqV rd n s).2).1], (rd (seqV rd n s).2).2) := rfl
attribute [irreducible] seqV
/-- The document's reader keeps its bytes behind a fault. -/
structure Sim (s t : RS) : Prop where
  f : s.f = t.f
  g : s.g = t.g
  bs : s.f = 0 → s.bs = t.bs
theorem numQ7_is (bs : List Int) : (numQ7 bs 0).1 = (numR bs 0).1 ∧ (numQ7 bs 0).2.2 = (numR bs 0).2.2 ∧ ((numR bs 0).2.2 = 0 → (numQ7 bs 0).2.1 = (numR bs 0).2.1) ∧ ((numR bs 0).2.2 ≠ 0 → (numR bs 0).1 = 0) := by
  have h2 := (numG_is6 10 0 0 bs).2
  rw [show numR bs 0 = numG 10 0 0 bs from if_neg (by simp)]
  unfold numQ7
  rw [if_neg (by simp)]
  generalize numG 10 0 0 bs = q at h2 ⊢
  by_cases h : q.2.2 = 0
  · rw [if_pos h]
    exact ⟨rfl, rfl, fun _ => rfl, fun k => absurd h k⟩
  · rw [if_neg h]
    exact ⟨(h2 h).symm, rfl, fun k => absurd k h, h2⟩
theorem numQ7_bad {bs : List Int} {f : Int} (hf : f ≠ 0) : numQ7 bs f = (0, bs, f) := if_pos hf
theorem numR_bad {bs : List Int} {f : Int} (hf : f ≠ 0) : numR bs f = (0, bs, f) := if_pos hf
theorem numT_bad {s : RS} (hf : s.f ≠ 0) : numT s = (0, s) := by
  unfold numT
  rw [numQ7_bad hf]
  rw [if_neg (by simp only; omega)]
  rfl
theorem num_sim {s t : RS} (h : Sim s t) : (numS s).1 = (numT t).1 ∧ Sim (numS s).2 (numT t).2 := by
  obtain ⟨bs, f, g⟩ := s
  obtain ⟨bt, f', g'⟩ := t
  obtain ⟨h1, h2, h3⟩ := h
  simp only at h1 h2 h3
  subst h1 h2
  unfold numS numT
  simp only
  by_cases hf : f = 0
  · subst hf
    obtain rfl := h3 rfl
    obtain ⟨q1, q2, q3, _⟩ := numQ7_is bs
    rw [q1]
    split
    · exact ⟨rfl, q2.symm, rfl, fun k => (q3 k).symm⟩
    · exact ⟨rfl, q2.symm, rfl, fun k => (q3 k).symm⟩
  · rw [numR_bad hf, numQ7_bad hf]
    simp only
    rw [if_neg (by omega), if_neg (by omega)]
    exact ⟨rfl, rfl, rfl, fun k => absurd k hf⟩
theorem seq_sim {α : Type} {rd rd' : RS → α × RS} (hr : ∀ s t, Sim s t → (rd s).1 = (rd' t).1 ∧ Sim (rd s).2 (rd' t).2) {s t : RS} (h : Sim s t) : ∀ n, (seqV rd n s).1 = (seqV rd' n t).1 ∧ Sim (seqV rd n s).2 (seqV rd' n t).2
  | 0 => by rw [seqV_zero, seqV_zero]; exact ⟨rfl, h⟩
  | n + 1 => by
    obtain ⟨a, b⟩ := seq_sim hr h n
    obtain ⟨c, d⟩ := hr _ _ b
    rw [seqV_succ, seqV_succ]
    exact ⟨by rw [a, c], d⟩
theorem seq_bad {α : Type} {rd : RS → α × RS} (hr : ∀ s, s.f ≠ 0 → (rd s).2 = s) {s : RS} (h : s.f ≠ 0) : ∀ n, (seqV rd n s).2 = s
  | 0 => by rw [seqV_zero]
  | n + 1 => by
    rw [seqV_succ]
    simp only
    rw [seq_bad hr h n, hr s h]
def symOf (l : List Int) : Sym := ⟨l.getD 0 0, l.getD 1 0, l.getD 2 0, l.getD 3 0, l.getD 4 0, l.getD 5 0, l.getD 6 0, l.getD 7 0, l.getD 8 0, l.getD 9 0, l.getD 10 0, l.getD 11 0, l.getD 12 0, l.getD 13 0, l.getD 14 0, l.getD 15 0⟩
def symV7 (rd : RS → Int × RS) (s : RS) : Sym × RS := (symOf (seqV rd 16 s).1, (seqV rd 16 s).2)
def rowV7 (rd : RS → Int × RS) (s : RS) : Rw × RS := (⟨(rd s).1, (rd (rd s).2).1⟩, (rd (rd s).2).2)
/-- A configuration, without its places. -/
structure Cf where
  l : List Sym
  t : List Rw
  r : List Int
def cf0 : Cf := ⟨[], [], [0, 0, 0, 0, 0, 0]⟩
def cfC (c : Cf) : Cfg := ⟨none, 0, c.l, none, 0, c.t, c.r.getD 0 0, c.r.getD 1 0, c.r.getD 2 0, c.r.getD 3 0, c.r.getD 4 0, c.r.getD 5 0⟩
def endV (s : RS) (c : Cf) : Cf × Int :=
  if s.f ≠ 0 then (cf0, s.f) else if s.g = true ∨ 0 < s.bs.length then (cf0, 4)
  else if (checkI (cfC c)).1 ≠ 0 then (cf0, (checkI (cfC c)).1) else (c, 0)
/-- What the program reads .. -/
def tailV (rd : RS → Int × RS) (l : List Sym) (m : Nat) (s : RS) : Cf × Int :=
  endV (seqV rd 6 (seqV (rowV7 rd) m s).2).2 ⟨l, (seqV (rowV7 rd) m s).1, (seqV rd 6 (seqV (rowV7 rd) m s).2).1⟩
def readS (bs : List Int) : Cf × Int :=
  if 8 < (cntS ⟨bs, 0, false⟩).1 then (cf0, 4)
  else if 20 < (cntS (seqV (symV7 numS) (cntS ⟨bs, 0, false⟩).1 (cntS ⟨bs, 0, false⟩).2).2).1 then (cf0, 4)
  else tailV numS (seqV (symV7 numS) (cntS ⟨bs, 0, false⟩).1 (cntS ⟨bs, 0, false⟩).2).1 (cntS (seqV (symV7 numS) (cntS ⟨bs, 0, false⟩).1 (cntS ⟨bs, 0, false⟩).2).2).1 (cntS (seqV (symV7 numS) (cntS ⟨bs, 0, false⟩).1 (cntS ⟨bs, 0, false⟩).2).2).2
/-- .. and the document. -/
def readT (bs : List Int) : Cf × Int :=
  tailV numT (seqV (symV7 numT) (cntT 8 ⟨bs, 0, false⟩).1.toNat (cntT 8 ⟨bs, 0, false⟩).2).1 (rowsT (seqV (symV7 numT) (cntT 8 ⟨bs, 0, false⟩).1.toNat (cntT 8 ⟨bs, 0, false⟩).2).2).1.toNat (rowsT (seqV (symV7 numT) (cntT 8 ⟨bs, 0, false⟩).1.toNat (cntT 8 ⟨bs, 0, false⟩).2).2).2
theorem sym_sim (s t : RS) (h : Sim s t) : (symV7 numS s).1 = (symV7 numT t).1 ∧ Sim (symV7 numS s).2 (symV7 numT t).2 := by
  obtain ⟨a, b⟩ := seq_sim (fun _ _ => num_sim) h 16
  exact ⟨by unfold symV7; rw [a], b⟩
theorem row_sim (s t : RS) (h : Sim s t) : (rowV7 numS s).1 = (rowV7 numT t).1 ∧ Sim (rowV7 numS s).2 (rowV7 numT t).2 := by
  obtain ⟨a, b⟩ := num_sim h
  obtain ⟨c, d⟩ := num_sim b
  exact ⟨by unfold rowV7; rw [a, c], d⟩
theorem end_sim {s t : RS} (h : Sim s t) (c : Cf) : endV s c = endV t c := by
  unfold endV
  rw [← h.f, ← h.g]
  by_cases hf : s.f = 0
  · rw [h.bs hf]
  · rw [if_pos hf, if_pos hf]
theorem tail_sim {s t : RS} (h : Sim s t) (l : List Sym) (m : Nat) : tailV numS l m s = tailV numT l m t := by
  unfold tailV
  obtain ⟨a, b⟩ := seq_sim row_sim h m
  obtain ⟨c, d⟩ := seq_sim (fun _ _ => num_sim) b 6
  rw [a, c]
  exact end_sim d _
theorem tail_bad {s : RS} (h : s.f ≠ 0) (l : List Sym) (m : Nat) : tailV numT l m s = (cf0, s.f) := by
  have h1 : (seqV (rowV7 numT) m s).2 = s := seq_bad (fun u hu => by unfold rowV7; rw [numT_bad hu]; simp only; rw [numT_bad hu]) h m
  unfold tailV
  rw [h1, seq_bad (fun u hu => by rw [numT_bad hu]) h 6]
  exact if_pos h
/-- A count: alike, or the document's reader has a fault. -/
theorem cnt_sim {s t : RS} (h : Sim s t) (m : Nat) (hm : m ≤ 20) : (m < (cntS s).1 → (cntT m ⟨t.bs, t.f, false⟩).2.f = 4) ∧ ((cntS s).1 ≤ m → (cntT m ⟨t.bs, t.f, false⟩).1.toNat = (cntS s).1 ∧ (cntT m ⟨t.bs, t.f, false⟩).2.g = false ∧ (cntS s).2.f = (cntT m ⟨t.bs, t.f, false⟩).2.f ∧ ((cntS s).2.f = 0 → (cntS s).2.bs = (cntT m ⟨t.bs, t.f, false⟩).2.bs)) := by
  obtain ⟨bs, f, g⟩ := s
  obtain ⟨bt, f', g'⟩ := t
  obtain ⟨h1, h2, h3⟩ := h
  simp only at h1 h2 h3 ⊢
  subst h1 h2
  unfold cntS cntT
  simp only
  by_cases hf : f = 0
  · subst hf
    obtain rfl := h3 rfl
    obtain ⟨q1, q2, q3, q4⟩ := numQ7_is bs
    unfold numT
    simp only
    rw [q1]
    generalize numR bs 0 = r at q1 q2 q3 q4 ⊢
    generalize numQ7 bs 0 = r' at q1 q2 q3 ⊢
    obtain ⟨n, cs, k⟩ := r
    obtain ⟨n', cs', k'⟩ := r'
    simp only at q1 q2 q3 q4 ⊢
    subst q1 q2
    refine ⟨fun hn => ?_, fun hn => ?_⟩
    · have hk : k' = 0 := by
        by_cases hk : k' = 0
        · exact hk
        · have := q4 hk; omega
      subst hk
      by_cases hb : 4611686018427387904 < n'
      · simp [hb]
      · have : (m : Int) < (n' : Int) := by omega
        simp [hb, this]
    · have hb : ¬ 4611686018427387904 < n' := by omega
      have hc : ¬ (m : Int) < (n' : Int) := by omega
      rw [if_neg hb]
      simp only
      rw [if_neg (by simp; intro _; omega)]
      exact ⟨by simp, rfl, rfl, fun k => (q3 k).symm⟩
  · rw [numR_bad hf, numT_bad (s := ⟨bt, f, false⟩) hf]
    simp only
    refine ⟨fun h => by omega, fun _ => ?_⟩
    rw [if_neg (fun k => hf k.1)]
    exact ⟨rfl, rfl, rfl, fun k => absurd k hf⟩
theorem read_same (bs : List Int) : readS bs = readT bs := by
  unfold readS readT
  obtain ⟨a1, a2⟩ := cnt_sim (s := ⟨bs, 0, false⟩) (t := ⟨bs, 0, false⟩) ⟨rfl, rfl, fun _ => rfl⟩ 8 (by omega)
  simp only at a1 a2
  have hgs : (cntS ⟨bs, 0, false⟩).2.g = false := rfl
  generalize cntS ⟨bs, 0, false⟩ = c1 at a1 a2 hgs ⊢
  rw [show ((8 : Nat) : Int) = 8 from rfl] at a1 a2
  generalize cntT 8 ⟨bs, 0, false⟩ = d1 at a1 a2 ⊢
  by_cases h8 : 8 < c1.1
  · rw [if_pos h8]
    have hf : d1.2.f ≠ 0 := by rw [a1 h8]; decide
    have h1 : (seqV (symV7 numT) d1.1.toNat d1.2).2 = d1.2 := seq_bad (fun u hu => by unfold symV7; exact seq_bad (fun v hv => by rw [numT_bad hv]) hu 16) hf _
    rw [h1]
    have h2 : rowsT d1.2 = (0, d1.2) := by
      unfold rowsT cntT
      rw [numT_bad (s := ⟨d1.2.bs, d1.2.f, false⟩) hf]
      simp only
      rw [if_neg (fun k => hf k.1)]
      simp
    rw [h2, tail_bad hf, a1 h8]
  · rw [if_neg h8]
    obtain ⟨b1, b2, b3, b4⟩ := a2 (by omega)
    rw [b1]
    obtain ⟨e1, e2⟩ := seq_sim sym_sim (s := c1.2) (t := d1.2) ⟨b3, by rw [hgs, b2], b4⟩ c1.1
    rw [e1]
    generalize seqV (symV7 numS) c1.1 c1.2 = L at e1 e2 ⊢
    generalize seqV (symV7 numT) c1.1 d1.2 = M at e1 e2 ⊢
    obtain ⟨p1, p2⟩ := cnt_sim e2 20 (by omega)
    rw [show ((20 : Nat) : Int) = 20 from rfl] at p1 p2
    have hg2 : (cntS L.2).2.g = L.2.g := rfl
    unfold rowsT
    generalize cntS L.2 = c2 at p1 p2 hg2 ⊢
    generalize cntT 20 ⟨M.2.bs, M.2.f, false⟩ = d2 at p1 p2 ⊢
    simp only
    by_cases h20 : 20 < c2.1
    · rw [if_pos h20]
      rw [tail_bad (by simp only; rw [p1 h20]; decide)]
      simp only
      rw [p1 h20]
    · rw [if_neg h20]
      obtain ⟨r1, r2, r3, r4⟩ := p2 (by omega)
      rw [r1]
      exact tail_sim (t := ⟨d2.2.bs, d2.2.f, d2.2.g || M.2.g⟩) ⟨r3, by rw [hg2, e2.g]; show M.2.g = (d2.2.g || M.2.g); rw [r2]; rfl, r4⟩ _ _
end Go.Proofs.Ytfbpmngdamaobaa
/- Configurations (layer 7) are read: what is read is of 64 bits. No program. -/
namespace Go.Proofs.Ytfbpmngdamaobaa
open Go.RowKit
theorem numS_I (s : RS) : I64 (numS s).1 := by
  unfold numS
  split
  · constructor <;> simp
  · constructor <;> simp only <;> omega
theorem seqV_all {α : Type} {rd : RS → α × RS} {P : α → Prop} (h : ∀ s, P (rd s).1) (s : RS) : ∀ n, ∀ a ∈ (seqV rd n s).1, P a
  | 0, a, ha => by rw [seqV_zero] at ha; exact absurd ha (List.not_mem_nil)
  | n + 1, a, ha => by
    rw [seqV_succ] at ha
    simp only [List.mem_append, List.mem_singleton] at ha
    rcases ha with ha | rfl
    · exact seqV_all h s n a ha
    · exact h _
theorem getD_I {l : List Int} (h : ∀ a ∈ l, I64 a) (i : Nat) : I64 (l.getD i 0) := by
  rw [List.getD_eq_getElem?_getD]
  cases hi : l[i]? with
  | none => constructor <;> simp
  | some a => exact h a (List.mem_of_getElem? hi)
theorem symOf_I {l : List Int} (h : ∀ a ∈ l, I64 a) : (symOf l).I :=
  ⟨getD_I h _, getD_I h _, getD_I h _, getD_I h _, getD_I h _, getD_I h _, getD_I h _, getD_I h _, getD_I h _, getD_I h _, getD_I h _, getD_I h _, getD_I h _, getD_I h _, getD_I h _, getD_I h _⟩
theorem syms_I (n : Nat) (s : RS) : ∀ a ∈ (seqV (symV7 numS) n s).1, a.I := seqV_all (P := fun (a : Sym) => a.I) (fun s => symOf_I (fun a ha => seqV_all (P := I64) numS_I s 16 a ha)) s n
theorem rows_I (n : Nat) (s : RS) : ∀ a ∈ (seqV (rowV7 numS) n s).1, a.I := seqV_all (P := fun (a : Rw) => a.I) (fun s => ⟨numS_I _, numS_I _⟩) s n
end Go.Proofs.Ytfbpmngdamaobaa
/- Configurations (layer 7) are read, 5: the state of the program's reading. No program. -/
namespace Go.Proofs.Ytfbpmngdamaobaa
open Go.RowKit
theorem cellsAt_sameY {W : World} {bl : List Nat} (x : Same W bl) (n : Nat) (h : n ∈ bl) : cellsAt x.1 n = cellsAt W n := by
  unfold cellsAt
  rw [x.2 n h]
/-- A reading is under way: the reader, the blocks told, a row of the call's own. -/
structure RdS (w wr : World) (g q : Nat) (A0 : Option Addr) (s : RS) (L : List Blk) (e : TypeId) (size : Nat) (B : Option Addr) (n c : Nat) (xs : List Value) : Prop where
  ext : Ext w wr
  rd : ∃ A, CRd wr g q A s ∧ ablk A = ablk A0
  fresh : w.heap.size ≤ g ∧ w.heap.size ≤ q ∧ ∀ k ∈ ablk A0, w.heap.size ≤ k
  kept : ∀ b ∈ L, At wr b.b b.t b.cs ∧ w.heap.size ≤ b.b ∧ b.b ≠ g ∧ b.b ≠ q ∧ b.b ∉ ablk A0
  nd : (L.map Blk.b).Nodup
  row : Row wr e size B n c xs
  own : ∀ k ∈ ablk B, w.heap.size ≤ k ∧ k < wr.heap.size ∧ k ≠ g ∧ k ≠ q ∧ k ∉ ablk A0 ∧ k ∉ L.map Blk.b
section
variable {w wr w' : World} {g q : Nat} {A0 : Option Addr} {s s' : RS} {L M : List Blk} {e : TypeId} {size : Nat} {B : Option Addr} {n c : Nat} {xs : List Value}
theorem RdS.ltA (h : RdS w wr g q A0 s L e size B n c xs) : g < wr.heap.size ∧ q < wr.heap.size ∧ ∀ k ∈ ablk A0, k < wr.heap.size ∧ k ≠ g ∧ k ≠ q := by
  obtain ⟨A, hA, hb⟩ := h.rd
  exact ⟨hA.lt.1, hA.lt.2, fun k hk => ⟨(hA.rd.alt k (hb ▸ hk)).1, hA.alt k (hb ▸ hk), (hA.rd.alt k (hb ▸ hk)).2⟩⟩
theorem RdS.extR (h : RdS w wr g q A0 s L e size B n c xs) (hx : Ext wr w') : RdS w w' g q A0 s L e size B n c xs :=
  ⟨h.ext.trans hx, let ⟨A, hA, hb⟩ := h.rd; ⟨A, hA.ext hx, hb⟩, h.fresh, fun b hb => ⟨(h.kept b hb).1.ext hx, (h.kept b hb).2⟩, h.nd, h.row.ext hx, fun k hk => ⟨(h.own k hk).1, Nat.lt_of_lt_of_le (h.own k hk).2.1 hx.size, (h.own k hk).2.2⟩⟩
theorem RdS.less (h : RdS w wr g q A0 s L e size B n c xs) (hs : M.Sublist L) : RdS w wr g q A0 s M e size B n c xs :=
  ⟨h.ext, h.rd, h.fresh, fun b hb => h.kept b (hs.subset hb), h.nd.sublist (hs.map _), h.row, fun k hk => ⟨(h.own k hk).1, (h.own k hk).2.1, (h.own k hk).2.2.1, (h.own k hk).2.2.2.1, (h.own k hk).2.2.2.2.1, fun hm => (h.own k hk).2.2.2.2.2 ((hs.map _).subset hm)⟩⟩
theorem RdS.new (h : RdS w wr g q A0 s L e size B n c xs) (t : TypeId) (cs : Array Value) : RdS w (wr.alloc (.cells cs t)) g q A0 s (⟨wr.heap.size, t, cs⟩ :: L) e size B n c xs := by
  obtain ⟨g1, g2, g3⟩ := h.ltA
  have hx : Ext wr (wr.alloc (.cells cs t)) := (Ext.refl _).alloc _
  have h1 := h.extR hx
  refine ⟨h1.ext, h1.rd, h1.fresh, fun b hb => ?_, ?_, h1.row, fun k hk => ?_⟩
  · rcases List.mem_cons.1 hb with rfl | hb
    · refine ⟨At.new _ _ _, h.ext.size, ?_, ?_, fun hm => ?_⟩
      · show wr.heap.size ≠ g; omega
      · show wr.heap.size ≠ q; omega
      · have := (g3 _ hm).1; simp at this
    · exact h1.kept b hb
  · rw [List.map_cons, List.nodup_cons]
    refine ⟨fun hm => ?_, h.nd⟩
    obtain ⟨b, hb, he⟩ := List.mem_map.1 hm
    have := (h.kept b hb).1.lt
    simp only at he
    omega
  · obtain ⟨o1, o2, o3, o4, o5, o6⟩ := h.own k hk
    refine ⟨o1, by simp; omega, o3, o4, o5, fun hm => ?_⟩
    rw [List.map_cons, List.mem_cons] at hm
    rcases hm with hm | hm
    · simp only at hm; omega
    · exact o6 hm
/-- A number is read. -/
theorem RdS.num (h : RdS w wr g q A0 s L e size B n c xs) {A A' : Option Addr} (hb : ablk A = ablk A0) (hr : CReads wr g q A s' w' A') : RdS w w' g q A0 s' L e size B n c xs := by
  refine ⟨hr.chg.extOfY h.ext (fun i hi => ?_), ⟨A', hr.rd, hr.blk.trans hb⟩, h.fresh, fun b hb => ⟨hr.chg.at (h.kept b hb).1 (fun hm => ?_), (h.kept b hb).2⟩, h.nd, h.row.chg hr.chg (fun k hk hm => ?_), fun k hk => ⟨(h.own k hk).1, Nat.lt_of_lt_of_le (h.own k hk).2.1 hr.chg.size, (h.own k hk).2.2⟩⟩
  · simp at hi
    rcases hi with rfl | rfl
    · exact h.fresh.1
    · exact h.fresh.2.1
  · have := (h.kept b hb).2
    simp at hm
    rcases hm with hm | hm
    · exact this.2.1 hm
    · exact this.2.2.1 hm
  · have := h.own k hk
    simp at hm
    rcases hm with hm | hm
    · exact this.2.2.1 hm
    · exact this.2.2.2.1 hm
/-- The block told first gets other cells. -/
theorem RdS.put {b : Nat} {t : TypeId} {cs cs' : Array Value} (h : RdS w wr g q A0 s (⟨b, t, cs⟩ :: L) e size B n c xs) (hc : Chg wr w' [b]) (ha : At w' b t cs') : RdS w w' g q A0 s (⟨b, t, cs'⟩ :: L) e size B n c xs := by
  have hk := h.kept ⟨b, t, cs⟩ (by simp)
  simp only at hk
  have hnd := h.nd
  rw [List.map_cons, List.nodup_cons] at hnd
  obtain ⟨A, hA, hb⟩ := h.rd
  refine ⟨hc.extOfY h.ext (fun i hi => ?_), ⟨A, hA.chg hc (fun hm => ?_) (fun hm => ?_) (fun k hk1 hm => ?_), hb⟩, h.fresh, fun d hd => ?_, h.nd, h.row.chg hc (fun k hk1 hm => ?_), fun k hk1 => ⟨(h.own k hk1).1, Nat.lt_of_lt_of_le (h.own k hk1).2.1 hc.size, (h.own k hk1).2.2⟩⟩
  · simp at hi
    subst hi
    exact hk.2.1
  · simp at hm; exact hk.2.2.1 hm.symm
  · simp at hm; exact hk.2.2.2.1 hm.symm
  · simp at hm; subst hm; rw [hb] at hk1; exact hk.2.2.2.2 hk1
  · rcases List.mem_cons.1 hd with rfl | hd
    · exact ⟨ha, hk.2⟩
    · have := h.kept d (List.mem_cons_of_mem _ hd)
      refine ⟨hc.at this.1 (fun hm => ?_), this.2⟩
      simp at hm
      exact hnd.1 (List.mem_map.2 ⟨d, hd, hm⟩)
  · simp at hm
    subst hm
    exact (h.own k hk1).2.2.2.2.2 (by simp)
/-- The row grows. -/
theorem RdS.app {B' : Option Addr} {n' c' : Nat} {xs' : List Value} (h : RdS w wr g q A0 s L e size B n c xs) (hR : Row w' e size B' n' c' xs') (hC : Chg wr w' (ablk B)) (hf : ∀ k ∈ ablk B', k ∈ ablk B ∨ (wr.heap.size ≤ k ∧ k < w'.heap.size)) : RdS w w' g q A0 s L e size B' n' c' xs' := by
  obtain ⟨g1, g2, g3⟩ := h.ltA
  obtain ⟨A, hA, hb⟩ := h.rd
  have hes := h.ext.size
  refine ⟨hC.extOfY h.ext (fun i hi => (h.own i hi).1), ⟨A, hA.chg hC (fun hm => (h.own _ hm).2.2.1 rfl) (fun hm => (h.own _ hm).2.2.2.1 rfl) (fun k hk hm => (h.own _ hm).2.2.2.2.1 (hb ▸ hk)), hb⟩, h.fresh, fun b hb => ⟨hC.at (h.kept b hb).1 (fun hm => (h.own _ hm).2.2.2.2.2 (List.mem_map.2 ⟨b, hb, rfl⟩)), (h.kept b hb).2⟩, h.nd, hR, fun k hk => ?_⟩
  rcases hf k hk with h1 | h1
  · obtain ⟨o1, o2, o3⟩ := h.own k h1
    exact ⟨o1, Nat.lt_of_lt_of_le o2 hC.size, o3⟩
  · refine ⟨by omega, h1.2, by omega, by omega, fun hm => by have := (g3 k hm).1; omega, fun hm => ?_⟩
    obtain ⟨b, hb, rfl⟩ := List.mem_map.1 hm
    have := (h.kept b hb).1.lt
    omega
/-- The row is whole: it lies among the blocks told; another one begins. -/
theorem RdS.turn (h : RdS w wr g q A0 s L e size B n c xs) (e2 : TypeId) (size2 : Nat) : ∃ L', L.Sublist L' ∧ RdS w wr g q A0 s L' e2 size2 none 0 0 [] ∧ ∀ w', (∀ b ∈ L', At w' b.b b.t b.cs) → Row w' e size B n c xs := by
  by_cases hc : 0 < c
  · obtain ⟨k, off, cur, rfl, h1, h2⟩ := h.row.at_ hc
    obtain ⟨o1, o2, o3, o4, o5, o6⟩ := h.own k (by simp [ablk])
    refine ⟨⟨k, e, cur⟩ :: L, List.sublist_cons_self _ _, ⟨h.ext, h.rd, h.fresh, fun b hb => ?_, ?_, Row.nil _ _ _ _, by simp [ablk]⟩, fun w' hk => ?_⟩
    · rcases List.mem_cons.1 hb with rfl | hb
      · exact ⟨h1, o1, o3, o4, o5⟩
      · exact h.kept b hb
    · rw [List.map_cons, List.nodup_cons]
      exact ⟨o6, h.nd⟩
    · refine h.row.kept fun j hj _ => ?_
      obtain rfl : j = k := by simpa [ablk] using hj
      exact (hk ⟨j, e, cur⟩ (by simp)).trans h1.symm
  · obtain rfl : c = 0 := by omega
    refine ⟨L, List.Sublist.refl _, ⟨h.ext, h.rd, h.fresh, h.kept, h.nd, Row.nil _ _ _ _, by simp [ablk]⟩, fun w' _ => ?_⟩
    exact ⟨h.row.le, h.row.max, h.row.len, fun h0 => absurd h0 (by omega)⟩
theorem RdS.start {w1 : World} {q : Nat} {A : Option Addr} {bs : List Int} {f : Int} (h : Rdr w1 q A bs f) (hx : Ext w w1) (hq : w.heap.size ≤ q) (hA : ∀ k ∈ ablk A, w.heap.size ≤ k) (e : TypeId) (size : Nat) : RdS w (w1.alloc (.cells #[.pointer (some ⟨q, 0, none⟩), .bool false] 85)) w1.heap.size q A ⟨bs, f, false⟩ [] e size none 0 0 [] := by
  have hql : q < w1.heap.size := let ⟨_, hA, _⟩ := h.ex; hA.lt
  refine ⟨hx.alloc _, ⟨A, ⟨At.new _ _ _, h.ext ((Ext.refl _).alloc _), by omega, fun k hk => by have := (h.alt k hk).1; omega⟩, rfl⟩, ⟨hx.size, hq, hA⟩, by simp, by simp, Row.nil _ _ _ _, by simp [ablk]⟩
/-- A block that lies there is told too. -/
theorem RdS.hold (h : RdS w wr g q A0 s L e size B n c xs) {b : Nat} {t : TypeId} {cs : Array Value} (ha : At wr b t cs) (h1 : w.heap.size ≤ b) (h2 : b ≠ g) (h3 : b ≠ q) (h4 : b ∉ ablk A0) (h5 : b ∉ L.map Blk.b) (h6 : b ∉ ablk B) : RdS w wr g q A0 s (⟨b, t, cs⟩ :: L) e size B n c xs := by
  refine ⟨h.ext, h.rd, h.fresh, fun d hd => ?_, ?_, h.row, fun k hk => ?_⟩
  · rcases List.mem_cons.1 hd with rfl | hd
    · exact ⟨ha, h1, h2, h3, h4⟩
    · exact h.kept d hd
  · rw [List.map_cons, List.nodup_cons]
    exact ⟨h5, h.nd⟩
  · obtain ⟨o1, o2, o3, o4, o5, o6⟩ := h.own k hk
    refine ⟨o1, o2, o3, o4, o5, fun hm => ?_⟩
    rw [List.map_cons, List.mem_cons] at hm
    rcases hm with hm | hm
    · simp only at hm; subst hm; exact h6 hk
    · exact o6 hm
theorem RdS.perm (h : RdS w wr g q A0 s L e size B n c xs) (hp : L.Perm M) : RdS w wr g q A0 s M e size B n c xs :=
  ⟨h.ext, h.rd, h.fresh, fun b hb => h.kept b (hp.mem_iff.2 hb), (hp.map _).nodup_iff.1 h.nd, h.row, fun k hk => ⟨(h.own k hk).1, (h.own k hk).2.1, (h.own k hk).2.2.1, (h.own k hk).2.2.2.1, (h.own k hk).2.2.2.2.1, fun hm => (h.own k hk).2.2.2.2.2 ((hp.map _).mem_iff.2 hm)⟩⟩
/-- .. at the end of those told. -/
theorem RdS.turnE (h : RdS w wr g q A0 s L e size B n c xs) (e2 : TypeId) (size2 : Nat) : ∃ Z, RdS w wr g q A0 s (L ++ Z) e2 size2 none 0 0 [] ∧ ∀ w', (∀ b ∈ Z, At w' b.b b.t b.cs) → Row w' e size B n c xs := by
  by_cases hc : 0 < c
  · obtain ⟨k, off, cur, rfl, h1, h2⟩ := h.row.at_ hc
    obtain ⟨o1, o2, o3, o4, o5, o6⟩ := h.own k (by simp [ablk])
    have h3 : RdS w wr g q A0 s L e2 size2 none 0 0 [] := ⟨h.ext, h.rd, h.fresh, h.kept, h.nd, Row.nil _ _ _ _, by simp [ablk]⟩
    refine ⟨[⟨k, e, cur⟩], (h3.hold h1 o1 o3 o4 o5 o6 (by simp [ablk])).perm (List.perm_append_comm (l₁ := [_])), fun w' hk => ?_⟩
    refine h.row.kept fun j hj _ => ?_
    obtain rfl : j = k := by simpa [ablk] using hj
    exact (hk ⟨j, e, cur⟩ (by simp)).trans h1.symm
  · obtain rfl : c = 0 := by omega
    refine ⟨[], ?_, fun w' _ => ⟨h.row.le, h.row.max, h.row.len, fun h0 => absurd h0 (by omega)⟩⟩
    rw [List.append_nil]
    exact ⟨h.ext, h.rd, h.fresh, h.kept, h.nd, Row.nil _ _ _ _, by simp [ablk]⟩
end
end Go.Proofs.Ytfbpmngdamaobaa
