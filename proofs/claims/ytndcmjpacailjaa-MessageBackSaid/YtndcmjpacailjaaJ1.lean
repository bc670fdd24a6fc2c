/- Lists of bytes: as they come in; rows of the call's own that hold such; what a stream's frames are (plain). No condition. -/
import Derived.Test.YtndcmjpacailjaaH2
import Derived.Test.YtndcmjpacailjaaSb
import Derived.Test.YtndcmjpacailjaaOw
namespace Go.Proofs.Ytndcmjpacailjaa
open Go.RowKit Go.WideShapes Go.ChangeShapes Go.Deep Go.Joins
structure Bl where
  A : Option Addr
  c : Nat
  l : List Bs
def Bl.v (x : Bl) : Value := .slice x.A x.l.length x.c
structure Bl.At (x : Bl) (w : World) : Prop where
  le : x.l.length ≤ x.c
  max : x.c ≤ maxLen
  src : Src w 1 x.A x.l.length (x.l.map Bs.v)
  ok : ∀ p ∈ x.l, p.At w
theorem Bs.At.ext {b : Bs} {w w' : World} (h : b.At w) (hx : Ext w w') : b.At w' := ⟨h.le, h.max, h.src.ext hx, h.byt⟩
theorem Bs.At.chg {b : Bs} {w w' : World} {m : List Nat} (h : b.At w) (hx : Chg w w' m) (hm : ∀ k ∈ ablk b.A, k ∉ m) : b.At w' := ⟨h.le, h.max, h.src.chg hx hm, h.byt⟩
theorem Bl.At.ext {x : Bl} {w w' : World} (h : x.At w) (hx : Ext w w') : x.At w' := ⟨h.le, h.max, h.src.ext hx, fun p hp => (h.ok p hp).ext hx⟩
theorem Bl.At.cell {x : Bl} {w : World} (h : x.At w) (h0 : 0 < x.l.length) : ∃ b off, x.A = some ⟨b, off, none⟩ ∧ b < w.heap.size ∧ ∀ (i : Nat) (hi : i < x.l.length), w.cell? ⟨b, off + i, none⟩ = some x.l[i].v := by
  obtain ⟨b, off, hA, hb, hc⟩ := h.src.lt h0 (by decide)
  refine ⟨b, off, hA, hb, fun i hi => ?_⟩
  rw [hc i (by omega), List.getElem?_map, List.getElem?_eq_getElem hi]
  rfl
instance : Inhabited Bs := ⟨⟨none, 0, []⟩⟩
section
variable {H : Type} {enc : TypeId × Value → H} {w : World}
theorem open_ssuint8 {r : Reach} {b0 : Nat} {v : Value} {d : DataW H} {p : List MemPlace} (hv : Value.okWide Try.prog w r b0 72 v) (h : DataW.Trod enc Try.prog w 0 (fun _ => true) true 72 v d p) (hlt : ∀ x ∈ p, x.block < w.heap.size) : ∃ x : Bl, v = x.v ∧ x.At w := by
  obtain ⟨a, len, cap, rfl⟩ := okWide_slice Try.underlying72 hv
  obtain ⟨fuel, hf⟩ := h
  rcases open_slice Try.underlying72 hf with ⟨hcs, _⟩ | ⟨a, l', c', m, n, D, Pl, hcs, _, hl, hm, hmm, _, hx⟩
  · simp [Value.cells] at hcs
    obtain ⟨rfl, rfl, rfl⟩ := hcs
    exact ⟨⟨none, 0, []⟩, rfl, Nat.le_refl _, Nat.zero_le _, ⟨rfl, fun h0 => absurd h0 (by decide)⟩, by simp⟩
  · simp [Value.cells] at hcs
    obtain ⟨rfl, rfl, rfl⟩ := hcs
    have hlm : len ≤ m := by rw [hmm]; simpa using hl
    have hC : Try.prog.cellsOf 24 = 1 := by kernel_rfl
    obtain ⟨X, hX⟩ := choose_lt (α := Bs) (n := len) (p := fun i q => w.cell? (a.add i) = some q.v ∧ q.At w) (fun i hi => by
      obtain ⟨cs', h1, h2⟩ := hx i (by omega)
      obtain ⟨q, rfl, hq⟩ := trod_bytes h2
      obtain ⟨_, _, h3⟩ := World.cells?_some h1
      rw [hC] at h3
      refine ⟨q, ?_, hq⟩
      have := h3 0 (by decide)
      rwa [add_add, Nat.mul_one, Nat.add_zero] at this)
    have hln : ((List.range len).map X).length = len := by simp
    refine ⟨⟨some a, cap, (List.range len).map X⟩, by unfold Bl.v; rw [hln], by rw [hln]; exact hl, hm, ⟨by simp, fun h0 => ⟨a, rfl, fun j u hj => ?_⟩⟩, fun q hq => ?_⟩
    · have hjl := (List.getElem?_eq_some_iff.1 hj).1
      rw [List.length_map, hln] at hjl
      rw [(hX j hjl).1, ← hj]
      simp [hjl]
    · obtain ⟨i, hi, rfl⟩ := List.mem_map.1 hq
      exact (hX i (List.mem_range.1 hi)).2
end
theorem blInfo : (Try.prog.info? 24).map (fun i => (i.zero, i.size, i.bytes)) = some (some (.slice none 0 0), 1, 24) := by kernel_rfl
/-- Slices of bytes in a row of the call's own. -/
structure OwnB (w0 w : World) (A : Option Addr) (c : Nat) (l : List Bs) : Prop where
  row : Row w 24 1 A l.length c (l.map Bs.v)
  new : ∀ k ∈ ablk A, w0.heap.size ≤ k ∧ k < w.heap.size
  ok : ∀ p ∈ l, p.At w
  raw : ∀ p ∈ l, ∀ k ∈ ablk p.A, k < w.heap.size ∧ k ∉ ablk A
theorem OwnB.nil (w0 w : World) : OwnB w0 w none 0 [] := ⟨Row.nil _ _ _ _, by simp [ablk], by simp, by simp⟩
theorem OwnB.at_ {w0 w : World} {A : Option Addr} {c : Nat} {l : List Bs} (h : OwnB w0 w A c l) : (⟨A, c, l⟩ : Bl).At w := ⟨h.row.le, h.row.max, h.row.src, h.ok⟩
theorem OwnB.chg {w0 w w' : World} {A : Option Addr} {c : Nat} {l : List Bs} {m : List Nat} (h : OwnB w0 w A c l) (hx : Chg w w' m) (hm : ∀ k ∈ m, k ∉ ablk A) (hr : ∀ p ∈ l, ∀ k ∈ ablk p.A, k ∉ m) : OwnB w0 w' A c l :=
  ⟨h.row.chg hx (fun k hk h1 => hm k h1 hk), fun k hk => ⟨(h.new k hk).1, Nat.lt_of_lt_of_le (h.new k hk).2 hx.size⟩, fun p hp => (h.ok p hp).chg hx (hr p hp), fun p hp k hk => ⟨Nat.lt_of_lt_of_le (h.raw p hp k hk).1 hx.size, (h.raw p hp k hk).2⟩⟩
theorem OwnB.ext {w0 w w' : World} {A : Option Addr} {c : Nat} {l : List Bs} (h : OwnB w0 w A c l) (hx : Ext w w') : OwnB w0 w' A c l := h.chg (Chg.of_ext hx []) (by simp) (by simp)
theorem OwnB.base {w0 w1 w : World} {A : Option Addr} {c : Nat} {l : List Bs} (h : OwnB w1 w A c l) (hs : w0.heap.size ≤ w1.heap.size) : OwnB w0 w A c l := ⟨h.row, fun k hk => ⟨Nat.le_trans hs (h.new k hk).1, (h.new k hk).2⟩, h.ok, h.raw⟩
theorem OwnB.app {w0 w w' : World} {A A' : Option Addr} {c c' n k : Nat} {l ms : List Bs} {ys : List Value} (h : OwnB w0 w A c l) (hp : ∀ p ∈ ms, p.At w) (hpr : ∀ p ∈ ms, ∀ k ∈ ablk p.A, k < w.heap.size ∧ k ∉ ablk A) (hC : Chg w w' (ablk A)) (hR : Row w' 24 1 A' (n + k) c' (l.map Bs.v ++ ys)) (hn' : n = l.length) (hk : k = ms.length) (hys : ys = ms.map Bs.v) (hn : ∀ k ∈ ablk A', k ∈ ablk A ∨ (w.heap.size ≤ k ∧ k < w'.heap.size)) (hw : w0.heap.size ≤ w.heap.size) : OwnB w0 w' A' c' (l ++ ms) := by
  have hs := hC.size
  subst hn' hk hys
  refine ⟨?_, fun k hk => ?_, fun q hq => ?_, fun q hq k hk => ?_⟩
  · rw [List.length_append, List.map_append]
    exact hR
  · rcases hn k hk with h1 | h1
    · have := h.new k h1; omega
    · omega
  · rcases List.mem_append.1 hq with hq | hq
    · exact (h.ok q hq).chg hC (fun k hk => (h.raw q hq k hk).2)
    · exact (hp q hq).chg hC (fun k hk => (hpr q hq k hk).2)
  · have : k < w.heap.size ∧ k ∉ ablk A := by
      rcases List.mem_append.1 hq with hq | hq
      · exact h.raw q hq k hk
      · exact hpr q hq k hk
    refine ⟨by omega, fun h1 => ?_⟩
    rcases hn k h1 with h2 | h2
    · exact this.2 h2
    · omega
theorem bl_one (l : List Bs) : (l.map Bs.v).all (·.oneCell') = true := by
  rw [List.all_map]
  exact List.all_eq_true.2 (fun _ _ => rfl)
/-! ### the frames of a stream -/
theorem takeL_len (bs : List Int) : (takeL bs).length ≤ 64 := by
  unfold takeL
  split
  · simp
  split
  · simp
  split
  · simp
  · rw [List.length_take]; omega
/-- The payloads, what is left, the fault (0: nothing is wrong, but that more is wanted). -/
def cutN : Nat → List Int → List (List Int) × List Int × Int
  | 0, bs => ([], bs, 3)
  | n + 1, bs => if takeF bs = 0 then (takeL bs :: (cutN n (bs.drop (takeN bs).toNat)).1, (cutN n (bs.drop (takeN bs).toNat)).2) else ([], bs, takeF bs)
theorem takeN_pos {bs : List Int} (h : takeF bs = 0) : 2 ≤ (takeN bs).toNat ∧ (takeN bs).toNat ≤ bs.length ∧ takeN bs = (((takeN bs).toNat : Nat) : Int) := by
  unfold takeF at h
  unfold takeN
  split at h
  · cases h
  split at h
  · cases h
  split at h
  · cases h
  · rename_i h1 h2 h3
    rw [if_neg h1, if_neg h2, if_neg h3]
    omega
theorem takeF_is (bs : List Int) : takeF bs = 0 ∨ takeF bs = 3 ∨ takeF bs = 4 := by
  unfold takeF
  split
  · exact .inr (.inl rfl)
  split
  · exact .inr (.inr rfl)
  split
  · exact .inr (.inl rfl)
  · exact .inl rfl
theorem cutN_more : ∀ (n m : Nat) (bs : List Int), bs.length < n → bs.length < m → cutN n bs = cutN m bs
  | 0, _, _, h, _ => by omega
  | _, 0, _, _, h => by omega
  | n + 1, m + 1, bs, hn, hm => by
    show (if takeF bs = 0 then _ else _) = (if takeF bs = 0 then _ else _)
    by_cases hf : takeF bs = 0
    · obtain ⟨h1, h2, _⟩ := takeN_pos hf
      rw [if_pos hf, if_pos hf, cutN_more n m (bs.drop (takeN bs).toNat) (by rw [List.length_drop]; omega) (by rw [List.length_drop]; omega)]
    · rw [if_neg hf, if_neg hf]
def cut (bs : List Int) : List (List Int) × List Int × Int := cutN (bs.length + 1) bs
theorem cut_no {bs : List Int} (h : takeF bs ≠ 0) : cut bs = ([], bs, takeF bs) := if_neg h
theorem cut_yes {bs : List Int} (h : takeF bs = 0) : cut bs = (takeL bs :: (cut (bs.drop (takeN bs).toNat)).1, (cut (bs.drop (takeN bs).toNat)).2) := by
  obtain ⟨h1, h2, _⟩ := takeN_pos h
  have e : cut bs = (takeL bs :: (cutN bs.length (bs.drop (takeN bs).toNat)).1, (cutN bs.length (bs.drop (takeN bs).toNat)).2) := if_pos h
  rw [e, cutN_more bs.length ((bs.drop (takeN bs).toNat).length + 1) _ (by rw [List.length_drop]; omega) (by omega)]
  rfl
end Go.Proofs.Ytndcmjpacailjaa
