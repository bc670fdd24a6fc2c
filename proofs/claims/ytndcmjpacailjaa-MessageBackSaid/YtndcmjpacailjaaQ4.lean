/- Law OctetsReads, 1: what the document reads of one thing; it is what a reader tells. No condition. -/
import Derived.Test.YtndcmjpacailjaaQ3
namespace Go.Proofs.Ytndcmjpacailjaa
open Go.RowKit
attribute [local go_sem] Later.cell QUpon_value QUpon_enter MUpon_value run_eql_slice_nil
attribute [local go_sem ↓ high] loadPrt_is storePrt_is
attribute [local go_sem] run_loadPrt run_loadPrt_at run_storePrt one_int one_bool one_slice one_ptr one_str setRow_new setRow_past cell_ca frozen_ca cellsAt_alloc_at cellsAt_alloc_past cellsAt_drew cellsAt_later cellsAt_setCell cellsAt_set_same cellsAt_setRow_same cellsAt_setRow_far subAt_alloc subAt_drew subAt_later subAt_setCell subAt_setRow ltn_2 ltn_3 ltn_4 ltn_5
def readR (k z : Int) (bs : List Int) : Nat × Int × List Int × Int × Int :=
  if k = 1 then (if 1 ≤ z ∧ z ≤ 8 then ((uintP bs z.toNat).1, 0, [], (uintP bs z.toNat).2.1, (uintP bs z.toNat).2.2) else (0, 0, [], 0, 0))
  else if k = 2 then (0, backN (uintP bs 8).1, [], (uintP bs 8).2.1, (uintP bs 8).2.2)
  else if k = 3 then ((numP bs).1, 0, [], (numP bs).2.1, (numP bs).2.2)
  else if k = 4 then (if z < 0 then (0, 0, [], 0, 0) else (0, 0, (rawP bs z.toNat).1, (rawP bs z.toNat).2.1, (rawP bs z.toNat).2.2))
  else (0, 0, [], 0, 0)
theorem numG_is : ∀ (k i acc : Nat) (bs : List Int), (∃ s, s ≤ bs.length ∧ (numG k i acc bs).2.1 = bs.drop s) ∧ ((numG k i acc bs).2.2 ≠ 0 → (numG k i acc bs).1 = 0)
  | 0, i, acc, bs => ⟨⟨0, Nat.zero_le _, rfl⟩, fun _ => rfl⟩
  | k + 1, i, acc, [] => ⟨⟨0, Nat.zero_le _, rfl⟩, fun _ => rfl⟩
  | k + 1, i, acc, b :: bs => by
    have ih := numG_is k (i + 1) (acc + b.toNat % 128 * 128 ^ i) bs
    unfold numG
    split
    · exact ⟨⟨1, by simp, rfl⟩, fun _ => rfl⟩
    split
    · obtain ⟨⟨s, h1, h2⟩, h3⟩ := ih
      exact ⟨⟨s + 1, by simpa using h1, by rw [h2]; rfl⟩, h3⟩
    split
    · exact ⟨⟨1, by simp, rfl⟩, fun _ => rfl⟩
    · exact ⟨⟨1, by simp, rfl⟩, fun h => absurd rfl h⟩
/-- Bytes that lie in a row as long as that row reads as it did. -/
def RawOf (B : Option Addr) (bs : List Int) (v : Value) (raw : List Int) : Prop := ∃ R d, v = .slice R raw.length d ∧ ∀ W, Src W 1 B bs.length (bc bs) → Src W 1 R raw.length (bc raw)
theorem RawOf.nil (B : Option Addr) (bs : List Int) : RawOf B bs (.slice none 0 0) [] := ⟨none, 0, rfl, fun _ _ => ⟨rfl, fun h => absurd h (by decide)⟩⟩
/-- What both tell is the same. -/
structure GotIs (g : Nat × Int × List Int × List Int × Int) (r : Nat × Int × List Int × Int × Int) (bs : List Int) : Prop where
  n : g.1 = r.1
  s : g.2.1 = r.2.1
  raw : g.2.2.1 = r.2.2.1
  f : g.2.2.2.2 = r.2.2.2.2
  rest : g.2.2.2.1.length ≤ bs.length
  size : ∃ s : Nat, r.2.2.2.1 = s ∧ s ≤ bs.length ∧ (r.2.2.2.2 = 0 → g.2.2.2.1 = bs.drop s)
theorem uint_is (bs : List Int) (z : Nat) : (uintR bs 0 z).1 = (uintP bs z).1 ∧ (uintR bs 0 z).2.2 = (uintP bs z).2.2 ∧ (uintR bs 0 z).2.1.length ≤ bs.length ∧ ∃ s : Nat, (uintP bs z).2.1 = s ∧ s ≤ bs.length ∧ ((uintP bs z).2.2 = 0 → (uintR bs 0 z).2.1 = bs.drop s) := by
  unfold uintR uintP
  rw [if_neg (by simp)]
  by_cases h : bs.length < z
  · simp only [h, if_true]
    exact ⟨by trivial, by trivial, Nat.le_refl _, 0, rfl, by omega, fun h => absurd h (by decide)⟩
  · simp only [h, if_false]
    exact ⟨by trivial, by trivial, by simp only [List.length_drop]; omega, z, rfl, by omega, fun _ => rfl⟩
theorem got_is (k z : Int) (bs : List Int) : GotIs (gotR k z bs 0) (readR k z bs) bs := by
  unfold gotR readR
  by_cases h1 : k = 1
  · simp only [h1, if_true]
    by_cases hz : 1 ≤ z ∧ z ≤ 8
    · simp only [hz, and_self, if_true]
      obtain ⟨a, b, d, c⟩ := uint_is bs z.toNat
      exact ⟨a, rfl, rfl, b, d, c⟩
    · simp only [hz, if_false]
      exact ⟨rfl, rfl, rfl, rfl, Nat.le_refl _, 0, rfl, by omega, fun _ => rfl⟩
  simp only [h1, if_false]
  by_cases h2 : k = 2
  · simp only [h2, if_true]
    obtain ⟨a, b, d, c⟩ := uint_is bs 8
    exact ⟨rfl, by simp only [a], rfl, b, d, c⟩
  simp only [h2, if_false]
  by_cases h3 : k = 3
  · simp only [h3, if_true]
    have hg := numG_is 10 0 0 bs
    unfold numR numP
    rw [if_neg (by simp)]
    generalize numG 10 0 0 bs = r at hg ⊢
    obtain ⟨n, cs, f⟩ := r
    obtain ⟨⟨s, hs, e⟩, hf⟩ := hg
    simp only at e hf ⊢
    subst e
    by_cases h : f = 0
    · subst h
      simp only [if_true]
      exact ⟨rfl, rfl, rfl, rfl, by simp only [List.length_drop]; omega, s, by simp only [List.length_drop]; omega, hs, fun _ => rfl⟩
    · simp only [h, if_false]
      exact ⟨hf h, rfl, rfl, rfl, by simp only [List.length_drop]; omega, 0, rfl, by omega, fun h1 => absurd h1 h⟩
  simp only [h3, if_false]
  by_cases h4 : k = 4
  · simp only [h4, if_true]
    by_cases hz : z < 0
    · simp only [hz, if_true]
      exact ⟨rfl, rfl, rfl, rfl, Nat.le_refl _, 0, rfl, by omega, fun _ => rfl⟩
    · simp only [hz, if_false]
      unfold rawR rawP
      rw [if_neg (by simp)]
      by_cases h : bs.length < z.toNat
      · simp only [h, if_true]
        exact ⟨rfl, rfl, rfl, rfl, Nat.le_refl _, 0, rfl, by omega, fun h => absurd h (by decide)⟩
      · simp only [h, if_false]
        exact ⟨rfl, rfl, rfl, rfl, by simp only [List.length_drop]; omega, z.toNat, rfl, by omega, fun _ => rfl⟩
  · simp only [h4, if_false]
    exact ⟨rfl, rfl, rfl, rfl, Nat.le_refl _, 0, rfl, by omega, fun _ => rfl⟩
/-- Behind a fault nothing comes. -/
theorem got_bad (k z : Int) (bs : List Int) (f : Int) (hf : f ≠ 0) : gotR k z bs f = (0, 0, [], bs, f) := by
  have e8 : ∀ m, uintR bs f m = (0, bs, f) := fun m => if_pos hf
  have en : numR bs f = (0, bs, f) := if_pos hf
  have er : ∀ m, rawR bs f m = ([], bs, f) := fun m => if_pos hf
  unfold gotR
  simp only [e8, en, er, show backN 0 = 0 by decide, ite_self]
theorem raw_byt {bs : List Int} (h : Byt bs) (k z : Int) : Byt (readR k z bs).2.2.1 := by
  have hn : Byt [] := fun x hx => by cases hx
  unfold readR
  split
  · split <;> exact hn
  split
  · exact hn
  split
  · exact hn
  split
  · split
    · exact hn
    · unfold rawP
      split
      · exact hn
      · exact fun x hx => h x (List.mem_of_mem_take hx)
  · exact hn
end Go.Proofs.Ytndcmjpacailjaa
