/- The walk of Text of package wide. -/
import Derived.Test.YtkboegmpfdaneaaW2
import Derived.Test.YtkboegmpfdaneaaB1
import Derived.Test.YtkboegmpfdaneaaSh
namespace Go.Proofs.Ytkboegmpfdaneaa
open Go.RowKit
attribute [local go_sem] Later.cell QUpon_value QUpon_enter MUpon_value

/-- A number's digits, the lowest first. -/
def lsd (n : Nat) : List Nat := if h : n / 10 = 0 then [n % 10] else n % 10 :: lsd (n / 10)
termination_by n
decreasing_by omega
theorem lsd_end {n : Nat} (h : n / 10 = 0) : lsd n = [n % 10] := by rw [lsd, dif_pos h]
theorem lsd_more {n : Nat} (h : n / 10 ≠ 0) : lsd n = n % 10 :: lsd (n / 10) := by rw [lsd, dif_neg h]
theorem lsd_len (k : Nat) : ∀ n, n < 10 ^ (k + 1) → (lsd n).length ≤ k + 1 := by
  induction k with
  | zero =>
    intro n h
    rw [lsd_end (by omega)]
    simp
  | succ k ih =>
    intro n h
    by_cases h0 : n / 10 = 0
    · rw [lsd_end h0]; simp
    · rw [lsd_more h0]
      have := ih (n / 10) (by rw [Nat.pow_succ] at h; omega)
      simp; omega
theorem lsd_lt : ∀ n, ∀ d ∈ lsd n, d < 10 := by
  intro n
  induction n using Nat.strongRecOn with
  | ind n ih =>
    by_cases h0 : n / 10 = 0
    · rw [lsd_end h0]; simp; omega
    · rw [lsd_more h0]
      intro d hd
      rcases List.mem_cons.1 hd with rfl | hd
      · omega
      · exact ih _ (by omega) d hd
def dig (d : Nat) : Value := .int .u8 (48 + (d : Int))

/-- The closure's slice, in the cell of block g, owns a row of these bytes. -/
def DigAt (B g : Nat) (bs : List Value) (w : World) (v : Value) : Prop := w.heap[g]? = some (.cells #[v] 55 (0, 0)) ∧ w.ownsRow B 5 1 v bs.length bs ∧ v.ownBlock ≠ some g

/-- What the closure does: one byte more. -/
structure Put (g : Nat) (v : Value) (w w' : World) : Prop where
  os : w'.os = w.os
  tape : w'.tape = w.tape
  output : w'.output = w.output
  size : w.heap.size ≤ w'.heap.size
  block : ∀ k, k < w.heap.size → k ≠ g → some k ≠ v.ownBlock → w'.heap[k]? = w.heap[k]?

set_option maxHeartbeats 2000000 in
set_option maxRecDepth 100000 in
theorem put_c (B g d : Nat) (bs : List Value) (v : Value) (w : World) (hd : d < 10) (h : DigAt B g bs w v) (hlen : bs.length + 1 ≤ 140737488355328) (hBw : B ≤ w.heap.size) :
    Calls Try.prog 32 #[.int .u64 d, .pointer (some ⟨g, 0, none⟩)] w fun e w' => e = .returned (.tuple #[]) ∧ ∃ v', DigAt B g (bs ++ [dig d]) w' v' ∧ Put g v w w' := by
  obtain ⟨hbk, hown, hne⟩ := h
  obtain ⟨i0, hi, hz0, hz1, hz2⟩ := info_parts byteInfo
  have c0 : w.cell? ⟨g, 0, none⟩ = some v := by rw [Lib.cell_of_heap hbk]; rfl
  go_enter Try.func32, Try.ntmps32
  go_wp2_with (at_builtin; refine wpList_append_own _ rfl _ _ 55 rfl B 5 i0 (.int .u8 0) 1 1 Try.underlying55 hi hz0 hz1 hz2 rfl (by decide) _ _ _ rfl (hown.alloc _) ⟨w.heap.size, 0, none⟩ 1 1 [dig d] rfl rfl ?c1 ?c2 ?c3 ?c4 ?c5 ?_)
  case c1 =>
    intro j u hj
    match j, hj with
    | 0, hj => simp at hj; subst hj; simp [Addr.add, dig]
  case c2 => intro u hu; simp at hu; subst hu; rfl
  case c3 => unfold maxLen; omega
  case c4 => omega
  case c5 => simp; omega
  intro v' w2 hown' hgrow _
  have hlt : g < w.heap.size := by
    rcases Nat.lt_or_ge g w.heap.size with h' | h'
    · exact h'
    · simp [Array.getElem?_eq_none h'] at hbk
  have hb2 : w2.heap[g]? = some (.cells #[v] 55 (0, 0)) := by
    rw [hgrow.block g (by simp; omega) (fun e => hne e.symm), Lib.alloc_old w _ g hlt]
    exact hbk
  have d0 : w2.cell? ⟨g, 0, none⟩ = some v := by rw [Lib.cell_of_heap hb2]; rfl
  have f1 : w2.frozen? ⟨g, 0, none⟩ = false := Lib.frozen_of_heap hb2 0
  obtain ⟨k, cap, rfl⟩ : ∃ k cap, v' = .slice (some ⟨k, 0, none⟩) (bs.length + 1) cap := by
    rcases hown'.2 with ⟨_, h0⟩ | ⟨g, cap, cur, hv, _⟩
    · omega
    · exact ⟨g, cap, hv⟩
  have hkg : some k ≠ some g := by
    rcases hown'.2 with ⟨_, h0⟩ | ⟨k', cap', cur, hv, _, hk, _⟩
    · omega
    · intro e
      have e1 : k = g := by simpa using e
      injection hv with h1 _ _
      have e2 : k = k' := by simpa using h1
      subst e2
      rw [e1, hb2] at hk
      simp at hk
  go_wp2
  go_end0
  refine ⟨rfl, .slice (some ⟨k, 0, none⟩) (bs.length + 1) cap, ⟨?_, ?_, hkg⟩, ?_⟩
  · have := heap_setCell_same w2 g 0 #[v] 55 (.slice (some ⟨k, 0, none⟩) (bs.length + 1) cap) hb2
    simpa using this
  · have := hown'.kept (row := some g) (w' := w2.setCell ⟨g, 0, none⟩ (.slice (some ⟨k, 0, none⟩) (bs.length + 1) cap)) ⟨rfl, rfl, rfl, by simp, fun k _ hk => Below.heap_setCell _ _ _ _ (fun e => hk (by simp [e]))⟩ (.inr hkg)
    simpa using this
  · refine ⟨hgrow.os, hgrow.tape, hgrow.output, by have := hgrow.size; simp at this ⊢; omega, fun k hk hkg' hkv => ?_⟩
    rw [Below.heap_setCell _ _ _ _ (by simpa using hkg'), hgrow.block k (by simp; omega) hkv, Lib.alloc_old w _ k hk]
end Go.Proofs.Ytkboegmpfdaneaa
