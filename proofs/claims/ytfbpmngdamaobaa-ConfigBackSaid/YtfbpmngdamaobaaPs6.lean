/- A part, written into an array of parts; what was read, in both spellings. No condition. -/
import Derived.Test.YtfbpmngdamaobaaR2
import Derived.Test.YtfbpmngdamaobaaO7
namespace Go.Proofs.Ytfbpmngdamaobaa
open Go.RowKit
/-- Some cells of a block, written. -/
def putSub (cs : Array Value) (off : Nat) (ps : Array Value) : Array Value := (cs.toList.take off ++ ps.toList ++ cs.toList.drop (off + ps.size)).toArray
def putAt (w : World) (g off : Nat) (ps : Array Value) : World := w.setRow g (putSub (cellsAt w g) off ps)
theorem storeVar_put {P : Program} (T : TypeId) (n : Nat) (hS : ∀ w, (sizeOf T).run P w = .ok n w) (w : World) (g off : Nat) (cs : Array Value) (hc : cs.size = n) (h : off + n ≤ (cellsAt w g).size) (h1 : cs.toList.all (·.oneCell') = true) (hn : n ≠ 0) : (storeVar T ⟨g, off, none⟩ (.agg cs)).run P w = .ok () (putAt w g off cs) := by
  obtain ⟨t, ht⟩ : ∃ t, At w g t (cellsAt w g) := by
    unfold cellsAt at h ⊢
    split at h
    · rename_i c t e
      exact ⟨t, e⟩
    · simp at h; omega
  have hl := run_storeCells_at P g off t cs.toList 0 (cellsAt w g) w ht (by simp [hc]; omega) (List.all_eq_true.1 h1)
  simp only [Nat.add_zero, Array.length_toList] at hl
  simp only [storeVar]
  simp [hS, Value.cells, hc, hl, putAt, putSub]
theorem run_storePrt_put (w : World) (g off : Nat) (cs : Array Value) (hc : cs.size = 5) (h : (decide (off + 5 ≤ (cellsAt w g).size)) = true) (h1 : cs.toList.all (·.oneCell') = true) : (storePrt ⟨g, off, none⟩ (.agg cs)).run Try.prog w = .ok () (putAt w g off cs) :=
  storeVar_put 105 5 (fun _ => by kernel_rfl) w g off cs hc (of_decide_eq_true h) h1 (by decide)
theorem At.putAt {w : World} {g : Nat} {t : TypeId} {cs : Array Value} (h : At w g t cs) (off : Nat) (ps : Array Value) : At (putAt w g off ps) g t (putSub cs off ps) := by
  unfold Go.Proofs.Ytfbpmngdamaobaa.putAt
  rw [cellsAt_at h]
  exact h.setRow _
theorem At.putFar {w : World} {g n : Nat} {t : TypeId} {cs : Array Value} (h : At w n t cs) (hn : n ≠ g) (off : Nat) (ps : Array Value) : At (Go.Proofs.Ytfbpmngdamaobaa.putAt w g off ps) n t cs := h.rowFar hn _
theorem putAt_ext {w w1 : World} (h : Ext w w1) {g : Nat} (hg : w.heap.size ≤ g) (off : Nat) (ps : Array Value) : Ext w (putAt w1 g off ps) := h.setRow hg _
theorem cell_putAt (w : World) (g off i : Nat) (ps : Array Value) (h1 : (decide (off ≤ i) && decide (i < off + ps.size)) = true) (h : decide (off + ps.size ≤ (cellsAt w g).size) = true) : (putAt w g off ps).cell? ⟨g, i, none⟩ = ps[i - off]? := by
  have h := of_decide_eq_true h
  simp at h1
  obtain ⟨t, ht⟩ : ∃ t, At w g t (cellsAt w g) := by
    unfold cellsAt at h ⊢
    split at h
    · rename_i c t e
      exact ⟨t, e⟩
    · have h0 : off + ps.size ≤ 0 := h
      omega
  rw [(ht.putAt off ps).cell i]
  unfold putSub
  rw [List.getElem?_toArray, List.append_assoc, List.getElem?_append_right (by rw [List.length_take]; omega), List.length_take, Array.length_toList, Nat.min_eq_left (by omega), List.getElem?_append_left (by rw [Array.length_toList]; omega), Array.getElem?_toList]
theorem numG_is6 : ∀ (k i acc : Nat) (bs : List Int), (∃ s, s ≤ bs.length ∧ (numG k i acc bs).2.1 = bs.drop s) ∧ ((numG k i acc bs).2.2 ≠ 0 → (numG k i acc bs).1 = 0)
  | 0, i, acc, bs => ⟨⟨0, Nat.zero_le _, rfl⟩, fun _ => rfl⟩
  | k + 1, i, acc, [] => ⟨⟨0, Nat.zero_le _, rfl⟩, fun _ => rfl⟩
  | k + 1, i, acc, b :: bs => by
    have ih := numG_is6 k (i + 1) (acc + b.toNat % 128 * 128 ^ i) bs
    unfold numG
    split
    · exact ⟨⟨1, by simp, rfl⟩, fun _ => rfl⟩
    split
    · obtain ⟨⟨s, h1, h2⟩, h3⟩ := ih
      exact ⟨⟨s + 1, by simpa using h1, by rw [h2]; rfl⟩, h3⟩
    split
    · exact ⟨⟨1, by simp, rfl⟩, fun _ => rfl⟩
    · exact ⟨⟨1, by simp, rfl⟩, fun h => absurd rfl h⟩
theorem uintR_stays {bs s : List Int} {f g : Int} {z v : Nat} (e : uintR bs f z = (v, s, g)) (h : f ≠ 0) : g = f := by
  unfold uintR at e; rw [if_pos h] at e; injection e with _ e; injection e with _ e; exact e.symm
theorem numR_stays {bs s : List Int} {f g : Int} {v : Nat} (e : numR bs f = (v, s, g)) (h : f ≠ 0) : g = f := by
  unfold numR at e; rw [if_pos h] at e; injection e with _ e; injection e with _ e; exact e.symm
theorem intR_stays {bs s : List Int} {f g v : Int} (e : (backN (uintR bs f 8).1, (uintR bs f 8).2) = (v, s, g)) (h : f ≠ 0) : g = f := by
  unfold uintR at e; rw [if_pos h] at e; injection e with _ e; injection e with _ e; exact e.symm
theorem uintR_read {bs s : List Int} {f0 g : Int} {z v : Nat} (e : uintR bs f0 z = (v, s, g)) (h : f0 = 0) : (g = 0 → uintP bs z = (v, (z : Int), 0) ∧ z ≤ bs.length ∧ s = bs.drop z) ∧ (g ≠ 0 → uintP bs z = (0, 0, g)) := by
  subst h
  unfold uintR at e
  rw [if_neg (by simp)] at e
  unfold uintP
  by_cases hl : bs.length < z
  · rw [if_pos hl] at e ⊢
    injection e with e1 e; injection e with e2 e3
    subst e1 e3
    exact ⟨fun h => absurd h (by decide), fun _ => rfl⟩
  · rw [if_neg hl] at e ⊢
    injection e with e1 e; injection e with e2 e3
    subst e1 e2 e3
    exact ⟨fun _ => ⟨rfl, by omega, rfl⟩, fun h => absurd rfl h⟩
theorem intR_read {bs s : List Int} {f0 g v : Int} (e : (backN (uintR bs f0 8).1, (uintR bs f0 8).2) = (v, s, g)) (h : f0 = 0) : (g = 0 → (backN (uintP bs 8).1, (uintP bs 8).2) = (v, ((8 : Int), (0 : Int))) ∧ 8 ≤ bs.length ∧ s = bs.drop 8) ∧ (g ≠ 0 → (backN (uintP bs 8).1, (uintP bs 8).2) = ((0 : Int), ((0 : Int), g))) := by
  subst h
  have e' : uintR bs 0 8 = ((uintR bs 0 8).1, s, g) := Prod.ext rfl (by injection e)
  obtain ⟨h1, h2⟩ := uintR_read e' rfl
  have ev : backN (uintR bs 0 8).1 = v := by injection e
  refine ⟨fun hg => ?_, fun hg => ?_⟩
  · obtain ⟨a, b, c⟩ := h1 hg
    rw [a]
    exact ⟨by rw [ev]; rfl, b, c⟩
  · rw [h2 hg]
    have hb0 : backN 0 = 0 := by decide
    simp only [hb0]
theorem numR_read {bs s : List Int} {f0 g : Int} {v : Nat} (e : numR bs f0 = (v, s, g)) (h : f0 = 0) : (g = 0 → numP bs = (v, ((bs.length - s.length : Nat) : Int), 0) ∧ bs.length - s.length ≤ bs.length ∧ s = bs.drop (bs.length - s.length)) ∧ (g ≠ 0 → numP bs = (0, 0, g)) := by
  subst h
  unfold numR at e
  rw [if_neg (by simp)] at e
  refine ⟨fun hg => ?_, fun hg => numP_bad e hg⟩
  subst hg
  obtain ⟨⟨z, hz, hd⟩, _⟩ := numG_is6 10 0 0 bs
  rw [e] at hd
  simp only at hd
  have hlen : bs.length - s.length = z := by rw [hd, List.length_drop]; omega
  refine ⟨?_, by omega, by rw [hlen]; exact hd⟩
  rw [numP_ok e]
  have : s.length ≤ bs.length := by rw [hd, List.length_drop]; omega
  rw [show ((bs.length - s.length : Nat) : Int) = (bs.length : Int) - (s.length : Int) by omega]
theorem uintR_byt {bs s : List Int} {f g : Int} {v : Nat} (hb : Byt bs) (hl : bs.length ≤ 1000000000) (e : uintR bs f 1 = (v, s, g)) : Byt s ∧ s.length ≤ 1000000000 ∧ v < 256 := by
  unfold uintR at e
  split at e
  · injection e with e1 e; injection e with e2 e3; subst e1 e2; exact ⟨hb, hl, by decide⟩
  split at e
  · injection e with e1 e; injection e with e2 e3; subst e1 e2; exact ⟨hb, hl, by decide⟩
  · injection e with e1 e; injection e with e2 e3; subst e1 e2
    exact ⟨fun x hx => hb x (List.mem_of_mem_drop hx), by rw [List.length_drop]; omega, valN_bytes (fun x hx => hb x (List.mem_of_mem_take hx)) 1 (by rw [List.length_take]; omega)⟩
theorem intR_byt {bs s : List Int} {f g v : Int} (hb : Byt bs) (hl : bs.length ≤ 1000000000) (e : (backN (uintR bs f 8).1, (uintR bs f 8).2) = (v, s, g)) : Byt s ∧ s.length ≤ 1000000000 := by
  unfold uintR at e
  split at e
  · injection e with e1 e; injection e with e2 e3; subst e2; exact ⟨hb, hl⟩
  split at e
  · injection e with e1 e; injection e with e2 e3; subst e2; exact ⟨hb, hl⟩
  · injection e with e1 e; injection e with e2 e3; subst e2
    exact ⟨fun x hx => hb x (List.mem_of_mem_drop hx), by rw [List.length_drop]; omega⟩
theorem numR_byt {bs s : List Int} {f g : Int} {v : Nat} (hb : Byt bs) (hl : bs.length ≤ 1000000000) (e : numR bs f = (v, s, g)) : Byt s ∧ s.length ≤ 1000000000 := by
  unfold numR at e
  split at e
  · injection e with e1 e; injection e with e2 e3; subst e2; exact ⟨hb, hl⟩
  · obtain ⟨⟨z, hz, hd⟩, _⟩ := numG_is6 10 0 0 bs
    rw [e] at hd
    simp only at hd
    rw [hd]
    exact ⟨fun x hx => hb x (List.mem_of_mem_drop hx), by rw [List.length_drop]; omega⟩
theorem Src.drop5 {w : World} {A : Option Addr} {n s : Nat} {bs : List Int} (h : Src w 1 A n (bc bs)) (hs : s ≤ n) (B : Option Addr) (hB : s < n → B = A.map (fun x => x.add s)) : Src w 1 B (n - s) (bc (bs.drop s)) := by
  have hl := h.len
  rw [bc_len, Nat.mul_one] at hl
  refine ⟨by rw [bc_len, List.length_drop]; omega, fun h0 => ?_⟩
  obtain ⟨ad, rfl, hc⟩ := h.at_ (by omega)
  refine ⟨ad.add s, hB (by omega), fun j u hj => ?_⟩
  rw [Go.Deep.add_add]
  unfold bc at hj
  rw [List.getElem?_map, List.getElem?_drop, ← List.getElem?_map] at hj
  exact hc (s + j) u hj
end Go.Proofs.Ytfbpmngdamaobaa
