/- Frames (layer 4): the document's Lists; what is put, cut anywhere, comes out (plain). No condition. -/
import Derived.Test.YtndcmjpacailjaaJ2
namespace Go.Proofs.Ytndcmjpacailjaa
open Go.RowKit
attribute [local go_sem] Later.cell QUpon_value QUpon_enter MUpon_value run_eql_slice_nil
/-! ### plain -/
def stream (l : List (List Int)) : List Int := l.flatMap frB
theorem uintB2 {n : Nat} (h : n ≤ 64) : uintB n 2 = [0, (n : Int)] := by
  show [((n / 256 ^ 1 % 256 : Nat) : Int), ((n / 256 ^ 0 % 256 : Nat) : Int)] = _
  rw [show n / 256 ^ 1 % 256 = 0 by omega, show n / 256 ^ 0 % 256 = n by omega]
  rfl
theorem frB_is {p : List Int} (h : p.length ≤ 64) : frB p = 0 :: (p.length : Int) :: p := by unfold frB; rw [uintB2 h]; rfl
theorem valN2 (n : Nat) : valN [0, (n : Int)] = n := by
  show ((0 * 256 + (0 : Int).toNat) * 256 + (n : Int).toNat) = n
  simp
theorem take_frB {p rest : List Int} (h : p.length ≤ 64) : takeF (frB p ++ rest) = 0 ∧ takeL (frB p ++ rest) = p ∧ takeN (frB p ++ rest) = ((2 + p.length : Nat) : Int) := by
  rw [frB_is h]
  have e : ((0 : Int) :: (p.length : Int) :: p ++ rest).take 2 = [0, (p.length : Int)] := rfl
  have l : ((0 : Int) :: (p.length : Int) :: p ++ rest).length = 2 + p.length + rest.length := by simp; omega
  unfold takeF takeL takeN
  rw [e, valN2, l]
  rw [if_neg (by omega), if_neg (by omega), if_neg (by omega), if_neg (by omega), if_neg (by omega), if_neg (by omega), if_neg (by omega), if_neg (by omega), if_neg (by omega)]
  refine ⟨rfl, ?_, by omega⟩
  show (p ++ rest).take p.length = p
  simp
theorem take_less {p y z rest : List Int} (h : p.length ≤ 64) (hy : y ++ z = frB p ++ rest) (hl : y.length < 2 + p.length) : takeF y = 3 := by
  rw [frB_is h] at hy
  unfold takeF
  by_cases h2 : y.length < 2
  · rw [if_pos h2]
  · have e : y.take 2 = [0, (p.length : Int)] := by
      have := congrArg (List.take 2) hy
      rw [List.take_append_of_le_length (by omega)] at this
      rw [this]; rfl
    rw [if_neg h2, e, valN2, if_neg (by omega), if_pos (by omega)]
theorem cut_stream : ∀ (l : List (List Int)) (rest : List Int), (∀ p ∈ l, p.length ≤ 64) → cut (stream l ++ rest) = (l ++ (cut rest).1, (cut rest).2)
  | [], rest, _ => rfl
  | p :: l, rest, h => by
    have ih := cut_stream l rest (fun q hq => h q (by simp [hq]))
    have e : stream (p :: l) ++ rest = frB p ++ (stream l ++ rest) := by show (frB p ++ stream l) ++ rest = _; rw [List.append_assoc]
    obtain ⟨h1, h2, h3⟩ := take_frB (rest := stream l ++ rest) (h p (by simp))
    have hd : (frB p ++ (stream l ++ rest)).drop (2 + p.length) = stream l ++ rest := by rw [← frB_len p, List.drop_left]
    rw [e, cut_yes h1, h2, h3, show ((2 + p.length : Nat) : Int).toNat = 2 + p.length from rfl, hd, ih]
    rfl
theorem cut_pre : ∀ (todo : List (List Int)) (y z : List Int), (∀ p ∈ todo, p.length ≤ 64) → y ++ z = stream todo → ∃ T todo' rest, cut y = (T, rest, 3) ∧ todo = T ++ todo' ∧ rest ++ z = stream todo'
  | [], y, z, _, hy => by
    have h0 : y = [] := by have := congrArg List.length hy; simp [stream] at this; exact this.1
    subst h0
    exact ⟨[], [], [], rfl, rfl, hy⟩
  | p :: todo, y, z, h, hy => by
    have e : stream (p :: todo) = frB p ++ stream todo := rfl
    rw [e] at hy
    have hp := h p (by simp)
    by_cases hl : y.length < 2 + p.length
    · have h3 := take_less hp hy hl
      exact ⟨[], p :: todo, y, by rw [cut_no (by rw [h3]; decide), h3], rfl, hy⟩
    · have ht : y.take (2 + p.length) = frB p := by
        have := congrArg (List.take (2 + p.length)) hy
        rw [List.take_append_of_le_length (by omega), ← frB_len p, List.take_left] at this
        rw [← frB_len p]; exact this
      have hd : y.drop (2 + p.length) ++ z = stream todo := by
        have := congrArg (List.drop (2 + p.length)) hy
        rw [List.drop_append_of_le_length (by omega), ← frB_len p, List.drop_left] at this
        rw [← frB_len p]; exact this
      obtain ⟨T, todo', rest, h1, h2, h3⟩ := cut_pre todo _ z (fun q hq => h q (by simp [hq])) hd
      obtain ⟨t1, t2, t3⟩ := take_frB (rest := y.drop (2 + p.length)) hp
      have hyy : y = frB p ++ y.drop (2 + p.length) := by rw [← ht, List.take_append_drop]
      refine ⟨p :: T, todo', rest, ?_, by rw [h2]; rfl, h3⟩
      have hc := cut_yes (bs := frB p ++ y.drop (2 + p.length)) t1
      rw [t2, t3, show ((2 + p.length : Nat) : Int).toNat = 2 + p.length from rfl, ← hyy, h1] at hc
      exact hc
theorem cut_nil : cut [] = ([], [], 3) := rfl
theorem join_pre {todo : List (List Int)} {bs y z : List Int} (h : ∀ p ∈ todo, p.length ≤ 64) (hy : bs ++ (y ++ z) = stream todo) : ∃ T todo' rest, joinD bs 0 y = (T, rest, 0) ∧ todo = T ++ todo' ∧ rest ++ z = stream todo' := by
  rw [← List.append_assoc] at hy
  obtain ⟨T, todo', rest, h1, h2, h3⟩ := cut_pre todo (bs ++ y) z h hy
  refine ⟨T, todo', rest, ?_, h2, h3⟩
  unfold joinD
  rw [if_neg (by simp), h1]
  rfl
theorem join_all {todo : List (List Int)} {bs y : List Int} (h : ∀ p ∈ todo, p.length ≤ 64) (hy : bs ++ y = stream todo) : joinD bs 0 y = (todo, [], 0) := by
  have := cut_stream todo [] h
  rw [List.append_nil, ← hy, cut_nil, List.append_nil] at this
  unfold joinD
  rw [if_neg (by simp), this]
  rfl
theorem stream_len {l : List (List Int)} (h : ∀ p ∈ l, p.length ≤ 64) : (stream l).length ≤ 66 * l.length := by
  induction l with
  | nil => simp [stream]
  | cons p l ih =>
    have := ih (fun q hq => h q (by simp [hq]))
    have hp := h p (by simp)
    show (frB p ++ stream l).length ≤ _
    rw [List.length_append, frB_len, List.length_cons]
    omega
theorem stream_byt {l : List (List Int)} (h : ∀ p ∈ l, Byt p) : Byt (stream l) := by
  intro x hx
  unfold stream at hx
  rw [List.mem_flatMap] at hx
  obtain ⟨p, hp, hx⟩ := hx
  exact frB_byt (h p hp) x hx
/-! ### Lists -/
def Bl.xs (x : Bl) : List (List Int) := x.l.map Bs.xs
end Go.Proofs.Ytndcmjpacailjaa
