/- Law WindowBetween (plain): a mean of trades of one quantity lies between the least and the greatest price. No condition. -/
import Derived.Test.YtgjaiikfgejgoaaL19
namespace Go.Proofs.Ytgjaiikfgejgoaa
open Go.RowKit
/-- Trades at one tick, of one quantity. -/
def trs (t q : Int) (ps : List Int) : List Tr := ps.map fun p => ⟨t, p, q⟩
theorem trs_len (t q : Int) (ps : List Int) : (trs t q ps).length = ps.length := List.length_map _
theorem trs_app (t q : Int) (ps : List Int) (p : Int) : trs t q (ps ++ [p]) = trs t q ps ++ [⟨t, p, q⟩] := by simp [trs]
theorem trs_ok {t q : Int} {ps : List Int} (ht : 0 ≤ t ∧ t ≤ 1152921504606846976) (hq : 1 ≤ q ∧ q ≤ 4294967296) (h : ∀ p ∈ ps, 1 ≤ p ∧ p ≤ 1099511627776) : ∀ x ∈ trs t q ps, x.Ok := by
  intro x hx
  obtain ⟨p, hp, rfl⟩ := List.mem_map.1 hx
  have := h p hp
  exact ⟨by simp; omega, by simp; omega, by simp; omega, by simp; omega, by simp; omega, by simp; omega⟩
theorem drop_trs {c t q : Int} (h : c < t) (ps : List Int) : dropT c (trs t q ps) = trs t q ps := by
  cases ps with
  | nil => rfl
  | cons p ps =>
    show (if t ≤ c then _ else _) = _
    rw [if_neg (by omega)]
    rfl
theorem drop_two {gap q t : Int} (hg : 0 ≤ gap) (h : gap < t) (ps : List Int) : dropT gap (⟨0, 7, q⟩ :: ⟨gap, 9, q⟩ :: trs t q ps) = trs t q ps := by
  show (if (0 : Int) ≤ gap then (if gap ≤ gap then dropT gap (trs t q ps) else _) else _) = _
  rw [if_pos hg, if_pos (Int.le_refl _), drop_trs h]
def loP (p0 : Int) (ps : List Int) : Int := ps.foldl min p0
def hiP (p0 : Int) (ps : List Int) : Int := ps.foldl max p0
theorem loP_app (p0 : Int) (ps : List Int) (p : Int) : loP p0 (ps ++ [p]) = min (loP p0 ps) p := by simp [loP]
theorem hiP_app (p0 : Int) (ps : List Int) (p : Int) : hiP p0 (ps ++ [p]) = max (hiP p0 ps) p := by simp [hiP]
theorem loP_le : ∀ (ps : List Int) (p0 : Int), loP p0 ps ≤ p0 ∧ ∀ p ∈ ps, loP p0 ps ≤ p
  | [], p0 => ⟨Int.le_refl _, by simp⟩
  | p :: ps, p0 => by
    obtain ⟨h1, h2⟩ := loP_le ps (min p0 p)
    have e : loP p0 (p :: ps) = loP (min p0 p) ps := rfl
    rw [e]
    refine ⟨by omega, fun x hx => ?_⟩
    rcases List.mem_cons.1 hx with rfl | hx
    · omega
    · exact h2 x hx
theorem hiP_ge : ∀ (ps : List Int) (p0 : Int), p0 ≤ hiP p0 ps ∧ ∀ p ∈ ps, p ≤ hiP p0 ps
  | [], p0 => ⟨Int.le_refl _, by simp⟩
  | p :: ps, p0 => by
    obtain ⟨h1, h2⟩ := hiP_ge ps (max p0 p)
    have e : hiP p0 (p :: ps) = hiP (max p0 p) ps := rfl
    rw [e]
    refine ⟨by omega, fun x hx => ?_⟩
    rcases List.mem_cons.1 hx with rfl | hx
    · omega
    · exact h2 x hx
theorem loP_in : ∀ (ps : List Int) (p0 : Int), (1 ≤ p0 ∧ p0 ≤ 1099511627776) → (∀ p ∈ ps, 1 ≤ p ∧ p ≤ 1099511627776) → (1 ≤ loP p0 ps ∧ loP p0 ps ≤ 1099511627776) ∧ (1 ≤ hiP p0 ps ∧ hiP p0 ps ≤ 1099511627776)
  | [], p0, h, _ => ⟨h, h⟩
  | p :: ps, p0, h, h2 => by
    have hp := h2 p (by simp)
    have h3 : ∀ x ∈ ps, 1 ≤ x ∧ x ≤ 1099511627776 := fun x hx => h2 x (by simp [hx])
    exact ⟨(loP_in ps (min p0 p) (by omega) h3).1, (loP_in ps (max p0 p) (by omega) h3).2⟩
theorem worth_lo {t q lo : Int} (hq : 1 ≤ q) (hl : 0 ≤ lo) : ∀ ps : List Int, (∀ p ∈ ps, lo ≤ p) → lo.toNat * qtyN (trs t q ps) ≤ worthN (trs t q ps)
  | [], _ => by simp [trs, qtyN]
  | p :: ps, h => by
    have h1 := worth_lo (t := t) hq hl ps (fun x hx => h x (by simp [hx]))
    have h2 := h p (by simp)
    have e1 : qtyN (trs t q (p :: ps)) = q.toNat + qtyN (trs t q ps) := rfl
    have e2 : worthN (trs t q (p :: ps)) = p.toNat * q.toNat + worthN (trs t q ps) := rfl
    have h3 : lo.toNat * q.toNat ≤ p.toNat * q.toNat := Nat.mul_le_mul_right _ (by omega)
    rw [e1, e2, Nat.mul_add]
    omega
theorem worth_hi {t q hi : Int} : ∀ ps : List Int, (∀ p ∈ ps, p ≤ hi) → worthN (trs t q ps) ≤ hi.toNat * qtyN (trs t q ps)
  | [], _ => by simp [trs, worthN]
  | p :: ps, h => by
    have h1 := worth_hi (t := t) (q := q) ps (fun x hx => h x (by simp [hx]))
    have h2 := h p (by simp)
    have e1 : qtyN (trs t q (p :: ps)) = q.toNat + qtyN (trs t q ps) := rfl
    have e2 : worthN (trs t q (p :: ps)) = p.toNat * q.toNat + worthN (trs t q ps) := rfl
    have h3 : p.toNat * q.toNat ≤ hi.toNat * q.toNat := Nat.mul_le_mul_right _ (by omega)
    rw [e1, e2, Nat.mul_add]
    omega
/-- What the law says of the mean. -/
theorem between {t q grid p0 : Int} {ps : List Int} (hq : 1 ≤ q) (hg : 1 ≤ grid) (hne : ps ≠ []) (hp0 : 1 ≤ p0 ∧ p0 ≤ 1099511627776) (hmem : p0 ∈ ps) (h : ∀ p ∈ ps, 1 ≤ p ∧ p ≤ 1099511627776) :
    meanV grid (trs t q ps) % grid = 0 ∧ meanV grid (trs t q ps) ≤ max (hiP p0 ps) grid ∧ loP p0 ps < meanV grid (trs t q ps) + grid ∧ grid ≤ meanV grid (trs t q ps) := by
  obtain ⟨⟨l1, l2⟩, ⟨u1, u2⟩⟩ := loP_in ps p0 hp0 h
  have a1 := worth_lo (t := t) hq (by omega) ps (loP_le ps p0).2
  have a2 := worth_hi (t := t) (q := q) ps (hiP_ge ps p0).2
  have hpos : 0 < qtyN (trs t q ps) := by
    cases ps with
    | nil => exact absurd rfl hne
    | cons p ps =>
      have e1 : qtyN (trs t q (p :: ps)) = q.toNat + qtyN (trs t q ps) := rfl
      omega
  have b1 : (loP p0 ps).toNat ≤ worthN (trs t q ps) / qtyN (trs t q ps) := (Nat.le_div_iff_mul_le hpos).2 a1
  have b2 : worthN (trs t q ps) / qtyN (trs t q ps) ≤ (hiP p0 ps).toNat := Nat.div_le_of_le_mul (by rw [Nat.mul_comm]; exact a2)
  unfold meanV
  generalize worthN (trs t q ps) / qtyN (trs t q ps) = m at b1 b2 ⊢
  generalize loP p0 ps = lo at l1 l2 b1 ⊢
  generalize hiP p0 ps = hi at u1 u2 b2 ⊢
  have hd : downI ((m : Nat) : Int) grid = (m : Int) / grid * grid := by unfold downI; rw [if_neg (by omega)]
  obtain ⟨d1, d2, d3⟩ := downI_le (p := (m : Int)) (g := grid) (by omega) hg
  rw [hd]
  generalize hx : (m : Int) / grid = x at d1 d2 d3 ⊢
  refine ⟨?_, by omega, by omega, by omega⟩
  rcases Int.le_total (x * grid) grid with h1 | h1
  · rw [Int.max_eq_right h1, Int.emod_self]
  · rw [Int.max_eq_left h1, Int.mul_emod_left]
end Go.Proofs.Ytgjaiikfgejgoaa
