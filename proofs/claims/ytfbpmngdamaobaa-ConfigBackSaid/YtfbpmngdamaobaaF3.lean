/- The walks of package fix: around, Lower, Upper, Notional, Price, Qty. No condition. -/
import Derived.Test.YtfbpmngdamaobaaF2
namespace Go.Proofs.Ytfbpmngdamaobaa
open Go.RowKit

/-- A checked number's two parts. -/
theorem chk64_open (x : Int) : ∃ y c, chk64 x = .tuple #[.int .i64 y, .bool c] := ⟨_, _, rfl⟩
def upN (p g : Int) : Int := if p / g * g = p then p else p / g * g + g
theorem upI_eq (p g : Int) : upI p g = if p < 0 ∨ g < 1 then chk64 9223372036854775808 else chk64 (upN p g) := by
  unfold upI upN
  split
  · rfl
  · split <;> rfl
theorem upI_open (p g : Int) : ∃ y c, upI p g = .tuple #[.int .i64 y, .bool c] := by
  rw [upI_eq]; split <;> exact chk64_open _
theorem mdI_open (a b d : Int) (up : Bool) : ∃ y c, mdI a b d up = .tuple #[.int .i64 y, .bool c] := by
  unfold mdI; split <;> exact chk64_open _
def arOk (r bps g : Int) : Prop := (1 ≤ r ∧ r ≤ 1099511627776) ∧ (0 ≤ bps ∧ bps ≤ 9999) ∧ (1 ≤ g ∧ g ≤ 1099511627776)
instance (r bps g : Int) : Decidable (arOk r bps g) := by unfold arOk; infer_instance
def loI (r bps : Int) : Int := (r * (10000 - bps) + 9999) / 10000
def hiI (r bps : Int) : Int := r * (10000 + bps) / 10000
theorem mul_bd {r p : Int} (h1 : 1 ≤ r) (h2 : r ≤ 1099511627776) (h3 : 1 ≤ p) (h4 : p ≤ 19999) : 1 ≤ r * p ∧ r * p ≤ 21989133044092224 ∧ r ≤ r * p := by
  have a1 : r * 1 ≤ r * p := Int.mul_le_mul_of_nonneg_left h3 (by omega)
  have a2 : r * p ≤ r * 19999 := Int.mul_le_mul_of_nonneg_left h4 (by omega)
  omega
theorem mdQ_nat {r p : Int} (h1 : 0 ≤ r) (h2 : 0 ≤ p) (up : Bool) : ((mdQ r p 10000 up : Nat) : Int) = if up = true then (r * p + 9999) / 10000 else r * p / 10000 := by
  obtain ⟨a, rfl⟩ := Int.eq_ofNat_of_zero_le h1
  obtain ⟨b, rfl⟩ := Int.eq_ofNat_of_zero_le h2
  unfold mdQ
  have e : (10000 : Int).toNat = 10000 := rfl
  rw [e, Int.toNat_natCast, Int.toNat_natCast, ← Int.natCast_mul]
  generalize a * b = n
  cases up
  · simp
  · simp only [true_and, if_true]
    split <;> omega
theorem loI_bd {r bps g : Int} (h : arOk r bps g) : 1 ≤ loI r bps ∧ loI r bps ≤ r := by
  obtain ⟨⟨a1, a2⟩, ⟨b1, b2⟩, _⟩ := h
  obtain ⟨c1, c2, c3⟩ := mul_bd (p := 10000 - bps) a1 a2 (by omega) (by omega)
  have : r * (10000 - bps) ≤ r * 10000 := Int.mul_le_mul_of_nonneg_left (by omega) (by omega)
  unfold loI
  omega
theorem hiI_bd {r bps g : Int} (h : arOk r bps g) : r ≤ hiI r bps ∧ hiI r bps ≤ 2198913304409 := by
  obtain ⟨⟨a1, a2⟩, ⟨b1, b2⟩, _⟩ := h
  obtain ⟨c1, c2, c3⟩ := mul_bd (p := 10000 + bps) a1 a2 (by omega) (by omega)
  have : r * 10000 ≤ r * (10000 + bps) := Int.mul_le_mul_of_nonneg_left (by omega) (by omega)
  unfold hiI
  omega
theorem upN_bd {p g : Int} (h : 0 ≤ p) (hg : 1 ≤ g) : p ≤ upN p g ∧ upN p g < p + g := by
  obtain ⟨b1, b2, b3⟩ := downI_le h hg
  unfold upN
  split <;> omega

def lowT (r bps g : Int) : Value := if arOk r bps g then .tuple #[.int .i64 (upN (loI r bps) g), .bool true] else .tuple #[.int .i64 0, .bool false]
def uppT (r bps g : Int) : Value := if arOk r bps g then .tuple #[.int .i64 (hiI r bps / g * g), .bool true] else .tuple #[.int .i64 0, .bool false]
theorem up_low {r bps g : Int} (h : arOk r bps g) : upI (loI r bps) g = .tuple #[.int .i64 (upN (loI r bps) g), .bool true] := by
  obtain ⟨h1, h2⟩ := loI_bd h
  obtain ⟨⟨a1, a2⟩, _, ⟨g1, g2⟩⟩ := h
  obtain ⟨h3, h4⟩ := upN_bd (p := loI r bps) (g := g) (by omega) g1
  rw [upI_eq, if_neg (by omega)]
  exact chk64_yes ⟨by omega, by omega⟩
theorem down_hi {r bps g : Int} (h : arOk r bps g) : downI (hiI r bps) g = hiI r bps / g * g := by
  obtain ⟨h1, h2⟩ := hiI_bd h
  obtain ⟨⟨a1, a2⟩, _, ⟨g1, g2⟩⟩ := h
  unfold downI
  rw [if_neg (by omega)]
def priceI (p g : Int) : Int := if g < 1 then 1 else if p < 1 ∨ 1099511627776 < p then 9 else if p / g * g = p then 0 else 8
theorem price_c (p g : Int) (hp : I64 p) (hg : I64 g) (w : World) : Calls Try.prog 33 #[.int .i64 p, .int .i64 g] w fun e w' => e = .returned (.int .i64 (priceI p g)) ∧ Ext w w' := by
  unfold priceI
  by_cases h1 : g < 1
  · rw [if_pos h1]
    go_enter Try.func33, Try.ntmps33
    go_wp2
    first | refine fin_ret rfl (fun K hK => ?_) | refine fin_norm rfl (fun K hK => ?_)
    simp [results, Try.results33, go_sem, rsat]
    try go_simp
    refine hK _ ?_
    clear hK K
    exact ⟨rfl, (by repeat (first | (with_reducible exact Ext.refl _) | (with_reducible assumption) | (with_reducible refine Ext.alloc ?_ _) | (with_reducible refine Ext.drew ?_) | (with_reducible refine Ext.drewN ?_ _) | (with_reducible refine Ext.setCell ?_ (by simp; try omega) _) | (with_reducible refine Ext.setRow ?_ (by simp; try omega) _)))⟩
  · rw [if_neg h1]
    by_cases h2 : p < 1
    · rw [if_pos (.inl h2)]
      go_enter Try.func33, Try.ntmps33
      go_wp2
      first | refine fin_ret rfl (fun K hK => ?_) | refine fin_norm rfl (fun K hK => ?_)
      simp [results, Try.results33, go_sem, rsat]
      try go_simp
      refine hK _ ?_
      clear hK K
      exact ⟨rfl, (by repeat (first | (with_reducible exact Ext.refl _) | (with_reducible assumption) | (with_reducible refine Ext.alloc ?_ _) | (with_reducible refine Ext.drew ?_) | (with_reducible refine Ext.drewN ?_ _) | (with_reducible refine Ext.setCell ?_ (by simp; try omega) _) | (with_reducible refine Ext.setRow ?_ (by simp; try omega) _)))⟩
    · by_cases h3 : 1099511627776 < p
      · rw [if_pos (.inr h3)]
        go_enter Try.func33, Try.ntmps33
        go_wp2
        first | refine fin_ret rfl (fun K hK => ?_) | refine fin_norm rfl (fun K hK => ?_)
        simp [results, Try.results33, go_sem, rsat]
        try go_simp
        refine hK _ ?_
        clear hK K
        exact ⟨rfl, (by repeat (first | (with_reducible exact Ext.refl _) | (with_reducible assumption) | (with_reducible refine Ext.alloc ?_ _) | (with_reducible refine Ext.drew ?_) | (with_reducible refine Ext.drewN ?_ _) | (with_reducible refine Ext.setCell ?_ (by simp; try omega) _) | (with_reducible refine Ext.setRow ?_ (by simp; try omega) _)))⟩
      · rw [if_neg (by omega)]
        have C := down_c p g hp hg
        unfold downI at C
        rw [if_neg (by omega)] at C
        obtain ⟨q, hq⟩ : ∃ q, q = p / g * g := ⟨_, rfl⟩
        rw [← hq] at C ⊢
        have HC := Lib.hid C
        clear C hq
        by_cases h4 : q = p
        · subst h4
          simp only [if_true]
          go_enter Try.func33, Try.ntmps33
          go_wp2_with fail
          refine (HC.out _).mono ?_
          rintro e w1 ⟨rfl, hxw1⟩
          have xw1 : Ext w w1 := Ext.trans (by repeat (first | (with_reducible exact Ext.refl _) | (with_reducible assumption) | (with_reducible refine Ext.alloc ?_ _) | (with_reducible refine Ext.drew ?_) | (with_reducible refine Ext.drewN ?_ _) | (with_reducible refine Ext.setCell ?_ (by simp; try omega) _) | (with_reducible refine Ext.setRow ?_ (by simp; try omega) _))) hxw1
          have lw1 := xw1.size
          go_wp2
          first | refine fin_ret rfl (fun K hK => ?_) | refine fin_norm rfl (fun K hK => ?_)
          simp [results, Try.results33, go_sem, rsat]
          try go_simp
          refine hK _ ?_
          clear hK K
          exact ⟨rfl, (by repeat (first | (with_reducible exact Ext.refl _) | (with_reducible assumption) | (with_reducible refine Ext.alloc ?_ _) | (with_reducible refine Ext.drew ?_) | (with_reducible refine Ext.drewN ?_ _) | (with_reducible refine Ext.setCell ?_ (by simp; try omega) _) | (with_reducible refine Ext.setRow ?_ (by simp; try omega) _)))⟩
        · rw [if_neg h4]
          have e : (q == p) = false := beq_eq_false_iff_ne.2 h4
          have e2 : (q != p) = true := bne_iff_ne.2 h4
          clear h4
          go_enter Try.func33, Try.ntmps33
          go_wp2_with fail
          refine (HC.out _).mono ?_
          rintro e w1 ⟨rfl, hxw1⟩
          have xw1 : Ext w w1 := Ext.trans (by repeat (first | (with_reducible exact Ext.refl _) | (with_reducible assumption) | (with_reducible refine Ext.alloc ?_ _) | (with_reducible refine Ext.drew ?_) | (with_reducible refine Ext.drewN ?_ _) | (with_reducible refine Ext.setCell ?_ (by simp; try omega) _) | (with_reducible refine Ext.setRow ?_ (by simp; try omega) _))) hxw1
          have lw1 := xw1.size
          go_wp2
          first | refine fin_ret rfl (fun K hK => ?_) | refine fin_norm rfl (fun K hK => ?_)
          simp [results, Try.results33, go_sem, rsat]
          try go_simp
          refine hK _ ?_
          clear hK K
          exact ⟨rfl, (by repeat (first | (with_reducible exact Ext.refl _) | (with_reducible assumption) | (with_reducible refine Ext.alloc ?_ _) | (with_reducible refine Ext.drew ?_) | (with_reducible refine Ext.drewN ?_ _) | (with_reducible refine Ext.setCell ?_ (by simp; try omega) _) | (with_reducible refine Ext.setRow ?_ (by simp; try omega) _)))⟩
end Go.Proofs.Ytfbpmngdamaobaa
