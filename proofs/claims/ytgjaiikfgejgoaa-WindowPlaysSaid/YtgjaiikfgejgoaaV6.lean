/- Windows: Roll. Condition: the window has at most 1000 trades. -/
import Derived.Test.YtgjaiikfgejgoaaV5
namespace Go.Proofs.Ytgjaiikfgejgoaa
open Go.RowKit
def rollB (grid ref bps : Int) : List Tr → Bool
  | [] => false
  | x :: l => movedB ref (meanV grid (x :: l)) bps
def rollV (grid ref bps : Int) (l : List Tr) : Int := if rollB grid ref bps l then meanV grid l else ref
theorem meanV_I64 {grid : Int} {l : List Tr} (hgr : 1 ≤ grid ∧ grid ≤ 1099511627776) (h : ∀ x ∈ l, x.Ok) : 1 ≤ meanV grid l ∧ meanV grid l ≤ 1099511627776 := by
  have h1 := mean_lt h
  unfold meanV
  generalize worthN l / qtyN l = M at h1
  have hd0 := downI_le (p := (M : Int)) (g := grid) (by omega) hgr.1
  have hdV : downI (M : Int) grid = (M : Int) / grid * grid := if_neg (by omega)
  omega
set_option maxHeartbeats 4000000 in
set_option maxRecDepth 100000 in
theorem roll_c (g : Nat) (A : Option Addr) (span grid ref last : Int) (l : List Tr) (t bps : Int) (ht : I64 t) (hb : I64 bps) (hr : I64 ref) (hsp : 1 ≤ span ∧ span ≤ 1099511627776) (hgr : 1 ≤ grid ∧ grid ≤ 1099511627776) (w : World) (hW : Win w g A span grid ref last l) (hn : l.length ≤ 1000) :
    Calls Try.prog 17 #[.pointer (some ⟨g, 0, none⟩), .int .i64 t, .int .i64 bps] w fun e w' =>
      (comesB last t = false ∧ e = .returned (.tuple #[.int .i64 ref, .bool false]) ∧ Ext w w') ∨
      (comesB last t = true ∧ e = .returned (.tuple #[.int .i64 (rollV grid ref bps (dropT (t - span) l)), .bool (rollB grid ref bps (dropT (t - span) l))]) ∧ ∃ A', ablk A' = ablk A ∧ Win w' g A' span grid (rollV grid ref bps (dropT (t - span) l)) t (dropT (t - span) l) ∧ Chg w w' [g]) := by
  have C1 := mean_c g A span grid ref last l t ht hsp hgr w hW hn
  go_enter Try.func17, Try.ntmps17
  go_wp2_with fail
  refine (C1).mono ?_
  rintro e w1 (⟨hc, rfl, hx1⟩ | ⟨hc, rfl, A1, hb1, hW1, hC1⟩)
  ·
    go_wp2_with fail
    refine (ref_c g A span grid ref last l _ (Win.ext hW hx1)).mono ?_
    rintro e w2 ⟨rfl, hxw2⟩
    go_wp2_with fail
    first | refine fin_ret rfl (fun K hK => ?_) | refine fin_norm rfl (fun K hK => ?_)
    simp [results, Try.results17, go_sem, rsat]
    try go_simp
    refine hK _ ?_
    clear hK K
    exact .inl ⟨hc, rfl, hx1.trans (by assumption)⟩
  · have hok1 := hW1.ok
    rcases hd : dropT (t - span) l with _ | ⟨x, r⟩
    · rw [hd] at hW1
      simp only [meanR]
      go_wp2_with fail
      refine (ref_c g A1 span grid ref t [] _ hW1).mono ?_
      rintro e w2 ⟨rfl, hxw2⟩
      go_wp2_with fail
      first | refine fin_ret rfl (fun K hK => ?_) | refine fin_norm rfl (fun K hK => ?_)
      simp [results, Try.results17, go_sem, rsat]
      try go_simp
      refine hK _ ?_
      clear hK K
      rw [hd]
      exact .inr ⟨hc, rfl, A1, hb1, Win.ext hW1 (by assumption), hC1.extR (by assumption)⟩
    · rw [hd] at hW1 hok1
      simp only [meanR]
      have hmI := meanV_I64 hgr hok1
      have hrB : rollB grid ref bps (x :: r) = movedB ref (meanV grid (x :: r)) bps := rfl
      have hrV : rollV grid ref bps (x :: r) = if movedB ref (meanV grid (x :: r)) bps then meanV grid (x :: r) else ref := rfl
      generalize meanV grid (x :: r) = m at hmI hrB hrV ⊢
      have C2 := moved_c ref m bps hr ⟨by omega, by omega⟩ hb
      clear C1
      obtain ⟨c1, hA1, hR1⟩ := hW1.ex
      have sg1 := hA1.lt
      have b2 : w1.cell? ⟨g, 2, none⟩ = some (.int .i64 ref) := hA1.cell 2
      generalize movedB ref m bps = b at C2 hrB hrV
      cases b
      ·
        go_wp2_with fail
        refine (C2 _).mono ?_
        rintro e w2 ⟨rfl, hxw2⟩
        go_wp2_with fail
        refine (ref_c g A1 span grid ref t (x :: r) _ (Win.ext hW1 (by assumption))).mono ?_
        rintro e w3 ⟨rfl, hxw3⟩
        go_wp2_with fail
        first | refine fin_ret rfl (fun K hK => ?_) | refine fin_norm rfl (fun K hK => ?_)
        simp [results, Try.results17, go_sem, rsat]
        try go_simp
        refine hK _ ?_
        clear hK K
        rw [hd, hrB, hrV]
        exact .inr ⟨hc, rfl, A1, hb1, Win.ext (Win.ext hW1 hxw2) hxw3, (hC1.extR hxw2).extR hxw3⟩
      ·
        go_wp2_with fail
        refine (C2 _).mono ?_
        rintro e w2 ⟨rfl, hxw2⟩
        have hA2 := hA1.ext hxw2
        have b3 : w2.cell? ⟨g, 2, none⟩ = some (.int .i64 ref) := hA2.cell 2
        have f3 := hA2.frozen 2
        go_wp2_with fail
        first | refine fin_ret rfl (fun K hK => ?_) | refine fin_norm rfl (fun K hK => ?_)
        simp [results, Try.results17, go_sem, rsat]
        try go_simp
        refine hK _ ?_
        clear hK K
        rw [hd, hrB, hrV]
        exact .inr ⟨hc, rfl, A1, hb1, ⟨hW1.ok, fun k hk => ⟨by have := (hW1.alt k hk).1; have := hxw2.size; simp; omega, (hW1.alt k hk).2⟩, c1, hA2.set 2 _, (hR1.ext hxw2).set (fun h => (hW1.alt g h).2 rfl) _⟩, (hC1.extR hxw2).set (.inl (by simp)) _⟩
end Go.Proofs.Ytgjaiikfgejgoaa
