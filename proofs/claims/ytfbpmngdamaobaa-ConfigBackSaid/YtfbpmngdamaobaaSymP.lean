/- What a symbol that is right has. No condition. -/
import Derived.Test.YtfbpmngdamaobaaG8
namespace Go.Proofs.Ytfbpmngdamaobaa
open Go.RowKit

theorem allB_of {lo hi : Int} {xs : List Int} (h : allB lo hi xs = true) : ∀ x ∈ xs, lo ≤ x ∧ x ≤ hi := by
  intro x hx
  unfold allB at h
  simp only [Bool.not_eq_true', List.any_eq_false] at h
  have := h x hx
  unfold badB at this
  simp only [Bool.or_eq_true, decide_eq_true_eq, not_or, Int.not_lt] at this
  exact this
structure Sym.Ok (s : Sym) : Prop where
  g : 1 ≤ s.grid ∧ s.grid ≤ 1099511627776
  r : 1 ≤ s.ref ∧ s.ref ≤ 1099511627776
  rg : priceI s.ref s.grid = 0
  st : 0 ≤ s.stat ∧ s.stat ≤ 9999
  dy : 0 ≤ s.dyn ∧ s.dyn ≤ 9999
  mv : 0 ≤ s.move ∧ s.move ≤ 9999
  co : 0 ≤ s.coll ∧ s.coll ≤ 9999
  wd : 0 ≤ s.wid ∧ s.wid ≤ 9999
  sh : 0 ≤ s.short ∧ s.short ≤ 9999
  wi : 1 ≤ s.win ∧ s.win ≤ 1099511627776
  li : 1 ≤ s.lim ∧ s.lim ≤ 1099511627776
  pa : 1 ≤ s.pause ∧ s.pause ≤ 1099511627776
  ex : 1 ≤ s.ext ∧ s.ext ≤ 1099511627776
  mx : 0 ≤ s.mx ∧ s.mx ≤ 10
  se : 0 ≤ s.self ∧ s.self ≤ 3
  sl : 1 ≤ s.slots ∧ s.slots ≤ 500
  le : 1 ≤ s.lev ∧ s.lev ≤ 200
  ds : s.dyn ≤ s.stat
theorem sym_ok {s : Sym} (h : symI s = 0) : s.Ok := by
  have key : symB1 s = true ∧ symB2 s = true ∧ symB3 s = true ∧ symB4 s = true ∧ symB5 s = true ∧ symB6 s = true ∧ symB7 s = true := by
    unfold symI symR at h
    simp only [firstI] at h
    cases h1 : symB1 s <;> cases h2 : symB2 s <;> cases h3 : symB3 s <;> cases h4 : symB4 s <;> cases h5 : symB5 s <;> cases h6 : symB6 s <;> cases h7 : symB7 s <;> rw [h1] at h <;> (try rw [h2] at h) <;> (try rw [h3] at h) <;> (try rw [h4] at h) <;> (try rw [h5] at h) <;> (try rw [h6] at h) <;> (try rw [h7] at h) <;> simp at h <;> simp
  obtain ⟨h1, h2, h3, h4, h5, h6, h7⟩ := key
  have a1 := allB_of h1
  have a3 := allB_of h3
  have a4 := allB_of h4
  unfold symB5 at h5
  unfold symB6 at h6
  rw [Bool.and_eq_true] at h5 h6
  have a5 := allB_of h5.1
  have b5 := allB_of h5.2
  have a6 := allB_of h6.1
  have b6 := allB_of h6.2
  simp only [List.mem_cons, List.not_mem_nil, or_false, forall_eq_or_imp, forall_eq] at a1 a3 a4 a5 b5 a6 b6
  exact ⟨a1.1, a1.2, by simpa [symB2] using h2, a3.1, a3.2.1, a3.2.2.1, a3.2.2.2.1, a3.2.2.2.2.1, a3.2.2.2.2.2, a4.1, a4.2.1, a4.2.2.1, a4.2.2.2, a5, b5, a6, b6, by simpa [symB7] using h7⟩
end Go.Proofs.Ytfbpmngdamaobaa
