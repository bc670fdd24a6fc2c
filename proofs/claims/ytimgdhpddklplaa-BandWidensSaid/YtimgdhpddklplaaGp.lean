/- Bounds on the grid: plain facts. No condition. -/
import Derived.Test.YtimgdhpddklplaaF3
namespace Go.Proofs.Ytimgdhpddklplaa
open Go.RowKit
/-! Bounds on the grid. -/
theorem upN_mul {p g : Int} (h : 0 ≤ p) (hg : 1 ≤ g) : ∃ k, upN p g = k * g := by
  unfold upN
  split
  · rename_i e; exact ⟨p / g, e.symm⟩
  · exact ⟨p / g + 1, by rw [Int.add_mul]; omega⟩
theorem mul_lt_add {k n g : Int} (hg : 1 ≤ g) (h : k * g < n * g + g) : k ≤ n := by
  have e : n * g + g = (n + 1) * g := by rw [Int.add_mul]; omega
  rw [e] at h
  have := Int.lt_of_mul_lt_mul_right h (by omega)
  omega
theorem mul_mono {k n g : Int} (hg : 1 ≤ g) (h : k ≤ n) : k * g ≤ n * g := Int.mul_le_mul_of_nonneg_right h (by omega)
theorem upN_le {p n g : Int} (h : 0 ≤ p) (hg : 1 ≤ g) (hp : p ≤ n * g) : upN p g ≤ n * g := by
  obtain ⟨k, hk⟩ := upN_mul h hg
  have := (upN_bd h hg).2
  rw [hk] at this ⊢
  exact mul_mono hg (mul_lt_add hg (by omega))
theorem upN_mono {p q g : Int} (h : 0 ≤ p) (hg : 1 ≤ g) (hp : p ≤ q) : upN p g ≤ upN q g := by
  obtain ⟨k, hk⟩ := upN_mul (p := q) (by omega) hg
  have := (upN_bd (p := q) (by omega) hg).1
  rw [hk] at this ⊢
  exact upN_le h hg (by omega)
theorem down_ge {p n g : Int} (h : 0 ≤ p) (hg : 1 ≤ g) (hp : n * g ≤ p) : n * g ≤ p / g * g := by
  obtain ⟨h1, h2, h3⟩ := downI_le h hg
  exact mul_mono hg (mul_lt_add hg (by omega))
theorem down_mono {p q g : Int} (h : 0 ≤ p) (hg : 1 ≤ g) (hp : p ≤ q) : p / g * g ≤ q / g * g := mul_mono hg (Int.ediv_le_ediv (by omega) hp)
theorem lo_mono {r b m : Int} (hr : 1 ≤ r) (hb : b ≤ m) : loI r m ≤ loI r b := by
  unfold loI
  have : r * (10000 - m) ≤ r * (10000 - b) := Int.mul_le_mul_of_nonneg_left (by omega) (by omega)
  omega
theorem hi_mono {r b m : Int} (hr : 1 ≤ r) (hb : b ≤ m) : hiI r b ≤ hiI r m := by
  unfold hiI
  have : r * (10000 + b) ≤ r * (10000 + m) := Int.mul_le_mul_of_nonneg_left (by omega) (by omega)
  omega
end Go.Proofs.Ytimgdhpddklplaa
