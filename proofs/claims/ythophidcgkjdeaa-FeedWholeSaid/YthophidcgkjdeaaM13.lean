/- Laws MessageStreams, MessageBack. No condition. -/
import Derived.Test.YthophidcgkjdeaaM12
import Derived.Test.YthophidcgkjdeaaMB
namespace Go.Proofs.Ythophidcgkjdeaa
open Go.RowKit
attribute [local go_sem] Later.cell QUpon_value QUpon_enter MUpon_value run_eql_slice_nil Same.cell
attribute [local go_sem ↓ high] loadMsg_is storeMsg_is
attribute [local go_sem] run_loadMsg run_loadMsg_at run_storeMsg one_int one_bool one_slice one_ptr one_str setRow_new setRow_past cell_ca frozen_ca cellsAt_alloc_at cellsAt_alloc_past cellsAt_drew cellsAt_later cellsAt_setCell cellsAt_set_same cellsAt_setRow_same cellsAt_setRow_far subAt_alloc subAt_drew subAt_later subAt_setCell subAt_setRow ltn_2 ltn_3 ltn_4 ltn_5
theorem strM_len {l : List Mg} (hl : l.length ≤ 60) : (strM l).1.length ≤ 3960 := by
  unfold strM
  split
  · rename_i h
    have h1 := stream_len (l := l.map formB) (fun p hp => by
      obtain ⟨m, hm, rfl⟩ := List.mem_map.1 hp
      have := form_len ((right_iff m).1 (List.all_eq_true.1 h m hm))
      omega)
    rw [List.length_map] at h1
    show (stream (l.map formB)).length ≤ 3960
    omega
  · exact Nat.zero_le _
theorem strM_byt (l : List Mg) : Byt (strM l).1 := by
  unfold strM
  split
  · rename_i h
    exact stream_byt (fun p hp => by
      obtain ⟨m, hm, rfl⟩ := List.mem_map.1 hp
      exact form_byt ((right_iff m).1 (List.all_eq_true.1 h m hm)))
  · intro x hx; cases hx
theorem bs_blk {b : Bs} {w : World} (h : b.At w) : 0 < b.xs.length → ∀ k ∈ ablk b.A, k < w.heap.size := fun h0 k hk => by
  obtain ⟨p, off, hA, hp, _⟩ := h.src.lt h0 (by decide)
  rw [hA] at hk
  simp [ablk] at hk
  omega
theorem encF_eq (m : Mg) : encF m = if rightB m then 0 else 1 := rfl
end Go.Proofs.Ythophidcgkjdeaa
