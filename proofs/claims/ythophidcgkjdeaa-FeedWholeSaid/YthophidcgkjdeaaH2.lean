/- Frames (layer 4): the document's Take; law FrameTakes. No condition. -/
import Derived.Test.YthophidcgkjdeaaH1
namespace Go.Proofs.Ythophidcgkjdeaa
open Go.RowKit
attribute [local go_sem] Later.cell QUpon_value QUpon_enter MUpon_value run_eql_slice_nil

attribute [local go_sem] one_int one_bool one_slice one_ptr one_str setRow_new setRow_past cell_ca frozen_ca cellsAt_alloc_at cellsAt_alloc_past cellsAt_drew cellsAt_later cellsAt_setCell cellsAt_set_same cellsAt_setRow_same cellsAt_setRow_far subAt_alloc subAt_drew subAt_later subAt_setCell subAt_setRow ltn_2 ltn_3 ltn_4 ltn_5
theorem Src.cut {w : World} {b off n i k : Nat} {bs : List Int} (h : Src w 1 (some ⟨b, off, none⟩) n (bc bs)) (hi : i + k ≤ n) : Src w 1 (some ⟨b, off + i, none⟩) k (bc ((bs.drop i).take k)) := by
  have hl := h.len
  rw [bc_len, Nat.mul_one] at hl
  refine ⟨by rw [bc_len, List.length_take, List.length_drop]; omega, fun h0 => ⟨_, rfl, fun j u hj => ?_⟩⟩
  obtain ⟨ad, hA, hc⟩ := h.at_ (by omega)
  injection hA with hA
  subst hA
  have hjl := (List.getElem?_eq_some_iff.1 hj).1
  rw [bc_len, List.length_take, List.length_drop] at hjl
  unfold bc at hj
  rw [List.getElem?_map, List.getElem?_take_of_lt (by omega), List.getElem?_drop, ← List.getElem?_map] at hj
  have := hc (i + j) u hj
  rw [Addr.add_lit] at this ⊢
  rw [Nat.add_assoc]
  exact this
end Go.Proofs.Ythophidcgkjdeaa
