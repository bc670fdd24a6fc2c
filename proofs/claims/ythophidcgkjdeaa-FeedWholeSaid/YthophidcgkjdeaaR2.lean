/- What the document reads, 2 (ref03): Int, Raw, Num. Condition: at most 10^9 bytes. -/
import Derived.Test.YthophidcgkjdeaaR1
import Derived.Test.YthophidcgkjdeaaO7
namespace Go.Proofs.Ythophidcgkjdeaa
open Go.RowKit
attribute [local go_sem] Later.cell QUpon_value QUpon_enter MUpon_value run_eql_slice_nil

attribute [local go_sem] one_int one_bool one_slice one_ptr one_str setRow_new setRow_past cell_ca frozen_ca cellsAt_alloc_at cellsAt_alloc_past cellsAt_drew cellsAt_later cellsAt_setCell cellsAt_set_same cellsAt_setRow_same cellsAt_setRow_far subAt_alloc subAt_drew subAt_later subAt_setCell subAt_setRow ltn_2 ltn_3 ltn_4 ltn_5
/-- What ReadRaw tells. -/
def rawP (bs : List Int) (n : Nat) : List Int × Int × Int := if bs.length < n then ([], 0, 3) else (bs.take n, n, 0)
/-- What ReadNum tells. -/
def numP (bs : List Int) : Nat × Int × Int := if (numG 10 0 0 bs).2.2 = 0 then ((numG 10 0 0 bs).1, bs.length - (numG 10 0 0 bs).2.1.length, 0) else (0, 0, (numG 10 0 0 bs).2.2)
theorem numP_bad {bs cs : List Int} {n : Nat} {f : Int} (h : numG 10 0 0 bs = (n, cs, f)) (hf : f ≠ 0) : numP bs = (0, 0, f) := by
  unfold numP
  rw [h]
  simp [hf]
theorem numP_ok {bs cs : List Int} {n : Nat} (h : numG 10 0 0 bs = (n, cs, 0)) : numP bs = (n, (bs.length : Int) - (cs.length : Int), 0) := by
  unfold numP
  rw [h]
  simp
end Go.Proofs.Ythophidcgkjdeaa
