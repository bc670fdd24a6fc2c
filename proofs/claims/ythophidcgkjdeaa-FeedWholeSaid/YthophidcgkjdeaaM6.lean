/- Messages (layer 6): Decode, by the document. Condition: at most 10^9 bytes. -/
import Derived.Test.YthophidcgkjdeaaM5
import Derived.Test.YthophidcgkjdeaaPs6
namespace Go.Proofs.Ythophidcgkjdeaa
open Go.RowKit
attribute [local go_sem] Later.cell QUpon_value QUpon_enter MUpon_value run_eql_slice_nil Same.cell
attribute [local go_sem ↓ high] loadMsg_is storeMsg_is
attribute [local go_sem] run_loadMsg run_loadMsg_at run_storeMsg one_int one_bool one_slice one_ptr one_str setRow_new setRow_past cell_ca frozen_ca cellsAt_alloc_at cellsAt_alloc_past cellsAt_drew cellsAt_later cellsAt_setCell cellsAt_set_same cellsAt_setRow_same cellsAt_setRow_far subAt_alloc subAt_drew subAt_later subAt_setCell subAt_setRow ltn_2 ltn_3 ltn_4 ltn_5

attribute [local go_sem] cell_putAt
theorem rightB_seq (m : Mg) (h : 4611686018427387904 < m.seq) : rightB m = false := by
  unfold rightB
  have : inB 0 4611686018427387904 m.seq = false := by unfold inB; simp; omega
  rw [this]
  simp
theorem rightB_tick (m : Mg) (h : 4611686018427387904 < m.tick) : rightB m = false := by
  unfold rightB
  have : inB 0 4611686018427387904 m.tick = false := by unfold inB; simp; omega
  rw [this]
  simp
/-- The parts behind k rounds. -/
def cellsM (va vb vc vd ve : Nat) (vi vj vp vq : Int) (z4 z5 : Nat) : Nat → Array Value
  | 0 => #[.int .u64 0, .int .i64 0, .slice none 0 0, .int .i64 0, .int .i64 0, .int .u64 0, .int .i64 0, .slice none 0 0, .int .i64 0, .int .i64 0, .int .u64 0, .int .i64 0, .slice none 0 0, .int .i64 0, .int .i64 0, .int .u64 0, .int .i64 0, .slice none 0 0, .int .i64 0, .int .i64 0, .int .u64 0, .int .i64 0, .slice none 0 0, .int .i64 0, .int .i64 0, .int .u64 0, .int .i64 0, .slice none 0 0, .int .i64 0, .int .i64 0, .int .u64 0, .int .i64 0, .slice none 0 0, .int .i64 0, .int .i64 0, .int .u64 0, .int .i64 0, .slice none 0 0, .int .i64 0, .int .i64 0, .int .u64 0, .int .i64 0, .slice none 0 0, .int .i64 0, .int .i64 0]
  | 1 => #[.int .u64 (va : Int), .int .i64 0, .slice none 0 0, .int .i64 1, .int .i64 0, .int .u64 0, .int .i64 0, .slice none 0 0, .int .i64 0, .int .i64 0, .int .u64 0, .int .i64 0, .slice none 0 0, .int .i64 0, .int .i64 0, .int .u64 0, .int .i64 0, .slice none 0 0, .int .i64 0, .int .i64 0, .int .u64 0, .int .i64 0, .slice none 0 0, .int .i64 0, .int .i64 0, .int .u64 0, .int .i64 0, .slice none 0 0, .int .i64 0, .int .i64 0, .int .u64 0, .int .i64 0, .slice none 0 0, .int .i64 0, .int .i64 0, .int .u64 0, .int .i64 0, .slice none 0 0, .int .i64 0, .int .i64 0, .int .u64 0, .int .i64 0, .slice none 0 0, .int .i64 0, .int .i64 0]
  | 2 => #[.int .u64 (va : Int), .int .i64 0, .slice none 0 0, .int .i64 1, .int .i64 0, .int .u64 (vb : Int), .int .i64 0, .slice none 0 0, .int .i64 1, .int .i64 0, .int .u64 0, .int .i64 0, .slice none 0 0, .int .i64 0, .int .i64 0, .int .u64 0, .int .i64 0, .slice none 0 0, .int .i64 0, .int .i64 0, .int .u64 0, .int .i64 0, .slice none 0 0, .int .i64 0, .int .i64 0, .int .u64 0, .int .i64 0, .slice none 0 0, .int .i64 0, .int .i64 0, .int .u64 0, .int .i64 0, .slice none 0 0, .int .i64 0, .int .i64 0, .int .u64 0, .int .i64 0, .slice none 0 0, .int .i64 0, .int .i64 0, .int .u64 0, .int .i64 0, .slice none 0 0, .int .i64 0, .int .i64 0]
  | 3 => #[.int .u64 (va : Int), .int .i64 0, .slice none 0 0, .int .i64 1, .int .i64 0, .int .u64 (vb : Int), .int .i64 0, .slice none 0 0, .int .i64 1, .int .i64 0, .int .u64 (vc : Int), .int .i64 0, .slice none 0 0, .int .i64 1, .int .i64 0, .int .u64 0, .int .i64 0, .slice none 0 0, .int .i64 0, .int .i64 0, .int .u64 0, .int .i64 0, .slice none 0 0, .int .i64 0, .int .i64 0, .int .u64 0, .int .i64 0, .slice none 0 0, .int .i64 0, .int .i64 0, .int .u64 0, .int .i64 0, .slice none 0 0, .int .i64 0, .int .i64 0, .int .u64 0, .int .i64 0, .slice none 0 0, .int .i64 0, .int .i64 0, .int .u64 0, .int .i64 0, .slice none 0 0, .int .i64 0, .int .i64 0]
  | 4 => #[.int .u64 (va : Int), .int .i64 0, .slice none 0 0, .int .i64 1, .int .i64 0, .int .u64 (vb : Int), .int .i64 0, .slice none 0 0, .int .i64 1, .int .i64 0, .int .u64 (vc : Int), .int .i64 0, .slice none 0 0, .int .i64 1, .int .i64 0, .int .u64 (vd : Int), .int .i64 0, .slice none 0 0, .int .i64 (z4 : Int), .int .i64 0, .int .u64 0, .int .i64 0, .slice none 0 0, .int .i64 0, .int .i64 0, .int .u64 0, .int .i64 0, .slice none 0 0, .int .i64 0, .int .i64 0, .int .u64 0, .int .i64 0, .slice none 0 0, .int .i64 0, .int .i64 0, .int .u64 0, .int .i64 0, .slice none 0 0, .int .i64 0, .int .i64 0, .int .u64 0, .int .i64 0, .slice none 0 0, .int .i64 0, .int .i64 0]
  | 5 => #[.int .u64 (va : Int), .int .i64 0, .slice none 0 0, .int .i64 1, .int .i64 0, .int .u64 (vb : Int), .int .i64 0, .slice none 0 0, .int .i64 1, .int .i64 0, .int .u64 (vc : Int), .int .i64 0, .slice none 0 0, .int .i64 1, .int .i64 0, .int .u64 (vd : Int), .int .i64 0, .slice none 0 0, .int .i64 (z4 : Int), .int .i64 0, .int .u64 (ve : Int), .int .i64 0, .slice none 0 0, .int .i64 (z5 : Int), .int .i64 0, .int .u64 0, .int .i64 0, .slice none 0 0, .int .i64 0, .int .i64 0, .int .u64 0, .int .i64 0, .slice none 0 0, .int .i64 0, .int .i64 0, .int .u64 0, .int .i64 0, .slice none 0 0, .int .i64 0, .int .i64 0, .int .u64 0, .int .i64 0, .slice none 0 0, .int .i64 0, .int .i64 0]
  | 6 => #[.int .u64 (va : Int), .int .i64 0, .slice none 0 0, .int .i64 1, .int .i64 0, .int .u64 (vb : Int), .int .i64 0, .slice none 0 0, .int .i64 1, .int .i64 0, .int .u64 (vc : Int), .int .i64 0, .slice none 0 0, .int .i64 1, .int .i64 0, .int .u64 (vd : Int), .int .i64 0, .slice none 0 0, .int .i64 (z4 : Int), .int .i64 0, .int .u64 (ve : Int), .int .i64 0, .slice none 0 0, .int .i64 (z5 : Int), .int .i64 0, .int .u64 0, .int .i64 vi, .slice none 0 0, .int .i64 8, .int .i64 0, .int .u64 0, .int .i64 0, .slice none 0 0, .int .i64 0, .int .i64 0, .int .u64 0, .int .i64 0, .slice none 0 0, .int .i64 0, .int .i64 0, .int .u64 0, .int .i64 0, .slice none 0 0, .int .i64 0, .int .i64 0]
  | 7 => #[.int .u64 (va : Int), .int .i64 0, .slice none 0 0, .int .i64 1, .int .i64 0, .int .u64 (vb : Int), .int .i64 0, .slice none 0 0, .int .i64 1, .int .i64 0, .int .u64 (vc : Int), .int .i64 0, .slice none 0 0, .int .i64 1, .int .i64 0, .int .u64 (vd : Int), .int .i64 0, .slice none 0 0, .int .i64 (z4 : Int), .int .i64 0, .int .u64 (ve : Int), .int .i64 0, .slice none 0 0, .int .i64 (z5 : Int), .int .i64 0, .int .u64 0, .int .i64 vi, .slice none 0 0, .int .i64 8, .int .i64 0, .int .u64 0, .int .i64 vj, .slice none 0 0, .int .i64 8, .int .i64 0, .int .u64 0, .int .i64 0, .slice none 0 0, .int .i64 0, .int .i64 0, .int .u64 0, .int .i64 0, .slice none 0 0, .int .i64 0, .int .i64 0]
  | 8 => #[.int .u64 (va : Int), .int .i64 0, .slice none 0 0, .int .i64 1, .int .i64 0, .int .u64 (vb : Int), .int .i64 0, .slice none 0 0, .int .i64 1, .int .i64 0, .int .u64 (vc : Int), .int .i64 0, .slice none 0 0, .int .i64 1, .int .i64 0, .int .u64 (vd : Int), .int .i64 0, .slice none 0 0, .int .i64 (z4 : Int), .int .i64 0, .int .u64 (ve : Int), .int .i64 0, .slice none 0 0, .int .i64 (z5 : Int), .int .i64 0, .int .u64 0, .int .i64 vi, .slice none 0 0, .int .i64 8, .int .i64 0, .int .u64 0, .int .i64 vj, .slice none 0 0, .int .i64 8, .int .i64 0, .int .u64 0, .int .i64 vp, .slice none 0 0, .int .i64 8, .int .i64 0, .int .u64 0, .int .i64 0, .slice none 0 0, .int .i64 0, .int .i64 0]
  | _ => #[.int .u64 (va : Int), .int .i64 0, .slice none 0 0, .int .i64 1, .int .i64 0, .int .u64 (vb : Int), .int .i64 0, .slice none 0 0, .int .i64 1, .int .i64 0, .int .u64 (vc : Int), .int .i64 0, .slice none 0 0, .int .i64 1, .int .i64 0, .int .u64 (vd : Int), .int .i64 0, .slice none 0 0, .int .i64 (z4 : Int), .int .i64 0, .int .u64 (ve : Int), .int .i64 0, .slice none 0 0, .int .i64 (z5 : Int), .int .i64 0, .int .u64 0, .int .i64 vi, .slice none 0 0, .int .i64 8, .int .i64 0, .int .u64 0, .int .i64 vj, .slice none 0 0, .int .i64 8, .int .i64 0, .int .u64 0, .int .i64 vp, .slice none 0 0, .int .i64 8, .int .i64 0, .int .u64 0, .int .i64 vq, .slice none 0 0, .int .i64 8, .int .i64 0]
/-- The bytes that are left behind k rounds. -/
def restM (bs s1 s2 s3 s4 s5 s6 s7 s8 s9 : List Int) : Nat → List Int
  | 0 => bs
  | 1 => s1
  | 2 => s2
  | 3 => s3
  | 4 => s4
  | 5 => s5
  | 6 => s6
  | 7 => s7
  | 8 => s8
  | _ => s9
def faultM (f1 f2 f3 f4 f5 f6 f7 f8 f9 : Int) : Nat → Int
  | 0 => 0
  | 1 => f1
  | 2 => f2
  | 3 => f3
  | 4 => f4
  | 5 => f5
  | 6 => f6
  | 7 => f7
  | 8 => f8
  | _ => f9
end Go.Proofs.Ythophidcgkjdeaa
