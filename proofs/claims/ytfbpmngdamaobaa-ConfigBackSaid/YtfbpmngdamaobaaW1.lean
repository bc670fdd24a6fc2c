/- The walks of package wide but for Div and Text. No condition but that numbers lie in their ranges. -/
import Derived.Test.YtfbpmngdamaobaaSl
import Derived.Test.YtfbpmngdamaobaaWP
import Derived.Test.YtfbpmngdamaobaaProg
import Derived.Test.YtfbpmngdamaobaaRg
import Derived.Deep.RegionHeld3
import Derived.Deep.DrawnRows
namespace Go.Proofs.Ytfbpmngdamaobaa
open Go.RowKit
attribute [local go_sem ↓] Go.wp_at_zero Go.wp_at_succ
attribute [local go_sem] Later.cell QUpon_value QUpon_enter MUpon_value

theorem sub_val (a b c d : Int) (ha : U64 a) (hb : U64 b) (hc : U64 c) (hd : U64 d) (h : b < d) :
    Value.tuple #[.agg #[.int .u64 (IntKind.u64.wrap (IntKind.u64.wrap (a - c) - 1)), .int .u64 (IntKind.u64.wrap (b - d))], .bool (decide (0 ≤ cmpN (X a b) (X c d)))] = .tuple #[wide ((X a b + 340282366920938463463374607431768211456 - X c d) % 340282366920938463463374607431768211456), .bool (decide (X c d ≤ X a b))] := by
  simp only [IntKind.wrap_u64] at *
  unfold U64 at *
  refine tup_wide ?_ ?_ ?_
  · unfold X; omega
  · unfold X; omega
  · unfold cmpN; simp; split <;> (try split) <;> omega
theorem sub_val2 (a b c d : Int) (ha : U64 a) (hb : U64 b) (hc : U64 c) (hd : U64 d) (h : d ≤ b) :
    Value.tuple #[.agg #[.int .u64 (IntKind.u64.wrap (a - c)), .int .u64 (IntKind.u64.wrap (b - d))], .bool (decide (0 ≤ cmpN (X a b) (X c d)))] = .tuple #[wide ((X a b + 340282366920938463463374607431768211456 - X c d) % 340282366920938463463374607431768211456), .bool (decide (X c d ≤ X a b))] := by
  simp only [IntKind.wrap_u64] at *
  unfold U64 at *
  refine tup_wide ?_ ?_ ?_
  · unfold X; omega
  · unfold X; omega
  · unfold cmpN; simp; split <;> (try split) <;> omega

end Go.Proofs.Ytfbpmngdamaobaa
