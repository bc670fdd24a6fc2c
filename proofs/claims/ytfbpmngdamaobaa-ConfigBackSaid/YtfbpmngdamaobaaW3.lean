/- Wide numbers told by one natural number: Div, Add, Left at such. No condition. -/
import Derived.Test.YtfbpmngdamaobaaW2
namespace Go.Proofs.Ytfbpmngdamaobaa
open Go.RowKit

theorem wide_lo (r : Nat) (h : r < 18446744073709551616) : wide r = .agg #[.int .u64 0, .int .u64 r] := by
  unfold wide
  rw [Nat.div_eq_of_lt h, Nat.mod_eq_of_lt h]; rfl
end Go.Proofs.Ytfbpmngdamaobaa
