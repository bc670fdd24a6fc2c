/- The walks of package fix: Mul, MulDiv. No condition. -/
import Derived.Test.YtfbpmngdamaobaaF1
import Derived.Test.YtfbpmngdamaobaaW3
namespace Go.Proofs.Ytfbpmngdamaobaa
open Go.RowKit


/-- A product divided. -/
def mdQ (a b d : Int) (up : Bool) : Nat := a.toNat * b.toNat / d.toNat + (if up = true ∧ 0 < a.toNat * b.toNat % d.toNat then 1 else 0)
def mdI (a b d : Int) (up : Bool) : Value := if a < 0 ∨ b < 0 ∨ d < 1 then chk64 9223372036854775808 else chk64 (mdQ a b d up : Nat)

end Go.Proofs.Ytfbpmngdamaobaa
