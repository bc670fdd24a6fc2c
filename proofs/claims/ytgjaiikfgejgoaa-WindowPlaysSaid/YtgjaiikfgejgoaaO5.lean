/- What a reader reads (octets). Condition: at most 10^9 bytes. -/
import Derived.Test.YtgjaiikfgejgoaaO4
namespace Go.Proofs.Ytgjaiikfgejgoaa
open Go.RowKit
attribute [local go_sem] Later.cell QUpon_value QUpon_enter MUpon_value run_eql_slice_nil
end Go.Proofs.Ytgjaiikfgejgoaa
