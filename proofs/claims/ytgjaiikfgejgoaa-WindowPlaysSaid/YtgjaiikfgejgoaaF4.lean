/- The walks of the reference of layer 2: size, signed, sum, Add, Sub, Mul. No condition. -/
import Derived.Test.YtgjaiikfgejgoaaF1
import Derived.Test.YtgjaiikfgejgoaaA7
namespace Go.Proofs.Ytgjaiikfgejgoaa
open Go.RowKit
attribute [local go_sem] Later.cell QUpon_value QUpon_enter MUpon_value
attribute [local go_sem ↓ high] loadVar_is storeVar_is
attribute [local go_sem high] zero_bits
attribute [local go_sem] run_loadBits run_storeBits isArr_arr cellsAt_alloc_at cellsAt_alloc_past cellsAt_drew ltn_2 ltn_3 ltn_4 ltn_5 setRow_new setRow_past bitsOf cellsAt_later cellsAt_setRow_far

end Go.Proofs.Ytgjaiikfgejgoaa
