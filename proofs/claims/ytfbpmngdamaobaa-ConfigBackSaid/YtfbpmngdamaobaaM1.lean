/- Messages (layer 6): which are right. No condition. -/
import Derived.Test.YtfbpmngdamaobaaO7
import Derived.Test.YtfbpmngdamaobaaCaOw
import Derived.Test.YtfbpmngdamaobaaRs
namespace Go.Proofs.Ytfbpmngdamaobaa
open Go.RowKit
attribute [local go_sem] Later.cell QUpon_value QUpon_enter MUpon_value run_eql_slice_nil

attribute [local go_sem] one_int one_bool one_slice one_ptr one_str setRow_new setRow_past cell_ca frozen_ca cellsAt_alloc_at cellsAt_alloc_past cellsAt_drew cellsAt_later cellsAt_setCell cellsAt_set_same cellsAt_setRow_same cellsAt_setRow_far subAt_alloc subAt_drew subAt_later subAt_setCell subAt_setRow ltn_2 ltn_3 ltn_4 ltn_5
structure Mg where
  kind : Int
  sym : Int
  seq : Int
  tick : Int
  id : Int
  wth : Int
  price : Int
  qty : Int
  code : Int
structure Mg.Ok (m : Mg) : Prop where
  kind : I64 m.kind
  sym : I64 m.sym
  seq : I64 m.seq
  tick : I64 m.tick
  id : I64 m.id
  wth : I64 m.wth
  price : I64 m.price
  qty : I64 m.qty
  code : I64 m.code
def inB (lo hi x : Int) : Bool := decide (lo ≤ x ∧ x ≤ hi)
def longs (xs : List Int) : List Value := xs.map (Value.int .i64)
def rightB (m : Mg) : Bool := inB 1 9 m.kind && (inB 0 255 m.sym && (inB 0 255 m.code && (inB 0 4611686018427387904 m.seq && (inB 0 4611686018427387904 m.tick && (inB (-1) 4611686018427387904 m.id && inB (-1) 4611686018427387904 m.wth)))))
end Go.Proofs.Ytfbpmngdamaobaa
