/- What the document reads (ref03): Uint, Int, Raw. Condition: at most 10^9 bytes. -/
import Derived.Test.YtfbpmngdamaobaaO6
import Derived.Test.YtfbpmngdamaobaaFv
import Derived.Test.YtfbpmngdamaobaaCaOw
namespace Go.Proofs.Ytfbpmngdamaobaa
open Go.RowKit
/-- A value of ref03.Part, read and written whole: closed words. -/
def loadPrt (a : Addr) : Sem Value := loadVar 105 a
theorem loadPrt_is (a : Addr) : loadVar 105 a = loadPrt a := rfl
theorem run_loadPrt (w : World) (g : Nat) (h : (cellsAt w g).size = 5) : (loadPrt ⟨g, 0, none⟩).run Try.prog w = .ok (.agg (cellsAt w g)) w :=
  loadVar_ca 105 5 (fun _ => by kernel_rfl) (fun _ => by kernel_rfl) w g h
theorem run_loadPrt_at (w : World) (g off : Nat) (h : (subAt w g off 5).size = 5) : (loadPrt ⟨g, off, none⟩).run Try.prog w = .ok (.agg (subAt w g off 5)) w :=
  loadVar_sub 105 5 (fun _ => by kernel_rfl) (fun _ => by kernel_rfl) w g off h
def storePrt (a : Addr) (v : Value) : Sem Unit := storeVar 105 a v
theorem storePrt_is (a : Addr) (v : Value) : storeVar 105 a v = storePrt a v := rfl
theorem run_storePrt (w : World) (g : Nat) (cs : Array Value) (hc : cs.size = 5) (h : (cellsAt w g).size = 5) (h1 : cs.toList.all (·.oneCell') = true) : (storePrt ⟨g, 0, none⟩ (.agg cs)).run Try.prog w = .ok () (w.setRow g cs) :=
  storeVar_ca 105 5 (fun _ => by kernel_rfl) w g cs hc h h1 (by decide)
attribute [local go_sem] Later.cell QUpon_value QUpon_enter MUpon_value run_eql_slice_nil
attribute [local go_sem ↓ high] loadPrt_is storePrt_is
attribute [local go_sem] run_loadPrt run_loadPrt_at run_storePrt one_int one_bool one_slice one_ptr one_str setRow_new setRow_past cell_ca frozen_ca cellsAt_alloc_at cellsAt_alloc_past cellsAt_drew cellsAt_later cellsAt_setCell cellsAt_set_same cellsAt_setRow_same cellsAt_setRow_far subAt_alloc subAt_drew subAt_later subAt_setCell subAt_setRow ltn_2 ltn_3 ltn_4 ltn_5
/-- A Part's cells. -/
def prtC (n : Nat) (s : Int) (v : Value) (size f : Int) : Array Value := #[.int .u64 (n : Int), .int .i64 s, v, .int .i64 size, .int .i64 f]
def prtV (n : Nat) (s : Int) (v : Value) (size f : Int) : Value := .agg (prtC n s v size f)
def nilV : Value := .slice none 0 0
/-- What ReadUint tells: the number, the bytes, the fault. -/
def uintP (bs : List Int) (size : Nat) : Nat × Int × Int := if bs.length < size then (0, 0, 3) else (valN (bs.take size), size, 0)
theorem valN_bytes {l : List Int} (h : Byt l) (k : Nat) (hk : l.length ≤ k) : valN l < 256 ^ k := Nat.lt_of_lt_of_le (valN_lt h) (Nat.pow_le_pow_right (by decide) hk)
end Go.Proofs.Ytfbpmngdamaobaa
