/- What the document reads (ref03): Uint, Int, Raw. Condition: at most 10^9 bytes. -/
import Derived.Test.YthophidcgkjdeaaO6
import Derived.Test.YthophidcgkjdeaaFv
import Derived.Test.YthophidcgkjdeaaCaOw
namespace Go.Proofs.Ythophidcgkjdeaa
open Go.RowKit
attribute [local go_sem] Later.cell QUpon_value QUpon_enter MUpon_value run_eql_slice_nil

attribute [local go_sem] one_int one_bool one_slice one_ptr one_str setRow_new setRow_past cell_ca frozen_ca cellsAt_alloc_at cellsAt_alloc_past cellsAt_drew cellsAt_later cellsAt_setCell cellsAt_set_same cellsAt_setRow_same cellsAt_setRow_far subAt_alloc subAt_drew subAt_later subAt_setCell subAt_setRow ltn_2 ltn_3 ltn_4 ltn_5
/-- A Part's cells. -/
def prtC (n : Nat) (s : Int) (v : Value) (size f : Int) : Array Value := #[.int .u64 (n : Int), .int .i64 s, v, .int .i64 size, .int .i64 f]
def prtV (n : Nat) (s : Int) (v : Value) (size f : Int) : Value := .agg (prtC n s v size f)
def nilV : Value := .slice none 0 0
/-- What ReadUint tells: the number, the bytes, the fault. -/
def uintP (bs : List Int) (size : Nat) : Nat × Int × Int := if bs.length < size then (0, 0, 3) else (valN (bs.take size), size, 0)
theorem valN_bytes {l : List Int} (h : Byt l) (k : Nat) (hk : l.length ≤ k) : valN l < 256 ^ k := Nat.lt_of_lt_of_le (valN_lt h) (Nat.pow_le_pow_right (by decide) hk)
end Go.Proofs.Ythophidcgkjdeaa
