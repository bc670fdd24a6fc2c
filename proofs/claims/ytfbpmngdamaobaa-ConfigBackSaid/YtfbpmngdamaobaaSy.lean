/- Symbols of configurations. No condition. -/
import Derived.Test.YtfbpmngdamaobaaCaOw
import Derived.Test.YtfbpmngdamaobaaFP
import Derived.Test.YtfbpmngdamaobaaFi
namespace Go.Proofs.Ytfbpmngdamaobaa
open Go.RowKit

/-- A symbol of a configuration. -/
structure Sym where
  grid : Int
  ref : Int
  stat : Int
  dyn : Int
  win : Int
  move : Int
  lim : Int
  pause : Int
  ext : Int
  mx : Int
  coll : Int
  wid : Int
  self : Int
  slots : Int
  lev : Int
  short : Int
structure Sym.I (s : Sym) : Prop where
  grid : I64 s.grid
  ref : I64 s.ref
  stat : I64 s.stat
  dyn : I64 s.dyn
  win : I64 s.win
  move : I64 s.move
  lim : I64 s.lim
  pause : I64 s.pause
  ext : I64 s.ext
  mx : I64 s.mx
  coll : I64 s.coll
  wid : I64 s.wid
  self : I64 s.self
  slots : I64 s.slots
  lev : I64 s.lev
  short : I64 s.short
def symC (s : Sym) : Array Value := #[.int .i64 s.grid, .int .i64 s.ref, .int .i64 s.stat, .int .i64 s.dyn, .int .i64 s.win, .int .i64 s.move, .int .i64 s.lim, .int .i64 s.pause, .int .i64 s.ext, .int .i64 s.mx, .int .i64 s.coll, .int .i64 s.wid, .int .i64 s.self, .int .i64 s.slots, .int .i64 s.lev, .int .i64 s.short]
def symV (s : Sym) : Value := .agg (symC s)

/-- A value of api.Symbol, read and written whole: closed words. -/
def loadSym (a : Addr) : Sem Value := loadVar 35 a
theorem loadSym_is (a : Addr) : loadVar 35 a = loadSym a := rfl
theorem run_loadSym (w : World) (g : Nat) (h : (cellsAt w g).size = 16) : (loadSym ⟨g, 0, none⟩).run Try.prog w = .ok (.agg (cellsAt w g)) w :=
  loadVar_ca 35 16 (fun _ => by kernel_rfl) (fun _ => by kernel_rfl) w g h
theorem run_loadSym_at (w : World) (g off : Nat) (h : (subAt w g off 16).size = 16) : (loadSym ⟨g, off, none⟩).run Try.prog w = .ok (.agg (subAt w g off 16)) w :=
  loadVar_sub 35 16 (fun _ => by kernel_rfl) (fun _ => by kernel_rfl) w g off h
def storeSym (a : Addr) (v : Value) : Sem Unit := storeVar 35 a v
theorem storeSym_is (a : Addr) (v : Value) : storeVar 35 a v = storeSym a v := rfl
theorem run_storeSym (w : World) (g : Nat) (cs : Array Value) (hc : cs.size = 16) (h : (cellsAt w g).size = 16) (h1 : cs.toList.all (·.oneCell') = true) : (storeSym ⟨g, 0, none⟩ (.agg cs)).run Try.prog w = .ok () (w.setRow g cs) :=
  storeVar_ca 35 16 (fun _ => by kernel_rfl) w g cs hc h h1 (by decide)
end Go.Proofs.Ytfbpmngdamaobaa
