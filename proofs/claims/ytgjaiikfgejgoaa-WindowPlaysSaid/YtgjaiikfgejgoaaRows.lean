/-
  No cell of these rows narrows 'for every input' (looked for: loops, veiled, ifaces, maps, wideKeys, modest, calm, conditions, laid).
  DERIVED. THE GIVEN ROWS OF THIS SEAT. 4 by the template 'for every input the law returns true; each argument reads behind the call as it read before'; 0 by the template 'total and deterministic' (their statements: YtgjaiikfgejgoaaTotals.lean).
  GIVEN WITH THE SEED: the statements are not yours to turn. If you find one false, say at which input.
  Laid BY PROGRAM, IN A SANDBOX (cutbox-rows.mjs): the forced cells as the released guide's own fill.sh prints them over the translation 5c51dba1b3511b65… (all of the seat's roots in one cut). By AI agents, Wed Nov 11 2026. No macro, syntax, notation, axiom, sorry.
-/
import Derived.Test.YtgjaiikfgejgoaaChecked
import GoSem.Claim
import GoSem.ClaimJoined
import GoSem.ClaimMapViews
import Derived.JoinedTies
import Derived.KernelRfl
namespace Go.Proofs.Ytgjaiikfgejgoaa
/- THE CELL 'sum', in the pinned program and in every row, IS THE sha256 OF THE DUMP (.gsa) THAT YtgjaiikfgejgoaaProg.lean LOADS. Nothing in Lean hashes anything: it is a label: what it is worth is what the hold of that sum in a sandbox is worth. -/
noncomputable def Try.pinned : Pinned := { name := "ytgjaiikfgejgoaa", sum := "5c51dba1b3511b65f8054646e91584f6174a56f87556ae32c4b0ac0bade7d485", checked := Try.checked }
namespace Rows
def none {H : Type} : Left H := { results := [], args := [] }

/-- 'damperlaw19.WindowBetween': WHATEVER THE INPUT: true; the input reads as it did. -/
def windowBetweenSpec : ChangeSpec := { name := "windowBetween", fn := fun _ => fun
  | [d1, d2, d3, d4, d5] => { results := [.lit (.bool true)], args := [d1, d2, d3, d4, d5] }
  | _ => none }
def windowBetweenRow : OpenClaim := { program := "ytgjaiikfgejgoaa", sum := "5c51dba1b3511b65f8054646e91584f6174a56f87556ae32c4b0ac0bade7d485", func := "damper/damperlaw19.WindowBetween", spec := "windowBetween", unfollowed := true, recurses := true, apart := false }
def WindowBetweenSaid : Prop := windowBetweenRow.holds Try.pinned (OpenSpec.ofChange windowBetweenSpec)

/-- ITS FALSE NEIGHBOUR: 'it returns false'. Refute it at one input. -/
def windowBetweenWrong : ChangeSpec := { name := "windowBetween", fn := fun _ => fun
  | [d1, d2, d3, d4, d5] => { results := [.lit (.bool false)], args := [d1, d2, d3, d4, d5] }
  | _ => none }
def WindowBetweenWrongFalsely : Prop := windowBetweenRow.holds Try.pinned (OpenSpec.ofChange windowBetweenWrong)

/-- 'damperlaw19.WindowMoves': WHATEVER THE INPUT: true; the input reads as it did. -/
def windowMovesSpec : ChangeSpec := { name := "windowMoves", fn := fun _ => fun
  | [d1, d2, d3] => { results := [.lit (.bool true)], args := [d1, d2, d3] }
  | _ => none }
def windowMovesRow : OpenClaim := { program := "ytgjaiikfgejgoaa", sum := "5c51dba1b3511b65f8054646e91584f6174a56f87556ae32c4b0ac0bade7d485", func := "damper/damperlaw19.WindowMoves", spec := "windowMoves", unfollowed := true, recurses := true, apart := false }
def WindowMovesSaid : Prop := windowMovesRow.holds Try.pinned (OpenSpec.ofChange windowMovesSpec)

/-- ITS FALSE NEIGHBOUR: 'it returns false'. Refute it at one input. -/
def windowMovesWrong : ChangeSpec := { name := "windowMoves", fn := fun _ => fun
  | [d1, d2, d3] => { results := [.lit (.bool false)], args := [d1, d2, d3] }
  | _ => none }
def WindowMovesWrongFalsely : Prop := windowMovesRow.holds Try.pinned (OpenSpec.ofChange windowMovesWrong)

/-- 'damperlaw19.WindowPlays': WHATEVER THE INPUT: true; the input reads as it did. -/
def windowPlaysSpec : ChangeSpec := { name := "windowPlays", fn := fun _ => fun
  | [d1, d2, d3, d4] => { results := [.lit (.bool true)], args := [d1, d2, d3, d4] }
  | _ => none }
def windowPlaysRow : OpenClaim := { program := "ytgjaiikfgejgoaa", sum := "5c51dba1b3511b65f8054646e91584f6174a56f87556ae32c4b0ac0bade7d485", func := "damper/damperlaw19.WindowPlays", spec := "windowPlays", unfollowed := true, recurses := true, apart := false }
def WindowPlaysSaid : Prop := windowPlaysRow.holds Try.pinned (OpenSpec.ofChange windowPlaysSpec)

/-- ITS FALSE NEIGHBOUR: 'it returns false'. Refute it at one input. -/
def windowPlaysWrong : ChangeSpec := { name := "windowPlays", fn := fun _ => fun
  | [d1, d2, d3, d4] => { results := [.lit (.bool false)], args := [d1, d2, d3, d4] }
  | _ => none }
def WindowPlaysWrongFalsely : Prop := windowPlaysRow.holds Try.pinned (OpenSpec.ofChange windowPlaysWrong)

/-- 'damperlaw19.WindowNils': WHATEVER THE INPUT: true; the input reads as it did. -/
def windowNilsSpec : ChangeSpec := { name := "windowNils", fn := fun _ => fun
  | [d1, d2, d3] => { results := [.lit (.bool true)], args := [d1, d2, d3] }
  | _ => none }
def windowNilsRow : OpenClaim := { program := "ytgjaiikfgejgoaa", sum := "5c51dba1b3511b65f8054646e91584f6174a56f87556ae32c4b0ac0bade7d485", func := "damper/damperlaw19.WindowNils", spec := "windowNils", unfollowed := true, recurses := true, apart := false }
def WindowNilsSaid : Prop := windowNilsRow.holds Try.pinned (OpenSpec.ofChange windowNilsSpec)

/-- ITS FALSE NEIGHBOUR: 'it returns false'. Refute it at one input. -/
def windowNilsWrong : ChangeSpec := { name := "windowNils", fn := fun _ => fun
  | [d1, d2, d3] => { results := [.lit (.bool false)], args := [d1, d2, d3] }
  | _ => none }
def WindowNilsWrongFalsely : Prop := windowNilsRow.holds Try.pinned (OpenSpec.ofChange windowNilsWrong)

/- THE SECOND FORM. 'bulk': how many values and letters a reading holds, each counted each time it is reached (what is shared counts as often as it is met; a slice's spare places count too). A statement '..UptoSaid' is the law's where the arguments, and the package variables that the reading takes, are together of bulk at most 1048576: NARROWER than '..Said'. Prove '..Said' where nothing that the law and all that it calls make is longer than what came in: it says more and counts as full. Else prove '..UptoSaid'. A law counts once. -/
mutual
def uptoBulk {H : Type} : DataW H → Nat
  | .lit (.string bytes) => bytes.length + 1
  | .lit _ => 1
  | .nil => 1
  | .ptr d => uptoBulk d + 1
  | .slice elems spare => uptoBulkAll elems + uptoBulkAll spare + 1
  | .agg parts => uptoBulkAll parts + 1
  | .iface _ d => uptoBulk d + 1
  | .map entries => uptoBulkEntries entries + 1
  | .held _ => 1
def uptoBulkAll {H : Type} : List (DataW H) → Nat
  | [] => 0
  | d :: r => uptoBulk d + uptoBulkAll r
def uptoBulkEntries {H : Type} : List (Lit × DataW H) → Nat
  | [] => 0
  | x :: r => uptoBulkEntry x + uptoBulkEntries r
def uptoBulkEntry {H : Type} : Lit × DataW H → Nat
  | (.string bytes, d) => bytes.length + uptoBulk d + 1
  | (_, d) => uptoBulk d + 1
 end
def uptoSmall : (H : Type) → List (DataW H) → Bool := fun _ ds => decide (uptoBulkAll ds ≤ 1048576)
def OpenSpec.upto (s : _root_.Go.ChangeSpec) : _root_.Go.OpenSpec := { _root_.Go.OpenSpec.ofChange s with cond := some uptoSmall }

/-- 'damperlaw19.WindowBetween', WHERE WHAT IT READS IS OF BULK AT MOST 1048576: true; the input reads as it did. -/
def windowBetweenUptoRow : OpenClaim := { program := "ytgjaiikfgejgoaa", sum := "5c51dba1b3511b65f8054646e91584f6174a56f87556ae32c4b0ac0bade7d485", func := "damper/damperlaw19.WindowBetween", spec := "windowBetween", unfollowed := true, recurses := true, apart := false, narrowed := true }
def WindowBetweenUptoSaid : Prop := windowBetweenUptoRow.holds Try.pinned (OpenSpec.upto windowBetweenSpec)

/-- 'damperlaw19.WindowMoves', WHERE WHAT IT READS IS OF BULK AT MOST 1048576: true; the input reads as it did. -/
def windowMovesUptoRow : OpenClaim := { program := "ytgjaiikfgejgoaa", sum := "5c51dba1b3511b65f8054646e91584f6174a56f87556ae32c4b0ac0bade7d485", func := "damper/damperlaw19.WindowMoves", spec := "windowMoves", unfollowed := true, recurses := true, apart := false, narrowed := true }
def WindowMovesUptoSaid : Prop := windowMovesUptoRow.holds Try.pinned (OpenSpec.upto windowMovesSpec)

/-- 'damperlaw19.WindowPlays', WHERE WHAT IT READS IS OF BULK AT MOST 1048576: true; the input reads as it did. -/
def windowPlaysUptoRow : OpenClaim := { program := "ytgjaiikfgejgoaa", sum := "5c51dba1b3511b65f8054646e91584f6174a56f87556ae32c4b0ac0bade7d485", func := "damper/damperlaw19.WindowPlays", spec := "windowPlays", unfollowed := true, recurses := true, apart := false, narrowed := true }
def WindowPlaysUptoSaid : Prop := windowPlaysUptoRow.holds Try.pinned (OpenSpec.upto windowPlaysSpec)

/-- 'damperlaw19.WindowNils', WHERE WHAT IT READS IS OF BULK AT MOST 1048576: true; the input reads as it did. -/
def windowNilsUptoRow : OpenClaim := { program := "ytgjaiikfgejgoaa", sum := "5c51dba1b3511b65f8054646e91584f6174a56f87556ae32c4b0ac0bade7d485", func := "damper/damperlaw19.WindowNils", spec := "windowNils", unfollowed := true, recurses := true, apart := false, narrowed := true }
def WindowNilsUptoSaid : Prop := windowNilsUptoRow.holds Try.pinned (OpenSpec.upto windowNilsSpec)

end Rows
end Go.Proofs.Ytgjaiikfgejgoaa
