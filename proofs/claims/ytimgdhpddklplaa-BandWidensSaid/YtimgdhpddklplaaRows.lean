/-
  No cell of these rows narrows 'for every input' (looked for: loops, veiled, ifaces, maps, wideKeys, modest, calm, conditions, laid).
  DERIVED. THE GIVEN ROWS OF THIS SEAT. 4 by the template 'for every input the law returns true; each argument reads behind the call as it read before'; 0 by the template 'total and deterministic' (their statements: YtimgdhpddklplaaTotals.lean).
  GIVEN WITH THE SEED: the statements are not yours to turn. If you find one false, say at which input.
  Laid BY PROGRAM, IN A SANDBOX (cutbox-rows.mjs): the forced cells as the released guide's own fill.sh prints them over the translation b3306fa97a320d4b… (all of the seat's roots in one cut). By AI agents, Wed Nov 11 2026. No macro, syntax, notation, axiom, sorry.
-/
import Derived.Test.YtimgdhpddklplaaChecked
import GoSem.Claim
import GoSem.ClaimJoined
import GoSem.ClaimMapViews
import Derived.JoinedTies
import Derived.KernelRfl
namespace Go.Proofs.Ytimgdhpddklplaa
/- THE CELL 'sum', in the pinned program and in every row, IS THE sha256 OF THE DUMP (.gsa) THAT YtimgdhpddklplaaProg.lean LOADS. Nothing in Lean hashes anything: it is a label: what it is worth is what the hold of that sum in a sandbox is worth. -/
noncomputable def Try.pinned : Pinned := { name := "ytimgdhpddklplaa", sum := "b3306fa97a320d4b2675aaf9d27f5df49b85d9e9b379911f95cfe2a212d329f9", checked := Try.checked }
namespace Rows
def none {H : Type} : Left H := { results := [], args := [] }

/-- 'damperlaw20.BandOfs': WHATEVER THE INPUT: true; the input reads as it did. -/
def bandOfsSpec : ChangeSpec := { name := "bandOfs", fn := fun _ => fun
  | [d1, d2, d3, d4] => { results := [.lit (.bool true)], args := [d1, d2, d3, d4] }
  | _ => none }
def bandOfsRow : OpenClaim := { program := "ytimgdhpddklplaa", sum := "b3306fa97a320d4b2675aaf9d27f5df49b85d9e9b379911f95cfe2a212d329f9", func := "damper/damperlaw20.BandOfs", spec := "bandOfs", apart := false }
def BandOfsSaid : Prop := bandOfsRow.holds Try.pinned (OpenSpec.ofChange bandOfsSpec)

/-- ITS FALSE NEIGHBOUR: 'it returns false'. Refute it at one input. -/
def bandOfsWrong : ChangeSpec := { name := "bandOfs", fn := fun _ => fun
  | [d1, d2, d3, d4] => { results := [.lit (.bool false)], args := [d1, d2, d3, d4] }
  | _ => none }
def BandOfsWrongFalsely : Prop := bandOfsRow.holds Try.pinned (OpenSpec.ofChange bandOfsWrong)

/-- 'damperlaw20.BandLooks': WHATEVER THE INPUT: true; the input reads as it did. -/
def bandLooksSpec : ChangeSpec := { name := "bandLooks", fn := fun _ => fun
  | [d1, d2, d3, d4, d5] => { results := [.lit (.bool true)], args := [d1, d2, d3, d4, d5] }
  | _ => none }
def bandLooksRow : OpenClaim := { program := "ytimgdhpddklplaa", sum := "b3306fa97a320d4b2675aaf9d27f5df49b85d9e9b379911f95cfe2a212d329f9", func := "damper/damperlaw20.BandLooks", spec := "bandLooks", apart := false }
def BandLooksSaid : Prop := bandLooksRow.holds Try.pinned (OpenSpec.ofChange bandLooksSpec)

/-- ITS FALSE NEIGHBOUR: 'it returns false'. Refute it at one input. -/
def bandLooksWrong : ChangeSpec := { name := "bandLooks", fn := fun _ => fun
  | [d1, d2, d3, d4, d5] => { results := [.lit (.bool false)], args := [d1, d2, d3, d4, d5] }
  | _ => none }
def BandLooksWrongFalsely : Prop := bandLooksRow.holds Try.pinned (OpenSpec.ofChange bandLooksWrong)

/-- 'damperlaw20.BandHolds': WHATEVER THE INPUT: true; the input reads as it did. -/
def bandHoldsSpec : ChangeSpec := { name := "bandHolds", fn := fun _ => fun
  | [d1, d2, d3] => { results := [.lit (.bool true)], args := [d1, d2, d3] }
  | _ => none }
def bandHoldsRow : OpenClaim := { program := "ytimgdhpddklplaa", sum := "b3306fa97a320d4b2675aaf9d27f5df49b85d9e9b379911f95cfe2a212d329f9", func := "damper/damperlaw20.BandHolds", spec := "bandHolds", unfollowed := true, recurses := true, apart := false }
def BandHoldsSaid : Prop := bandHoldsRow.holds Try.pinned (OpenSpec.ofChange bandHoldsSpec)

/-- ITS FALSE NEIGHBOUR: 'it returns false'. Refute it at one input. -/
def bandHoldsWrong : ChangeSpec := { name := "bandHolds", fn := fun _ => fun
  | [d1, d2, d3] => { results := [.lit (.bool false)], args := [d1, d2, d3] }
  | _ => none }
def BandHoldsWrongFalsely : Prop := bandHoldsRow.holds Try.pinned (OpenSpec.ofChange bandHoldsWrong)

/-- 'damperlaw20.BandWidens': WHATEVER THE INPUT: true; the input reads as it did. -/
def bandWidensSpec : ChangeSpec := { name := "bandWidens", fn := fun _ => fun
  | [d1, d2, d3, d4, d5] => { results := [.lit (.bool true)], args := [d1, d2, d3, d4, d5] }
  | _ => none }
def bandWidensRow : OpenClaim := { program := "ytimgdhpddklplaa", sum := "b3306fa97a320d4b2675aaf9d27f5df49b85d9e9b379911f95cfe2a212d329f9", func := "damper/damperlaw20.BandWidens", spec := "bandWidens", unfollowed := true, recurses := true, apart := false }
def BandWidensSaid : Prop := bandWidensRow.holds Try.pinned (OpenSpec.ofChange bandWidensSpec)

/-- ITS FALSE NEIGHBOUR: 'it returns false'. Refute it at one input. -/
def bandWidensWrong : ChangeSpec := { name := "bandWidens", fn := fun _ => fun
  | [d1, d2, d3, d4, d5] => { results := [.lit (.bool false)], args := [d1, d2, d3, d4, d5] }
  | _ => none }
def BandWidensWrongFalsely : Prop := bandWidensRow.holds Try.pinned (OpenSpec.ofChange bandWidensWrong)

/- THE SECOND FORM. 'bulk': how many values and letters a reading holds, each counted each time it is reached (what is shared counts as often as it is met; a slice's spare places count too). A statement '..UptoSaid' is the law's where the arguments, and the package variables that the reading takes, are together of bulk at most 1048576: NARROWER than '..Said'. Prove '..Said' where nothing that the law and all that it calls make is longer than what came in: it says more and counts as full. Else prove '..UptoSaid'. A law counts once. -/
mutual
def uptoBulk {H : Type} : DataW H → Nat
  | .lit (.string bytes) => bytes.length + 1
  | .lit _ => 1
  | .nil => 1
  | .ptr d => uptoBulk d + 1
  | .slice elems spare => uptoBulkAll elems + uptoBulkAll spare + 1
  | .agg parts => uptoBulkAll parts + 1
  | .iface _ d => uptoBulk d + 1
  | .map entries => uptoBulkEntries entries + 1
  | .held _ => 1
def uptoBulkAll {H : Type} : List (DataW H) → Nat
  | [] => 0
  | d :: r => uptoBulk d + uptoBulkAll r
def uptoBulkEntries {H : Type} : List (Lit × DataW H) → Nat
  | [] => 0
  | x :: r => uptoBulkEntry x + uptoBulkEntries r
def uptoBulkEntry {H : Type} : Lit × DataW H → Nat
  | (.string bytes, d) => bytes.length + uptoBulk d + 1
  | (_, d) => uptoBulk d + 1
 end
def uptoSmall : (H : Type) → List (DataW H) → Bool := fun _ ds => decide (uptoBulkAll ds ≤ 1048576)
def OpenSpec.upto (s : _root_.Go.ChangeSpec) : _root_.Go.OpenSpec := { _root_.Go.OpenSpec.ofChange s with cond := some uptoSmall }

/-- 'damperlaw20.BandOfs', WHERE WHAT IT READS IS OF BULK AT MOST 1048576: true; the input reads as it did. -/
def bandOfsUptoRow : OpenClaim := { program := "ytimgdhpddklplaa", sum := "b3306fa97a320d4b2675aaf9d27f5df49b85d9e9b379911f95cfe2a212d329f9", func := "damper/damperlaw20.BandOfs", spec := "bandOfs", apart := false, narrowed := true }
def BandOfsUptoSaid : Prop := bandOfsUptoRow.holds Try.pinned (OpenSpec.upto bandOfsSpec)

/-- 'damperlaw20.BandLooks', WHERE WHAT IT READS IS OF BULK AT MOST 1048576: true; the input reads as it did. -/
def bandLooksUptoRow : OpenClaim := { program := "ytimgdhpddklplaa", sum := "b3306fa97a320d4b2675aaf9d27f5df49b85d9e9b379911f95cfe2a212d329f9", func := "damper/damperlaw20.BandLooks", spec := "bandLooks", apart := false, narrowed := true }
def BandLooksUptoSaid : Prop := bandLooksUptoRow.holds Try.pinned (OpenSpec.upto bandLooksSpec)

/-- 'damperlaw20.BandHolds', WHERE WHAT IT READS IS OF BULK AT MOST 1048576: true; the input reads as it did. -/
def bandHoldsUptoRow : OpenClaim := { program := "ytimgdhpddklplaa", sum := "b3306fa97a320d4b2675aaf9d27f5df49b85d9e9b379911f95cfe2a212d329f9", func := "damper/damperlaw20.BandHolds", spec := "bandHolds", unfollowed := true, recurses := true, apart := false, narrowed := true }
def BandHoldsUptoSaid : Prop := bandHoldsUptoRow.holds Try.pinned (OpenSpec.upto bandHoldsSpec)

/-- 'damperlaw20.BandWidens', WHERE WHAT IT READS IS OF BULK AT MOST 1048576: true; the input reads as it did. -/
def bandWidensUptoRow : OpenClaim := { program := "ytimgdhpddklplaa", sum := "b3306fa97a320d4b2675aaf9d27f5df49b85d9e9b379911f95cfe2a212d329f9", func := "damper/damperlaw20.BandWidens", spec := "bandWidens", unfollowed := true, recurses := true, apart := false, narrowed := true }
def BandWidensUptoSaid : Prop := bandWidensUptoRow.holds Try.pinned (OpenSpec.upto bandWidensSpec)

end Rows
end Go.Proofs.Ytimgdhpddklplaa
