/-
  No cell of these rows narrows 'for every input' (looked for: loops, veiled, ifaces, maps, wideKeys, modest, calm, conditions, laid).
  DERIVED. THE GIVEN ROWS OF THIS SEAT. 6 by the template 'for every input the law returns true; each argument reads behind the call as it read before'; 0 by the template 'total and deterministic' (their statements: YthankfdmjlpehaaTotals.lean).
  GIVEN WITH THE SEED: the statements are not yours to turn. If you find one false, say at which input.
  Laid BY PROGRAM, IN A SANDBOX (cutbox-rows.mjs): the forced cells as the released guide's own fill.sh prints them over the translation 8a96b562b1171dab… (all of the seat's roots in one cut). By AI agents, Wed Nov 11 2026. No macro, syntax, notation, axiom, sorry.
-/
import Derived.Test.YthankfdmjlpehaaChecked
import GoSem.Claim
import GoSem.ClaimJoined
import GoSem.ClaimMapViews
import Derived.JoinedTies
import Derived.KernelRfl
namespace Go.Proofs.Ythankfdmjlpehaa
/- THE CELL 'sum', in the pinned program and in every row, IS THE sha256 OF THE DUMP (.gsa) THAT YthankfdmjlpehaaProg.lean LOADS. Nothing in Lean hashes anything: it is a label: what it is worth is what the hold of that sum in a sandbox is worth. -/
noncomputable def Try.pinned : Pinned := { name := "ythankfdmjlpehaa", sum := "8a96b562b1171dabe08a87452d419ddc799744b78d851f0fde3c457948f39c60", checked := Try.checked }
namespace Rows
def none {H : Type} : Left H := { results := [], args := [] }

/-- 'damperlaw02.FixDivs': WHATEVER THE INPUT: true; the input reads as it did. -/
def fixDivsSpec : ChangeSpec := { name := "fixDivs", fn := fun _ => fun
  | [d1, d2, d3, d4] => { results := [.lit (.bool true)], args := [d1, d2, d3, d4] }
  | _ => none }
def fixDivsRow : OpenClaim := { program := "ythankfdmjlpehaa", sum := "8a96b562b1171dabe08a87452d419ddc799744b78d851f0fde3c457948f39c60", func := "damper/damperlaw02.FixDivs", spec := "fixDivs", apart := false }
def FixDivsSaid : Prop := fixDivsRow.holds Try.pinned (OpenSpec.ofChange fixDivsSpec)

/-- ITS FALSE NEIGHBOUR: 'it returns false'. Refute it at one input. -/
def fixDivsWrong : ChangeSpec := { name := "fixDivs", fn := fun _ => fun
  | [d1, d2, d3, d4] => { results := [.lit (.bool false)], args := [d1, d2, d3, d4] }
  | _ => none }
def FixDivsWrongFalsely : Prop := fixDivsRow.holds Try.pinned (OpenSpec.ofChange fixDivsWrong)

/-- 'damperlaw02.FixGrids': WHATEVER THE INPUT: true; the input reads as it did. -/
def fixGridsSpec : ChangeSpec := { name := "fixGrids", fn := fun _ => fun
  | [d1, d2] => { results := [.lit (.bool true)], args := [d1, d2] }
  | _ => none }
def fixGridsRow : OpenClaim := { program := "ythankfdmjlpehaa", sum := "8a96b562b1171dabe08a87452d419ddc799744b78d851f0fde3c457948f39c60", func := "damper/damperlaw02.FixGrids", spec := "fixGrids", apart := false }
def FixGridsSaid : Prop := fixGridsRow.holds Try.pinned (OpenSpec.ofChange fixGridsSpec)

/-- ITS FALSE NEIGHBOUR: 'it returns false'. Refute it at one input. -/
def fixGridsWrong : ChangeSpec := { name := "fixGrids", fn := fun _ => fun
  | [d1, d2] => { results := [.lit (.bool false)], args := [d1, d2] }
  | _ => none }
def FixGridsWrongFalsely : Prop := fixGridsRow.holds Try.pinned (OpenSpec.ofChange fixGridsWrong)

/-- 'damperlaw02.FixBands': WHATEVER THE INPUT: true; the input reads as it did. -/
def fixBandsSpec : ChangeSpec := { name := "fixBands", fn := fun _ => fun
  | [d1, d2, d3] => { results := [.lit (.bool true)], args := [d1, d2, d3] }
  | _ => none }
def fixBandsRow : OpenClaim := { program := "ythankfdmjlpehaa", sum := "8a96b562b1171dabe08a87452d419ddc799744b78d851f0fde3c457948f39c60", func := "damper/damperlaw02.FixBands", spec := "fixBands", apart := false }
def FixBandsSaid : Prop := fixBandsRow.holds Try.pinned (OpenSpec.ofChange fixBandsSpec)

/-- ITS FALSE NEIGHBOUR: 'it returns false'. Refute it at one input. -/
def fixBandsWrong : ChangeSpec := { name := "fixBands", fn := fun _ => fun
  | [d1, d2, d3] => { results := [.lit (.bool false)], args := [d1, d2, d3] }
  | _ => none }
def FixBandsWrongFalsely : Prop := fixBandsRow.holds Try.pinned (OpenSpec.ofChange fixBandsWrong)

/-- 'damperlaw02.FixAround': WHATEVER THE INPUT: true; the input reads as it did. -/
def fixAroundSpec : ChangeSpec := { name := "fixAround", fn := fun _ => fun
  | [d1, d2, d3, d4] => { results := [.lit (.bool true)], args := [d1, d2, d3, d4] }
  | _ => none }
def fixAroundRow : OpenClaim := { program := "ythankfdmjlpehaa", sum := "8a96b562b1171dabe08a87452d419ddc799744b78d851f0fde3c457948f39c60", func := "damper/damperlaw02.FixAround", spec := "fixAround", apart := false }
def FixAroundSaid : Prop := fixAroundRow.holds Try.pinned (OpenSpec.ofChange fixAroundSpec)

/-- ITS FALSE NEIGHBOUR: 'it returns false'. Refute it at one input. -/
def fixAroundWrong : ChangeSpec := { name := "fixAround", fn := fun _ => fun
  | [d1, d2, d3, d4] => { results := [.lit (.bool false)], args := [d1, d2, d3, d4] }
  | _ => none }
def FixAroundWrongFalsely : Prop := fixAroundRow.holds Try.pinned (OpenSpec.ofChange fixAroundWrong)

/-- 'damperlaw02.FixSums': WHATEVER THE INPUT: true; the input reads as it did. -/
def fixSumsSpec : ChangeSpec := { name := "fixSums", fn := fun _ => fun
  | [d1, d2] => { results := [.lit (.bool true)], args := [d1, d2] }
  | _ => none }
def fixSumsRow : OpenClaim := { program := "ythankfdmjlpehaa", sum := "8a96b562b1171dabe08a87452d419ddc799744b78d851f0fde3c457948f39c60", func := "damper/damperlaw02.FixSums", spec := "fixSums", apart := false }
def FixSumsSaid : Prop := fixSumsRow.holds Try.pinned (OpenSpec.ofChange fixSumsSpec)

/-- ITS FALSE NEIGHBOUR: 'it returns false'. Refute it at one input. -/
def fixSumsWrong : ChangeSpec := { name := "fixSums", fn := fun _ => fun
  | [d1, d2] => { results := [.lit (.bool false)], args := [d1, d2] }
  | _ => none }
def FixSumsWrongFalsely : Prop := fixSumsRow.holds Try.pinned (OpenSpec.ofChange fixSumsWrong)

/-- 'damperlaw02.FixChecks': WHATEVER THE INPUT: true; the input reads as it did. -/
def fixChecksSpec : ChangeSpec := { name := "fixChecks", fn := fun _ => fun
  | [d1, d2, d3] => { results := [.lit (.bool true)], args := [d1, d2, d3] }
  | _ => none }
def fixChecksRow : OpenClaim := { program := "ythankfdmjlpehaa", sum := "8a96b562b1171dabe08a87452d419ddc799744b78d851f0fde3c457948f39c60", func := "damper/damperlaw02.FixChecks", spec := "fixChecks", unfollowed := true, recurses := true, apart := false }
def FixChecksSaid : Prop := fixChecksRow.holds Try.pinned (OpenSpec.ofChange fixChecksSpec)

/-- ITS FALSE NEIGHBOUR: 'it returns false'. Refute it at one input. -/
def fixChecksWrong : ChangeSpec := { name := "fixChecks", fn := fun _ => fun
  | [d1, d2, d3] => { results := [.lit (.bool false)], args := [d1, d2, d3] }
  | _ => none }
def FixChecksWrongFalsely : Prop := fixChecksRow.holds Try.pinned (OpenSpec.ofChange fixChecksWrong)

/- THE SECOND FORM. 'bulk': how many values and letters a reading holds, each counted each time it is reached (what is shared counts as often as it is met; a slice's spare places count too). A statement '..UptoSaid' is the law's where the arguments, and the package variables that the reading takes, are together of bulk at most 1048576: NARROWER than '..Said'. Prove '..Said' where nothing that the law and all that it calls make is longer than what came in: it says more and counts as full. Else prove '..UptoSaid'. A law counts once. -/
mutual
def uptoBulk {H : Type} : DataW H → Nat
  | .lit (.string bytes) => bytes.length + 1
  | .lit _ => 1
  | .nil => 1
  | .ptr d => uptoBulk d + 1
  | .slice elems spare => uptoBulkAll elems + uptoBulkAll spare + 1
  | .agg parts => uptoBulkAll parts + 1
  | .iface _ d => uptoBulk d + 1
  | .map entries => uptoBulkEntries entries + 1
  | .held _ => 1
def uptoBulkAll {H : Type} : List (DataW H) → Nat
  | [] => 0
  | d :: r => uptoBulk d + uptoBulkAll r
def uptoBulkEntries {H : Type} : List (Lit × DataW H) → Nat
  | [] => 0
  | x :: r => uptoBulkEntry x + uptoBulkEntries r
def uptoBulkEntry {H : Type} : Lit × DataW H → Nat
  | (.string bytes, d) => bytes.length + uptoBulk d + 1
  | (_, d) => uptoBulk d + 1
 end
def uptoSmall : (H : Type) → List (DataW H) → Bool := fun _ ds => decide (uptoBulkAll ds ≤ 1048576)
def OpenSpec.upto (s : _root_.Go.ChangeSpec) : _root_.Go.OpenSpec := { _root_.Go.OpenSpec.ofChange s with cond := some uptoSmall }

/-- 'damperlaw02.FixDivs', WHERE WHAT IT READS IS OF BULK AT MOST 1048576: true; the input reads as it did. -/
def fixDivsUptoRow : OpenClaim := { program := "ythankfdmjlpehaa", sum := "8a96b562b1171dabe08a87452d419ddc799744b78d851f0fde3c457948f39c60", func := "damper/damperlaw02.FixDivs", spec := "fixDivs", apart := false, narrowed := true }
def FixDivsUptoSaid : Prop := fixDivsUptoRow.holds Try.pinned (OpenSpec.upto fixDivsSpec)

/-- 'damperlaw02.FixGrids', WHERE WHAT IT READS IS OF BULK AT MOST 1048576: true; the input reads as it did. -/
def fixGridsUptoRow : OpenClaim := { program := "ythankfdmjlpehaa", sum := "8a96b562b1171dabe08a87452d419ddc799744b78d851f0fde3c457948f39c60", func := "damper/damperlaw02.FixGrids", spec := "fixGrids", apart := false, narrowed := true }
def FixGridsUptoSaid : Prop := fixGridsUptoRow.holds Try.pinned (OpenSpec.upto fixGridsSpec)

/-- 'damperlaw02.FixBands', WHERE WHAT IT READS IS OF BULK AT MOST 1048576: true; the input reads as it did. -/
def fixBandsUptoRow : OpenClaim := { program := "ythankfdmjlpehaa", sum := "8a96b562b1171dabe08a87452d419ddc799744b78d851f0fde3c457948f39c60", func := "damper/damperlaw02.FixBands", spec := "fixBands", apart := false, narrowed := true }
def FixBandsUptoSaid : Prop := fixBandsUptoRow.holds Try.pinned (OpenSpec.upto fixBandsSpec)

/-- 'damperlaw02.FixAround', WHERE WHAT IT READS IS OF BULK AT MOST 1048576: true; the input reads as it did. -/
def fixAroundUptoRow : OpenClaim := { program := "ythankfdmjlpehaa", sum := "8a96b562b1171dabe08a87452d419ddc799744b78d851f0fde3c457948f39c60", func := "damper/damperlaw02.FixAround", spec := "fixAround", apart := false, narrowed := true }
def FixAroundUptoSaid : Prop := fixAroundUptoRow.holds Try.pinned (OpenSpec.upto fixAroundSpec)

/-- 'damperlaw02.FixSums', WHERE WHAT IT READS IS OF BULK AT MOST 1048576: true; the input reads as it did. -/
def fixSumsUptoRow : OpenClaim := { program := "ythankfdmjlpehaa", sum := "8a96b562b1171dabe08a87452d419ddc799744b78d851f0fde3c457948f39c60", func := "damper/damperlaw02.FixSums", spec := "fixSums", apart := false, narrowed := true }
def FixSumsUptoSaid : Prop := fixSumsUptoRow.holds Try.pinned (OpenSpec.upto fixSumsSpec)

/-- 'damperlaw02.FixChecks', WHERE WHAT IT READS IS OF BULK AT MOST 1048576: true; the input reads as it did. -/
def fixChecksUptoRow : OpenClaim := { program := "ythankfdmjlpehaa", sum := "8a96b562b1171dabe08a87452d419ddc799744b78d851f0fde3c457948f39c60", func := "damper/damperlaw02.FixChecks", spec := "fixChecks", unfollowed := true, recurses := true, apart := false, narrowed := true }
def FixChecksUptoSaid : Prop := fixChecksUptoRow.holds Try.pinned (OpenSpec.upto fixChecksSpec)

end Rows
end Go.Proofs.Ythankfdmjlpehaa
