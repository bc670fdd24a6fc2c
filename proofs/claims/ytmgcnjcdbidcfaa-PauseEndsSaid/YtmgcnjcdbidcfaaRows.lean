/-
  No cell of these rows narrows 'for every input' (looked for: loops, veiled, ifaces, maps, wideKeys, modest, calm, conditions, laid).
  DERIVED. THE GIVEN ROWS OF THIS SEAT. 3 by the template 'for every input the law returns true; each argument reads behind the call as it read before'; 0 by the template 'total and deterministic' (their statements: YtmgcnjcdbidcfaaTotals.lean).
  GIVEN WITH THE SEED: the statements are not yours to turn. If you find one false, say at which input.
  Laid BY PROGRAM, IN A SANDBOX (cutbox-rows.mjs): the forced cells as the released guide's own fill.sh prints them over the translation dfe36f6a7bd55f92… (all of the seat's roots in one cut). By AI agents, Wed Nov 11 2026. No macro, syntax, notation, axiom, sorry.
-/
import Derived.Test.YtmgcnjcdbidcfaaChecked
import GoSem.Claim
import GoSem.ClaimJoined
import GoSem.ClaimMapViews
import Derived.JoinedTies
import Derived.KernelRfl
namespace Go.Proofs.Ytmgcnjcdbidcfaa
/- THE CELL 'sum', in the pinned program and in every row, IS THE sha256 OF THE DUMP (.gsa) THAT YtmgcnjcdbidcfaaProg.lean LOADS. Nothing in Lean hashes anything: it is a label: what it is worth is what the hold of that sum in a sandbox is worth. -/
noncomputable def Try.pinned : Pinned := { name := "ytmgcnjcdbidcfaa", sum := "dfe36f6a7bd55f92d75710c388f25a8c8fef89271ffc2887e5afab83185b8414", checked := Try.checked }
namespace Rows
def none {H : Type} : Left H := { results := [], args := [] }

/-- 'damperlaw22.PauseStates': WHATEVER THE INPUT: true; the input reads as it did. -/
def pauseStatesSpec : ChangeSpec := { name := "pauseStates", fn := fun _ => fun
  | [d1, d2, d3, d4] => { results := [.lit (.bool true)], args := [d1, d2, d3, d4] }
  | _ => none }
def pauseStatesRow : OpenClaim := { program := "ytmgcnjcdbidcfaa", sum := "dfe36f6a7bd55f92d75710c388f25a8c8fef89271ffc2887e5afab83185b8414", func := "damper/damperlaw22.PauseStates", spec := "pauseStates", unfollowed := true, recurses := true, apart := false }
def PauseStatesSaid : Prop := pauseStatesRow.holds Try.pinned (OpenSpec.ofChange pauseStatesSpec)

/-- ITS FALSE NEIGHBOUR: 'it returns false'. Refute it at one input. -/
def pauseStatesWrong : ChangeSpec := { name := "pauseStates", fn := fun _ => fun
  | [d1, d2, d3, d4] => { results := [.lit (.bool false)], args := [d1, d2, d3, d4] }
  | _ => none }
def PauseStatesWrongFalsely : Prop := pauseStatesRow.holds Try.pinned (OpenSpec.ofChange pauseStatesWrong)

/-- 'damperlaw22.PauseDecides': WHATEVER THE INPUT: true; the input reads as it did. -/
def pauseDecidesSpec : ChangeSpec := { name := "pauseDecides", fn := fun _ => fun
  | [d1, d2, d3, d4, d5] => { results := [.lit (.bool true)], args := [d1, d2, d3, d4, d5] }
  | _ => none }
def pauseDecidesRow : OpenClaim := { program := "ytmgcnjcdbidcfaa", sum := "dfe36f6a7bd55f92d75710c388f25a8c8fef89271ffc2887e5afab83185b8414", func := "damper/damperlaw22.PauseDecides", spec := "pauseDecides", unfollowed := true, recurses := true, apart := false }
def PauseDecidesSaid : Prop := pauseDecidesRow.holds Try.pinned (OpenSpec.ofChange pauseDecidesSpec)

/-- ITS FALSE NEIGHBOUR: 'it returns false'. Refute it at one input. -/
def pauseDecidesWrong : ChangeSpec := { name := "pauseDecides", fn := fun _ => fun
  | [d1, d2, d3, d4, d5] => { results := [.lit (.bool false)], args := [d1, d2, d3, d4, d5] }
  | _ => none }
def PauseDecidesWrongFalsely : Prop := pauseDecidesRow.holds Try.pinned (OpenSpec.ofChange pauseDecidesWrong)

/-- 'damperlaw22.PauseEnds': WHATEVER THE INPUT: true; the input reads as it did. -/
def pauseEndsSpec : ChangeSpec := { name := "pauseEnds", fn := fun _ => fun
  | [d1, d2, d3, d4] => { results := [.lit (.bool true)], args := [d1, d2, d3, d4] }
  | _ => none }
def pauseEndsRow : OpenClaim := { program := "ytmgcnjcdbidcfaa", sum := "dfe36f6a7bd55f92d75710c388f25a8c8fef89271ffc2887e5afab83185b8414", func := "damper/damperlaw22.PauseEnds", spec := "pauseEnds", unfollowed := true, recurses := true, apart := false }
def PauseEndsSaid : Prop := pauseEndsRow.holds Try.pinned (OpenSpec.ofChange pauseEndsSpec)

/-- ITS FALSE NEIGHBOUR: 'it returns false'. Refute it at one input. -/
def pauseEndsWrong : ChangeSpec := { name := "pauseEnds", fn := fun _ => fun
  | [d1, d2, d3, d4] => { results := [.lit (.bool false)], args := [d1, d2, d3, d4] }
  | _ => none }
def PauseEndsWrongFalsely : Prop := pauseEndsRow.holds Try.pinned (OpenSpec.ofChange pauseEndsWrong)

/- THE SECOND FORM. 'bulk': how many values and letters a reading holds, each counted each time it is reached (what is shared counts as often as it is met; a slice's spare places count too). A statement '..UptoSaid' is the law's where the arguments, and the package variables that the reading takes, are together of bulk at most 1048576: NARROWER than '..Said'. Prove '..Said' where nothing that the law and all that it calls make is longer than what came in: it says more and counts as full. Else prove '..UptoSaid'. A law counts once. -/
mutual
def uptoBulk {H : Type} : DataW H → Nat
  | .lit (.string bytes) => bytes.length + 1
  | .lit _ => 1
  | .nil => 1
  | .ptr d => uptoBulk d + 1
  | .slice elems spare => uptoBulkAll elems + uptoBulkAll spare + 1
  | .agg parts => uptoBulkAll parts + 1
  | .iface _ d => uptoBulk d + 1
  | .map entries => uptoBulkEntries entries + 1
  | .held _ => 1
def uptoBulkAll {H : Type} : List (DataW H) → Nat
  | [] => 0
  | d :: r => uptoBulk d + uptoBulkAll r
def uptoBulkEntries {H : Type} : List (Lit × DataW H) → Nat
  | [] => 0
  | x :: r => uptoBulkEntry x + uptoBulkEntries r
def uptoBulkEntry {H : Type} : Lit × DataW H → Nat
  | (.string bytes, d) => bytes.length + uptoBulk d + 1
  | (_, d) => uptoBulk d + 1
 end
def uptoSmall : (H : Type) → List (DataW H) → Bool := fun _ ds => decide (uptoBulkAll ds ≤ 1048576)
def OpenSpec.upto (s : _root_.Go.ChangeSpec) : _root_.Go.OpenSpec := { _root_.Go.OpenSpec.ofChange s with cond := some uptoSmall }

/-- 'damperlaw22.PauseStates', WHERE WHAT IT READS IS OF BULK AT MOST 1048576: true; the input reads as it did. -/
def pauseStatesUptoRow : OpenClaim := { program := "ytmgcnjcdbidcfaa", sum := "dfe36f6a7bd55f92d75710c388f25a8c8fef89271ffc2887e5afab83185b8414", func := "damper/damperlaw22.PauseStates", spec := "pauseStates", unfollowed := true, recurses := true, apart := false, narrowed := true }
def PauseStatesUptoSaid : Prop := pauseStatesUptoRow.holds Try.pinned (OpenSpec.upto pauseStatesSpec)

/-- 'damperlaw22.PauseDecides', WHERE WHAT IT READS IS OF BULK AT MOST 1048576: true; the input reads as it did. -/
def pauseDecidesUptoRow : OpenClaim := { program := "ytmgcnjcdbidcfaa", sum := "dfe36f6a7bd55f92d75710c388f25a8c8fef89271ffc2887e5afab83185b8414", func := "damper/damperlaw22.PauseDecides", spec := "pauseDecides", unfollowed := true, recurses := true, apart := false, narrowed := true }
def PauseDecidesUptoSaid : Prop := pauseDecidesUptoRow.holds Try.pinned (OpenSpec.upto pauseDecidesSpec)

/-- 'damperlaw22.PauseEnds', WHERE WHAT IT READS IS OF BULK AT MOST 1048576: true; the input reads as it did. -/
def pauseEndsUptoRow : OpenClaim := { program := "ytmgcnjcdbidcfaa", sum := "dfe36f6a7bd55f92d75710c388f25a8c8fef89271ffc2887e5afab83185b8414", func := "damper/damperlaw22.PauseEnds", spec := "pauseEnds", unfollowed := true, recurses := true, apart := false, narrowed := true }
def PauseEndsUptoSaid : Prop := pauseEndsUptoRow.holds Try.pinned (OpenSpec.upto pauseEndsSpec)

end Rows
end Go.Proofs.Ytmgcnjcdbidcfaa
