/-
  No cell of these rows narrows 'for every input' (looked for: loops, veiled, ifaces, maps, wideKeys, modest, calm, conditions, laid).
  DERIVED. THE GIVEN ROWS OF THIS SEAT. 3 by the template 'for every input the law returns true; each argument reads behind the call as it read before'; 0 by the template 'total and deterministic' (their statements: YthophidcgkjdeaaTotals.lean).
  GIVEN WITH THE SEED: the statements are not yours to turn. If you find one false, say at which input.
  Laid BY PROGRAM, IN A SANDBOX (cutbox-rows.mjs): the forced cells as the released guide's own fill.sh prints them over the translation 2a4a21c8a58b4334… (all of the seat's roots in one cut). By AI agents, Wed Nov 11 2026. No macro, syntax, notation, axiom, sorry.
-/
import Derived.Test.YthophidcgkjdeaaChecked
import GoSem.Claim
import GoSem.ClaimJoined
import GoSem.ClaimMapViews
import Derived.JoinedTies
import Derived.KernelRfl
namespace Go.Proofs.Ythophidcgkjdeaa
/- THE CELL 'sum', in the pinned program and in every row, IS THE sha256 OF THE DUMP (.gsa) THAT YthophidcgkjdeaaProg.lean LOADS. Nothing in Lean hashes anything: it is a label: what it is worth is what the hold of that sum in a sandbox is worth. -/
noncomputable def Try.pinned : Pinned := { name := "ythophidcgkjdeaa", sum := "2a4a21c8a58b4334440b8ab39fb0955d5d581313065ee2de0f1881ba54978b21", checked := Try.checked }
namespace Rows
def none {H : Type} : Left H := { results := [], args := [] }

/-- 'damperlaw26.FeedGaps': WHATEVER THE INPUT: true; the input reads as it did. -/
def feedGapsSpec : ChangeSpec := { name := "feedGaps", fn := fun _ => fun
  | [d] => { results := [.lit (.bool true)], args := [d] }
  | _ => none }
def feedGapsRow : OpenClaim := { program := "ythophidcgkjdeaa", sum := "2a4a21c8a58b4334440b8ab39fb0955d5d581313065ee2de0f1881ba54978b21", func := "damper/damperlaw26.FeedGaps", spec := "feedGaps", apart := false }
def FeedGapsSaid : Prop := feedGapsRow.holds Try.pinned (OpenSpec.ofChange feedGapsSpec)

/-- ITS FALSE NEIGHBOUR: 'it returns false'. Refute it at one input. -/
def feedGapsWrong : ChangeSpec := { name := "feedGaps", fn := fun _ => fun
  | [d] => { results := [.lit (.bool false)], args := [d] }
  | _ => none }
def FeedGapsWrongFalsely : Prop := feedGapsRow.holds Try.pinned (OpenSpec.ofChange feedGapsWrong)

/-- 'damperlaw26.FeedSince': WHATEVER THE INPUT: true; the input reads as it did. -/
def feedSinceSpec : ChangeSpec := { name := "feedSince", fn := fun _ => fun
  | [d1, d2, d3] => { results := [.lit (.bool true)], args := [d1, d2, d3] }
  | _ => none }
def feedSinceRow : OpenClaim := { program := "ythophidcgkjdeaa", sum := "2a4a21c8a58b4334440b8ab39fb0955d5d581313065ee2de0f1881ba54978b21", func := "damper/damperlaw26.FeedSince", spec := "feedSince", unfollowed := true, recurses := true, apart := false }
def FeedSinceSaid : Prop := feedSinceRow.holds Try.pinned (OpenSpec.ofChange feedSinceSpec)

/-- ITS FALSE NEIGHBOUR: 'it returns false'. Refute it at one input. -/
def feedSinceWrong : ChangeSpec := { name := "feedSince", fn := fun _ => fun
  | [d1, d2, d3] => { results := [.lit (.bool false)], args := [d1, d2, d3] }
  | _ => none }
def FeedSinceWrongFalsely : Prop := feedSinceRow.holds Try.pinned (OpenSpec.ofChange feedSinceWrong)

/-- 'damperlaw26.FeedWhole': WHATEVER THE INPUT: true; the input reads as it did. -/
def feedWholeSpec : ChangeSpec := { name := "feedWhole", fn := fun _ => fun
  | [d1, d2] => { results := [.lit (.bool true)], args := [d1, d2] }
  | _ => none }
def feedWholeRow : OpenClaim := { program := "ythophidcgkjdeaa", sum := "2a4a21c8a58b4334440b8ab39fb0955d5d581313065ee2de0f1881ba54978b21", func := "damper/damperlaw26.FeedWhole", spec := "feedWhole", unfollowed := true, recurses := true, apart := false }
def FeedWholeSaid : Prop := feedWholeRow.holds Try.pinned (OpenSpec.ofChange feedWholeSpec)

/-- ITS FALSE NEIGHBOUR: 'it returns false'. Refute it at one input. -/
def feedWholeWrong : ChangeSpec := { name := "feedWhole", fn := fun _ => fun
  | [d1, d2] => { results := [.lit (.bool false)], args := [d1, d2] }
  | _ => none }
def FeedWholeWrongFalsely : Prop := feedWholeRow.holds Try.pinned (OpenSpec.ofChange feedWholeWrong)

/- THE SECOND FORM. 'bulk': how many values and letters a reading holds, each counted each time it is reached (what is shared counts as often as it is met; a slice's spare places count too). A statement '..UptoSaid' is the law's where the arguments, and the package variables that the reading takes, are together of bulk at most 1048576: NARROWER than '..Said'. Prove '..Said' where nothing that the law and all that it calls make is longer than what came in: it says more and counts as full. Else prove '..UptoSaid'. A law counts once. -/
mutual
def uptoBulk {H : Type} : DataW H → Nat
  | .lit (.string bytes) => bytes.length + 1
  | .lit _ => 1
  | .nil => 1
  | .ptr d => uptoBulk d + 1
  | .slice elems spare => uptoBulkAll elems + uptoBulkAll spare + 1
  | .agg parts => uptoBulkAll parts + 1
  | .iface _ d => uptoBulk d + 1
  | .map entries => uptoBulkEntries entries + 1
  | .held _ => 1
def uptoBulkAll {H : Type} : List (DataW H) → Nat
  | [] => 0
  | d :: r => uptoBulk d + uptoBulkAll r
def uptoBulkEntries {H : Type} : List (Lit × DataW H) → Nat
  | [] => 0
  | x :: r => uptoBulkEntry x + uptoBulkEntries r
def uptoBulkEntry {H : Type} : Lit × DataW H → Nat
  | (.string bytes, d) => bytes.length + uptoBulk d + 1
  | (_, d) => uptoBulk d + 1
 end
def uptoSmall : (H : Type) → List (DataW H) → Bool := fun _ ds => decide (uptoBulkAll ds ≤ 1048576)
def OpenSpec.upto (s : _root_.Go.ChangeSpec) : _root_.Go.OpenSpec := { _root_.Go.OpenSpec.ofChange s with cond := some uptoSmall }

/-- 'damperlaw26.FeedGaps', WHERE WHAT IT READS IS OF BULK AT MOST 1048576: true; the input reads as it did. -/
def feedGapsUptoRow : OpenClaim := { program := "ythophidcgkjdeaa", sum := "2a4a21c8a58b4334440b8ab39fb0955d5d581313065ee2de0f1881ba54978b21", func := "damper/damperlaw26.FeedGaps", spec := "feedGaps", apart := false, narrowed := true }
def FeedGapsUptoSaid : Prop := feedGapsUptoRow.holds Try.pinned (OpenSpec.upto feedGapsSpec)

/-- 'damperlaw26.FeedSince', WHERE WHAT IT READS IS OF BULK AT MOST 1048576: true; the input reads as it did. -/
def feedSinceUptoRow : OpenClaim := { program := "ythophidcgkjdeaa", sum := "2a4a21c8a58b4334440b8ab39fb0955d5d581313065ee2de0f1881ba54978b21", func := "damper/damperlaw26.FeedSince", spec := "feedSince", unfollowed := true, recurses := true, apart := false, narrowed := true }
def FeedSinceUptoSaid : Prop := feedSinceUptoRow.holds Try.pinned (OpenSpec.upto feedSinceSpec)

/-- 'damperlaw26.FeedWhole', WHERE WHAT IT READS IS OF BULK AT MOST 1048576: true; the input reads as it did. -/
def feedWholeUptoRow : OpenClaim := { program := "ythophidcgkjdeaa", sum := "2a4a21c8a58b4334440b8ab39fb0955d5d581313065ee2de0f1881ba54978b21", func := "damper/damperlaw26.FeedWhole", spec := "feedWhole", unfollowed := true, recurses := true, apart := false, narrowed := true }
def FeedWholeUptoSaid : Prop := feedWholeUptoRow.holds Try.pinned (OpenSpec.upto feedWholeSpec)

end Rows
end Go.Proofs.Ythophidcgkjdeaa
