/-
  No cell of these rows narrows 'for every input' (looked for: loops, veiled, ifaces, maps, wideKeys, modest, calm, conditions, laid).
  DERIVED. THE GIVEN ROWS OF THIS SEAT. 3 by the template 'for every input the law returns true; each argument reads behind the call as it read before'; 0 by the template 'total and deterministic' (their statements: YtdefimhdjllfaaaTotals.lean).
  GIVEN WITH THE SEED: the statements are not yours to turn. If you find one false, say at which input.
  Laid BY PROGRAM, IN A SANDBOX (cutbox-rows.mjs): the forced cells as the released guide's own fill.sh prints them over the translation 0770a8e62a52bb60… (all of the seat's roots in one cut). By AI agents, Wed Nov 11 2026. No macro, syntax, notation, axiom, sorry.
-/
import Derived.Test.YtdefimhdjllfaaaChecked
import GoSem.Claim
import GoSem.ClaimJoined
import GoSem.ClaimMapViews
import Derived.JoinedTies
import Derived.KernelRfl
namespace Go.Proofs.Ytdefimhdjllfaaa
/- THE CELL 'sum', in the pinned program and in every row, IS THE sha256 OF THE DUMP (.gsa) THAT YtdefimhdjllfaaaProg.lean LOADS. Nothing in Lean hashes anything: it is a label: what it is worth is what the hold of that sum in a sandbox is worth. -/
noncomputable def Try.pinned : Pinned := { name := "ytdefimhdjllfaaa", sum := "0770a8e62a52bb60ea3ae09a0f9acfe7c8f942fb4dd9bcf2a78e0e4935f0a9de", checked := Try.checked }
namespace Rows
def none {H : Type} : Left H := { results := [], args := [] }

/-- 'damperlaw23.BreakerPlays': WHATEVER THE INPUT: true; the input reads as it did. -/
def breakerPlaysSpec : ChangeSpec := { name := "breakerPlays", fn := fun _ => fun
  | [d1, d2, d3] => { results := [.lit (.bool true)], args := [d1, d2, d3] }
  | _ => none }
def breakerPlaysRow : OpenClaim := { program := "ytdefimhdjllfaaa", sum := "0770a8e62a52bb60ea3ae09a0f9acfe7c8f942fb4dd9bcf2a78e0e4935f0a9de", func := "damper/damperlaw23.BreakerPlays", spec := "breakerPlays", unfollowed := true, recurses := true, apart := false }
def BreakerPlaysSaid : Prop := breakerPlaysRow.holds Try.pinned (OpenSpec.ofChange breakerPlaysSpec)

/-- ITS FALSE NEIGHBOUR: 'it returns false'. Refute it at one input. -/
def breakerPlaysWrong : ChangeSpec := { name := "breakerPlays", fn := fun _ => fun
  | [d1, d2, d3] => { results := [.lit (.bool false)], args := [d1, d2, d3] }
  | _ => none }
def BreakerPlaysWrongFalsely : Prop := breakerPlaysRow.holds Try.pinned (OpenSpec.ofChange breakerPlaysWrong)

/-- 'damperlaw23.BreakerOnce': WHATEVER THE INPUT: true; the input reads as it did. -/
def breakerOnceSpec : ChangeSpec := { name := "breakerOnce", fn := fun _ => fun
  | [d1, d2, d3] => { results := [.lit (.bool true)], args := [d1, d2, d3] }
  | _ => none }
def breakerOnceRow : OpenClaim := { program := "ytdefimhdjllfaaa", sum := "0770a8e62a52bb60ea3ae09a0f9acfe7c8f942fb4dd9bcf2a78e0e4935f0a9de", func := "damper/damperlaw23.BreakerOnce", spec := "breakerOnce", unfollowed := true, recurses := true, apart := false }
def BreakerOnceSaid : Prop := breakerOnceRow.holds Try.pinned (OpenSpec.ofChange breakerOnceSpec)

/-- ITS FALSE NEIGHBOUR: 'it returns false'. Refute it at one input. -/
def breakerOnceWrong : ChangeSpec := { name := "breakerOnce", fn := fun _ => fun
  | [d1, d2, d3] => { results := [.lit (.bool false)], args := [d1, d2, d3] }
  | _ => none }
def BreakerOnceWrongFalsely : Prop := breakerOnceRow.holds Try.pinned (OpenSpec.ofChange breakerOnceWrong)

/-- 'damperlaw23.BreakerFalls': WHATEVER THE INPUT: true; the input reads as it did. -/
def breakerFallsSpec : ChangeSpec := { name := "breakerFalls", fn := fun _ => fun
  | [d1, d2, d3] => { results := [.lit (.bool true)], args := [d1, d2, d3] }
  | _ => none }
def breakerFallsRow : OpenClaim := { program := "ytdefimhdjllfaaa", sum := "0770a8e62a52bb60ea3ae09a0f9acfe7c8f942fb4dd9bcf2a78e0e4935f0a9de", func := "damper/damperlaw23.BreakerFalls", spec := "breakerFalls", unfollowed := true, recurses := true, apart := false }
def BreakerFallsSaid : Prop := breakerFallsRow.holds Try.pinned (OpenSpec.ofChange breakerFallsSpec)

/-- ITS FALSE NEIGHBOUR: 'it returns false'. Refute it at one input. -/
def breakerFallsWrong : ChangeSpec := { name := "breakerFalls", fn := fun _ => fun
  | [d1, d2, d3] => { results := [.lit (.bool false)], args := [d1, d2, d3] }
  | _ => none }
def BreakerFallsWrongFalsely : Prop := breakerFallsRow.holds Try.pinned (OpenSpec.ofChange breakerFallsWrong)

/- THE SECOND FORM. 'bulk': how many values and letters a reading holds, each counted each time it is reached (what is shared counts as often as it is met; a slice's spare places count too). A statement '..UptoSaid' is the law's where the arguments, and the package variables that the reading takes, are together of bulk at most 1048576: NARROWER than '..Said'. Prove '..Said' where nothing that the law and all that it calls make is longer than what came in: it says more and counts as full. Else prove '..UptoSaid'. A law counts once. -/
mutual
def uptoBulk {H : Type} : DataW H → Nat
  | .lit (.string bytes) => bytes.length + 1
  | .lit _ => 1
  | .nil => 1
  | .ptr d => uptoBulk d + 1
  | .slice elems spare => uptoBulkAll elems + uptoBulkAll spare + 1
  | .agg parts => uptoBulkAll parts + 1
  | .iface _ d => uptoBulk d + 1
  | .map entries => uptoBulkEntries entries + 1
  | .held _ => 1
def uptoBulkAll {H : Type} : List (DataW H) → Nat
  | [] => 0
  | d :: r => uptoBulk d + uptoBulkAll r
def uptoBulkEntries {H : Type} : List (Lit × DataW H) → Nat
  | [] => 0
  | x :: r => uptoBulkEntry x + uptoBulkEntries r
def uptoBulkEntry {H : Type} : Lit × DataW H → Nat
  | (.string bytes, d) => bytes.length + uptoBulk d + 1
  | (_, d) => uptoBulk d + 1
 end
def uptoSmall : (H : Type) → List (DataW H) → Bool := fun _ ds => decide (uptoBulkAll ds ≤ 1048576)
def OpenSpec.upto (s : _root_.Go.ChangeSpec) : _root_.Go.OpenSpec := { _root_.Go.OpenSpec.ofChange s with cond := some uptoSmall }

/-- 'damperlaw23.BreakerPlays', WHERE WHAT IT READS IS OF BULK AT MOST 1048576: true; the input reads as it did. -/
def breakerPlaysUptoRow : OpenClaim := { program := "ytdefimhdjllfaaa", sum := "0770a8e62a52bb60ea3ae09a0f9acfe7c8f942fb4dd9bcf2a78e0e4935f0a9de", func := "damper/damperlaw23.BreakerPlays", spec := "breakerPlays", unfollowed := true, recurses := true, apart := false, narrowed := true }
def BreakerPlaysUptoSaid : Prop := breakerPlaysUptoRow.holds Try.pinned (OpenSpec.upto breakerPlaysSpec)

/-- 'damperlaw23.BreakerOnce', WHERE WHAT IT READS IS OF BULK AT MOST 1048576: true; the input reads as it did. -/
def breakerOnceUptoRow : OpenClaim := { program := "ytdefimhdjllfaaa", sum := "0770a8e62a52bb60ea3ae09a0f9acfe7c8f942fb4dd9bcf2a78e0e4935f0a9de", func := "damper/damperlaw23.BreakerOnce", spec := "breakerOnce", unfollowed := true, recurses := true, apart := false, narrowed := true }
def BreakerOnceUptoSaid : Prop := breakerOnceUptoRow.holds Try.pinned (OpenSpec.upto breakerOnceSpec)

/-- 'damperlaw23.BreakerFalls', WHERE WHAT IT READS IS OF BULK AT MOST 1048576: true; the input reads as it did. -/
def breakerFallsUptoRow : OpenClaim := { program := "ytdefimhdjllfaaa", sum := "0770a8e62a52bb60ea3ae09a0f9acfe7c8f942fb4dd9bcf2a78e0e4935f0a9de", func := "damper/damperlaw23.BreakerFalls", spec := "breakerFalls", unfollowed := true, recurses := true, apart := false, narrowed := true }
def BreakerFallsUptoSaid : Prop := breakerFallsUptoRow.holds Try.pinned (OpenSpec.upto breakerFallsSpec)

end Rows
end Go.Proofs.Ytdefimhdjllfaaa
