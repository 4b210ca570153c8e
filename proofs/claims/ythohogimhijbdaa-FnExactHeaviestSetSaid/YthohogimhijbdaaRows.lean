/-
  No cell of these rows narrows 'for every input' (looked for: loops, veiled, ifaces, maps, wideKeys, modest, calm, conditions, laid).
  DERIVED. THE GIVEN ROWS OF THIS SEAT. 5 by the template 'for every input the law returns true; each argument reads behind the call as it read before'; 0 by the template 'total and deterministic' (their statements: YthohogimhijbdaaTotals.lean).
  GIVEN WITH THE SEED: the statements are not yours to turn. If you find one false, say at which input.
  Laid BY PROGRAM, IN A SANDBOX (cutbox-rows.mjs): the forced cells as the released guide's own fill.sh prints them over the translation 8331b8b52fc4b65b… (all of the seat's roots in one cut). By AI agents, Wed Nov 11 2026. No macro, syntax, notation, axiom, sorry.
-/
import Derived.Test.YthohogimhijbdaaChecked
import GoSem.Claim
import GoSem.ClaimJoined
import GoSem.ClaimMapViews
import Derived.JoinedTies
import Derived.KernelRfl
namespace Go.Proofs.Ythohogimhijbdaa
/- THE CELL 'sum', in the pinned program and in every row, IS THE sha256 OF THE DUMP (.gsa) THAT YthohogimhijbdaaProg.lean LOADS. Nothing in Lean hashes anything: it is a label: what it is worth is what the hold of that sum in a sandbox is worth. -/
noncomputable def Try.pinned : Pinned := { name := "ythohogimhijbdaa", sum := "8331b8b52fc4b65b5ac544684232a5c6540ecf3fb117abf3c329b9f8d555952f", checked := Try.checked }
namespace Rows
def none {H : Type} : Left H := { results := [], args := [] }

/-- 'laws.FnExactAreProposals': WHATEVER THE INPUT: true; the input reads as it did. -/
def fnExactAreProposalsSpec : ChangeSpec := { name := "fnExactAreProposals", fn := fun _ => fun
  | [d1, d2] => { results := [.lit (.bool true)], args := [d1, d2] }
  | _ => none }
def fnExactAreProposalsRow : OpenClaim := { program := "ythohogimhijbdaa", sum := "8331b8b52fc4b65b5ac544684232a5c6540ecf3fb117abf3c329b9f8d555952f", func := "loop.example/g00909/laws.FnExactAreProposals", spec := "fnExactAreProposals", unfollowed := true, recurses := true, apart := false }
def FnExactAreProposalsSaid : Prop := fnExactAreProposalsRow.holds Try.pinned (OpenSpec.ofChange fnExactAreProposalsSpec)

/-- ITS FALSE NEIGHBOUR: 'it returns false'. Refute it at one input. -/
def fnExactAreProposalsWrong : ChangeSpec := { name := "fnExactAreProposals", fn := fun _ => fun
  | [d1, d2] => { results := [.lit (.bool false)], args := [d1, d2] }
  | _ => none }
def FnExactAreProposalsWrongFalsely : Prop := fnExactAreProposalsRow.holds Try.pinned (OpenSpec.ofChange fnExactAreProposalsWrong)

/-- 'laws.FnExactFreeProposals': WHATEVER THE INPUT: true; the input reads as it did. -/
def fnExactFreeProposalsSpec : ChangeSpec := { name := "fnExactFreeProposals", fn := fun _ => fun
  | [d1, d2] => { results := [.lit (.bool true)], args := [d1, d2] }
  | _ => none }
def fnExactFreeProposalsRow : OpenClaim := { program := "ythohogimhijbdaa", sum := "8331b8b52fc4b65b5ac544684232a5c6540ecf3fb117abf3c329b9f8d555952f", func := "loop.example/g00909/laws.FnExactFreeProposals", spec := "fnExactFreeProposals", unfollowed := true, recurses := true, apart := false }
def FnExactFreeProposalsSaid : Prop := fnExactFreeProposalsRow.holds Try.pinned (OpenSpec.ofChange fnExactFreeProposalsSpec)

/-- ITS FALSE NEIGHBOUR: 'it returns false'. Refute it at one input. -/
def fnExactFreeProposalsWrong : ChangeSpec := { name := "fnExactFreeProposals", fn := fun _ => fun
  | [d1, d2] => { results := [.lit (.bool false)], args := [d1, d2] }
  | _ => none }
def FnExactFreeProposalsWrongFalsely : Prop := fnExactFreeProposalsRow.holds Try.pinned (OpenSpec.ofChange fnExactFreeProposalsWrong)

/-- 'laws.FnExactConflictPairs': WHATEVER THE INPUT: true; the input reads as it did. -/
def fnExactConflictPairsSpec : ChangeSpec := { name := "fnExactConflictPairs", fn := fun _ => fun
  | [d1, d2] => { results := [.lit (.bool true)], args := [d1, d2] }
  | _ => none }
def fnExactConflictPairsRow : OpenClaim := { program := "ythohogimhijbdaa", sum := "8331b8b52fc4b65b5ac544684232a5c6540ecf3fb117abf3c329b9f8d555952f", func := "loop.example/g00909/laws.FnExactConflictPairs", spec := "fnExactConflictPairs", unfollowed := true, recurses := true, apart := false }
def FnExactConflictPairsSaid : Prop := fnExactConflictPairsRow.holds Try.pinned (OpenSpec.ofChange fnExactConflictPairsSpec)

/-- ITS FALSE NEIGHBOUR: 'it returns false'. Refute it at one input. -/
def fnExactConflictPairsWrong : ChangeSpec := { name := "fnExactConflictPairs", fn := fun _ => fun
  | [d1, d2] => { results := [.lit (.bool false)], args := [d1, d2] }
  | _ => none }
def FnExactConflictPairsWrongFalsely : Prop := fnExactConflictPairsRow.holds Try.pinned (OpenSpec.ofChange fnExactConflictPairsWrong)

/-- 'laws.FnExactApplyTogether': WHATEVER THE INPUT: true; the input reads as it did. -/
def fnExactApplyTogetherSpec : ChangeSpec := { name := "fnExactApplyTogether", fn := fun _ => fun
  | [d1, d2] => { results := [.lit (.bool true)], args := [d1, d2] }
  | _ => none }
def fnExactApplyTogetherRow : OpenClaim := { program := "ythohogimhijbdaa", sum := "8331b8b52fc4b65b5ac544684232a5c6540ecf3fb117abf3c329b9f8d555952f", func := "loop.example/g00909/laws.FnExactApplyTogether", spec := "fnExactApplyTogether", unfollowed := true, recurses := true, apart := false }
def FnExactApplyTogetherSaid : Prop := fnExactApplyTogetherRow.holds Try.pinned (OpenSpec.ofChange fnExactApplyTogetherSpec)

/-- ITS FALSE NEIGHBOUR: 'it returns false'. Refute it at one input. -/
def fnExactApplyTogetherWrong : ChangeSpec := { name := "fnExactApplyTogether", fn := fun _ => fun
  | [d1, d2] => { results := [.lit (.bool false)], args := [d1, d2] }
  | _ => none }
def FnExactApplyTogetherWrongFalsely : Prop := fnExactApplyTogetherRow.holds Try.pinned (OpenSpec.ofChange fnExactApplyTogetherWrong)

/-- 'laws.FnExactHeaviestSet': WHATEVER THE INPUT: true; the input reads as it did. -/
def fnExactHeaviestSetSpec : ChangeSpec := { name := "fnExactHeaviestSet", fn := fun _ => fun
  | [d1, d2] => { results := [.lit (.bool true)], args := [d1, d2] }
  | _ => none }
def fnExactHeaviestSetRow : OpenClaim := { program := "ythohogimhijbdaa", sum := "8331b8b52fc4b65b5ac544684232a5c6540ecf3fb117abf3c329b9f8d555952f", func := "loop.example/g00909/laws.FnExactHeaviestSet", spec := "fnExactHeaviestSet", unfollowed := true, recurses := true, apart := false }
def FnExactHeaviestSetSaid : Prop := fnExactHeaviestSetRow.holds Try.pinned (OpenSpec.ofChange fnExactHeaviestSetSpec)

/-- ITS FALSE NEIGHBOUR: 'it returns false'. Refute it at one input. -/
def fnExactHeaviestSetWrong : ChangeSpec := { name := "fnExactHeaviestSet", fn := fun _ => fun
  | [d1, d2] => { results := [.lit (.bool false)], args := [d1, d2] }
  | _ => none }
def FnExactHeaviestSetWrongFalsely : Prop := fnExactHeaviestSetRow.holds Try.pinned (OpenSpec.ofChange fnExactHeaviestSetWrong)

/- THE SECOND FORM. 'bulk': how many values and letters a reading holds, each counted each time it is reached (what is shared counts as often as it is met; a slice's spare places count too). A statement '..UptoSaid' is the law's where the arguments, and the package variables that the reading takes, are together of bulk at most 1048576: NARROWER than '..Said'. Prove '..Said' where nothing that the law and all that it calls make is longer than what came in: it says more and counts as full. Else prove '..UptoSaid'. A law counts once. -/
mutual
def uptoBulk {H : Type} : DataW H → Nat
  | .lit (.string bytes) => bytes.length + 1
  | .lit _ => 1
  | .nil => 1
  | .ptr d => uptoBulk d + 1
  | .slice elems spare => uptoBulkAll elems + uptoBulkAll spare + 1
  | .agg parts => uptoBulkAll parts + 1
  | .iface _ d => uptoBulk d + 1
  | .map entries => uptoBulkEntries entries + 1
  | .held _ => 1
def uptoBulkAll {H : Type} : List (DataW H) → Nat
  | [] => 0
  | d :: r => uptoBulk d + uptoBulkAll r
def uptoBulkEntries {H : Type} : List (Lit × DataW H) → Nat
  | [] => 0
  | x :: r => uptoBulkEntry x + uptoBulkEntries r
def uptoBulkEntry {H : Type} : Lit × DataW H → Nat
  | (.string bytes, d) => bytes.length + uptoBulk d + 1
  | (_, d) => uptoBulk d + 1
 end
def uptoSmall : (H : Type) → List (DataW H) → Bool := fun _ ds => decide (uptoBulkAll ds ≤ 1048576)
def OpenSpec.upto (s : _root_.Go.ChangeSpec) : _root_.Go.OpenSpec := { _root_.Go.OpenSpec.ofChange s with cond := some uptoSmall }

/-- 'laws.FnExactAreProposals', WHERE WHAT IT READS IS OF BULK AT MOST 1048576: true; the input reads as it did. -/
def fnExactAreProposalsUptoRow : OpenClaim := { program := "ythohogimhijbdaa", sum := "8331b8b52fc4b65b5ac544684232a5c6540ecf3fb117abf3c329b9f8d555952f", func := "loop.example/g00909/laws.FnExactAreProposals", spec := "fnExactAreProposals", unfollowed := true, recurses := true, apart := false, narrowed := true }
def FnExactAreProposalsUptoSaid : Prop := fnExactAreProposalsUptoRow.holds Try.pinned (OpenSpec.upto fnExactAreProposalsSpec)

/-- 'laws.FnExactFreeProposals', WHERE WHAT IT READS IS OF BULK AT MOST 1048576: true; the input reads as it did. -/
def fnExactFreeProposalsUptoRow : OpenClaim := { program := "ythohogimhijbdaa", sum := "8331b8b52fc4b65b5ac544684232a5c6540ecf3fb117abf3c329b9f8d555952f", func := "loop.example/g00909/laws.FnExactFreeProposals", spec := "fnExactFreeProposals", unfollowed := true, recurses := true, apart := false, narrowed := true }
def FnExactFreeProposalsUptoSaid : Prop := fnExactFreeProposalsUptoRow.holds Try.pinned (OpenSpec.upto fnExactFreeProposalsSpec)

/-- 'laws.FnExactConflictPairs', WHERE WHAT IT READS IS OF BULK AT MOST 1048576: true; the input reads as it did. -/
def fnExactConflictPairsUptoRow : OpenClaim := { program := "ythohogimhijbdaa", sum := "8331b8b52fc4b65b5ac544684232a5c6540ecf3fb117abf3c329b9f8d555952f", func := "loop.example/g00909/laws.FnExactConflictPairs", spec := "fnExactConflictPairs", unfollowed := true, recurses := true, apart := false, narrowed := true }
def FnExactConflictPairsUptoSaid : Prop := fnExactConflictPairsUptoRow.holds Try.pinned (OpenSpec.upto fnExactConflictPairsSpec)

/-- 'laws.FnExactApplyTogether', WHERE WHAT IT READS IS OF BULK AT MOST 1048576: true; the input reads as it did. -/
def fnExactApplyTogetherUptoRow : OpenClaim := { program := "ythohogimhijbdaa", sum := "8331b8b52fc4b65b5ac544684232a5c6540ecf3fb117abf3c329b9f8d555952f", func := "loop.example/g00909/laws.FnExactApplyTogether", spec := "fnExactApplyTogether", unfollowed := true, recurses := true, apart := false, narrowed := true }
def FnExactApplyTogetherUptoSaid : Prop := fnExactApplyTogetherUptoRow.holds Try.pinned (OpenSpec.upto fnExactApplyTogetherSpec)

/-- 'laws.FnExactHeaviestSet', WHERE WHAT IT READS IS OF BULK AT MOST 1048576: true; the input reads as it did. -/
def fnExactHeaviestSetUptoRow : OpenClaim := { program := "ythohogimhijbdaa", sum := "8331b8b52fc4b65b5ac544684232a5c6540ecf3fb117abf3c329b9f8d555952f", func := "loop.example/g00909/laws.FnExactHeaviestSet", spec := "fnExactHeaviestSet", unfollowed := true, recurses := true, apart := false, narrowed := true }
def FnExactHeaviestSetUptoSaid : Prop := fnExactHeaviestSetUptoRow.holds Try.pinned (OpenSpec.upto fnExactHeaviestSetSpec)

end Rows
end Go.Proofs.Ythohogimhijbdaa
