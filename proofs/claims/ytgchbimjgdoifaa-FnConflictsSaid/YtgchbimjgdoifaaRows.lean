/-
  No cell of these rows narrows 'for every input' (looked for: loops, veiled, ifaces, maps, wideKeys, modest, calm, conditions, laid).
  DERIVED. THE GIVEN ROWS OF THIS SEAT. 5 by the template 'for every input the law returns true; each argument reads behind the call as it read before'; 0 by the template 'total and deterministic' (their statements: YtgchbimjgdoifaaTotals.lean).
  GIVEN WITH THE SEED: the statements are not yours to turn. If you find one false, say at which input.
  Laid BY PROGRAM, IN A SANDBOX (cutbox-rows.mjs): the forced cells as the released guide's own fill.sh prints them over the translation 89115d00e7106734… (all of the seat's roots in one cut). By AI agents, Wed Nov 11 2026. No macro, syntax, notation, axiom, sorry.
-/
import Derived.Test.YtgchbimjgdoifaaChecked
import GoSem.Claim
import GoSem.ClaimJoined
import GoSem.ClaimMapViews
import Derived.JoinedTies
import Derived.KernelRfl
namespace Go.Proofs.Ytgchbimjgdoifaa
/- THE CELL 'sum', in the pinned program and in every row, IS THE sha256 OF THE DUMP (.gsa) THAT YtgchbimjgdoifaaProg.lean LOADS. Nothing in Lean hashes anything: it is a label: what it is worth is what the hold of that sum in a sandbox is worth. -/
noncomputable def Try.pinned : Pinned := { name := "ytgchbimjgdoifaa", sum := "89115d00e7106734e9724ff8a1d51262060932c12cef652674c5af8ca81d3c63", checked := Try.checked }
namespace Rows
def none {H : Type} : Left H := { results := [], args := [] }

/-- 'laws.FnExactRebuildText': WHATEVER THE INPUT: true; the input reads as it did. -/
def fnExactRebuildTextSpec : ChangeSpec := { name := "fnExactRebuildText", fn := fun _ => fun
  | [d1, d2] => { results := [.lit (.bool true)], args := [d1, d2] }
  | _ => none }
def fnExactRebuildTextRow : OpenClaim := { program := "ytgchbimjgdoifaa", sum := "89115d00e7106734e9724ff8a1d51262060932c12cef652674c5af8ca81d3c63", func := "loop.example/g00909/laws.FnExactRebuildText", spec := "fnExactRebuildText", unfollowed := true, recurses := true, apart := false }
def FnExactRebuildTextSaid : Prop := fnExactRebuildTextRow.holds Try.pinned (OpenSpec.ofChange fnExactRebuildTextSpec)

/-- ITS FALSE NEIGHBOUR: 'it returns false'. Refute it at one input. -/
def fnExactRebuildTextWrong : ChangeSpec := { name := "fnExactRebuildText", fn := fun _ => fun
  | [d1, d2] => { results := [.lit (.bool false)], args := [d1, d2] }
  | _ => none }
def FnExactRebuildTextWrongFalsely : Prop := fnExactRebuildTextRow.holds Try.pinned (OpenSpec.ofChange fnExactRebuildTextWrong)

/-- 'laws.FnExactUndoAmendments': WHATEVER THE INPUT: true; the input reads as it did. -/
def fnExactUndoAmendmentsSpec : ChangeSpec := { name := "fnExactUndoAmendments", fn := fun _ => fun
  | [d1, d2] => { results := [.lit (.bool true)], args := [d1, d2] }
  | _ => none }
def fnExactUndoAmendmentsRow : OpenClaim := { program := "ytgchbimjgdoifaa", sum := "89115d00e7106734e9724ff8a1d51262060932c12cef652674c5af8ca81d3c63", func := "loop.example/g00909/laws.FnExactUndoAmendments", spec := "fnExactUndoAmendments", unfollowed := true, recurses := true, apart := false }
def FnExactUndoAmendmentsSaid : Prop := fnExactUndoAmendmentsRow.holds Try.pinned (OpenSpec.ofChange fnExactUndoAmendmentsSpec)

/-- ITS FALSE NEIGHBOUR: 'it returns false'. Refute it at one input. -/
def fnExactUndoAmendmentsWrong : ChangeSpec := { name := "fnExactUndoAmendments", fn := fun _ => fun
  | [d1, d2] => { results := [.lit (.bool false)], args := [d1, d2] }
  | _ => none }
def FnExactUndoAmendmentsWrongFalsely : Prop := fnExactUndoAmendmentsRow.holds Try.pinned (OpenSpec.ofChange fnExactUndoAmendmentsWrong)

/-- 'laws.FnAmendments': WHATEVER THE INPUT: true; the input reads as it did. -/
def fnAmendmentsSpec : ChangeSpec := { name := "fnAmendments", fn := fun _ => fun
  | [d] => { results := [.lit (.bool true)], args := [d] }
  | _ => none }
def fnAmendmentsRow : OpenClaim := { program := "ytgchbimjgdoifaa", sum := "89115d00e7106734e9724ff8a1d51262060932c12cef652674c5af8ca81d3c63", func := "loop.example/g00909/laws.FnAmendments", spec := "fnAmendments", unfollowed := true, recurses := true, apart := false }
def FnAmendmentsSaid : Prop := fnAmendmentsRow.holds Try.pinned (OpenSpec.ofChange fnAmendmentsSpec)

/-- ITS FALSE NEIGHBOUR: 'it returns false'. Refute it at one input. -/
def fnAmendmentsWrong : ChangeSpec := { name := "fnAmendments", fn := fun _ => fun
  | [d] => { results := [.lit (.bool false)], args := [d] }
  | _ => none }
def FnAmendmentsWrongFalsely : Prop := fnAmendmentsRow.holds Try.pinned (OpenSpec.ofChange fnAmendmentsWrong)

/-- 'laws.FnConflicts': WHATEVER THE INPUT: true; the input reads as it did. -/
def fnConflictsSpec : ChangeSpec := { name := "fnConflicts", fn := fun _ => fun
  | [d] => { results := [.lit (.bool true)], args := [d] }
  | _ => none }
def fnConflictsRow : OpenClaim := { program := "ytgchbimjgdoifaa", sum := "89115d00e7106734e9724ff8a1d51262060932c12cef652674c5af8ca81d3c63", func := "loop.example/g00909/laws.FnConflicts", spec := "fnConflicts", unfollowed := true, recurses := true, apart := false }
def FnConflictsSaid : Prop := fnConflictsRow.holds Try.pinned (OpenSpec.ofChange fnConflictsSpec)

/-- ITS FALSE NEIGHBOUR: 'it returns false'. Refute it at one input. -/
def fnConflictsWrong : ChangeSpec := { name := "fnConflicts", fn := fun _ => fun
  | [d] => { results := [.lit (.bool false)], args := [d] }
  | _ => none }
def FnConflictsWrongFalsely : Prop := fnConflictsRow.holds Try.pinned (OpenSpec.ofChange fnConflictsWrong)

/-- 'laws.FnProposals': WHATEVER THE INPUT: true; the input reads as it did. -/
def fnProposalsSpec : ChangeSpec := { name := "fnProposals", fn := fun _ => fun
  | [d] => { results := [.lit (.bool true)], args := [d] }
  | _ => none }
def fnProposalsRow : OpenClaim := { program := "ytgchbimjgdoifaa", sum := "89115d00e7106734e9724ff8a1d51262060932c12cef652674c5af8ca81d3c63", func := "loop.example/g00909/laws.FnProposals", spec := "fnProposals", unfollowed := true, recurses := true, apart := false }
def FnProposalsSaid : Prop := fnProposalsRow.holds Try.pinned (OpenSpec.ofChange fnProposalsSpec)

/-- ITS FALSE NEIGHBOUR: 'it returns false'. Refute it at one input. -/
def fnProposalsWrong : ChangeSpec := { name := "fnProposals", fn := fun _ => fun
  | [d] => { results := [.lit (.bool false)], args := [d] }
  | _ => none }
def FnProposalsWrongFalsely : Prop := fnProposalsRow.holds Try.pinned (OpenSpec.ofChange fnProposalsWrong)

/- THE SECOND FORM. 'bulk': how many values and letters a reading holds, each counted each time it is reached (what is shared counts as often as it is met; a slice's spare places count too). A statement '..UptoSaid' is the law's where the arguments, and the package variables that the reading takes, are together of bulk at most 1048576: NARROWER than '..Said'. Prove '..Said' where nothing that the law and all that it calls make is longer than what came in: it says more and counts as full. Else prove '..UptoSaid'. A law counts once. -/
mutual
def uptoBulk {H : Type} : DataW H → Nat
  | .lit (.string bytes) => bytes.length + 1
  | .lit _ => 1
  | .nil => 1
  | .ptr d => uptoBulk d + 1
  | .slice elems spare => uptoBulkAll elems + uptoBulkAll spare + 1
  | .agg parts => uptoBulkAll parts + 1
  | .iface _ d => uptoBulk d + 1
  | .map entries => uptoBulkEntries entries + 1
  | .held _ => 1
def uptoBulkAll {H : Type} : List (DataW H) → Nat
  | [] => 0
  | d :: r => uptoBulk d + uptoBulkAll r
def uptoBulkEntries {H : Type} : List (Lit × DataW H) → Nat
  | [] => 0
  | x :: r => uptoBulkEntry x + uptoBulkEntries r
def uptoBulkEntry {H : Type} : Lit × DataW H → Nat
  | (.string bytes, d) => bytes.length + uptoBulk d + 1
  | (_, d) => uptoBulk d + 1
 end
def uptoSmall : (H : Type) → List (DataW H) → Bool := fun _ ds => decide (uptoBulkAll ds ≤ 1048576)
def OpenSpec.upto (s : _root_.Go.ChangeSpec) : _root_.Go.OpenSpec := { _root_.Go.OpenSpec.ofChange s with cond := some uptoSmall }

/-- 'laws.FnExactRebuildText', WHERE WHAT IT READS IS OF BULK AT MOST 1048576: true; the input reads as it did. -/
def fnExactRebuildTextUptoRow : OpenClaim := { program := "ytgchbimjgdoifaa", sum := "89115d00e7106734e9724ff8a1d51262060932c12cef652674c5af8ca81d3c63", func := "loop.example/g00909/laws.FnExactRebuildText", spec := "fnExactRebuildText", unfollowed := true, recurses := true, apart := false, narrowed := true }
def FnExactRebuildTextUptoSaid : Prop := fnExactRebuildTextUptoRow.holds Try.pinned (OpenSpec.upto fnExactRebuildTextSpec)

/-- 'laws.FnExactUndoAmendments', WHERE WHAT IT READS IS OF BULK AT MOST 1048576: true; the input reads as it did. -/
def fnExactUndoAmendmentsUptoRow : OpenClaim := { program := "ytgchbimjgdoifaa", sum := "89115d00e7106734e9724ff8a1d51262060932c12cef652674c5af8ca81d3c63", func := "loop.example/g00909/laws.FnExactUndoAmendments", spec := "fnExactUndoAmendments", unfollowed := true, recurses := true, apart := false, narrowed := true }
def FnExactUndoAmendmentsUptoSaid : Prop := fnExactUndoAmendmentsUptoRow.holds Try.pinned (OpenSpec.upto fnExactUndoAmendmentsSpec)

/-- 'laws.FnAmendments', WHERE WHAT IT READS IS OF BULK AT MOST 1048576: true; the input reads as it did. -/
def fnAmendmentsUptoRow : OpenClaim := { program := "ytgchbimjgdoifaa", sum := "89115d00e7106734e9724ff8a1d51262060932c12cef652674c5af8ca81d3c63", func := "loop.example/g00909/laws.FnAmendments", spec := "fnAmendments", unfollowed := true, recurses := true, apart := false, narrowed := true }
def FnAmendmentsUptoSaid : Prop := fnAmendmentsUptoRow.holds Try.pinned (OpenSpec.upto fnAmendmentsSpec)

/-- 'laws.FnConflicts', WHERE WHAT IT READS IS OF BULK AT MOST 1048576: true; the input reads as it did. -/
def fnConflictsUptoRow : OpenClaim := { program := "ytgchbimjgdoifaa", sum := "89115d00e7106734e9724ff8a1d51262060932c12cef652674c5af8ca81d3c63", func := "loop.example/g00909/laws.FnConflicts", spec := "fnConflicts", unfollowed := true, recurses := true, apart := false, narrowed := true }
def FnConflictsUptoSaid : Prop := fnConflictsUptoRow.holds Try.pinned (OpenSpec.upto fnConflictsSpec)

/-- 'laws.FnProposals', WHERE WHAT IT READS IS OF BULK AT MOST 1048576: true; the input reads as it did. -/
def fnProposalsUptoRow : OpenClaim := { program := "ytgchbimjgdoifaa", sum := "89115d00e7106734e9724ff8a1d51262060932c12cef652674c5af8ca81d3c63", func := "loop.example/g00909/laws.FnProposals", spec := "fnProposals", unfollowed := true, recurses := true, apart := false, narrowed := true }
def FnProposalsUptoSaid : Prop := fnProposalsUptoRow.holds Try.pinned (OpenSpec.upto fnProposalsSpec)

end Rows
end Go.Proofs.Ytgchbimjgdoifaa
