/-
  No cell of these rows narrows 'for every input' (looked for: loops, veiled, ifaces, maps, wideKeys, modest, calm, conditions, laid).
  DERIVED. THE GIVEN ROWS OF THIS SEAT. 12 by the template 'for every input the law returns true; each argument reads behind the call as it read before'; 0 by the template 'total and deterministic' (their statements: YtcojohcnkafgdaaTotals.lean).
  GIVEN WITH THE SEED: the statements are not yours to turn. If you find one false, say at which input.
  Laid BY PROGRAM, IN A SANDBOX (cutbox-rows.mjs): the forced cells as the released guide's own fill.sh prints them over the translation 6d6d865e1fba3c7c… (all of the seat's roots in one cut). By AI agents, Wed Nov 11 2026. No macro, syntax, notation, axiom, sorry.
-/
import Derived.Test.YtcojohcnkafgdaaChecked
import GoSem.Claim
import GoSem.ClaimJoined
import GoSem.ClaimMapViews
import Derived.JoinedTies
import Derived.KernelRfl
namespace Go.Proofs.Ytcojohcnkafgdaa
/- THE CELL 'sum', in the pinned program and in every row, IS THE sha256 OF THE DUMP (.gsa) THAT YtcojohcnkafgdaaProg.lean LOADS. Nothing in Lean hashes anything: it is a label: what it is worth is what the hold of that sum in a sandbox is worth. -/
noncomputable def Try.pinned : Pinned := { name := "ytcojohcnkafgdaa", sum := "6d6d865e1fba3c7c6c1a7375fbf4b4934c4c966a1eed9c1a92bc26b4144e2d5c", checked := Try.checked }
namespace Rows
def none {H : Type} : Left H := { results := [], args := [] }

/-- 'laws.FnExactIsValidFloor': WHATEVER THE INPUT: true; the input reads as it did. -/
def fnExactIsValidFloorSpec : ChangeSpec := { name := "fnExactIsValidFloor", fn := fun _ => fun
  | [d] => { results := [.lit (.bool true)], args := [d] }
  | _ => none }
def fnExactIsValidFloorRow : OpenClaim := { program := "ytcojohcnkafgdaa", sum := "6d6d865e1fba3c7c6c1a7375fbf4b4934c4c966a1eed9c1a92bc26b4144e2d5c", func := "loop.example/g00909/laws.FnExactIsValidFloor", spec := "fnExactIsValidFloor", unfollowed := true, recurses := true, apart := false }
def FnExactIsValidFloorSaid : Prop := fnExactIsValidFloorRow.holds Try.pinned (OpenSpec.ofChange fnExactIsValidFloorSpec)

/-- ITS FALSE NEIGHBOUR: 'it returns false'. Refute it at one input. -/
def fnExactIsValidFloorWrong : ChangeSpec := { name := "fnExactIsValidFloor", fn := fun _ => fun
  | [d] => { results := [.lit (.bool false)], args := [d] }
  | _ => none }
def FnExactIsValidFloorWrongFalsely : Prop := fnExactIsValidFloorRow.holds Try.pinned (OpenSpec.ofChange fnExactIsValidFloorWrong)

/-- 'laws.FnExactSecondsLeft': WHATEVER THE INPUT: true; the input reads as it did. -/
def fnExactSecondsLeftSpec : ChangeSpec := { name := "fnExactSecondsLeft", fn := fun _ => fun
  | [d1, d2] => { results := [.lit (.bool true)], args := [d1, d2] }
  | _ => none }
def fnExactSecondsLeftRow : OpenClaim := { program := "ytcojohcnkafgdaa", sum := "6d6d865e1fba3c7c6c1a7375fbf4b4934c4c966a1eed9c1a92bc26b4144e2d5c", func := "loop.example/g00909/laws.FnExactSecondsLeft", spec := "fnExactSecondsLeft", unfollowed := true, recurses := true, apart := false }
def FnExactSecondsLeftSaid : Prop := fnExactSecondsLeftRow.holds Try.pinned (OpenSpec.ofChange fnExactSecondsLeftSpec)

/-- ITS FALSE NEIGHBOUR: 'it returns false'. Refute it at one input. -/
def fnExactSecondsLeftWrong : ChangeSpec := { name := "fnExactSecondsLeft", fn := fun _ => fun
  | [d1, d2] => { results := [.lit (.bool false)], args := [d1, d2] }
  | _ => none }
def FnExactSecondsLeftWrongFalsely : Prop := fnExactSecondsLeftRow.holds Try.pinned (OpenSpec.ofChange fnExactSecondsLeftWrong)

/-- 'laws.FnExactNewFloor': WHATEVER THE INPUT: true; the input reads as it did. -/
def fnExactNewFloorSpec : ChangeSpec := { name := "fnExactNewFloor", fn := fun _ => fun
  | [d1, d2] => { results := [.lit (.bool true)], args := [d1, d2] }
  | _ => none }
def fnExactNewFloorRow : OpenClaim := { program := "ytcojohcnkafgdaa", sum := "6d6d865e1fba3c7c6c1a7375fbf4b4934c4c966a1eed9c1a92bc26b4144e2d5c", func := "loop.example/g00909/laws.FnExactNewFloor", spec := "fnExactNewFloor", unfollowed := true, recurses := true, apart := false }
def FnExactNewFloorSaid : Prop := fnExactNewFloorRow.holds Try.pinned (OpenSpec.ofChange fnExactNewFloorSpec)

/-- ITS FALSE NEIGHBOUR: 'it returns false'. Refute it at one input. -/
def fnExactNewFloorWrong : ChangeSpec := { name := "fnExactNewFloor", fn := fun _ => fun
  | [d1, d2] => { results := [.lit (.bool false)], args := [d1, d2] }
  | _ => none }
def FnExactNewFloorWrongFalsely : Prop := fnExactNewFloorRow.holds Try.pinned (OpenSpec.ofChange fnExactNewFloorWrong)

/-- 'laws.FnExactAskFloor': WHATEVER THE INPUT: true; the input reads as it did. -/
def fnExactAskFloorSpec : ChangeSpec := { name := "fnExactAskFloor", fn := fun _ => fun
  | [d1, d2] => { results := [.lit (.bool true)], args := [d1, d2] }
  | _ => none }
def fnExactAskFloorRow : OpenClaim := { program := "ytcojohcnkafgdaa", sum := "6d6d865e1fba3c7c6c1a7375fbf4b4934c4c966a1eed9c1a92bc26b4144e2d5c", func := "loop.example/g00909/laws.FnExactAskFloor", spec := "fnExactAskFloor", unfollowed := true, recurses := true, apart := false }
def FnExactAskFloorSaid : Prop := fnExactAskFloorRow.holds Try.pinned (OpenSpec.ofChange fnExactAskFloorSpec)

/-- ITS FALSE NEIGHBOUR: 'it returns false'. Refute it at one input. -/
def fnExactAskFloorWrong : ChangeSpec := { name := "fnExactAskFloor", fn := fun _ => fun
  | [d1, d2] => { results := [.lit (.bool false)], args := [d1, d2] }
  | _ => none }
def FnExactAskFloorWrongFalsely : Prop := fnExactAskFloorRow.holds Try.pinned (OpenSpec.ofChange fnExactAskFloorWrong)

/-- 'laws.FnExactLeaveWaiting': WHATEVER THE INPUT: true; the input reads as it did. -/
def fnExactLeaveWaitingSpec : ChangeSpec := { name := "fnExactLeaveWaiting", fn := fun _ => fun
  | [d1, d2] => { results := [.lit (.bool true)], args := [d1, d2] }
  | _ => none }
def fnExactLeaveWaitingRow : OpenClaim := { program := "ytcojohcnkafgdaa", sum := "6d6d865e1fba3c7c6c1a7375fbf4b4934c4c966a1eed9c1a92bc26b4144e2d5c", func := "loop.example/g00909/laws.FnExactLeaveWaiting", spec := "fnExactLeaveWaiting", unfollowed := true, recurses := true, apart := false }
def FnExactLeaveWaitingSaid : Prop := fnExactLeaveWaitingRow.holds Try.pinned (OpenSpec.ofChange fnExactLeaveWaitingSpec)

/-- ITS FALSE NEIGHBOUR: 'it returns false'. Refute it at one input. -/
def fnExactLeaveWaitingWrong : ChangeSpec := { name := "fnExactLeaveWaiting", fn := fun _ => fun
  | [d1, d2] => { results := [.lit (.bool false)], args := [d1, d2] }
  | _ => none }
def FnExactLeaveWaitingWrongFalsely : Prop := fnExactLeaveWaitingRow.holds Try.pinned (OpenSpec.ofChange fnExactLeaveWaitingWrong)

/-- 'laws.FnExactYieldFloor': WHATEVER THE INPUT: true; the input reads as it did. -/
def fnExactYieldFloorSpec : ChangeSpec := { name := "fnExactYieldFloor", fn := fun _ => fun
  | [d] => { results := [.lit (.bool true)], args := [d] }
  | _ => none }
def fnExactYieldFloorRow : OpenClaim := { program := "ytcojohcnkafgdaa", sum := "6d6d865e1fba3c7c6c1a7375fbf4b4934c4c966a1eed9c1a92bc26b4144e2d5c", func := "loop.example/g00909/laws.FnExactYieldFloor", spec := "fnExactYieldFloor", inPlace := ["slices.overlaps[loop.example/g00909/impl.Share]"], unfollowed := true, recurses := true, apart := false }
def FnExactYieldFloorSaid : Prop := fnExactYieldFloorRow.holds Try.pinned (OpenSpec.ofChange fnExactYieldFloorSpec)

/-- ITS FALSE NEIGHBOUR: 'it returns false'. Refute it at one input. -/
def fnExactYieldFloorWrong : ChangeSpec := { name := "fnExactYieldFloor", fn := fun _ => fun
  | [d] => { results := [.lit (.bool false)], args := [d] }
  | _ => none }
def FnExactYieldFloorWrongFalsely : Prop := fnExactYieldFloorRow.holds Try.pinned (OpenSpec.ofChange fnExactYieldFloorWrong)

/-- 'laws.FnExactSpeakingOrder': WHATEVER THE INPUT: true; the input reads as it did. -/
def fnExactSpeakingOrderSpec : ChangeSpec := { name := "fnExactSpeakingOrder", fn := fun _ => fun
  | [d] => { results := [.lit (.bool true)], args := [d] }
  | _ => none }
def fnExactSpeakingOrderRow : OpenClaim := { program := "ytcojohcnkafgdaa", sum := "6d6d865e1fba3c7c6c1a7375fbf4b4934c4c966a1eed9c1a92bc26b4144e2d5c", func := "loop.example/g00909/laws.FnExactSpeakingOrder", spec := "fnExactSpeakingOrder", unfollowed := true, recurses := true, apart := false }
def FnExactSpeakingOrderSaid : Prop := fnExactSpeakingOrderRow.holds Try.pinned (OpenSpec.ofChange fnExactSpeakingOrderSpec)

/-- ITS FALSE NEIGHBOUR: 'it returns false'. Refute it at one input. -/
def fnExactSpeakingOrderWrong : ChangeSpec := { name := "fnExactSpeakingOrder", fn := fun _ => fun
  | [d] => { results := [.lit (.bool false)], args := [d] }
  | _ => none }
def FnExactSpeakingOrderWrongFalsely : Prop := fnExactSpeakingOrderRow.holds Try.pinned (OpenSpec.ofChange fnExactSpeakingOrderWrong)

/-- 'laws.FnExactSpeakFor': WHATEVER THE INPUT: true; the input reads as it did. -/
def fnExactSpeakForSpec : ChangeSpec := { name := "fnExactSpeakFor", fn := fun _ => fun
  | [d1, d2] => { results := [.lit (.bool true)], args := [d1, d2] }
  | _ => none }
def fnExactSpeakForRow : OpenClaim := { program := "ytcojohcnkafgdaa", sum := "6d6d865e1fba3c7c6c1a7375fbf4b4934c4c966a1eed9c1a92bc26b4144e2d5c", func := "loop.example/g00909/laws.FnExactSpeakFor", spec := "fnExactSpeakFor", inPlace := ["slices.overlaps[loop.example/g00909/impl.Share]"], unfollowed := true, recurses := true, apart := false }
def FnExactSpeakForSaid : Prop := fnExactSpeakForRow.holds Try.pinned (OpenSpec.ofChange fnExactSpeakForSpec)

/-- ITS FALSE NEIGHBOUR: 'it returns false'. Refute it at one input. -/
def fnExactSpeakForWrong : ChangeSpec := { name := "fnExactSpeakFor", fn := fun _ => fun
  | [d1, d2] => { results := [.lit (.bool false)], args := [d1, d2] }
  | _ => none }
def FnExactSpeakForWrongFalsely : Prop := fnExactSpeakForRow.holds Try.pinned (OpenSpec.ofChange fnExactSpeakForWrong)

/-- 'laws.FnExactNextSpeaker': WHATEVER THE INPUT: true; the input reads as it did. -/
def fnExactNextSpeakerSpec : ChangeSpec := { name := "fnExactNextSpeaker", fn := fun _ => fun
  | [d] => { results := [.lit (.bool true)], args := [d] }
  | _ => none }
def fnExactNextSpeakerRow : OpenClaim := { program := "ytcojohcnkafgdaa", sum := "6d6d865e1fba3c7c6c1a7375fbf4b4934c4c966a1eed9c1a92bc26b4144e2d5c", func := "loop.example/g00909/laws.FnExactNextSpeaker", spec := "fnExactNextSpeaker", unfollowed := true, recurses := true, apart := false }
def FnExactNextSpeakerSaid : Prop := fnExactNextSpeakerRow.holds Try.pinned (OpenSpec.ofChange fnExactNextSpeakerSpec)

/-- ITS FALSE NEIGHBOUR: 'it returns false'. Refute it at one input. -/
def fnExactNextSpeakerWrong : ChangeSpec := { name := "fnExactNextSpeaker", fn := fun _ => fun
  | [d] => { results := [.lit (.bool false)], args := [d] }
  | _ => none }
def FnExactNextSpeakerWrongFalsely : Prop := fnExactNextSpeakerRow.holds Try.pinned (OpenSpec.ofChange fnExactNextSpeakerWrong)

/-- 'laws.FnExactAreVoters': WHATEVER THE INPUT: true; the input reads as it did. -/
def fnExactAreVotersSpec : ChangeSpec := { name := "fnExactAreVoters", fn := fun _ => fun
  | [d] => { results := [.lit (.bool true)], args := [d] }
  | _ => none }
def fnExactAreVotersRow : OpenClaim := { program := "ytcojohcnkafgdaa", sum := "6d6d865e1fba3c7c6c1a7375fbf4b4934c4c966a1eed9c1a92bc26b4144e2d5c", func := "loop.example/g00909/laws.FnExactAreVoters", spec := "fnExactAreVoters", unfollowed := true, recurses := true, apart := false }
def FnExactAreVotersSaid : Prop := fnExactAreVotersRow.holds Try.pinned (OpenSpec.ofChange fnExactAreVotersSpec)

/-- ITS FALSE NEIGHBOUR: 'it returns false'. Refute it at one input. -/
def fnExactAreVotersWrong : ChangeSpec := { name := "fnExactAreVoters", fn := fun _ => fun
  | [d] => { results := [.lit (.bool false)], args := [d] }
  | _ => none }
def FnExactAreVotersWrongFalsely : Prop := fnExactAreVotersRow.holds Try.pinned (OpenSpec.ofChange fnExactAreVotersWrong)

/-- 'laws.FnTurns': WHATEVER THE INPUT: true; the input reads as it did. -/
def fnTurnsSpec : ChangeSpec := { name := "fnTurns", fn := fun _ => fun
  | [d] => { results := [.lit (.bool true)], args := [d] }
  | _ => none }
def fnTurnsRow : OpenClaim := { program := "ytcojohcnkafgdaa", sum := "6d6d865e1fba3c7c6c1a7375fbf4b4934c4c966a1eed9c1a92bc26b4144e2d5c", func := "loop.example/g00909/laws.FnTurns", spec := "fnTurns", inPlace := ["slices.overlaps[loop.example/g00909/impl.Share]"], unfollowed := true, recurses := true, apart := false }
def FnTurnsSaid : Prop := fnTurnsRow.holds Try.pinned (OpenSpec.ofChange fnTurnsSpec)

/-- ITS FALSE NEIGHBOUR: 'it returns false'. Refute it at one input. -/
def fnTurnsWrong : ChangeSpec := { name := "fnTurns", fn := fun _ => fun
  | [d] => { results := [.lit (.bool false)], args := [d] }
  | _ => none }
def FnTurnsWrongFalsely : Prop := fnTurnsRow.holds Try.pinned (OpenSpec.ofChange fnTurnsWrong)

/-- 'laws.FnFloor': WHATEVER THE INPUT: true; the input reads as it did. -/
def fnFloorSpec : ChangeSpec := { name := "fnFloor", fn := fun _ => fun
  | [d] => { results := [.lit (.bool true)], args := [d] }
  | _ => none }
def fnFloorRow : OpenClaim := { program := "ytcojohcnkafgdaa", sum := "6d6d865e1fba3c7c6c1a7375fbf4b4934c4c966a1eed9c1a92bc26b4144e2d5c", func := "loop.example/g00909/laws.FnFloor", spec := "fnFloor", inPlace := ["slices.overlaps[loop.example/g00909/impl.Share]"], unfollowed := true, recurses := true, apart := false }
def FnFloorSaid : Prop := fnFloorRow.holds Try.pinned (OpenSpec.ofChange fnFloorSpec)

/-- ITS FALSE NEIGHBOUR: 'it returns false'. Refute it at one input. -/
def fnFloorWrong : ChangeSpec := { name := "fnFloor", fn := fun _ => fun
  | [d] => { results := [.lit (.bool false)], args := [d] }
  | _ => none }
def FnFloorWrongFalsely : Prop := fnFloorRow.holds Try.pinned (OpenSpec.ofChange fnFloorWrong)

/- THE SECOND FORM. 'bulk': how many values and letters a reading holds, each counted each time it is reached (what is shared counts as often as it is met; a slice's spare places count too). A statement '..UptoSaid' is the law's where the arguments, and the package variables that the reading takes, are together of bulk at most 1048576: NARROWER than '..Said'. Prove '..Said' where nothing that the law and all that it calls make is longer than what came in: it says more and counts as full. Else prove '..UptoSaid'. A law counts once. -/
mutual
def uptoBulk {H : Type} : DataW H → Nat
  | .lit (.string bytes) => bytes.length + 1
  | .lit _ => 1
  | .nil => 1
  | .ptr d => uptoBulk d + 1
  | .slice elems spare => uptoBulkAll elems + uptoBulkAll spare + 1
  | .agg parts => uptoBulkAll parts + 1
  | .iface _ d => uptoBulk d + 1
  | .map entries => uptoBulkEntries entries + 1
  | .held _ => 1
def uptoBulkAll {H : Type} : List (DataW H) → Nat
  | [] => 0
  | d :: r => uptoBulk d + uptoBulkAll r
def uptoBulkEntries {H : Type} : List (Lit × DataW H) → Nat
  | [] => 0
  | x :: r => uptoBulkEntry x + uptoBulkEntries r
def uptoBulkEntry {H : Type} : Lit × DataW H → Nat
  | (.string bytes, d) => bytes.length + uptoBulk d + 1
  | (_, d) => uptoBulk d + 1
 end
def uptoSmall : (H : Type) → List (DataW H) → Bool := fun _ ds => decide (uptoBulkAll ds ≤ 1048576)
def OpenSpec.upto (s : _root_.Go.ChangeSpec) : _root_.Go.OpenSpec := { _root_.Go.OpenSpec.ofChange s with cond := some uptoSmall }

/-- 'laws.FnExactIsValidFloor', WHERE WHAT IT READS IS OF BULK AT MOST 1048576: true; the input reads as it did. -/
def fnExactIsValidFloorUptoRow : OpenClaim := { program := "ytcojohcnkafgdaa", sum := "6d6d865e1fba3c7c6c1a7375fbf4b4934c4c966a1eed9c1a92bc26b4144e2d5c", func := "loop.example/g00909/laws.FnExactIsValidFloor", spec := "fnExactIsValidFloor", unfollowed := true, recurses := true, apart := false, narrowed := true }
def FnExactIsValidFloorUptoSaid : Prop := fnExactIsValidFloorUptoRow.holds Try.pinned (OpenSpec.upto fnExactIsValidFloorSpec)

/-- 'laws.FnExactSecondsLeft', WHERE WHAT IT READS IS OF BULK AT MOST 1048576: true; the input reads as it did. -/
def fnExactSecondsLeftUptoRow : OpenClaim := { program := "ytcojohcnkafgdaa", sum := "6d6d865e1fba3c7c6c1a7375fbf4b4934c4c966a1eed9c1a92bc26b4144e2d5c", func := "loop.example/g00909/laws.FnExactSecondsLeft", spec := "fnExactSecondsLeft", unfollowed := true, recurses := true, apart := false, narrowed := true }
def FnExactSecondsLeftUptoSaid : Prop := fnExactSecondsLeftUptoRow.holds Try.pinned (OpenSpec.upto fnExactSecondsLeftSpec)

/-- 'laws.FnExactNewFloor', WHERE WHAT IT READS IS OF BULK AT MOST 1048576: true; the input reads as it did. -/
def fnExactNewFloorUptoRow : OpenClaim := { program := "ytcojohcnkafgdaa", sum := "6d6d865e1fba3c7c6c1a7375fbf4b4934c4c966a1eed9c1a92bc26b4144e2d5c", func := "loop.example/g00909/laws.FnExactNewFloor", spec := "fnExactNewFloor", unfollowed := true, recurses := true, apart := false, narrowed := true }
def FnExactNewFloorUptoSaid : Prop := fnExactNewFloorUptoRow.holds Try.pinned (OpenSpec.upto fnExactNewFloorSpec)

/-- 'laws.FnExactAskFloor', WHERE WHAT IT READS IS OF BULK AT MOST 1048576: true; the input reads as it did. -/
def fnExactAskFloorUptoRow : OpenClaim := { program := "ytcojohcnkafgdaa", sum := "6d6d865e1fba3c7c6c1a7375fbf4b4934c4c966a1eed9c1a92bc26b4144e2d5c", func := "loop.example/g00909/laws.FnExactAskFloor", spec := "fnExactAskFloor", unfollowed := true, recurses := true, apart := false, narrowed := true }
def FnExactAskFloorUptoSaid : Prop := fnExactAskFloorUptoRow.holds Try.pinned (OpenSpec.upto fnExactAskFloorSpec)

/-- 'laws.FnExactLeaveWaiting', WHERE WHAT IT READS IS OF BULK AT MOST 1048576: true; the input reads as it did. -/
def fnExactLeaveWaitingUptoRow : OpenClaim := { program := "ytcojohcnkafgdaa", sum := "6d6d865e1fba3c7c6c1a7375fbf4b4934c4c966a1eed9c1a92bc26b4144e2d5c", func := "loop.example/g00909/laws.FnExactLeaveWaiting", spec := "fnExactLeaveWaiting", unfollowed := true, recurses := true, apart := false, narrowed := true }
def FnExactLeaveWaitingUptoSaid : Prop := fnExactLeaveWaitingUptoRow.holds Try.pinned (OpenSpec.upto fnExactLeaveWaitingSpec)

/-- 'laws.FnExactYieldFloor', WHERE WHAT IT READS IS OF BULK AT MOST 1048576: true; the input reads as it did. -/
def fnExactYieldFloorUptoRow : OpenClaim := { program := "ytcojohcnkafgdaa", sum := "6d6d865e1fba3c7c6c1a7375fbf4b4934c4c966a1eed9c1a92bc26b4144e2d5c", func := "loop.example/g00909/laws.FnExactYieldFloor", spec := "fnExactYieldFloor", inPlace := ["slices.overlaps[loop.example/g00909/impl.Share]"], unfollowed := true, recurses := true, apart := false, narrowed := true }
def FnExactYieldFloorUptoSaid : Prop := fnExactYieldFloorUptoRow.holds Try.pinned (OpenSpec.upto fnExactYieldFloorSpec)

/-- 'laws.FnExactSpeakingOrder', WHERE WHAT IT READS IS OF BULK AT MOST 1048576: true; the input reads as it did. -/
def fnExactSpeakingOrderUptoRow : OpenClaim := { program := "ytcojohcnkafgdaa", sum := "6d6d865e1fba3c7c6c1a7375fbf4b4934c4c966a1eed9c1a92bc26b4144e2d5c", func := "loop.example/g00909/laws.FnExactSpeakingOrder", spec := "fnExactSpeakingOrder", unfollowed := true, recurses := true, apart := false, narrowed := true }
def FnExactSpeakingOrderUptoSaid : Prop := fnExactSpeakingOrderUptoRow.holds Try.pinned (OpenSpec.upto fnExactSpeakingOrderSpec)

/-- 'laws.FnExactSpeakFor', WHERE WHAT IT READS IS OF BULK AT MOST 1048576: true; the input reads as it did. -/
def fnExactSpeakForUptoRow : OpenClaim := { program := "ytcojohcnkafgdaa", sum := "6d6d865e1fba3c7c6c1a7375fbf4b4934c4c966a1eed9c1a92bc26b4144e2d5c", func := "loop.example/g00909/laws.FnExactSpeakFor", spec := "fnExactSpeakFor", inPlace := ["slices.overlaps[loop.example/g00909/impl.Share]"], unfollowed := true, recurses := true, apart := false, narrowed := true }
def FnExactSpeakForUptoSaid : Prop := fnExactSpeakForUptoRow.holds Try.pinned (OpenSpec.upto fnExactSpeakForSpec)

/-- 'laws.FnExactNextSpeaker', WHERE WHAT IT READS IS OF BULK AT MOST 1048576: true; the input reads as it did. -/
def fnExactNextSpeakerUptoRow : OpenClaim := { program := "ytcojohcnkafgdaa", sum := "6d6d865e1fba3c7c6c1a7375fbf4b4934c4c966a1eed9c1a92bc26b4144e2d5c", func := "loop.example/g00909/laws.FnExactNextSpeaker", spec := "fnExactNextSpeaker", unfollowed := true, recurses := true, apart := false, narrowed := true }
def FnExactNextSpeakerUptoSaid : Prop := fnExactNextSpeakerUptoRow.holds Try.pinned (OpenSpec.upto fnExactNextSpeakerSpec)

/-- 'laws.FnExactAreVoters', WHERE WHAT IT READS IS OF BULK AT MOST 1048576: true; the input reads as it did. -/
def fnExactAreVotersUptoRow : OpenClaim := { program := "ytcojohcnkafgdaa", sum := "6d6d865e1fba3c7c6c1a7375fbf4b4934c4c966a1eed9c1a92bc26b4144e2d5c", func := "loop.example/g00909/laws.FnExactAreVoters", spec := "fnExactAreVoters", unfollowed := true, recurses := true, apart := false, narrowed := true }
def FnExactAreVotersUptoSaid : Prop := fnExactAreVotersUptoRow.holds Try.pinned (OpenSpec.upto fnExactAreVotersSpec)

/-- 'laws.FnTurns', WHERE WHAT IT READS IS OF BULK AT MOST 1048576: true; the input reads as it did. -/
def fnTurnsUptoRow : OpenClaim := { program := "ytcojohcnkafgdaa", sum := "6d6d865e1fba3c7c6c1a7375fbf4b4934c4c966a1eed9c1a92bc26b4144e2d5c", func := "loop.example/g00909/laws.FnTurns", spec := "fnTurns", inPlace := ["slices.overlaps[loop.example/g00909/impl.Share]"], unfollowed := true, recurses := true, apart := false, narrowed := true }
def FnTurnsUptoSaid : Prop := fnTurnsUptoRow.holds Try.pinned (OpenSpec.upto fnTurnsSpec)

/-- 'laws.FnFloor', WHERE WHAT IT READS IS OF BULK AT MOST 1048576: true; the input reads as it did. -/
def fnFloorUptoRow : OpenClaim := { program := "ytcojohcnkafgdaa", sum := "6d6d865e1fba3c7c6c1a7375fbf4b4934c4c966a1eed9c1a92bc26b4144e2d5c", func := "loop.example/g00909/laws.FnFloor", spec := "fnFloor", inPlace := ["slices.overlaps[loop.example/g00909/impl.Share]"], unfollowed := true, recurses := true, apart := false, narrowed := true }
def FnFloorUptoSaid : Prop := fnFloorUptoRow.holds Try.pinned (OpenSpec.upto fnFloorSpec)

end Rows
end Go.Proofs.Ytcojohcnkafgdaa
