/-
  DERIVED. GIVEN WITH THE SEED: THE CARDS: each row of YtjjjahfmgooobaaDoorRows.lean that lists a variable, with what it lists TIED to the program's text (the seventh form; the later family's looks); each row that meets fmt, with fmt's text TOLD by the authors' own Lean function (tested against real Go, not proved from fmt's source: count such statements apart). THE CARD IS WHAT COUNTS. Prove the row's statement (the work); the ties are given (YtjjjahfmgooobaaDoorTie.lean); close each card by the builder's one call (the guide's Derived/Test/ToyasCard.lean, 'card_holds'). Laid BY PROGRAM, IN A SANDBOX (cutbox-door.mjs). By AI agents, Wed Nov 11 2026. No macro, syntax, notation, axiom, sorry.
-/
import Derived.Test.YtjjjahfmgooobaaDoorRows
import GoSem.ClaimSeven
namespace Go.Proofs.YtjjjahfmgooobaaDoor
namespace Rows

/-- THE TIED CARD OF 'laws.FnExactTallyText'. -/
def fnExactTallyTextCard : Claim7 := { stood := { row := fnExactTallyTextRow, standIns := [], harness := (true, "45ab30743cbf21f6d8726d1bae7e174741be59cf77d97c774ea708f41b66e706"), looks := false }, kinds := [], alts := [], laidByText := true, laidKinds := [.data, .data, .data], laidTests := true, laidLooks := .later }
def FnExactTallyTextCardSaid : Prop := Claim7.holds Tryd.pinned (.plain (OpenSpec.ofChange fnExactTallyTextSpec)) fnExactTallyTextCard

/-- THE SECOND FORM's CARD OF 'laws.FnExactTallyText'. -/
def fnExactTallyTextUptoCard : Claim7 := { stood := { row := fnExactTallyTextUptoRow, standIns := [], harness := (true, "45ab30743cbf21f6d8726d1bae7e174741be59cf77d97c774ea708f41b66e706"), looks := false }, kinds := [], alts := [], laidByText := true, laidKinds := [.data, .data, .data], laidTests := true, laidLooks := .later }
def FnExactTallyTextUptoCardSaid : Prop := Claim7.holds Tryd.pinned (.plain (OpenSpec.upto fnExactTallyTextSpec)) fnExactTallyTextUptoCard
end Rows
end Go.Proofs.YtjjjahfmgooobaaDoor
