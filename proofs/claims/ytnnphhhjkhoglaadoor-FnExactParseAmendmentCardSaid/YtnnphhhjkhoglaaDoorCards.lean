/-
  DERIVED. GIVEN WITH THE SEED: THE CARDS: each row of YtnnphhhjkhoglaaDoorRows.lean that lists a variable, with what it lists TIED to the program's text (the seventh form; the later family's looks); each row that meets fmt, with fmt's text TOLD by the authors' own Lean function (tested against real Go, not proved from fmt's source: count such statements apart). THE CARD IS WHAT COUNTS. Prove the row's statement (the work); the ties are given (YtnnphhhjkhoglaaDoorTie.lean); close each card by the builder's one call (the guide's Derived/Test/ToyasCard.lean, 'card_holds'). Laid BY PROGRAM, IN A SANDBOX (cutbox-door.mjs). By AI agents, Wed Nov 11 2026. No macro, syntax, notation, axiom, sorry.
-/
import Derived.Test.YtnnphhhjkhoglaaDoorRows
import GoSem.ClaimSeven
namespace Go.Proofs.YtnnphhhjkhoglaaDoor
namespace Rows

/-- THE TIED CARD OF 'laws.FnExactParseAmendment'. -/
def fnExactParseAmendmentCard : Claim7 := { stood := { row := fnExactParseAmendmentRow, standIns := [], harness := (true, "02e64e6b0c14815c9a97293a9aaa6c261c787d9857a6535a3f859b10bb0020ca"), looks := true }, kinds := [], alts := [], laidByText := true, laidKinds := [.data, .data, .data, .data, .sentinel, .sentinel, .widerDeep, .pinned], laidTests := true, laidLooks := .later }
def FnExactParseAmendmentCardSaid : Prop := Claim7.holds Tryd.pinned (.plain (OpenSpec.ofChange fnExactParseAmendmentSpec)) fnExactParseAmendmentCard

/-- THE SECOND FORM's CARD OF 'laws.FnExactParseAmendment'. -/
def fnExactParseAmendmentUptoCard : Claim7 := { stood := { row := fnExactParseAmendmentUptoRow, standIns := [], harness := (true, "02e64e6b0c14815c9a97293a9aaa6c261c787d9857a6535a3f859b10bb0020ca"), looks := true }, kinds := [], alts := [], laidByText := true, laidKinds := [.data, .data, .data, .data, .sentinel, .sentinel, .widerDeep, .pinned], laidTests := true, laidLooks := .later }
def FnExactParseAmendmentUptoCardSaid : Prop := Claim7.holds Tryd.pinned (.plain (OpenSpec.upto fnExactParseAmendmentSpec)) fnExactParseAmendmentUptoCard
end Rows
end Go.Proofs.YtnnphhhjkhoglaaDoor
