/-
  DERIVED. GIVEN WITH THE SEED: THE CARDS: each row of YtajfbiihlfccnaaDoorRows.lean that lists a variable, with what it lists TIED to the program's text (the seventh form; the later family's looks); each row that meets fmt, with fmt's text TOLD by the authors' own Lean function (tested against real Go, not proved from fmt's source: count such statements apart). THE CARD IS WHAT COUNTS. Prove the row's statement (the work); the ties are given (YtajfbiihlfccnaaDoorTie.lean); close each card by the builder's one call (the guide's Derived/Test/ToyasCard.lean, 'card_holds'). Laid BY PROGRAM, IN A SANDBOX (cutbox-door.mjs). By AI agents, Wed Nov 11 2026. No macro, syntax, notation, axiom, sorry.
-/
import Derived.Test.YtajfbiihlfccnaaDoorRows
import GoSem.ClaimSeven
namespace Go.Proofs.YtajfbiihlfccnaaDoor
namespace Rows

/-- THE TIED CARD OF 'laws.FnExactParseTally'. -/
def fnExactParseTallyCard : Claim7 := { stood := { row := fnExactParseTallyRow, standIns := [], harness := (true, "0322d7b3388ad8ef048842deee82686b958fabdc424efe812c6e4f724bc19ff6"), looks := true }, kinds := [], alts := [], laidByText := true, laidKinds := [.data, .data, .data, .data, .sentinel, .sentinel, .pinned], laidTests := true, laidLooks := .later }
def FnExactParseTallyCardSaid : Prop := Claim7.holds Tryd.pinned (.plain (OpenSpec.ofChange fnExactParseTallySpec)) fnExactParseTallyCard

/-- THE TIED CARD OF 'laws.FnTallies'. -/
def fnTalliesCard : Claim7 := { stood := { row := fnTalliesRow, standIns := [], harness := (true, "0322d7b3388ad8ef048842deee82686b958fabdc424efe812c6e4f724bc19ff6"), looks := true }, kinds := [], alts := [], laidByText := true, laidKinds := [.data, .data, .data, .data, .sentinel, .sentinel, .pinned], laidTests := true, laidLooks := .later }
def FnTalliesCardSaid : Prop := Claim7.holds Tryd.pinned (.plain (OpenSpec.ofChange fnTalliesSpec)) fnTalliesCard

/-- THE TIED CARD OF 'laws.FnExactParseDocument'. -/
def fnExactParseDocumentCard : Claim7 := { stood := { row := fnExactParseDocumentRow, standIns := [], harness := (true, "0322d7b3388ad8ef048842deee82686b958fabdc424efe812c6e4f724bc19ff6"), looks := true }, kinds := [], alts := [], laidByText := true, laidKinds := [.data, .data, .data, .data, .pinned], laidTests := true, laidLooks := .later }
def FnExactParseDocumentCardSaid : Prop := Claim7.holds Tryd.pinned (.plain (OpenSpec.ofChange fnExactParseDocumentSpec)) fnExactParseDocumentCard

/-- THE TIED CARD OF 'laws.FnDocuments'. -/
def fnDocumentsCard : Claim7 := { stood := { row := fnDocumentsRow, standIns := [], harness := (true, "0322d7b3388ad8ef048842deee82686b958fabdc424efe812c6e4f724bc19ff6"), looks := true }, kinds := [], alts := [], laidByText := true, laidKinds := [.data, .data, .data, .data, .pinned], laidTests := true, laidLooks := .later }
def FnDocumentsCardSaid : Prop := Claim7.holds Tryd.pinned (.plain (OpenSpec.ofChange fnDocumentsSpec)) fnDocumentsCard

/-- THE SECOND FORM's CARD OF 'laws.FnExactParseTally'. -/
def fnExactParseTallyUptoCard : Claim7 := { stood := { row := fnExactParseTallyUptoRow, standIns := [], harness := (true, "0322d7b3388ad8ef048842deee82686b958fabdc424efe812c6e4f724bc19ff6"), looks := true }, kinds := [], alts := [], laidByText := true, laidKinds := [.data, .data, .data, .data, .sentinel, .sentinel, .pinned], laidTests := true, laidLooks := .later }
def FnExactParseTallyUptoCardSaid : Prop := Claim7.holds Tryd.pinned (.plain (OpenSpec.upto fnExactParseTallySpec)) fnExactParseTallyUptoCard

/-- THE SECOND FORM's CARD OF 'laws.FnTallies'. -/
def fnTalliesUptoCard : Claim7 := { stood := { row := fnTalliesUptoRow, standIns := [], harness := (true, "0322d7b3388ad8ef048842deee82686b958fabdc424efe812c6e4f724bc19ff6"), looks := true }, kinds := [], alts := [], laidByText := true, laidKinds := [.data, .data, .data, .data, .sentinel, .sentinel, .pinned], laidTests := true, laidLooks := .later }
def FnTalliesUptoCardSaid : Prop := Claim7.holds Tryd.pinned (.plain (OpenSpec.upto fnTalliesSpec)) fnTalliesUptoCard

/-- THE SECOND FORM's CARD OF 'laws.FnExactParseDocument'. -/
def fnExactParseDocumentUptoCard : Claim7 := { stood := { row := fnExactParseDocumentUptoRow, standIns := [], harness := (true, "0322d7b3388ad8ef048842deee82686b958fabdc424efe812c6e4f724bc19ff6"), looks := true }, kinds := [], alts := [], laidByText := true, laidKinds := [.data, .data, .data, .data, .pinned], laidTests := true, laidLooks := .later }
def FnExactParseDocumentUptoCardSaid : Prop := Claim7.holds Tryd.pinned (.plain (OpenSpec.upto fnExactParseDocumentSpec)) fnExactParseDocumentUptoCard

/-- THE SECOND FORM's CARD OF 'laws.FnDocuments'. -/
def fnDocumentsUptoCard : Claim7 := { stood := { row := fnDocumentsUptoRow, standIns := [], harness := (true, "0322d7b3388ad8ef048842deee82686b958fabdc424efe812c6e4f724bc19ff6"), looks := true }, kinds := [], alts := [], laidByText := true, laidKinds := [.data, .data, .data, .data, .pinned], laidTests := true, laidLooks := .later }
def FnDocumentsUptoCardSaid : Prop := Claim7.holds Tryd.pinned (.plain (OpenSpec.upto fnDocumentsSpec)) fnDocumentsUptoCard
end Rows
end Go.Proofs.YtajfbiihlfccnaaDoor
