/-
  DERIVED. GIVEN WITH THE SEED: THE CARDS: each row of YtfncfaamdedmjaaDoorRows.lean that lists a variable, with what it lists TIED to the program's text (the seventh form; the later family's looks); each row that meets fmt, with fmt's text TOLD by the authors' own Lean function (tested against real Go, not proved from fmt's source: count such statements apart). THE CARD IS WHAT COUNTS. Prove the row's statement (the work); the ties are given (YtfncfaamdedmjaaDoorTie.lean); close each card by the builder's one call (the guide's Derived/Test/ToyasCard.lean, 'card_holds'). Laid BY PROGRAM, IN A SANDBOX (cutbox-door.mjs). By AI agents, Wed Nov 11 2026. No macro, syntax, notation, axiom, sorry.
-/
import Derived.Test.YtfncfaamdedmjaaDoorRows
import GoSem.ClaimSeven
namespace Go.Proofs.YtfncfaamdedmjaaDoor
namespace Rows

/-- THE TIED CARD OF 'laws.FnExactAmendmentLine'. -/
def fnExactAmendmentLineCard : Claim7 := { stood := { row := fnExactAmendmentLineRow, standIns := [], harness := (true, "ae9dc34ea298e102cdf19548b71f62caf9db89beafa95ede93b9c822017d6f5a"), looks := false }, kinds := [], alts := [], laidByText := true, laidKinds := [.data, .data, .data, .widerDeep], laidTests := true, laidLooks := .later }
def FnExactAmendmentLineCardSaid : Prop := Claim7.holds Tryd.pinned (.plain (OpenSpec.ofChange fnExactAmendmentLineSpec)) fnExactAmendmentLineCard

/-- THE TIED CARD OF 'laws.FnExactFindSection'. -/
def fnExactFindSectionCard : Claim7 := { stood := { row := fnExactFindSectionRow, standIns := [], harness := (true, "ae9dc34ea298e102cdf19548b71f62caf9db89beafa95ede93b9c822017d6f5a"), looks := false }, kinds := [], alts := [], laidByText := true, laidKinds := [.data, .data, .data], laidTests := true, laidLooks := .later }
def FnExactFindSectionCardSaid : Prop := Claim7.holds Tryd.pinned (.plain (OpenSpec.ofChange fnExactFindSectionSpec)) fnExactFindSectionCard

/-- THE TIED CARD OF 'laws.FnExactDocumentText'. -/
def fnExactDocumentTextCard : Claim7 := { stood := { row := fnExactDocumentTextRow, standIns := [], harness := (true, "ae9dc34ea298e102cdf19548b71f62caf9db89beafa95ede93b9c822017d6f5a"), looks := false }, kinds := [], alts := [], laidByText := true, laidKinds := [.data, .data, .data], laidTests := true, laidLooks := .later }
def FnExactDocumentTextCardSaid : Prop := Claim7.holds Tryd.pinned (.plain (OpenSpec.ofChange fnExactDocumentTextSpec)) fnExactDocumentTextCard

/-- THE SECOND FORM's CARD OF 'laws.FnExactAmendmentLine'. -/
def fnExactAmendmentLineUptoCard : Claim7 := { stood := { row := fnExactAmendmentLineUptoRow, standIns := [], harness := (true, "ae9dc34ea298e102cdf19548b71f62caf9db89beafa95ede93b9c822017d6f5a"), looks := false }, kinds := [], alts := [], laidByText := true, laidKinds := [.data, .data, .data, .widerDeep], laidTests := true, laidLooks := .later }
def FnExactAmendmentLineUptoCardSaid : Prop := Claim7.holds Tryd.pinned (.plain (OpenSpec.upto fnExactAmendmentLineSpec)) fnExactAmendmentLineUptoCard

/-- THE SECOND FORM's CARD OF 'laws.FnExactFindSection'. -/
def fnExactFindSectionUptoCard : Claim7 := { stood := { row := fnExactFindSectionUptoRow, standIns := [], harness := (true, "ae9dc34ea298e102cdf19548b71f62caf9db89beafa95ede93b9c822017d6f5a"), looks := false }, kinds := [], alts := [], laidByText := true, laidKinds := [.data, .data, .data], laidTests := true, laidLooks := .later }
def FnExactFindSectionUptoCardSaid : Prop := Claim7.holds Tryd.pinned (.plain (OpenSpec.upto fnExactFindSectionSpec)) fnExactFindSectionUptoCard

/-- THE SECOND FORM's CARD OF 'laws.FnExactDocumentText'. -/
def fnExactDocumentTextUptoCard : Claim7 := { stood := { row := fnExactDocumentTextUptoRow, standIns := [], harness := (true, "ae9dc34ea298e102cdf19548b71f62caf9db89beafa95ede93b9c822017d6f5a"), looks := false }, kinds := [], alts := [], laidByText := true, laidKinds := [.data, .data, .data], laidTests := true, laidLooks := .later }
def FnExactDocumentTextUptoCardSaid : Prop := Claim7.holds Tryd.pinned (.plain (OpenSpec.upto fnExactDocumentTextSpec)) fnExactDocumentTextUptoCard
end Rows
end Go.Proofs.YtfncfaamdedmjaaDoor
