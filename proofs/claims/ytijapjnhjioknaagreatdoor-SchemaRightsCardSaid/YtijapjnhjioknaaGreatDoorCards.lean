/-
  DERIVED. GIVEN WITH THE SEED: THE CARDS: each row of YtijapjnhjioknaaGreatDoorRows.lean that lists a variable, with what it lists TIED to the program's text (the seventh form; the later family's looks); each row that meets fmt, with fmt's text TOLD by the authors' own Lean function (tested against real Go, not proved from fmt's source: count such statements apart). THE CARD IS WHAT COUNTS. Prove the row's statement (the work); the ties are given (YtijapjnhjioknaaGreatDoorTie.lean); close each card by the builder's one call (the guide's Derived/Test/ToyasCard.lean, 'card_holds'). Laid BY PROGRAM, IN A SANDBOX (cutbox-door.mjs). By AI agents, Wed Nov 11 2026. No macro, syntax, notation, axiom, sorry.
-/
import Derived.Test.YtijapjnhjioknaaGreatDoorRows
import GoSem.ClaimSeven
namespace Go.Proofs.YtijapjnhjioknaaGreatDoor
namespace Rows

/-- THE TIED CARD OF 'tuckmilllaw12.SchemaRows'. -/
def schemaRowsCard : Claim7 := { stood := { row := schemaRowsRow, standIns := [], harness := (true, "5d657c926c166ace51cb07784fb90e8eb66a62b426b2a46dc7304d65133c3119"), looks := true }, kinds := [], alts := [], laidByText := true, laidKinds := [.data, .data, .data, .data, .sentinel, .sentinel, .listed, .data, .pinned, .pinned], laidTests := true, laidLooks := .later }
def SchemaRowsCardSaid : Prop := Claim7.holds Tryz.pinned (.plain (OpenSpec.ofChange schemaRowsSpec)) schemaRowsCard

/-- THE TIED CARD OF 'tuckmilllaw12.SchemaRights'. -/
def schemaRightsCard : Claim7 := { stood := { row := schemaRightsRow, standIns := [], harness := (true, "5d657c926c166ace51cb07784fb90e8eb66a62b426b2a46dc7304d65133c3119"), looks := true }, kinds := [], alts := [], laidByText := true, laidKinds := [.data, .data, .data, .data, .sentinel, .sentinel, .listed, .data, .pinned, .pinned], laidTests := true, laidLooks := .later }
def SchemaRightsCardSaid : Prop := Claim7.holds Tryz.pinned (.plain (OpenSpec.ofChange schemaRightsSpec)) schemaRightsCard

/-- THE SECOND FORM's CARD OF 'tuckmilllaw12.SchemaRows'. -/
def schemaRowsUptoCard : Claim7 := { stood := { row := schemaRowsUptoRow, standIns := [], harness := (true, "5d657c926c166ace51cb07784fb90e8eb66a62b426b2a46dc7304d65133c3119"), looks := true }, kinds := [], alts := [], laidByText := true, laidKinds := [.data, .data, .data, .data, .sentinel, .sentinel, .listed, .data, .pinned, .pinned], laidTests := true, laidLooks := .later }
def SchemaRowsUptoCardSaid : Prop := Claim7.holds Tryz.pinned (.plain (OpenSpec.upto schemaRowsSpec)) schemaRowsUptoCard

/-- THE SECOND FORM's CARD OF 'tuckmilllaw12.SchemaRights'. -/
def schemaRightsUptoCard : Claim7 := { stood := { row := schemaRightsUptoRow, standIns := [], harness := (true, "5d657c926c166ace51cb07784fb90e8eb66a62b426b2a46dc7304d65133c3119"), looks := true }, kinds := [], alts := [], laidByText := true, laidKinds := [.data, .data, .data, .data, .sentinel, .sentinel, .listed, .data, .pinned, .pinned], laidTests := true, laidLooks := .later }
def SchemaRightsUptoCardSaid : Prop := Claim7.holds Tryz.pinned (.plain (OpenSpec.upto schemaRightsSpec)) schemaRightsUptoCard
end Rows
end Go.Proofs.YtijapjnhjioknaaGreatDoor
