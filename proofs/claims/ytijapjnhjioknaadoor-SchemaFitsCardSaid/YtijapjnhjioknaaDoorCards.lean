/-
  DERIVED. GIVEN WITH THE SEED: THE CARDS: each row of YtijapjnhjioknaaDoorRows.lean that lists a variable, with what it lists TIED to the program's text (the seventh form; the later family's looks); each row that meets fmt, with fmt's text TOLD by the authors' own Lean function (tested against real Go, not proved from fmt's source: count such statements apart). THE CARD IS WHAT COUNTS. Prove the row's statement (the work); the ties are given (YtijapjnhjioknaaDoorTie.lean); close each card by the builder's one call (the guide's Derived/Test/ToyasCard.lean, 'card_holds'). Laid BY PROGRAM, IN A SANDBOX (cutbox-door.mjs). By AI agents, Wed Nov 11 2026. No macro, syntax, notation, axiom, sorry.
-/
import Derived.Test.YtijapjnhjioknaaDoorRows
import GoSem.ClaimSeven
namespace Go.Proofs.YtijapjnhjioknaaDoor
namespace Rows

/-- THE TIED CARD OF 'tuckmilllaw12.SchemaFits'. -/
def schemaFitsCard : Claim7 := { stood := { row := schemaFitsRow, standIns := [], harness := (true, "ea2930191a323c5564be85eda041600d7e7228bdf5d920b81a42e34c83afc5b6"), looks := true }, kinds := [], alts := [], laidByText := true, laidKinds := [.data, .data, .data, .data, .sentinel, .sentinel, .listed, .data, .pinned, .pinned], laidTests := true, laidLooks := .later }
def SchemaFitsCardSaid : Prop := Claim7.holds Tryd.pinned (.plain (OpenSpec.ofChange schemaFitsSpec)) schemaFitsCard

/-- THE TIED CARD OF 'tuckmilllaw12.SchemaMany'. -/
def schemaManyCard : Claim7 := { stood := { row := schemaManyRow, standIns := [], harness := (true, "ea2930191a323c5564be85eda041600d7e7228bdf5d920b81a42e34c83afc5b6"), looks := true }, kinds := [], alts := [], laidByText := true, laidKinds := [.data, .data, .data, .data, .sentinel, .sentinel, .listed, .data, .pinned, .pinned], laidTests := true, laidLooks := .later }
def SchemaManyCardSaid : Prop := Claim7.holds Tryd.pinned (.plain (OpenSpec.ofChange schemaManySpec)) schemaManyCard

/-- THE TIED CARD OF 'tuckmilllaw12.SchemaRoom'. -/
def schemaRoomCard : Claim7 := { stood := { row := schemaRoomRow, standIns := [], harness := (true, "ea2930191a323c5564be85eda041600d7e7228bdf5d920b81a42e34c83afc5b6"), looks := true }, kinds := [], alts := [], laidByText := true, laidKinds := [.data, .data, .data, .data, .sentinel, .sentinel, .listed, .data, .pinned, .pinned], laidTests := true, laidLooks := .later }
def SchemaRoomCardSaid : Prop := Claim7.holds Tryd.pinned (.plain (OpenSpec.ofChange schemaRoomSpec)) schemaRoomCard

/-- THE TIED CARD OF 'tuckmilllaw12.SchemaNames'. -/
def schemaNamesCard : Claim7 := { stood := { row := schemaNamesRow, standIns := [], harness := (true, "ea2930191a323c5564be85eda041600d7e7228bdf5d920b81a42e34c83afc5b6"), looks := true }, kinds := [], alts := [], laidByText := true, laidKinds := [.data, .data, .data, .data, .sentinel, .sentinel, .listed, .data, .pinned, .pinned], laidTests := true, laidLooks := .later }
def SchemaNamesCardSaid : Prop := Claim7.holds Tryd.pinned (.plain (OpenSpec.ofChange schemaNamesSpec)) schemaNamesCard

/-- THE SECOND FORM's CARD OF 'tuckmilllaw12.SchemaFits'. -/
def schemaFitsUptoCard : Claim7 := { stood := { row := schemaFitsUptoRow, standIns := [], harness := (true, "ea2930191a323c5564be85eda041600d7e7228bdf5d920b81a42e34c83afc5b6"), looks := true }, kinds := [], alts := [], laidByText := true, laidKinds := [.data, .data, .data, .data, .sentinel, .sentinel, .listed, .data, .pinned, .pinned], laidTests := true, laidLooks := .later }
def SchemaFitsUptoCardSaid : Prop := Claim7.holds Tryd.pinned (.plain (OpenSpec.upto schemaFitsSpec)) schemaFitsUptoCard

/-- THE SECOND FORM's CARD OF 'tuckmilllaw12.SchemaMany'. -/
def schemaManyUptoCard : Claim7 := { stood := { row := schemaManyUptoRow, standIns := [], harness := (true, "ea2930191a323c5564be85eda041600d7e7228bdf5d920b81a42e34c83afc5b6"), looks := true }, kinds := [], alts := [], laidByText := true, laidKinds := [.data, .data, .data, .data, .sentinel, .sentinel, .listed, .data, .pinned, .pinned], laidTests := true, laidLooks := .later }
def SchemaManyUptoCardSaid : Prop := Claim7.holds Tryd.pinned (.plain (OpenSpec.upto schemaManySpec)) schemaManyUptoCard

/-- THE SECOND FORM's CARD OF 'tuckmilllaw12.SchemaRoom'. -/
def schemaRoomUptoCard : Claim7 := { stood := { row := schemaRoomUptoRow, standIns := [], harness := (true, "ea2930191a323c5564be85eda041600d7e7228bdf5d920b81a42e34c83afc5b6"), looks := true }, kinds := [], alts := [], laidByText := true, laidKinds := [.data, .data, .data, .data, .sentinel, .sentinel, .listed, .data, .pinned, .pinned], laidTests := true, laidLooks := .later }
def SchemaRoomUptoCardSaid : Prop := Claim7.holds Tryd.pinned (.plain (OpenSpec.upto schemaRoomSpec)) schemaRoomUptoCard

/-- THE SECOND FORM's CARD OF 'tuckmilllaw12.SchemaNames'. -/
def schemaNamesUptoCard : Claim7 := { stood := { row := schemaNamesUptoRow, standIns := [], harness := (true, "ea2930191a323c5564be85eda041600d7e7228bdf5d920b81a42e34c83afc5b6"), looks := true }, kinds := [], alts := [], laidByText := true, laidKinds := [.data, .data, .data, .data, .sentinel, .sentinel, .listed, .data, .pinned, .pinned], laidTests := true, laidLooks := .later }
def SchemaNamesUptoCardSaid : Prop := Claim7.holds Tryd.pinned (.plain (OpenSpec.upto schemaNamesSpec)) schemaNamesUptoCard
end Rows
end Go.Proofs.YtijapjnhjioknaaDoor
