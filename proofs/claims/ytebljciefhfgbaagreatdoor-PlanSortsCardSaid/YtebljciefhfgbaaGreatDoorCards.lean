/-
  DERIVED. GIVEN WITH THE SEED: THE CARDS: each row of YtebljciefhfgbaaGreatDoorRows.lean that lists a variable, with what it lists TIED to the program's text (the seventh form; the later family's looks); each row that meets fmt, with fmt's text TOLD by the authors' own Lean function (tested against real Go, not proved from fmt's source: count such statements apart). THE CARD IS WHAT COUNTS. Prove the row's statement (the work); the ties are given (YtebljciefhfgbaaGreatDoorTie.lean); close each card by the builder's one call (the guide's Derived/Test/ToyasCard.lean, 'card_holds'). Laid BY PROGRAM, IN A SANDBOX (cutbox-door.mjs). By AI agents, Wed Nov 11 2026. No macro, syntax, notation, axiom, sorry.
-/
import Derived.Test.YtebljciefhfgbaaGreatDoorRows
import GoSem.ClaimSeven
namespace Go.Proofs.YtebljciefhfgbaaGreatDoor
namespace Rows

/-- THE TIED CARD OF 'tuckmilllaw15.PlanSorts'. -/
def planSortsCard : Claim7 := { stood := { row := planSortsRow, standIns := [], harness := (true, "2496fd820af98fe91796fc4c633b3dd8caf6a2c70b3f25e21ed5e9d233b69ee0"), looks := true }, kinds := [], alts := [], laidByText := true, laidKinds := [.data, .data, .data, .data, .sentinel, .sentinel, .listed, .data, .data, .data, .pinned, .pinned], laidTests := true, laidLooks := .later }
def PlanSortsCardSaid : Prop := Claim7.holds Tryz.pinned (.plain (OpenSpec.ofChange planSortsSpec)) planSortsCard

/-- THE TIED CARD OF 'tuckmilllaw15.PlanGroups'. -/
def planGroupsCard : Claim7 := { stood := { row := planGroupsRow, standIns := [], harness := (true, "2496fd820af98fe91796fc4c633b3dd8caf6a2c70b3f25e21ed5e9d233b69ee0"), looks := true }, kinds := [], alts := [], laidByText := true, laidKinds := [.data, .data, .data, .data, .sentinel, .sentinel, .listed, .data, .data, .data, .pinned, .pinned], laidTests := true, laidLooks := .later }
def PlanGroupsCardSaid : Prop := Claim7.holds Tryz.pinned (.plain (OpenSpec.ofChange planGroupsSpec)) planGroupsCard

/-- THE SECOND FORM's CARD OF 'tuckmilllaw15.PlanSorts'. -/
def planSortsUptoCard : Claim7 := { stood := { row := planSortsUptoRow, standIns := [], harness := (true, "2496fd820af98fe91796fc4c633b3dd8caf6a2c70b3f25e21ed5e9d233b69ee0"), looks := true }, kinds := [], alts := [], laidByText := true, laidKinds := [.data, .data, .data, .data, .sentinel, .sentinel, .listed, .data, .data, .data, .pinned, .pinned], laidTests := true, laidLooks := .later }
def PlanSortsUptoCardSaid : Prop := Claim7.holds Tryz.pinned (.plain (OpenSpec.upto planSortsSpec)) planSortsUptoCard

/-- THE SECOND FORM's CARD OF 'tuckmilllaw15.PlanGroups'. -/
def planGroupsUptoCard : Claim7 := { stood := { row := planGroupsUptoRow, standIns := [], harness := (true, "2496fd820af98fe91796fc4c633b3dd8caf6a2c70b3f25e21ed5e9d233b69ee0"), looks := true }, kinds := [], alts := [], laidByText := true, laidKinds := [.data, .data, .data, .data, .sentinel, .sentinel, .listed, .data, .data, .data, .pinned, .pinned], laidTests := true, laidLooks := .later }
def PlanGroupsUptoCardSaid : Prop := Claim7.holds Tryz.pinned (.plain (OpenSpec.upto planGroupsSpec)) planGroupsUptoCard
end Rows
end Go.Proofs.YtebljciefhfgbaaGreatDoor
