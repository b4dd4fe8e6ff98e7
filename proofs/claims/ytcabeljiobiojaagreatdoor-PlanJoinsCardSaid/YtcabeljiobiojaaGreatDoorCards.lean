/-
  DERIVED. GIVEN WITH THE SEED: THE CARDS: each row of YtcabeljiobiojaaGreatDoorRows.lean that lists a variable, with what it lists TIED to the program's text (the seventh form; the later family's looks); each row that meets fmt, with fmt's text TOLD by the authors' own Lean function (tested against real Go, not proved from fmt's source: count such statements apart). THE CARD IS WHAT COUNTS. Prove the row's statement (the work); the ties are given (YtcabeljiobiojaaGreatDoorTie.lean); close each card by the builder's one call (the guide's Derived/Test/ToyasCard.lean, 'card_holds'). Laid BY PROGRAM, IN A SANDBOX (cutbox-door.mjs). By AI agents, Wed Nov 11 2026. No macro, syntax, notation, axiom, sorry.
-/
import Derived.Test.YtcabeljiobiojaaGreatDoorRows
import GoSem.ClaimSeven
namespace Go.Proofs.YtcabeljiobiojaaGreatDoor
namespace Rows

/-- THE TIED CARD OF 'tuckmilllaw15.PlanGroups'. -/
def planGroupsCard : Claim7 := { stood := { row := planGroupsRow, standIns := [], harness := (true, "58e7e1407491dedaee3e36563759801be21bd78cba73d4a25611a59138baf691"), looks := true }, kinds := [], alts := [], laidByText := true, laidKinds := [.data, .data, .data, .data, .sentinel, .sentinel, .listed, .data, .data, .data, .pinned, .pinned], laidTests := true, laidLooks := .later }
def PlanGroupsCardSaid : Prop := Claim7.holds Tryz.pinned (.plain (OpenSpec.ofChange planGroupsSpec)) planGroupsCard

/-- THE TIED CARD OF 'tuckmilllaw15.PlanJoins'. -/
def planJoinsCard : Claim7 := { stood := { row := planJoinsRow, standIns := [], harness := (true, "58e7e1407491dedaee3e36563759801be21bd78cba73d4a25611a59138baf691"), looks := true }, kinds := [], alts := [], laidByText := true, laidKinds := [.data, .data, .data, .data, .sentinel, .sentinel, .listed, .data, .data, .data, .pinned, .pinned], laidTests := true, laidLooks := .later }
def PlanJoinsCardSaid : Prop := Claim7.holds Tryz.pinned (.plain (OpenSpec.ofChange planJoinsSpec)) planJoinsCard

/-- THE SECOND FORM's CARD OF 'tuckmilllaw15.PlanGroups'. -/
def planGroupsUptoCard : Claim7 := { stood := { row := planGroupsUptoRow, standIns := [], harness := (true, "58e7e1407491dedaee3e36563759801be21bd78cba73d4a25611a59138baf691"), looks := true }, kinds := [], alts := [], laidByText := true, laidKinds := [.data, .data, .data, .data, .sentinel, .sentinel, .listed, .data, .data, .data, .pinned, .pinned], laidTests := true, laidLooks := .later }
def PlanGroupsUptoCardSaid : Prop := Claim7.holds Tryz.pinned (.plain (OpenSpec.upto planGroupsSpec)) planGroupsUptoCard

/-- THE SECOND FORM's CARD OF 'tuckmilllaw15.PlanJoins'. -/
def planJoinsUptoCard : Claim7 := { stood := { row := planJoinsUptoRow, standIns := [], harness := (true, "58e7e1407491dedaee3e36563759801be21bd78cba73d4a25611a59138baf691"), looks := true }, kinds := [], alts := [], laidByText := true, laidKinds := [.data, .data, .data, .data, .sentinel, .sentinel, .listed, .data, .data, .data, .pinned, .pinned], laidTests := true, laidLooks := .later }
def PlanJoinsUptoCardSaid : Prop := Claim7.holds Tryz.pinned (.plain (OpenSpec.upto planJoinsSpec)) planJoinsUptoCard
end Rows
end Go.Proofs.YtcabeljiobiojaaGreatDoor
