/-
  DERIVED. GIVEN WITH THE SEED: THE CARDS: each row of YtgdpaieechgahaaGreatDoorRows.lean that lists a variable, with what it lists TIED to the program's text (the seventh form; the later family's looks); each row that meets fmt, with fmt's text TOLD by the authors' own Lean function (tested against real Go, not proved from fmt's source: count such statements apart). THE CARD IS WHAT COUNTS. Prove the row's statement (the work); the ties are given (YtgdpaieechgahaaGreatDoorTie.lean); close each card by the builder's one call (the guide's Derived/Test/ToyasCard.lean, 'card_holds'). Laid BY PROGRAM, IN A SANDBOX (cutbox-door.mjs). By AI agents, Wed Nov 11 2026. No macro, syntax, notation, axiom, sorry.
-/
import Derived.Test.YtgdpaieechgahaaGreatDoorRows
import GoSem.ClaimSeven
namespace Go.Proofs.YtgdpaieechgahaaGreatDoor
namespace Rows

/-- THE TIED CARD OF 'tuckmilllaw14.CheckFits'. -/
def checkFitsCard : Claim7 := { stood := { row := checkFitsRow, standIns := [], harness := (true, "0a658c2def7c1874b78e360f31afa4a7231554380d74472bdb8760842ec86581"), looks := true }, kinds := [], alts := [], laidByText := true, laidKinds := [.data, .data, .data, .data, .sentinel, .sentinel, .listed, .data, .data, .data, .pinned, .pinned], laidTests := true, laidLooks := .later }
def CheckFitsCardSaid : Prop := Claim7.holds Tryz.pinned (.plain (OpenSpec.ofChange checkFitsSpec)) checkFitsCard

/-- THE TIED CARD OF 'tuckmilllaw14.CheckNames'. -/
def checkNamesCard : Claim7 := { stood := { row := checkNamesRow, standIns := [], harness := (true, "0a658c2def7c1874b78e360f31afa4a7231554380d74472bdb8760842ec86581"), looks := true }, kinds := [], alts := [], laidByText := true, laidKinds := [.data, .data, .data, .data, .sentinel, .sentinel, .listed, .data, .data, .data, .pinned, .pinned], laidTests := true, laidLooks := .later }
def CheckNamesCardSaid : Prop := Claim7.holds Tryz.pinned (.plain (OpenSpec.ofChange checkNamesSpec)) checkNamesCard

/-- THE TIED CARD OF 'tuckmilllaw14.CheckGroups'. -/
def checkGroupsCard : Claim7 := { stood := { row := checkGroupsRow, standIns := [], harness := (true, "0a658c2def7c1874b78e360f31afa4a7231554380d74472bdb8760842ec86581"), looks := true }, kinds := [], alts := [], laidByText := true, laidKinds := [.data, .data, .data, .data, .sentinel, .sentinel, .listed, .data, .data, .data, .pinned, .pinned], laidTests := true, laidLooks := .later }
def CheckGroupsCardSaid : Prop := Claim7.holds Tryz.pinned (.plain (OpenSpec.ofChange checkGroupsSpec)) checkGroupsCard

/-- THE TIED CARD OF 'tuckmilllaw14.CheckNumbers'. -/
def checkNumbersCard : Claim7 := { stood := { row := checkNumbersRow, standIns := [], harness := (true, "0a658c2def7c1874b78e360f31afa4a7231554380d74472bdb8760842ec86581"), looks := true }, kinds := [], alts := [], laidByText := true, laidKinds := [.data, .data, .data, .data, .sentinel, .sentinel, .listed, .data, .data, .data, .pinned, .pinned], laidTests := true, laidLooks := .later }
def CheckNumbersCardSaid : Prop := Claim7.holds Tryz.pinned (.plain (OpenSpec.ofChange checkNumbersSpec)) checkNumbersCard

/-- THE SECOND FORM's CARD OF 'tuckmilllaw14.CheckFits'. -/
def checkFitsUptoCard : Claim7 := { stood := { row := checkFitsUptoRow, standIns := [], harness := (true, "0a658c2def7c1874b78e360f31afa4a7231554380d74472bdb8760842ec86581"), looks := true }, kinds := [], alts := [], laidByText := true, laidKinds := [.data, .data, .data, .data, .sentinel, .sentinel, .listed, .data, .data, .data, .pinned, .pinned], laidTests := true, laidLooks := .later }
def CheckFitsUptoCardSaid : Prop := Claim7.holds Tryz.pinned (.plain (OpenSpec.upto checkFitsSpec)) checkFitsUptoCard

/-- THE SECOND FORM's CARD OF 'tuckmilllaw14.CheckNames'. -/
def checkNamesUptoCard : Claim7 := { stood := { row := checkNamesUptoRow, standIns := [], harness := (true, "0a658c2def7c1874b78e360f31afa4a7231554380d74472bdb8760842ec86581"), looks := true }, kinds := [], alts := [], laidByText := true, laidKinds := [.data, .data, .data, .data, .sentinel, .sentinel, .listed, .data, .data, .data, .pinned, .pinned], laidTests := true, laidLooks := .later }
def CheckNamesUptoCardSaid : Prop := Claim7.holds Tryz.pinned (.plain (OpenSpec.upto checkNamesSpec)) checkNamesUptoCard

/-- THE SECOND FORM's CARD OF 'tuckmilllaw14.CheckGroups'. -/
def checkGroupsUptoCard : Claim7 := { stood := { row := checkGroupsUptoRow, standIns := [], harness := (true, "0a658c2def7c1874b78e360f31afa4a7231554380d74472bdb8760842ec86581"), looks := true }, kinds := [], alts := [], laidByText := true, laidKinds := [.data, .data, .data, .data, .sentinel, .sentinel, .listed, .data, .data, .data, .pinned, .pinned], laidTests := true, laidLooks := .later }
def CheckGroupsUptoCardSaid : Prop := Claim7.holds Tryz.pinned (.plain (OpenSpec.upto checkGroupsSpec)) checkGroupsUptoCard

/-- THE SECOND FORM's CARD OF 'tuckmilllaw14.CheckNumbers'. -/
def checkNumbersUptoCard : Claim7 := { stood := { row := checkNumbersUptoRow, standIns := [], harness := (true, "0a658c2def7c1874b78e360f31afa4a7231554380d74472bdb8760842ec86581"), looks := true }, kinds := [], alts := [], laidByText := true, laidKinds := [.data, .data, .data, .data, .sentinel, .sentinel, .listed, .data, .data, .data, .pinned, .pinned], laidTests := true, laidLooks := .later }
def CheckNumbersUptoCardSaid : Prop := Claim7.holds Tryz.pinned (.plain (OpenSpec.upto checkNumbersSpec)) checkNumbersUptoCard
end Rows
end Go.Proofs.YtgdpaieechgahaaGreatDoor
