/-
  No cell of these rows narrows 'for every input' (looked for: loops, veiled, ifaces, maps, wideKeys, modest, calm, conditions, laid).
  DERIVED. THE GIVEN ROWS OF THIS SEAT. 10 by the template 'for every input the law returns true; each argument reads behind the call as it read before'; 0 by the template 'total and deterministic' (their statements: YtagpnalhilgcpaaTotals.lean).
  GIVEN WITH THE SEED: the statements are not yours to turn. If you find one false, say at which input.
  Laid BY PROGRAM, IN A SANDBOX (cutbox-rows.mjs): the forced cells as the released guide's own fill.sh prints them over the translation f8005cb38d36ca2e… (all of the seat's roots in one cut). By AI agents, Wed Nov 11 2026. No macro, syntax, notation, axiom, sorry.
-/
import Derived.Test.YtagpnalhilgcpaaChecked
import GoSem.Claim
import GoSem.ClaimJoined
import GoSem.ClaimMapViews
import Derived.JoinedTies
import Derived.KernelRfl
namespace Go.Proofs.Ytagpnalhilgcpaa
/- THE CELL 'sum', in the pinned program and in every row, IS THE sha256 OF THE DUMP (.gsa) THAT YtagpnalhilgcpaaProg.lean LOADS. Nothing in Lean hashes anything: it is a label: what it is worth is what the hold of that sum in a sandbox is worth. -/
noncomputable def Try.pinned : Pinned := { name := "ytagpnalhilgcpaa", sum := "f8005cb38d36ca2e06a7a269ec32862e1b2bc95ab8fbf3dadc9a67d4b98fba1f", checked := Try.checked }
namespace Rows
def none {H : Type} : Left H := { results := [], args := [] }

/-- 'tuckmilllaw08.MemGrows': WHATEVER THE INPUT: true; the input reads as it did. -/
def memGrowsSpec : ChangeSpec := { name := "memGrows", fn := fun _ => fun
  | [d] => { results := [.lit (.bool true)], args := [d] }
  | _ => none }
def memGrowsRow : OpenClaim := { program := "ytagpnalhilgcpaa", sum := "f8005cb38d36ca2e06a7a269ec32862e1b2bc95ab8fbf3dadc9a67d4b98fba1f", func := "tuckmill/tuckmilllaw08.MemGrows", spec := "memGrows", apart := false }
def MemGrowsSaid : Prop := memGrowsRow.holds Try.pinned (OpenSpec.ofChange memGrowsSpec)

/-- ITS FALSE NEIGHBOUR: 'it returns false'. Refute it at one input. -/
def memGrowsWrong : ChangeSpec := { name := "memGrows", fn := fun _ => fun
  | [d] => { results := [.lit (.bool false)], args := [d] }
  | _ => none }
def MemGrowsWrongFalsely : Prop := memGrowsRow.holds Try.pinned (OpenSpec.ofChange memGrowsWrong)

/-- 'tuckmilllaw08.MemApart': WHATEVER THE INPUT: true; the input reads as it did. -/
def memApartSpec : ChangeSpec := { name := "memApart", fn := fun _ => fun
  | [d1, d2, d3, d4] => { results := [.lit (.bool true)], args := [d1, d2, d3, d4] }
  | _ => none }
def memApartRow : OpenClaim := { program := "ytagpnalhilgcpaa", sum := "f8005cb38d36ca2e06a7a269ec32862e1b2bc95ab8fbf3dadc9a67d4b98fba1f", func := "tuckmill/tuckmilllaw08.MemApart", spec := "memApart", apart := false }
def MemApartSaid : Prop := memApartRow.holds Try.pinned (OpenSpec.ofChange memApartSpec)

/-- ITS FALSE NEIGHBOUR: 'it returns false'. Refute it at one input. -/
def memApartWrong : ChangeSpec := { name := "memApart", fn := fun _ => fun
  | [d1, d2, d3, d4] => { results := [.lit (.bool false)], args := [d1, d2, d3, d4] }
  | _ => none }
def MemApartWrongFalsely : Prop := memApartRow.holds Try.pinned (OpenSpec.ofChange memApartWrong)

/-- 'tuckmilllaw08.MemPlays': WHATEVER THE INPUT: true; the input reads as it did. -/
def memPlaysSpec : ChangeSpec := { name := "memPlays", fn := fun _ => fun
  | [d1, d2, d3] => { results := [.lit (.bool true)], args := [d1, d2, d3] }
  | _ => none }
def memPlaysRow : OpenClaim := { program := "ytagpnalhilgcpaa", sum := "f8005cb38d36ca2e06a7a269ec32862e1b2bc95ab8fbf3dadc9a67d4b98fba1f", func := "tuckmill/tuckmilllaw08.MemPlays", spec := "memPlays", apart := false }
def MemPlaysSaid : Prop := memPlaysRow.holds Try.pinned (OpenSpec.ofChange memPlaysSpec)

/-- ITS FALSE NEIGHBOUR: 'it returns false'. Refute it at one input. -/
def memPlaysWrong : ChangeSpec := { name := "memPlays", fn := fun _ => fun
  | [d1, d2, d3] => { results := [.lit (.bool false)], args := [d1, d2, d3] }
  | _ => none }
def MemPlaysWrongFalsely : Prop := memPlaysRow.holds Try.pinned (OpenSpec.ofChange memPlaysWrong)

/-- 'tuckmilllaw08.MemBack': WHATEVER THE INPUT: true; the input reads as it did. -/
def memBackSpec : ChangeSpec := { name := "memBack", fn := fun _ => fun
  | [d1, d2, d3, d4] => { results := [.lit (.bool true)], args := [d1, d2, d3, d4] }
  | _ => none }
def memBackRow : OpenClaim := { program := "ytagpnalhilgcpaa", sum := "f8005cb38d36ca2e06a7a269ec32862e1b2bc95ab8fbf3dadc9a67d4b98fba1f", func := "tuckmill/tuckmilllaw08.MemBack", spec := "memBack", apart := false }
def MemBackSaid : Prop := memBackRow.holds Try.pinned (OpenSpec.ofChange memBackSpec)

/-- ITS FALSE NEIGHBOUR: 'it returns false'. Refute it at one input. -/
def memBackWrong : ChangeSpec := { name := "memBack", fn := fun _ => fun
  | [d1, d2, d3, d4] => { results := [.lit (.bool false)], args := [d1, d2, d3, d4] }
  | _ => none }
def MemBackWrongFalsely : Prop := memBackRow.holds Try.pinned (OpenSpec.ofChange memBackWrong)

/-- 'tuckmilllaw08.MemEnds': WHATEVER THE INPUT: true; the input reads as it did. -/
def memEndsSpec : ChangeSpec := { name := "memEnds", fn := fun _ => fun
  | [d1, d2, d3, d4] => { results := [.lit (.bool true)], args := [d1, d2, d3, d4] }
  | _ => none }
def memEndsRow : OpenClaim := { program := "ytagpnalhilgcpaa", sum := "f8005cb38d36ca2e06a7a269ec32862e1b2bc95ab8fbf3dadc9a67d4b98fba1f", func := "tuckmill/tuckmilllaw08.MemEnds", spec := "memEnds", apart := false }
def MemEndsSaid : Prop := memEndsRow.holds Try.pinned (OpenSpec.ofChange memEndsSpec)

/-- ITS FALSE NEIGHBOUR: 'it returns false'. Refute it at one input. -/
def memEndsWrong : ChangeSpec := { name := "memEnds", fn := fun _ => fun
  | [d1, d2, d3, d4] => { results := [.lit (.bool false)], args := [d1, d2, d3, d4] }
  | _ => none }
def MemEndsWrongFalsely : Prop := memEndsRow.holds Try.pinned (OpenSpec.ofChange memEndsWrong)

/-- 'tuckmilllaw16.PagePuts': WHATEVER THE INPUT: true; the input reads as it did. -/
def pagePutsSpec : ChangeSpec := { name := "pagePuts", fn := fun _ => fun
  | [d1, d2, d3, d4, d5, d6] => { results := [.lit (.bool true)], args := [d1, d2, d3, d4, d5, d6] }
  | _ => none }
def pagePutsRow : OpenClaim := { program := "ytagpnalhilgcpaa", sum := "f8005cb38d36ca2e06a7a269ec32862e1b2bc95ab8fbf3dadc9a67d4b98fba1f", func := "tuckmill/tuckmilllaw16.PagePuts", spec := "pagePuts", inPlace := ["internal/abi.NoEscape"], unfollowed := true, recurses := true, apart := false }
def PagePutsSaid : Prop := pagePutsRow.holds Try.pinned (OpenSpec.ofChange pagePutsSpec)

/-- ITS FALSE NEIGHBOUR: 'it returns false'. Refute it at one input. -/
def pagePutsWrong : ChangeSpec := { name := "pagePuts", fn := fun _ => fun
  | [d1, d2, d3, d4, d5, d6] => { results := [.lit (.bool false)], args := [d1, d2, d3, d4, d5, d6] }
  | _ => none }
def PagePutsWrongFalsely : Prop := pagePutsRow.holds Try.pinned (OpenSpec.ofChange pagePutsWrong)

/-- 'tuckmilllaw16.PageBack': WHATEVER THE INPUT: true; the input reads as it did. -/
def pageBackSpec : ChangeSpec := { name := "pageBack", fn := fun _ => fun
  | [d1, d2] => { results := [.lit (.bool true)], args := [d1, d2] }
  | _ => none }
def pageBackRow : OpenClaim := { program := "ytagpnalhilgcpaa", sum := "f8005cb38d36ca2e06a7a269ec32862e1b2bc95ab8fbf3dadc9a67d4b98fba1f", func := "tuckmill/tuckmilllaw16.PageBack", spec := "pageBack", inPlace := ["internal/abi.NoEscape"], unfollowed := true, recurses := true, apart := false }
def PageBackSaid : Prop := pageBackRow.holds Try.pinned (OpenSpec.ofChange pageBackSpec)

/-- ITS FALSE NEIGHBOUR: 'it returns false'. Refute it at one input. -/
def pageBackWrong : ChangeSpec := { name := "pageBack", fn := fun _ => fun
  | [d1, d2] => { results := [.lit (.bool false)], args := [d1, d2] }
  | _ => none }
def PageBackWrongFalsely : Prop := pageBackRow.holds Try.pinned (OpenSpec.ofChange pageBackWrong)

/-- 'tuckmilllaw16.PageTexts': WHATEVER THE INPUT: true; the input reads as it did. -/
def pageTextsSpec : ChangeSpec := { name := "pageTexts", fn := fun _ => fun
  | [d1, d2, d3, d4] => { results := [.lit (.bool true)], args := [d1, d2, d3, d4] }
  | _ => none }
def pageTextsRow : OpenClaim := { program := "ytagpnalhilgcpaa", sum := "f8005cb38d36ca2e06a7a269ec32862e1b2bc95ab8fbf3dadc9a67d4b98fba1f", func := "tuckmill/tuckmilllaw16.PageTexts", spec := "pageTexts", inPlace := ["internal/abi.NoEscape"], unfollowed := true, recurses := true, apart := false }
def PageTextsSaid : Prop := pageTextsRow.holds Try.pinned (OpenSpec.ofChange pageTextsSpec)

/-- ITS FALSE NEIGHBOUR: 'it returns false'. Refute it at one input. -/
def pageTextsWrong : ChangeSpec := { name := "pageTexts", fn := fun _ => fun
  | [d1, d2, d3, d4] => { results := [.lit (.bool false)], args := [d1, d2, d3, d4] }
  | _ => none }
def PageTextsWrongFalsely : Prop := pageTextsRow.holds Try.pinned (OpenSpec.ofChange pageTextsWrong)

/-- 'tuckmilllaw16.PageSizes': WHATEVER THE INPUT: true; the input reads as it did. -/
def pageSizesSpec : ChangeSpec := { name := "pageSizes", fn := fun _ => fun
  | [d1, d2] => { results := [.lit (.bool true)], args := [d1, d2] }
  | _ => none }
def pageSizesRow : OpenClaim := { program := "ytagpnalhilgcpaa", sum := "f8005cb38d36ca2e06a7a269ec32862e1b2bc95ab8fbf3dadc9a67d4b98fba1f", func := "tuckmill/tuckmilllaw16.PageSizes", spec := "pageSizes", inPlace := ["internal/abi.NoEscape"], unfollowed := true, recurses := true, apart := false }
def PageSizesSaid : Prop := pageSizesRow.holds Try.pinned (OpenSpec.ofChange pageSizesSpec)

/-- ITS FALSE NEIGHBOUR: 'it returns false'. Refute it at one input. -/
def pageSizesWrong : ChangeSpec := { name := "pageSizes", fn := fun _ => fun
  | [d1, d2] => { results := [.lit (.bool false)], args := [d1, d2] }
  | _ => none }
def PageSizesWrongFalsely : Prop := pageSizesRow.holds Try.pinned (OpenSpec.ofChange pageSizesWrong)

/-- 'tuckmilllaw16.PageLists': WHATEVER THE INPUT: true; the input reads as it did. -/
def pageListsSpec : ChangeSpec := { name := "pageLists", fn := fun _ => fun
  | [d1, d2] => { results := [.lit (.bool true)], args := [d1, d2] }
  | _ => none }
def pageListsRow : OpenClaim := { program := "ytagpnalhilgcpaa", sum := "f8005cb38d36ca2e06a7a269ec32862e1b2bc95ab8fbf3dadc9a67d4b98fba1f", func := "tuckmill/tuckmilllaw16.PageLists", spec := "pageLists", inPlace := ["internal/abi.NoEscape"], unfollowed := true, recurses := true, apart := false }
def PageListsSaid : Prop := pageListsRow.holds Try.pinned (OpenSpec.ofChange pageListsSpec)

/-- ITS FALSE NEIGHBOUR: 'it returns false'. Refute it at one input. -/
def pageListsWrong : ChangeSpec := { name := "pageLists", fn := fun _ => fun
  | [d1, d2] => { results := [.lit (.bool false)], args := [d1, d2] }
  | _ => none }
def PageListsWrongFalsely : Prop := pageListsRow.holds Try.pinned (OpenSpec.ofChange pageListsWrong)

/- THE SECOND FORM. 'bulk': how many values and letters a reading holds, each counted each time it is reached (what is shared counts as often as it is met; a slice's spare places count too). A statement '..UptoSaid' is the law's where the arguments, and the package variables that the reading takes, are together of bulk at most 1048576: NARROWER than '..Said'. Prove '..Said' where nothing that the law and all that it calls make is longer than what came in: it says more and counts as full. Else prove '..UptoSaid'. A law counts once. -/
mutual
def uptoBulk {H : Type} : DataW H → Nat
  | .lit (.string bytes) => bytes.length + 1
  | .lit _ => 1
  | .nil => 1
  | .ptr d => uptoBulk d + 1
  | .slice elems spare => uptoBulkAll elems + uptoBulkAll spare + 1
  | .agg parts => uptoBulkAll parts + 1
  | .iface _ d => uptoBulk d + 1
  | .map entries => uptoBulkEntries entries + 1
  | .held _ => 1
def uptoBulkAll {H : Type} : List (DataW H) → Nat
  | [] => 0
  | d :: r => uptoBulk d + uptoBulkAll r
def uptoBulkEntries {H : Type} : List (Lit × DataW H) → Nat
  | [] => 0
  | x :: r => uptoBulkEntry x + uptoBulkEntries r
def uptoBulkEntry {H : Type} : Lit × DataW H → Nat
  | (.string bytes, d) => bytes.length + uptoBulk d + 1
  | (_, d) => uptoBulk d + 1
 end
def uptoSmall : (H : Type) → List (DataW H) → Bool := fun _ ds => decide (uptoBulkAll ds ≤ 1048576)
def OpenSpec.upto (s : _root_.Go.ChangeSpec) : _root_.Go.OpenSpec := { _root_.Go.OpenSpec.ofChange s with cond := some uptoSmall }

/-- 'tuckmilllaw08.MemGrows', WHERE WHAT IT READS IS OF BULK AT MOST 1048576: true; the input reads as it did. -/
def memGrowsUptoRow : OpenClaim := { program := "ytagpnalhilgcpaa", sum := "f8005cb38d36ca2e06a7a269ec32862e1b2bc95ab8fbf3dadc9a67d4b98fba1f", func := "tuckmill/tuckmilllaw08.MemGrows", spec := "memGrows", apart := false, narrowed := true }
def MemGrowsUptoSaid : Prop := memGrowsUptoRow.holds Try.pinned (OpenSpec.upto memGrowsSpec)

/-- 'tuckmilllaw08.MemApart', WHERE WHAT IT READS IS OF BULK AT MOST 1048576: true; the input reads as it did. -/
def memApartUptoRow : OpenClaim := { program := "ytagpnalhilgcpaa", sum := "f8005cb38d36ca2e06a7a269ec32862e1b2bc95ab8fbf3dadc9a67d4b98fba1f", func := "tuckmill/tuckmilllaw08.MemApart", spec := "memApart", apart := false, narrowed := true }
def MemApartUptoSaid : Prop := memApartUptoRow.holds Try.pinned (OpenSpec.upto memApartSpec)

/-- 'tuckmilllaw08.MemPlays', WHERE WHAT IT READS IS OF BULK AT MOST 1048576: true; the input reads as it did. -/
def memPlaysUptoRow : OpenClaim := { program := "ytagpnalhilgcpaa", sum := "f8005cb38d36ca2e06a7a269ec32862e1b2bc95ab8fbf3dadc9a67d4b98fba1f", func := "tuckmill/tuckmilllaw08.MemPlays", spec := "memPlays", apart := false, narrowed := true }
def MemPlaysUptoSaid : Prop := memPlaysUptoRow.holds Try.pinned (OpenSpec.upto memPlaysSpec)

/-- 'tuckmilllaw08.MemBack', WHERE WHAT IT READS IS OF BULK AT MOST 1048576: true; the input reads as it did. -/
def memBackUptoRow : OpenClaim := { program := "ytagpnalhilgcpaa", sum := "f8005cb38d36ca2e06a7a269ec32862e1b2bc95ab8fbf3dadc9a67d4b98fba1f", func := "tuckmill/tuckmilllaw08.MemBack", spec := "memBack", apart := false, narrowed := true }
def MemBackUptoSaid : Prop := memBackUptoRow.holds Try.pinned (OpenSpec.upto memBackSpec)

/-- 'tuckmilllaw08.MemEnds', WHERE WHAT IT READS IS OF BULK AT MOST 1048576: true; the input reads as it did. -/
def memEndsUptoRow : OpenClaim := { program := "ytagpnalhilgcpaa", sum := "f8005cb38d36ca2e06a7a269ec32862e1b2bc95ab8fbf3dadc9a67d4b98fba1f", func := "tuckmill/tuckmilllaw08.MemEnds", spec := "memEnds", apart := false, narrowed := true }
def MemEndsUptoSaid : Prop := memEndsUptoRow.holds Try.pinned (OpenSpec.upto memEndsSpec)

/-- 'tuckmilllaw16.PagePuts', WHERE WHAT IT READS IS OF BULK AT MOST 1048576: true; the input reads as it did. -/
def pagePutsUptoRow : OpenClaim := { program := "ytagpnalhilgcpaa", sum := "f8005cb38d36ca2e06a7a269ec32862e1b2bc95ab8fbf3dadc9a67d4b98fba1f", func := "tuckmill/tuckmilllaw16.PagePuts", spec := "pagePuts", inPlace := ["internal/abi.NoEscape"], unfollowed := true, recurses := true, apart := false, narrowed := true }
def PagePutsUptoSaid : Prop := pagePutsUptoRow.holds Try.pinned (OpenSpec.upto pagePutsSpec)

/-- 'tuckmilllaw16.PageBack', WHERE WHAT IT READS IS OF BULK AT MOST 1048576: true; the input reads as it did. -/
def pageBackUptoRow : OpenClaim := { program := "ytagpnalhilgcpaa", sum := "f8005cb38d36ca2e06a7a269ec32862e1b2bc95ab8fbf3dadc9a67d4b98fba1f", func := "tuckmill/tuckmilllaw16.PageBack", spec := "pageBack", inPlace := ["internal/abi.NoEscape"], unfollowed := true, recurses := true, apart := false, narrowed := true }
def PageBackUptoSaid : Prop := pageBackUptoRow.holds Try.pinned (OpenSpec.upto pageBackSpec)

/-- 'tuckmilllaw16.PageTexts', WHERE WHAT IT READS IS OF BULK AT MOST 1048576: true; the input reads as it did. -/
def pageTextsUptoRow : OpenClaim := { program := "ytagpnalhilgcpaa", sum := "f8005cb38d36ca2e06a7a269ec32862e1b2bc95ab8fbf3dadc9a67d4b98fba1f", func := "tuckmill/tuckmilllaw16.PageTexts", spec := "pageTexts", inPlace := ["internal/abi.NoEscape"], unfollowed := true, recurses := true, apart := false, narrowed := true }
def PageTextsUptoSaid : Prop := pageTextsUptoRow.holds Try.pinned (OpenSpec.upto pageTextsSpec)

/-- 'tuckmilllaw16.PageSizes', WHERE WHAT IT READS IS OF BULK AT MOST 1048576: true; the input reads as it did. -/
def pageSizesUptoRow : OpenClaim := { program := "ytagpnalhilgcpaa", sum := "f8005cb38d36ca2e06a7a269ec32862e1b2bc95ab8fbf3dadc9a67d4b98fba1f", func := "tuckmill/tuckmilllaw16.PageSizes", spec := "pageSizes", inPlace := ["internal/abi.NoEscape"], unfollowed := true, recurses := true, apart := false, narrowed := true }
def PageSizesUptoSaid : Prop := pageSizesUptoRow.holds Try.pinned (OpenSpec.upto pageSizesSpec)

/-- 'tuckmilllaw16.PageLists', WHERE WHAT IT READS IS OF BULK AT MOST 1048576: true; the input reads as it did. -/
def pageListsUptoRow : OpenClaim := { program := "ytagpnalhilgcpaa", sum := "f8005cb38d36ca2e06a7a269ec32862e1b2bc95ab8fbf3dadc9a67d4b98fba1f", func := "tuckmill/tuckmilllaw16.PageLists", spec := "pageLists", inPlace := ["internal/abi.NoEscape"], unfollowed := true, recurses := true, apart := false, narrowed := true }
def PageListsUptoSaid : Prop := pageListsUptoRow.holds Try.pinned (OpenSpec.upto pageListsSpec)

end Rows
end Go.Proofs.Ytagpnalhilgcpaa
