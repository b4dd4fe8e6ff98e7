/-
  What the rows of this seat list of Go's own variables, read as the walks ask it. No condition.
-/
import Derived.Test.YtpokbepenacnpaaGreatDoorMLs
import Derived.Test.YtpokbepenacnpaaGreatDoorLaw
import Derived.Test.YtpokbepenacnpaaGreatDoorCards
import Derived.Test.YtpokbepenacnpaaGreatDoorTie
import Derived.LaidMore
import Derived.Lay
import Derived.SevenTiedAt
import Derived.Stop.Joined
import Derived.Stop.LaidErr
import Derived.Test.YtpokbepenacnpaaGreatDoorMPu
namespace Go.Proofs.YtpokbepenacnpaaGreatDoor
open Go.ChangeShapes Go.WideShapes Go.ChangeAt Go.RowKit
set_option linter.unusedVariables false

noncomputable abbrev laidL : List (String × DataW Unit) := Rows.parseReadsRow.laid

theorem space_data : (Rows.laid_strings_asciiSpace : DataW Unit) = Lib.tabData .u8 Lib.asciiSpaceTab := by kernel_rfl

theorem star_err : "*" ++ "errors.errorString" = "*errors.errorString" := by decide
theorem type_err (u : TypeId) (h : Tryz.prog.typeName? 3 u = some "*errors.errorString") : u = 320 :=
  typeName_ptr_named (nm := "errors.errorString") (by rw [star_err]; kernel_rfl) (by kernel_rfl) (by decide) u (by rw [star_err]; exact h)

/-- The witness: the world in which these variables are laid. -/
theorem wit_laid (os : Os) (args : Array Value) : laidMetH Tryz.prog laidL ((World.laidAll Tryz.prog os laidL).forCall (fun _ _ => 0) ⟨#[], args, []⟩).memory := by
  rw [MakeChecks.laidMetH_plain _ _ _ (by kernel_rfl)]
  exact laidMet_laidAll _ (by kernel_rfl) (by kernel_rfl)

theorem wit_shape (os : Os) (args : Array Value) : ((World.laidAll Tryz.prog os laidL).forCall (fun _ _ => 0) ⟨#[], args, []⟩).Shaped Tryz.prog :=
  World.shaped_of_ZipB (by kernel_rfl) (by kernel_rfl)

theorem tabs_of {W : World} (hL : laidMetH Tryz.prog laidL W) : Tabs W := by
  rw [MakeChecks.laidMetH_plain _ _ _ (by kernel_rfl)] at hL
  have h4 := hL.tail.tail.tail.tail
  have h7 := h4.tail.tail.tail
  refine ⟨Lib.tabIs_of_head (rest := _) (g := 1) (t := 145) (e := 5) (n := 256) (by kernel_rfl) (by kernel_rfl) Tryz.underlying145 Tryz.underlying5 (by kernel_rfl) (by kernel_rfl) (by rw [← space_data]; exact h7), ?_⟩
  obtain ⟨a, s, hv, -⟩ := laid_sentinel (g := 12) (ti := 179) (tp := 320) (te := 322) (ts := 9) h4 (by kernel_rfl) (by kernel_rfl) Tryz.underlying179 type_err Tryz.underlying320 Tryz.underlying322 rfl rfl Tryz.underlying9 (by kernel_rfl) (by kernel_rfl)
  have hc := World.var?_cell (show Tryz.prog.globalNamed _ = some 12 by kernel_rfl) hv 0
  exact ⟨_, hc, .inr ⟨_, _, rfl⟩⟩
end Go.Proofs.YtpokbepenacnpaaGreatDoor

namespace Go.Proofs.YtpokbepenacnpaaGreatDoor
open Go.ChangeShapes Go.WideShapes Go.ChangeAt Go.RowKit
set_option linter.unusedVariables false

theorem pow_data : (Rows.laid_internal_strconv_uint64pow10 : DataW Unit) = Lib.tabData .u64 Lib.pow10Tab := by kernel_rfl
theorem tabs2_of {W : World} (hL : laidMetH Tryz.prog laidL W) : Tabs2 W := by
  refine ⟨tabs_of hL, ?_⟩
  rw [MakeChecks.laidMetH_plain _ _ _ (by kernel_rfl)] at hL
  have h2 := hL.tail.tail
  exact Lib.tabIs_of_head (rest := _) (g := 2) (t := 256) (e := 212) (n := 20) (by kernel_rfl) (by kernel_rfl) Tryz.underlying256 Tryz.underlying212 (by kernel_rfl) (by kernel_rfl) (by rw [← pow_data]; exact h2)
end Go.Proofs.YtpokbepenacnpaaGreatDoor
