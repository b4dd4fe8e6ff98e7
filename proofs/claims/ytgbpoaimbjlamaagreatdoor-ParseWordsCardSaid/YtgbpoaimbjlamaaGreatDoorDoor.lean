/-
  What the rows of this seat list of Go's own variables, read as the walks ask it. No condition.
-/
import Derived.Test.YtgbpoaimbjlamaaGreatDoorLxS
import Derived.Test.YtgbpoaimbjlamaaGreatDoorLaw
import Derived.Test.YtgbpoaimbjlamaaGreatDoorCards
import Derived.Test.YtgbpoaimbjlamaaGreatDoorTie
import Derived.LaidMore
import Derived.Lay
import Derived.SevenTiedAt
import Derived.Stop.Joined
import Derived.Stop.LaidErr
namespace Go.Proofs.YtgbpoaimbjlamaaGreatDoor
open Go.ChangeShapes Go.WideShapes Go.ChangeAt Go.RowKit
set_option linter.unusedVariables false

noncomputable abbrev laidL : List (String × DataW Unit) := Rows.parseClausesRow.laid

theorem space_data : (Rows.laid_strings_asciiSpace : DataW Unit) = Lib.tabData .u8 Lib.asciiSpaceTab := by kernel_rfl

theorem star_err : "*" ++ "errors.errorString" = "*errors.errorString" := by decide
theorem type_err (u : TypeId) (h : Tryz.prog.typeName? 3 u = some "*errors.errorString") : u = 194 :=
  typeName_ptr_named (nm := "errors.errorString") (by rw [star_err]; kernel_rfl) (by kernel_rfl) (by decide) u (by rw [star_err]; exact h)

/-- The witness: the world in which these variables are laid. -/
theorem wit_laid (os : Os) (args : Array Value) : laidMetH Tryz.prog laidL ((World.laidAll Tryz.prog os laidL).forCall (fun _ _ => 0) ⟨#[], args, []⟩).memory := by
  rw [MakeChecks.laidMetH_plain _ _ _ (by kernel_rfl)]
  exact laidMet_laidAll _ (by kernel_rfl) (by kernel_rfl)

theorem wit_shape (os : Os) (args : Array Value) : ((World.laidAll Tryz.prog os laidL).forCall (fun _ _ => 0) ⟨#[], args, []⟩).Shaped Tryz.prog :=
  World.shaped_of_ZipB (by kernel_rfl) (by kernel_rfl)

theorem tabs_of {W : World} (hL : laidMetH Tryz.prog laidL W) : Tabs W := by
  rw [MakeChecks.laidMetH_plain _ _ _ (by kernel_rfl)] at hL
  have h4 := hL.tail.tail.tail.tail
  have h7 := h4.tail.tail.tail
  refine ⟨Lib.tabIs_of_head (rest := _) (g := 0) (t := 71) (e := 5) (n := 256) (by kernel_rfl) (by kernel_rfl) Tryz.underlying71 Tryz.underlying5 (by kernel_rfl) (by kernel_rfl) (by rw [← space_data]; exact h7), ?_⟩
  obtain ⟨a, s, hv, -⟩ := laid_sentinel (g := 10) (ti := 98) (tp := 194) (te := 196) (ts := 9) h4 (by kernel_rfl) (by kernel_rfl) Tryz.underlying98 type_err Tryz.underlying194 Tryz.underlying196 rfl rfl Tryz.underlying9 (by kernel_rfl) (by kernel_rfl)
  have hc := World.var?_cell (show Tryz.prog.globalNamed _ = some 10 by kernel_rfl) hv 0
  exact ⟨_, hc, .inr ⟨_, _, rfl⟩⟩
end Go.Proofs.YtgbpoaimbjlamaaGreatDoor
