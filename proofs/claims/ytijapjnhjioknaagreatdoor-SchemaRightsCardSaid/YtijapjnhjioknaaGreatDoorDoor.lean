/-
  What the rows of this seat list of Go's own variables, read as the walks ask it. No condition.
-/
import Derived.Test.YtijapjnhjioknaaGreatDoorLxS
import Derived.Test.YtijapjnhjioknaaGreatDoorLaw
import Derived.Test.YtijapjnhjioknaaGreatDoorCards
import Derived.Test.YtijapjnhjioknaaGreatDoorTie
import Derived.LaidMore
import Derived.Lay
import Derived.SevenTiedAt
import Derived.Stop.Joined
import Derived.Stop.LaidErr
namespace Go.Proofs.YtijapjnhjioknaaGreatDoor
open Go.ChangeShapes Go.WideShapes Go.ChangeAt Go.RowKit
set_option linter.unusedVariables false

noncomputable abbrev laidL : List (String × DataW Unit) := Rows.schemaRowsRow.laid

theorem space_data : (Rows.laid_strings_asciiSpace : DataW Unit) = Lib.tabData .u8 Lib.asciiSpaceTab := by kernel_rfl

theorem star_err : "*" ++ "errors.errorString" = "*errors.errorString" := by decide
theorem type_err (u : TypeId) (h : Tryz.prog.typeName? 3 u = some "*errors.errorString") : u = 163 :=
  typeName_ptr_named (nm := "errors.errorString") (by rw [star_err]; kernel_rfl) (by kernel_rfl) (by decide) u (by rw [star_err]; exact h)

/-- The witness: the world in which these variables are laid. -/
theorem wit_laid (os : Os) (args : Array Value) : laidMetH Tryz.prog laidL ((World.laidAll Tryz.prog os laidL).forCall (fun _ _ => 0) ⟨#[], args, []⟩).memory := by
  rw [MakeChecks.laidMetH_plain _ _ _ (by kernel_rfl)]
  exact laidMet_laidAll _ (by kernel_rfl) (by kernel_rfl)

theorem wit_shape (os : Os) (args : Array Value) : ((World.laidAll Tryz.prog os laidL).forCall (fun _ _ => 0) ⟨#[], args, []⟩).Shaped Tryz.prog :=
  World.shaped_of_ZipB (by kernel_rfl) (by kernel_rfl)

theorem tabs_of {W : World} (hL : laidMetH Tryz.prog laidL W) : Tabs W := by
  rw [MakeChecks.laidMetH_plain _ _ _ (by kernel_rfl)] at hL
  have h4 := hL.tail.tail.tail.tail
  have h7 := h4.tail.tail.tail
  refine ⟨Lib.tabIs_of_head (rest := _) (g := 0) (t := 70) (e := 5) (n := 256) (by kernel_rfl) (by kernel_rfl) Tryz.underlying70 Tryz.underlying5 (by kernel_rfl) (by kernel_rfl) (by rw [← space_data]; exact h7), ?_⟩
  obtain ⟨a, s, hv, -⟩ := laid_sentinel (g := 4) (ti := 95) (tp := 163) (te := 165) (ts := 9) h4 (by kernel_rfl) (by kernel_rfl) Tryz.underlying95 type_err Tryz.underlying163 Tryz.underlying165 rfl rfl Tryz.underlying9 (by kernel_rfl) (by kernel_rfl)
  have hc := World.var?_cell (show Tryz.prog.globalNamed _ = some 4 by kernel_rfl) hv 0
  exact ⟨_, hc, .inr ⟨_, _, rfl⟩⟩
end Go.Proofs.YtijapjnhjioknaaGreatDoor
