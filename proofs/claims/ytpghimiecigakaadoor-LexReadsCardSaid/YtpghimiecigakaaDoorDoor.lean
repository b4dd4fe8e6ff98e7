/-
  What the rows of this seat list of Go's own variables, read as the walks ask it. No condition.
-/
import Derived.Test.YtpghimiecigakaaDoorLxS
import Derived.Test.YtpghimiecigakaaDoorLaw
import Derived.Test.YtpghimiecigakaaDoorCards
import Derived.Test.YtpghimiecigakaaDoorTie
import Derived.LaidMore
import Derived.Lay
import Derived.SevenTiedAt
import Derived.Stop.Joined
import Derived.Stop.LaidErr
namespace Go.Proofs.YtpghimiecigakaaDoor
open Go.ChangeShapes Go.WideShapes Go.ChangeAt Go.RowKit
set_option linter.unusedVariables false

noncomputable abbrev laidL : List (String × DataW Unit) := Rows.lexReadsRow.laid

theorem space_data : (Rows.laid_strings_asciiSpace : DataW Unit) = Lib.tabData .u8 Lib.asciiSpaceTab := by kernel_rfl

theorem star_err : "*" ++ "errors.errorString" = "*errors.errorString" := by decide
theorem type_err (u : TypeId) (h : Tryd.prog.typeName? 3 u = some "*errors.errorString") : u = 127 :=
  typeName_ptr_named (nm := "errors.errorString") (by rw [star_err]; kernel_rfl) (by kernel_rfl) (by decide) u (by rw [star_err]; exact h)

/-- The witness: the world in which these variables are laid. -/
theorem wit_laid (os : Os) (args : Array Value) : laidMetH Tryd.prog laidL ((World.laidAll Tryd.prog os laidL).forCall (fun _ _ => 0) ⟨#[], args, []⟩).memory := by
  rw [MakeChecks.laidMetH_plain _ _ _ (by kernel_rfl)]
  exact laidMet_laidAll _ (by kernel_rfl) (by kernel_rfl)

theorem wit_shape (os : Os) (args : Array Value) : ((World.laidAll Tryd.prog os laidL).forCall (fun _ _ => 0) ⟨#[], args, []⟩).Shaped Tryd.prog :=
  World.shaped_of_ZipB (by kernel_rfl) (by kernel_rfl)

theorem tabs_of {W : World} (hL : laidMetH Tryd.prog laidL W) : Tabs W := by
  rw [MakeChecks.laidMetH_plain _ _ _ (by kernel_rfl)] at hL
  have h4 := hL.tail.tail.tail.tail
  have h7 := h4.tail.tail.tail
  refine ⟨Lib.tabIs_of_head (rest := _) (g := 0) (t := 35) (e := 5) (n := 256) (by kernel_rfl) (by kernel_rfl) Tryd.underlying35 Tryd.underlying5 (by kernel_rfl) (by kernel_rfl) (by rw [← space_data]; exact h7), ?_⟩
  obtain ⟨a, s, hv, -⟩ := laid_sentinel (g := 4) (ti := 58) (tp := 127) (te := 129) (ts := 9) h4 (by kernel_rfl) (by kernel_rfl) Tryd.underlying58 type_err Tryd.underlying127 Tryd.underlying129 rfl rfl Tryd.underlying9 (by kernel_rfl) (by kernel_rfl)
  have hc := World.var?_cell (show Tryd.prog.globalNamed _ = some 4 by kernel_rfl) hv 0
  exact ⟨_, hc, .inr ⟨_, _, rfl⟩⟩
end Go.Proofs.YtpghimiecigakaaDoor
