/-
  What the rows of this seat list of Go's own variables, read as the parser's laws ask it. No condition.
-/
import Derived.Test.YtgbpoaimbjlamaaGreatDoorDoor
import Derived.Test.YtgbpoaimbjlamaaGreatDoorMPu
namespace Go.Proofs.YtgbpoaimbjlamaaGreatDoor
open Go.ChangeShapes Go.WideShapes Go.ChangeAt Go.RowKit
set_option linter.unusedVariables false

theorem pow_data : (Rows.laid_internal_strconv_uint64pow10 : DataW Unit) = Lib.tabData .u64 Lib.pow10Tab := by kernel_rfl
theorem tabs2_of {W : World} (hL : laidMetH Tryz.prog laidL W) : Tabs2 W := by
  refine ⟨tabs_of hL, ?_⟩
  rw [MakeChecks.laidMetH_plain _ _ _ (by kernel_rfl)] at hL
  have h2 := hL.tail.tail
  exact Lib.tabIs_of_head (rest := _) (g := 1) (t := 142) (e := 116) (n := 20) (by kernel_rfl) (by kernel_rfl) Tryz.underlying142 Tryz.underlying116 (by kernel_rfl) (by kernel_rfl) (by rw [← pow_data]; exact h2)
end Go.Proofs.YtgbpoaimbjlamaaGreatDoor
