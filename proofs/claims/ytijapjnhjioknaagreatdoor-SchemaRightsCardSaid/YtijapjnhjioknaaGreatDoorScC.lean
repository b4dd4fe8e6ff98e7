/-
  The names that schema meets: a map keyed by a place (a number and a text). No condition.
-/
import Derived.Test.YtijapjnhjioknaaGreatDoorScB
import Derived.DeepKeys4
import Derived.Maps.Keyed
namespace Go.Proofs.YtijapjnhjioknaaGreatDoor
open Go.RowKit
open Go.Maps
set_option linter.unusedVariables false

theorem laid_out : laidOutB Tryz.prog = true := by kernel_rfl
theorem place_law : WideMaps.KeyLaw Tryz.prog 83 := deep_law_laid laid_out (m := 3) (by decide) (of_decide_eq_true (by kernel_rfl)) (by kernel_rfl) (by kernel_rfl)
theorem place_keyed : Keyed Tryz.prog 83 := Keyed.of_law place_law
def placeV (t : Int) (s : ByteArray) : Value := .agg #[.int .i64 t, .string s]
theorem place_key (t : Int) (ht : -9223372036854775808 ≤ t ∧ t ≤ 9223372036854775807) (s : ByteArray) (hs : s.size ≤ 9223372036854775807) : ∃ l, keyOf Tryz.prog 83 (placeV t s) = some l := by
  have h1 : Tryz.prog.keyType 83 = true := by kernel_rfl
  have h2 : Value.formed Tryz.prog 83 (placeV t s) = true := by kernel_rfl
  have hi : (Lit.int .i64 t).wf = true := by simp [Lit.wf]; exact ⟨ht.1, ht.2⟩
  have hc : (placeV t s).cells.toList = [.int .i64 t, .string s] := by simp [placeV, Value.cells]
  have hs2 : s.size ≤ maxLen := by unfold maxLen; omega
  have k1 : Tryz.prog.cellsOf 83 = 2 := by kernel_rfl
  have k2 : Tryz.prog.cellsOf 3 = 1 := by kernel_rfl
  have k3 : Tryz.prog.cellsOf 9 = 1 := by kernel_rfl
  obtain ⟨m, hm⟩ : ∃ m, Tryz.prog.types.size = m + 1 := ⟨Tryz.prog.types.size - 1, by have : 0 < Tryz.prog.types.size := of_decide_eq_true (by kernel_rfl); omega⟩
  unfold keyOf
  rw [Tryz.underlying83, hc, hm]
  simp only [h1, h2, Bool.and_self, if_true]
  simp [Program.keyLits, Tryz.underlying83, Tryz.underlying3, Tryz.underlying9, k1, k2, k3, hi, hs2]
end Go.Proofs.YtijapjnhjioknaaGreatDoor
