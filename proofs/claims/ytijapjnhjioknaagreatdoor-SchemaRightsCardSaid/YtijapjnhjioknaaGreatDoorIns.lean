/-
  How a slice of numbers, and one of truths, lies in memory. Plain words; they speak of no program; no conditions.
-/
import Derived.Test.YtijapjnhjioknaaGreatDoorBase
namespace Go.Proofs.YtijapjnhjioknaaGreatDoor
open Go.RowKit

/-- A slice of numbers, read. -/
def IntsIn (w : World) (ao : Option Addr) (n : Nat) (X : Nat → Int) : Prop :=
  0 < n → ∃ b off, ao = some ⟨b, off, none⟩ ∧ ∀ i, i < n → w.cell? ⟨b, off + i, none⟩ = some (.int .i64 (X i)) ∧ -9223372036854775808 ≤ X i ∧ X i ≤ 9223372036854775807
/-- A slice of truths, read. -/
def BoolsIn (w : World) (ao : Option Addr) (n : Nat) (X : Nat → Bool) : Prop :=
  0 < n → ∃ b off, ao = some ⟨b, off, none⟩ ∧ ∀ i, i < n → w.cell? ⟨b, off + i, none⟩ = some (.bool (X i))

end Go.Proofs.YtijapjnhjioknaaGreatDoor
