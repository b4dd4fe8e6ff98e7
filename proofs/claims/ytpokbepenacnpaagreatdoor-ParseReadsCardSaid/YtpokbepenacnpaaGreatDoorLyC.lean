/-
  Small words that the laws on tokens, and the document's chapter 11, share. No condition.
-/
import Derived.Test.YtpokbepenacnpaaGreatDoorMLz
namespace Go.Proofs.YtpokbepenacnpaaGreatDoor
open Go.RowKit
set_option linter.unusedVariables false

theorem app_list (a b : ByteArray) : (a ++ b).data.toList = a.data.toList ++ b.data.toList := by simp
theorem size_list (a : ByteArray) : a.size = a.data.toList.length := rfl

def marksAll : List (List UInt8) := [[60, 62], [60, 61], [62, 61], [61], [60], [62], [43], [45], [42], [47], [40], [41], [44], [46]]
def markCells : Array Value := (marksAll.map fun l => Value.string ⟨l.toArray⟩).toArray

def wordCells : Array Value := (keyWords.map fun l => Value.string ⟨l.toArray⟩).toArray
end Go.Proofs.YtpokbepenacnpaaGreatDoor
