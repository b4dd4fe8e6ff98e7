/-
  A region that draws its order, whose callees make memory of their own: one walk in the text's order, in every later world. No condition.
-/
import Derived.Test.YtpghimiecigakaaDoorBase
import Derived.BigQuiet
namespace Go.Proofs.YtpghimiecigakaaDoor
open Go.RowKit
set_option linter.unusedVariables false

/-- A world later than w, in which w's blocks stand as they stood. -/
structure Later (w : World) where
  val : World
  mods : Mods [] w val
instance {w : World} : Nonempty (Later w) := ⟨⟨w, Mods.refl [] w⟩⟩
theorem region_later {P : Program} {id : Nat} {Q : Exit → Act → World → Prop} {a : Act} {w : World} {l : List Oper} (hm : P.follows .mixedOrders = true) (hB : Region.lexB .any l.toArray = true)
    (h : wpQuiet P l.toArray (fun w' => ∃ k : Later w, w' = k.val) (fun a' => ∀ w', (∃ k : Later w, w' = k.val) → Q .normal a' w') l a) : (Code.region id l.toArray true).wp P Q a w :=
  wp_region_quiet (C := fun w' => ∃ k : Later w, w' = k.val) hm hB ⟨⟨w.drew, (Mods.refl [] w).drew⟩, rfl⟩ (by simpa using h)
end Go.Proofs.YtpghimiecigakaaDoor
