/-
  What ParseDeep asks, in plain words, by reckoning. No condition.
-/
import Derived.Test.YtgbpoaimbjlamaaGreatDoorMPu
namespace Go.Proofs.YtgbpoaimbjlamaaGreatDoor
open Go.RowKit
set_option linter.unusedVariables false

def dpOpen (d : Nat) : Bs := ([[40], [45, 32], [78, 79, 84, 32], [77, 65, 88, 40]] : List Bs).getD d []
def dpShut (d : Nat) : Bs := ([[41], [], [], [41]] : List Bs).getD d []
def dpA (d : Nat) : Nat → Bs
  | 0 => [83, 69, 76, 69, 67, 84, 32]
  | i + 1 => dpA d i ++ dpOpen d
def dpB (d k : Nat) : Nat → Bs
  | 0 => dpA d k ++ [97]
  | i + 1 => dpB d k i ++ dpShut d
def dpT (d k : Nat) : Bs := dpB d k k ++ [32, 70, 82, 79, 77, 32, 116]
def dpOk (d k : Nat) : Bool := if 64 < k then parseV (dpT d k) == .bad (7 + 64 * (dpOpen d).length) 9 else (parseV (dpT d k)).isGood
theorem dp_all0 : ((List.range 81).all fun k => dpOk 0 k) = true := by decide +kernel
theorem dp_all1 : ((List.range 81).all fun k => dpOk 1 k) = true := by decide +kernel
theorem dp_all2 : ((List.range 81).all fun k => dpOk 2 k) = true := by decide +kernel
theorem dp_all3 : ((List.range 81).all fun k => dpOk 3 k) = true := by decide +kernel
theorem dp_all {d k : Nat} (hd : d < 4) (hk : k < 81) : dpOk d k = true := by
  have h : d = 0 ∨ d = 1 ∨ d = 2 ∨ d = 3 := by omega
  rcases h with rfl | rfl | rfl | rfl
  · exact List.all_eq_true.1 dp_all0 k (List.mem_range.2 hk)
  · exact List.all_eq_true.1 dp_all1 k (List.mem_range.2 hk)
  · exact List.all_eq_true.1 dp_all2 k (List.mem_range.2 hk)
  · exact List.all_eq_true.1 dp_all3 k (List.mem_range.2 hk)
theorem dpOpen_small {d : Nat} (h : d < 4) : (dpOpen d).length ≤ 4 := by
  have h2 : d = 0 ∨ d = 1 ∨ d = 2 ∨ d = 3 := by omega
  rcases h2 with rfl | rfl | rfl | rfl <;> decide
theorem dpShut_small {d : Nat} (h : d < 4) : (dpShut d).length ≤ 4 := by
  have h2 : d = 0 ∨ d = 1 ∨ d = 2 ∨ d = 3 := by omega
  rcases h2 with rfl | rfl | rfl | rfl <;> decide
theorem dpA_small {d : Nat} (h : d < 4) (i : Nat) : (dpA d i).length ≤ 7 + 4 * i := by
  induction i with
  | zero => exact Nat.le_refl _
  | succ i ih => have := dpOpen_small h; unfold dpA; rw [List.length_append]; omega
theorem dpB_small {d : Nat} (h : d < 4) (k i : Nat) : (dpB d k i).length ≤ 8 + 4 * k + 4 * i := by
  induction i with
  | zero => have := dpA_small h k; unfold dpB; rw [List.length_append]; simp; omega
  | succ i ih => have := dpShut_small h; unfold dpB; rw [List.length_append]; omega
end Go.Proofs.YtgbpoaimbjlamaaGreatDoor
