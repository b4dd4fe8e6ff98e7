/-
  value.TypeRight, value.Fits, walked (for the seats that do not hold package page: the texts of PagA, PagB). No condition.
-/
import Derived.Test.YtijapjnhjioknaaGreatDoorScA
namespace Go.Proofs.YtijapjnhjioknaaGreatDoor
open Go.RowKit
set_option linter.unusedVariables false

/-- May a type be? -/
def tyRight (k s : Int) : Bool := (k == 2 && (decide (1 ≤ s) && decide (s ≤ 9))) || ((k == 1 || k == 3 || k == 4) && s == 0)

def tyV (k s : Int) : Value := .agg #[.int .i64 k, .int .i64 s]
def valV (z : Bool) (n : Int) (s : ByteArray) : Value := .agg #[.bool z, .int .i64 n, .string s]

set_option maxRecDepth 100000 in
theorem tyRight_any (k s : Int) (w : World) : Calls Tryz.prog 28 #[.agg #[.int .i64 k, .int .i64 s]] w fun e w' => e = .returned (.bool (tyRight k s)) ∧ Mods [] w w' := by
  have hM := (Mods.refl [] w).alloc (.cells #[.int .i64 k, .int .i64 s] 42)
  go_enter Tryz.func28, Tryz.ntmps28
  by_cases h2 : k = 2
  · subst h2
    go_wp2_with fail
    all_goals go_ret
    all_goals refine ⟨ret_bool ?_, hM⟩
    all_goals simp [tyRight]
    all_goals first | done | omega
  by_cases h1 : k = 1
  · subst h1
    go_wp2_with fail
    all_goals go_ret
    all_goals refine ⟨ret_bool ?_, hM⟩
    all_goals simp [tyRight]
    all_goals first | done | omega
  by_cases h3 : k = 3
  · subst h3
    go_wp2_with fail
    all_goals go_ret
    all_goals refine ⟨ret_bool ?_, hM⟩
    all_goals simp [tyRight]
    all_goals first | done | omega
  by_cases h4 : k = 4
  · subst h4
    go_wp2_with fail
    all_goals go_ret
    all_goals refine ⟨ret_bool ?_, hM⟩
    all_goals simp [tyRight]
    all_goals first | done | omega
  go_wp2_with fail
  all_goals go_ret
  all_goals refine ⟨ret_bool ?_, hM⟩
  all_goals simp [tyRight, h1, h2, h3, h4]

def fitsV (k s : Int) (null z : Bool) (n : Int) (str : ByteArray) : Bool :=
  tyRight k s && (if z = true then null && (n == 0 && str.size == 0) else if k = 3 then n == 0 && decide (str.size ≤ 200) else str.size == 0 && (k != 4 || n / 2 == 0))

theorem str_empty {s : ByteArray} (h : s.size = 0) : s = ⟨#[]⟩ := by
  obtain ⟨d⟩ := s
  simp [ByteArray.size] at h
  rw [h]

theorem two_cell0 (w : World) (A B : Array Value) (t u : TypeId) (j : Nat) : ((w.alloc (.cells A t)).alloc (.cells B u)).cell? ⟨w.heap.size, j, none⟩ = A[j]? :=
  cell_of_heap ((Below.heap_alloc (w.alloc (.cells A t)) _ _ (by rw [size_alloc]; omega)).trans (heap_alloc_new w _)) j
theorem two_cell1 (w : World) (A B : Array Value) (t u : TypeId) (j : Nat) : ((w.alloc (.cells A t)).alloc (.cells B u)).cell? ⟨w.heap.size + 1, j, none⟩ = B[j]? := by
  have h := heap_alloc_new (w.alloc (.cells A t)) (.cells B u)
  rw [size_alloc] at h
  exact cell_of_heap h j

theorem toList_nil (s : ByteArray) : s.toList = [] ↔ s.size = 0 := by
  rw [ByteArray.toList_eq]
  show s.data.toList = [] ↔ s.data.size = 0
  rw [← Array.length_toList]
  exact List.length_eq_zero_iff.symm
theorem nat_cast_le (n : Nat) : decide ((n : Int) ≤ 200) = decide (n ≤ 200) := by rw [decide_eq_decide]; omega
theorem str_eq (s : ByteArray) : (s.size == 0) = decide (s = ⟨#[]⟩) := by
  by_cases h : s.size = 0
  · rw [str_empty h]; rfl
  · have : s ≠ ⟨#[]⟩ := fun e => h (by rw [e]; rfl)
    simp [h, this]

set_option maxRecDepth 100000 in
theorem fits_any (k s : Int) (null z : Bool) (n : Int) (str : ByteArray) (hs : str.size ≤ 9223372036854775807) (w : World) :
    Calls Tryz.prog 18 #[.agg #[.int .i64 k, .int .i64 s], .bool null, .agg #[.bool z, .int .i64 n, .string str]] w fun e w' => e = .returned (.bool (fitsV k s null z n str)) ∧ Mods [] w w' := by
  have hM1 := ((Mods.refl [] w).alloc (.cells #[.int .i64 k, .int .i64 s] 42)).alloc (.cells #[.bool z, .int .i64 n, .string str] 46)
  have fin : ∀ w' b, Mods [] ((w.alloc (.cells #[.int .i64 k, .int .i64 s] 42)).alloc (.cells #[.bool z, .int .i64 n, .string str] 46)) w' → b = fitsV k s null z n str → Ending.returned (.bool b) = .returned (.bool (fitsV k s null z n str)) ∧ Mods [] w w' := fun w' b h1 h2 => ⟨by rw [h2], hM1.trans h1 (by simp)⟩
  go_enter Tryz.func18, Tryz.ntmps18
  go_wp2_with fail
  refine (tyRight_any k s _).mono ?_
  rintro e w1 ⟨rfl, hM⟩
  have c0 : w1.cell? ⟨w.heap.size, 0, none⟩ = some (.int .i64 k) := hM.cell ((two_cell0 _ _ _ _ _ _).trans rfl) (by simp)
  have d0 : w1.cell? ⟨w.heap.size + 1, 0, none⟩ = some (.bool z) := hM.cell ((two_cell1 _ _ _ _ _ _).trans rfl) (by simp)
  have d1 : w1.cell? ⟨w.heap.size + 1, 1, none⟩ = some (.int .i64 n) := hM.cell ((two_cell1 _ _ _ _ _ _).trans rfl) (by simp)
  have d2 : w1.cell? ⟨w.heap.size + 1, 2, none⟩ = some (.string str) := hM.cell ((two_cell1 _ _ _ _ _ _).trans rfl) (by simp)
  have hfin := fin w1
  cases ht : tyRight k s with
  | false =>
    go_wp2_with fail
    go_ret
    exact hfin _ hM (by simp [fitsV, ht])
  | true =>
    cases z with
    | true =>
      cases null with
      | false =>
        go_wp2_with fail
        go_ret
        exact hfin _ hM (by simp [fitsV])
      | true =>
        by_cases h0 : str.size = 0
        · obtain rfl := str_empty h0
          go_wp2_with fail
          all_goals go_ret
          all_goals refine hfin _ hM ?_
          all_goals unfold fitsV
          all_goals rw [ht, str_eq]
          all_goals simp_all
        · have hne : str ≠ ⟨#[]⟩ := fun h => h0 (by rw [h]; rfl)
          have hnl : ¬ str.toList = [] := fun h => h0 ((toList_nil str).1 h)
          go_wp2_with fail
          all_goals go_ret
          all_goals refine hfin _ hM ?_
          all_goals unfold fitsV
          all_goals rw [ht, str_eq]
          all_goals simp_all
    | false =>
      by_cases h3 : k = 3
      · subst h3
        go_wp2_with fail
        all_goals go_ret
        all_goals refine hfin _ hM ?_
        all_goals unfold fitsV
        all_goals rw [ht, ← nat_cast_le]
        all_goals simp_all
      · by_cases h0 : str.size = 0
        · obtain rfl := str_empty h0
          go_wp2_with fail
          all_goals go_ret
          all_goals refine hfin _ hM ?_
          all_goals unfold fitsV
          all_goals rw [ht, str_eq]
          all_goals simp_all
        · have hne : str ≠ ⟨#[]⟩ := fun h => h0 (by rw [h]; rfl)
          have hnl : ¬ str.toList = [] := fun h => h0 ((toList_nil str).1 h)
          go_wp2_with fail
          all_goals go_ret
          all_goals refine hfin _ hM ?_
          all_goals unfold fitsV
          all_goals rw [ht, str_eq]
          all_goals simp_all
end Go.Proofs.YtijapjnhjioknaaGreatDoor
