/-
  The small functions that package page leans on: value.TypeRight, value.Fits, page.Size, page.number. Each returns what its text says and leaves all that was in memory as it was; no conditions but the kinds of the numbers.
-/
import Derived.Test.YtagpnalhilgcpaaMemG
namespace Go.Proofs.Ytagpnalhilgcpaa
open Go.RowKit
set_option linter.unusedVariables false

/-- May a type be? -/
def tyRight (k s : Int) : Bool := (k == 2 && (decide (1 ≤ s) && decide (s ≤ 9))) || ((k == 1 || k == 3 || k == 4) && s == 0)

def tyV (k s : Int) : Value := .agg #[.int .i64 k, .int .i64 s]
def valV (z : Bool) (n : Int) (s : ByteArray) : Value := .agg #[.bool z, .int .i64 n, .string s]

set_option maxRecDepth 100000 in
theorem tyRight_any (k s : Int) (w : World) : Calls Try.prog 60 #[.agg #[.int .i64 k, .int .i64 s]] w fun e w' => e = .returned (.bool (tyRight k s)) ∧ Mods [] w w' := by
  have hM := (Mods.refl [] w).alloc (.cells #[.int .i64 k, .int .i64 s] 60)
  go_enter Try.func60, Try.ntmps60
  by_cases h2 : k = 2
  · subst h2
    go_wp2_with fail
    all_goals go_ret
    all_goals refine ⟨ret_bool ?_, hM⟩
    all_goals simp [tyRight]
    all_goals first | done | omega
  by_cases h1 : k = 1
  · subst h1
    go_wp2_with fail
    all_goals go_ret
    all_goals refine ⟨ret_bool ?_, hM⟩
    all_goals simp [tyRight]
    all_goals first | done | omega
  by_cases h3 : k = 3
  · subst h3
    go_wp2_with fail
    all_goals go_ret
    all_goals refine ⟨ret_bool ?_, hM⟩
    all_goals simp [tyRight]
    all_goals first | done | omega
  by_cases h4 : k = 4
  · subst h4
    go_wp2_with fail
    all_goals go_ret
    all_goals refine ⟨ret_bool ?_, hM⟩
    all_goals simp [tyRight]
    all_goals first | done | omega
  go_wp2_with fail
  all_goals go_ret
  all_goals refine ⟨ret_bool ?_, hM⟩
  all_goals simp [tyRight, h1, h2, h3, h4]

/-- How many bytes a row has. -/
def sizeI (c : Int) : Int := if 0 ≤ c ∧ c ≤ 64 then 8 * (c + 1) else 0

theorem size_any (c : Int) (w : World) : Calls Try.prog 29 #[.int .i64 c] w fun e w' => e = .returned (.int .i64 (sizeI c)) ∧ w' = w := by
  go_enter Try.func29, Try.ntmps29
  by_cases h : 0 ≤ c ∧ c ≤ 64
  · obtain ⟨h1, h2⟩ := h
    go_wp2_with fail
    all_goals go_ret
    all_goals exact ⟨ret_int (by unfold sizeI; rw [if_pos ⟨h1, h2⟩]; try omega), rfl⟩
  · go_wp2_with fail
    all_goals go_ret
    all_goals exact ⟨ret_int (by unfold sizeI; rw [if_neg h]), rfl⟩

set_option maxRecDepth 100000 in
theorem number_any (v : Nat) (hv : v < 18446744073709551616) (w : World) : Calls Try.prog 57 #[.int .u64 v] w fun e w' => e = .returned (.string (strF (byteOf v) 0 8)) ∧ Mods [] w w' := by
  go_enter Try.func57, Try.ntmps57
  go_wp2_with fail
  go_loopw [5] (fun t5 wr => ∃ k : Nat, k ≤ 8 ∧ t5 = .int .i64 k ∧ Mods [] w wr ∧ StRow wr w.heap.size v k) (fun t5 _ => 8 - (intOf t5).toNat)
  case atStart => exact ⟨0, by omega, rfl, (Mods.refl [] w).alloc _, ⟨_, heap_alloc_new w _, rfl, fun j hj => by omega⟩⟩
  case round =>
    obtain ⟨k, hk, rfl, hMr, arr, hg, hsz, hval⟩ := hrel
    by_cases hk8 : k < 8
    · obtain ⟨u, hcell⟩ : ∃ u, wr.cell? ⟨w.heap.size, k, none⟩ = some u := ⟨arr[k], by rw [cell_of_heap hg, Array.getElem?_eq_getElem (by omega)]⟩
      have hfr := frozen_of_heap hg k
      have HS := Lib.hid (And.intro hsz hval)
      clear hsz hval
      go_wp2_with fail
      rw [byte_shr]
      refine ⟨⟨k + 1, by omega, by go_num, hMr.setCell (.inr (Nat.le_refl _)) _, _, heap_setCell_same hg _ _, by simpa using HS.out.1, fun j hj => ?_⟩, by simp [intOf]; omega⟩
      by_cases hjk : j = k
      · subst hjk
        rw [Array.getElem?_setIfInBounds_self_of_lt (by rw [HS.out.1]; omega)]; rfl
      · rw [Array.getElem?_setIfInBounds_ne (fun e => hjk e.symm)]
        exact HS.out.2 j (by omega)
    · obtain rfl : k = 8 := by omega
      have hcv : (convert 47 9 (.slice (some ⟨w.heap.size, 0, none⟩) 8 8)).run Try.prog wr = .ok (.string (strF (byteOf v) 0 8)) wr := by
        have := run_convert_bytes_back (P := Try.prog) wr 47 9 5 ⟨w.heap.size, 0, none⟩ 8 ((List.range 8).map fun j => byteOf v (0 + j)) Try.underlying47 Try.underlying5 Try.underlying9 (by
          intro j hj
          have hj' : j < 8 := by simpa using hj
          rw [addr_add, cell_of_heap hg, Nat.zero_add, hval j hj']
          simp [bv])
        simpa [strF] using this
      clear hval
      go_wp2_with fail
      go_ret
      exact ⟨rfl, hMr⟩
end Go.Proofs.Ytagpnalhilgcpaa
