/-
  The document's own answer to pages (ref16, ref10): TypeRight, Fits, Size, eight, walked.
-/
import Derived.Test.YtagpnalhilgcpaaPagG
import Derived.Test.YtagpnalhilgcpaaPagL
namespace Go.Proofs.Ytagpnalhilgcpaa
open Go.RowKit
set_option linter.unusedVariables false

set_option maxRecDepth 100000 in
theorem ref_tyRight (k s : Int) (w : World) : Calls Try.prog 59 #[.agg #[.int .i64 k, .int .i64 s]] w fun e w' => e = .returned (.bool (tyRight k s)) ∧ Mods [] w w' := by
  have hM := (Mods.refl [] w).alloc (.cells #[.int .i64 k, .int .i64 s] 60)
  go_enter Try.func59, Try.ntmps59
  by_cases h2 : k = 2
  · subst h2
    go_wp2_with fail
    all_goals go_ret
    all_goals refine ⟨ret_bool ?_, (Mods.refl [] w).alloc _⟩
    all_goals simp [tyRight]
    all_goals first | done | omega
  by_cases h1 : k = 1
  · subst h1
    go_wp2_with fail
    all_goals go_ret
    all_goals refine ⟨ret_bool ?_, (Mods.refl [] w).alloc _⟩
    all_goals simp [tyRight]
    all_goals first | done | omega
  by_cases h3 : k = 3
  · subst h3
    go_wp2_with fail
    all_goals go_ret
    all_goals refine ⟨ret_bool ?_, (Mods.refl [] w).alloc _⟩
    all_goals simp [tyRight]
    all_goals first | done | omega
  by_cases h4 : k = 4
  · subst h4
    go_wp2_with fail
    all_goals go_ret
    all_goals refine ⟨ret_bool ?_, (Mods.refl [] w).alloc _⟩
    all_goals simp [tyRight]
    all_goals first | done | omega
  go_wp2_with fail
  all_goals go_ret
  all_goals refine ⟨ret_bool ?_, (Mods.refl [] w).alloc _⟩
  all_goals simp [tyRight, h1, h2, h3, h4]

theorem ref_size (c : Int) (w : World) : Calls Try.prog 30 #[.int .i64 c] w fun e w' => e = .returned (.int .i64 (sizeI c)) ∧ w' = w := by
  go_enter Try.func30, Try.ntmps30
  by_cases h : 0 ≤ c ∧ c ≤ 64
  · obtain ⟨h1, h2⟩ := h
    go_wp2_with fail
    all_goals go_ret
    all_goals exact ⟨ret_int (by unfold sizeI; rw [if_pos ⟨h1, h2⟩]; try omega), rfl⟩
  · go_wp2_with fail
    all_goals go_ret
    all_goals exact ⟨ret_int (by unfold sizeI; rw [if_neg h]), rfl⟩

set_option maxRecDepth 100000 in
set_option maxHeartbeats 1000000 in
theorem ref_fits (k s : Int) (null z : Bool) (n : Int) (str : ByteArray) (hs : str.size ≤ 9223372036854775807) (w : World) :
    Calls Try.prog 48 #[.agg #[.int .i64 k, .int .i64 s], .bool null, .agg #[.bool z, .int .i64 n, .string str]] w fun e w' => e = .returned (.bool (fitsV k s null z n str)) ∧ Mods [] w w' := by
  have hM1 := ((Mods.refl [] w).alloc (.cells #[.int .i64 k, .int .i64 s] 60)).alloc (.cells #[.bool z, .int .i64 n, .string str] 77)
  have fin : ∀ w' b, Mods [] ((w.alloc (.cells #[.int .i64 k, .int .i64 s] 60)).alloc (.cells #[.bool z, .int .i64 n, .string str] 77)) w' → b = fitsV k s null z n str → Ending.returned (.bool b) = .returned (.bool (fitsV k s null z n str)) ∧ Mods [] w w' := fun w' b h1 h2 => ⟨by rw [h2], hM1.trans h1 (by simp)⟩
  go_enter Try.func48, Try.ntmps48
  go_wp2_with fail
  refine (ref_tyRight k s _).mono ?_
  rintro e w1 ⟨rfl, hM⟩
  have c0 : w1.cell? ⟨w.heap.size, 0, none⟩ = some (.int .i64 k) := hM.cell ((two_cell0 _ _ _ _ _ _).trans rfl) (by simp)
  have d0 : w1.cell? ⟨w.heap.size + 1, 0, none⟩ = some (.bool z) := hM.cell ((two_cell1 _ _ _ _ _ _).trans rfl) (by simp)
  have d1 : w1.cell? ⟨w.heap.size + 1, 1, none⟩ = some (.int .i64 n) := hM.cell ((two_cell1 _ _ _ _ _ _).trans rfl) (by simp)
  have d2 : w1.cell? ⟨w.heap.size + 1, 2, none⟩ = some (.string str) := hM.cell ((two_cell1 _ _ _ _ _ _).trans rfl) (by simp)
  have hfin := fin w1
  cases ht : tyRight k s with
  | false =>
    go_wp2_with fail
    go_ret
    exact hfin _ hM (by simp [fitsV, ht])
  | true =>
    cases z with
    | true =>
      cases null with
      | false =>
        go_wp2_with fail
        go_ret
        exact hfin _ hM (by simp [fitsV])
      | true =>
        by_cases h0 : str.size = 0
        · obtain rfl := str_empty h0
          go_wp2_with fail
          all_goals go_ret
          all_goals refine hfin _ hM ?_
          all_goals unfold fitsV
          all_goals rw [ht, str_eq]
          all_goals simp_all
          all_goals try omega
        · have hne : str ≠ ⟨#[]⟩ := fun h => h0 (by rw [h]; rfl)
          have hnl : ¬ str.toList = [] := fun h => h0 ((toList_nil str).1 h)
          go_wp2_with fail
          all_goals go_ret
          all_goals refine hfin _ hM ?_
          all_goals unfold fitsV
          all_goals rw [ht, str_eq]
          all_goals simp_all
          all_goals try omega
    | false =>
      by_cases h3 : k = 3
      · subst h3
        go_wp2_with fail
        all_goals go_ret
        all_goals refine hfin _ hM ?_
        all_goals unfold fitsV
        all_goals rw [ht, ← nat_cast_le]
        all_goals simp_all
        all_goals try omega
      · by_cases h0 : str.size = 0
        · obtain rfl := str_empty h0
          go_wp2_with fail
          all_goals go_ret
          all_goals refine hfin _ hM ?_
          all_goals unfold fitsV
          all_goals rw [ht, str_eq]
          all_goals simp_all
          all_goals try omega
        · have hne : str ≠ ⟨#[]⟩ := fun h => h0 (by rw [h]; rfl)
          have hnl : ¬ str.toList = [] := fun h => h0 ((toList_nil str).1 h)
          go_wp2_with fail
          all_goals go_ret
          all_goals refine hfin _ hM ?_
          all_goals unfold fitsV
          all_goals rw [ht, str_eq]
          all_goals simp_all
          all_goals try omega

def EtRow (w : World) (g v k : Nat) : Prop := ∃ arr, w.heap[g]? = some (.cells arr 5 (0, 0)) ∧ arr.size = 8 ∧ ∀ j, j < k → arr[j]? = some (bv (byteOf v j))

set_option maxRecDepth 100000 in
theorem eight_any (v : Nat) (hv : v < 18446744073709551616) (w : World) : Calls Try.prog 49 #[.int .u64 v] w fun e w' => e = .returned (.string ⟨(eightB v).toArray⟩) ∧ Mods [] w w' := by
  go_enter Try.func49, Try.ntmps49
  have hmk : (Instr.makeSlice 47 (.int .i64 8) (.int .i64 8)).run Try.prog w = .ok (.slice (some ⟨w.heap.size, 0, none⟩) 8 8) (w.alloc (.cells (zeros 8) 5)) := run_mkbytes w .i64 .i64 8 (by omega)
  go_wp2_with fail
  have hst : EtRow (w.alloc (.cells (zeros 8) 5)) w.heap.size v 0 := ⟨_, heap_alloc_new w _, size_zeros 8, fun j hj => by omega⟩
  have hM0 := (Mods.refl [] w).alloc (.cells (zeros 8) 5)
  clear hmk
  go_loopw [0, 4] (fun t0 t4 wr => ∃ k : Nat, k ≤ 8 ∧ t4 = .int .i64 k ∧ t0 = .int .u64 ((v / 256 ^ k : Nat) : Int) ∧ Mods [] w wr ∧ EtRow wr w.heap.size v k) (fun _ t4 _ => 8 - (intOf t4).toNat)
  case atStart => exact ⟨0, by omega, rfl, by simp, hM0, hst⟩
  case round =>
    clear hst hM0
    obtain ⟨k, hk, rfl, rfl, hMr, arr, hg, hsz, hval⟩ := hrel
    by_cases hk8 : k < 8
    · obtain ⟨u, hcell⟩ : ∃ u, wr.cell? ⟨w.heap.size, k, none⟩ = some u := ⟨arr[k], by rw [cell_of_heap hg, Array.getElem?_eq_getElem (by omega)]⟩
      have hfr := frozen_of_heap hg k
      obtain ⟨x, hx⟩ : ∃ x, v / 256 ^ k = x := ⟨_, rfl⟩
      have hxl : x ≤ v := by rw [← hx]; exact Nat.div_le_self _ _
      have hnext : v / 256 ^ (k + 1) = x / 256 := by rw [Nat.pow_succ, ← Nat.div_div_eq_div_mul, hx]
      have hbyte : (x : Int) % 256 = ((byteOf v k).toNat : Int) := by
        unfold byteOf
        rw [hx]
        have : (UInt8.ofNat x).toNat = x % 256 := by simp
        rw [this]
        omega
      rw [hx]
      have hki : (0 : Int) ≤ (k : Int) ∧ (k : Int) < 8 := by omega
      have HS := Lib.hid (And.intro hsz hval)
      have HN := Lib.hid hnext
      have HB := Lib.hid hbyte
      clear hsz hval hx hnext hbyte
      go_wp2_with fail
      rw [HB.out]
      refine ⟨⟨k + 1, by omega, by go_num, by rw [HN.out]; simp, hMr.setCell (.inr (Nat.le_refl _)) _, _, heap_setCell_same hg _ _, by simpa using HS.out.1, fun j hj => ?_⟩, by simp [intOf]; omega⟩
      by_cases hjk : j = k
      · subst hjk
        rw [Array.getElem?_setIfInBounds_self_of_lt (by rw [HS.out.1]; omega)]; rfl
      · rw [Array.getElem?_setIfInBounds_ne (fun e => hjk e.symm)]
        exact HS.out.2 j (by omega)
    · obtain rfl : k = 8 := by omega
      have hcv : (convert 47 9 (.slice (some ⟨w.heap.size, 0, none⟩) 8 8)).run Try.prog wr = .ok (.string ⟨(eightB v).toArray⟩) wr := by
        have := run_convert_bytes_back (P := Try.prog) wr 47 9 5 ⟨w.heap.size, 0, none⟩ 8 ((List.range 8).map fun j => byteOf v (0 + j)) Try.underlying47 Try.underlying5 Try.underlying9 (by
          intro j hj
          have hj' : j < 8 := by simpa using hj
          rw [addr_add, cell_of_heap hg, Nat.zero_add, hval j hj']
          simp [bv])
        simpa [eightB] using this
      clear hval
      go_wp2_with fail
      go_ret
      exact ⟨rfl, hMr⟩
end Go.Proofs.Ytagpnalhilgcpaa
