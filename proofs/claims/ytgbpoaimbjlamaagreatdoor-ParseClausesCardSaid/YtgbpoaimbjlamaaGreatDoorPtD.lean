/-
  The law ParseClauses, walked. No condition but that Go's own variables hold what they were laid with.
-/
import Derived.Test.YtgbpoaimbjlamaaGreatDoorMPu
import Derived.Deep.RegionLaw
namespace Go.Proofs.YtgbpoaimbjlamaaGreatDoor
open Go.RowKit
set_option linter.unusedVariables false

set_option maxRecDepth 100000 in
set_option maxHeartbeats 4000000 in
theorem parseClauses_walk (w : World) (hT : Tabs2 w) (n : Nat) (hn : n < 256) (m : Nat) (hm : m < 256) :
    Calls Tryz.prog 8 #[.int .u8 n, .int .u8 m] w fun e w' => e = .returned (.bool true) ∧ Mods [] w w' := by
  have hex := examples13_any w hT
  have HT := Lib.hid hT
  clear hT
  go_enter Tryz.func8, Tryz.ntmps8
  go_wp2_with fail
  (with_reducible refine hex.mono ?_)
  rintro e w2 ⟨rfl, hM2⟩
  clear hex
  have hz := (Mods.refl [] w2).alloc (.cells clCells 9)
  have hcl := heap_alloc_new w2 (.cells clCells 9)
  have hM3 := hM2.trans hz (by simp)
  unfold clCells at hz hcl hM3
  go_upto_region 6 with fail
  generalize w2.alloc (.cells #[.string ⟨#[32, 74, 79, 73, 78, 32, 117, 32, 79, 78, 32, 84, 82, 85, 69]⟩, .string ⟨#[32, 87, 72, 69, 82, 69, 32, 97]⟩, .string ⟨#[32, 71, 82, 79, 85, 80, 32, 66, 89, 32, 97]⟩, .string ⟨#[32, 79, 82, 68, 69, 82, 32, 66, 89, 32, 49]⟩, .string ⟨#[32, 76, 73, 77, 73, 84, 32, 49]⟩, .string ⟨#[32, 79, 70, 70, 83, 69, 84, 32, 50]⟩] 9) = w3 at *
  generalize w2.heap.size = g at *
  have HC : Hid (∀ i, i < 6 → w3.cell? ⟨g, i, none⟩ = some (.string ⟨(clP i).toArray⟩)) := Lib.hid fun i hi => by
    rw [cell_of_heap hcl i]; exact clCells_at i hi
  clear hcl hz hM2
  go_wp2_with fail
  go_loopg [7, 8] 6 (fun gk t7 t8 wr => ∃ i : Nat, i + gk = 6 ∧ t8 = .int .i64 i ∧ t7 = .string ⟨(clT n i).toArray⟩ ∧ w3 = wr)
  case atStart => exact ⟨0, by omega, rfl, rfl, rfl⟩
  obtain ⟨i, hi, rfl, rfl, rfl⟩ := hrel
  rcases Nat.lt_or_ge i 6 with hlt | hge
  · have hli : (i : Int) < 6 := by omega
    go_upto_if 30 with fail
    rw [bit_eq]
    have c0 := HC.out i hlt
    have hsz := clT_small n i
    have hpz := clP_small i
    obtain ⟨nb, hnb⟩ : ∃ nb, decide (n / 2 ^ i % 2 = 1) = nb := ⟨_, rfl⟩
    rw [hnb]
    obtain ⟨S, hS⟩ : ∃ S : ByteArray, (⟨(clT n i).toArray⟩ : ByteArray) = S := ⟨_, rfl⟩
    obtain ⟨X, hX⟩ : ∃ S : ByteArray, (⟨(clP i).toArray⟩ : ByteArray) = S := ⟨_, rfl⟩
    rw [hX] at c0
    have hSs : S.size ≤ 200 := by rw [← hS]; show (clT n i).length ≤ 200; omega
    have hXs : X.size ≤ 15 := by rw [← hX]; exact hpz
    rw [hS]
    have hnx : (⟨(clT n (i + 1)).toArray⟩ : ByteArray) = if nb = true then S ++ X else S := by
      rw [← hnb, ← hS, ← hX]
      show (⟨(if n / 2 ^ i % 2 = 1 then clT n i ++ clP i else clT n i).toArray⟩ : ByteArray) = _
      by_cases hb : n / 2 ^ i % 2 = 1
      · rw [if_pos hb, if_pos (decide_eq_true hb), cat2]
      · rw [if_neg hb, if_neg (by rw [decide_eq_false hb]; decide)]
    have HNX := Lib.hid hnx
    clear hsz hpz hnb hS hX hnx
    cases nb with
    | true =>
      have hnx : S ++ X = ⟨(clT n (i + 1)).toArray⟩ := HNX.out.symm
      have HN2 := Lib.hid hnx
      clear hnx HNX
      go_wp2_with fail
      go_roundg (6 - (i + 1))
      case measure => omega
      case rel => exact ⟨i + 1, by omega, by go_num, by rw [HN2.out], rfl⟩
    | false =>
      have hnx : S = ⟨(clT n (i + 1)).toArray⟩ := HNX.out.symm
      have HN2 := Lib.hid hnx
      clear hnx HNX
      go_wp2_with fail
      go_roundg (6 - (i + 1))
      case measure => omega
      case rel => exact ⟨i + 1, by omega, by go_num, by rw [HN2.out], rfl⟩
  · obtain rfl : i = 6 := by omega
    have hgood : (parseV (clT n 6)).isGood = true := List.all_eq_true.1 cl_good n (List.mem_range.2 hn)
    obtain ⟨q, hq⟩ : ∃ q, parseV (clT n 6) = .good q := by
      cases hp : parseV (clT n 6) with
      | good q => exact ⟨q, rfl⟩
      | bad p k => rw [hp] at hgood; cases hgood
    have hp1 := parse_good w3 (HT.out.1.mods hM3) (clT n 6) q hq (by have := clT_small n 6; omega)
    have hsz := clT_small n 6
    obtain ⟨k, hk, hkz⟩ : ∃ k : Nat, k < 5 ∧ (m : Int).tmod 5 = (k : Int) := ⟨m % 5, by omega, by rw [Int.tmod_eq_emod_of_nonneg (by omega)]; omega⟩
    have hbad : parseV (clBase ++ clP (k + 1) ++ clP k) = .bad ((clBase ++ clP (k + 1)).length + 1) 8 := by
      have := List.all_eq_true.1 cl_bad k (List.mem_range.2 hk)
      exact of_decide_eq_true this
    have hkz2 : (k : Int) < 5 := by omega
    obtain ⟨X1, hX1⟩ : ∃ S : ByteArray, (⟨(clP (k + 1)).toArray⟩ : ByteArray) = S := ⟨_, rfl⟩
    obtain ⟨X0, hX0⟩ : ∃ S : ByteArray, (⟨(clP k).toArray⟩ : ByteArray) = S := ⟨_, rfl⟩
    obtain ⟨x1, hx1⟩ : ∃ z, X1.size = z := ⟨_, rfl⟩
    have hx15 : x1 ≤ 15 := by rw [← hx1, ← hX1]; exact clP_small (k + 1)
    have hx0 : X0.size ≤ 15 := by rw [← hX0]; exact clP_small k
    have hlen : (clBase ++ clP (k + 1)).length + 1 = 15 + x1 + 1 := by
      rw [List.length_append, ← hx1, ← hX1]; rfl
    rw [hlen] at hbad
    have hcat : (⟨#[83, 69, 76, 69, 67, 84, 32, 97, 32, 70, 82, 79, 77, 32, 116]⟩ : ByteArray) ++ X1 ++ X0 = ⟨(clBase ++ clP (k + 1) ++ clP k).toArray⟩ := by rw [← hX1, ← hX0]; exact cat3 clBase _ _
    have hlc : (clBase ++ clP (k + 1) ++ clP k).length ≤ 9223372036854775807 := by
      have := clP_small (k + 1)
      have := clP_small k
      have : clBase.length = 15 := rfl
      simp only [List.length_append]
      omega
    have c1 := HC.out (k + 1) (by omega)
    have c0 := HC.out k (by omega)
    rw [hX1] at c1
    rw [hX0] at c0
    have HB := Lib.hid (And.intro hcat (And.intro hbad hlc))
    clear hX1 hX0 hcat hbad hlen hq hgood hsz hlc hge hi
    generalize clT n 6 = T6 at *
    go_wp2_with fail
    (with_reducible refine hp1.mono ?_)
    rintro e w4 ⟨qb, rfl, hM4, -, -⟩
    unfold PtrV
    have d1 := hM4.cell c1 (by simp)
    have d0 := hM4.cell c0 (by simp)
    have hMw4 := hM3.trans hM4 (by simp)
    clear hp1 c1 c0 hM4
    have hb0 : (0 : Int) ≤ (k : Int) + 1 := by omega
    have hb1 : (k : Int) + 1 < 6 := by omega
    have hb2 : (k : Int) < 6 := by omega
    have hb3 : ((k : Int) + 1).toNat = k + 1 := by omega
    go_wp2_with fail
    have hd := (Mods.refl [] w4).drew
    have hMd := hMw4.drew
    have hp2 : Calls Tryz.prog 13 #[.string ((⟨#[83, 69, 76, 69, 67, 84, 32, 97, 32, 70, 82, 79, 77, 32, 116]⟩ : ByteArray) ++ X1 ++ X0)] w4.drew (fun e w' => e = .returned (.tuple #[.pointer none, .int .i64 ((15 + x1 + 1 : Nat) : Int), .int .i64 ((8 : Nat) : Int)]) ∧ Mods [] w4.drew w') := by
      rw [HB.out.1]; exact parse_bad w4.drew (HT.out.1.mods hMd) _ _ _ HB.out.2.1 HB.out.2.2
    have d1d := hd.cell d1 (by simp)
    have d0d := hd.cell d0 (by simp)
    have hwr : IntKind.i64.wrap ((k : Int) + 1) = (k : Int) + 1 := by
      have h5 : k = 0 ∨ k = 1 ∨ k = 2 ∨ k = 3 ∨ k = 4 := by omega
      rcases h5 with rfl | rfl | rfl | rfl | rfl <;> decide +kernel
    have hs1 : ¬ 9223372036854775807 < 15 + x1 := by omega
    have hs2 : ¬ 9223372036854775807 < 15 + x1 + X0.size := by omega
    go_region_law (go_simp; go_at_call 13; (with_reducible refine hp2.mono ?_); rintro e w6 ⟨rfl, hM6⟩; have e1 := hM6.cell d1d (by simp))
    all_goals
      have hMw6 := hMd.trans hM6 (by simp)
      clear hp2 hM6
      go_wp2_with fail
      go_ret
      exact ⟨rfl, hMw6⟩
end Go.Proofs.YtgbpoaimbjlamaaGreatDoor
