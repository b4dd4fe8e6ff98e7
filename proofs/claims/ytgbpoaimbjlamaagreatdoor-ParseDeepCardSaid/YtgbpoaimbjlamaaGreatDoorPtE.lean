/-
  The law ParseDeep, walked. No condition but that Go's own variables hold what they were laid with.
-/
import Derived.Test.YtgbpoaimbjlamaaGreatDoorMPu
import Derived.Test.YtgbpoaimbjlamaaGreatDoorPtEp
namespace Go.Proofs.YtgbpoaimbjlamaaGreatDoor
open Go.RowKit
set_option linter.unusedVariables false

set_option maxRecDepth 100000 in
set_option maxHeartbeats 4000000 in
theorem parseDeep_walk (w : World) (hT : Tabs2 w) (n : Nat) (hn : n < 256) (m : Nat) (hm : m < 256) :
    Calls Tryz.prog 5 #[.int .u8 n, .int .u8 m] w fun e w' => e = .returned (.bool true) ∧ Mods [] w w' := by
  have hex := examples13_any w hT
  obtain ⟨k, hk, hkz⟩ : ∃ k : Nat, k < 81 ∧ (n : Int).tmod 81 = (k : Int) := ⟨n % 81, by omega, by rw [Int.tmod_eq_emod_of_nonneg (by omega)]; omega⟩
  obtain ⟨d, hd, hdz⟩ : ∃ k : Nat, k < 4 ∧ (m : Int).tmod 4 = (k : Int) := ⟨m % 4, by omega, by rw [Int.tmod_eq_emod_of_nonneg (by omega)]; omega⟩
  have hd4 : (d : Int) < 4 := by omega
  have HT := Lib.hid hT
  clear hT
  go_enter Tryz.func5, Tryz.ntmps5
  go_wp2_with fail
  (with_reducible refine hex.mono ?_)
  rintro e w2 ⟨rfl, hM2⟩
  clear hex
  have hz1 := (Mods.refl [] w2).alloc (.cells #[.string ⟨#[40]⟩, .string ⟨#[45, 32]⟩, .string ⟨#[78, 79, 84, 32]⟩, .string ⟨#[77, 65, 88, 40]⟩] 9)
  have hc1 : (w2.alloc (.cells #[.string ⟨#[40]⟩, .string ⟨#[45, 32]⟩, .string ⟨#[78, 79, 84, 32]⟩, .string ⟨#[77, 65, 88, 40]⟩] 9)).cell? ⟨w2.heap.size, d, none⟩ = some (.string ⟨(dpOpen d).toArray⟩) := by
    rw [cell_of_heap (heap_alloc_new w2 _) d]
    have h2 : d = 0 ∨ d = 1 ∨ d = 2 ∨ d = 3 := by omega
    rcases h2 with rfl | rfl | rfl | rfl <;> rfl
  have hMw3 := hM2.trans hz1 (by simp)
  clear hz1 hM2
  go_upto_region 6 with fail
  generalize w2.alloc (.cells #[.string ⟨#[40]⟩, .string ⟨#[45, 32]⟩, .string ⟨#[78, 79, 84, 32]⟩, .string ⟨#[77, 65, 88, 40]⟩] 9) = w3 at *
  generalize w2.heap.size = g at *
  have hz2 := (Mods.refl [] w3).alloc (.cells #[.string ⟨#[41]⟩, .string ⟨#[]⟩, .string ⟨#[]⟩, .string ⟨#[41]⟩] 9)
  have hc2 : (w3.alloc (.cells #[.string ⟨#[41]⟩, .string ⟨#[]⟩, .string ⟨#[]⟩, .string ⟨#[41]⟩] 9)).cell? ⟨w3.heap.size, d, none⟩ = some (.string ⟨(dpShut d).toArray⟩) := by
    rw [cell_of_heap (heap_alloc_new w3 _) d]
    have h2 : d = 0 ∨ d = 1 ∨ d = 2 ∨ d = 3 := by omega
    rcases h2 with rfl | rfl | rfl | rfl <;> rfl
  have hMw4 := hMw3.trans hz2 (by simp)
  clear hz2 hMw3 hc1
  go_upto_region 7 with fail
  generalize w3.alloc (.cells #[.string ⟨#[41]⟩, .string ⟨#[]⟩, .string ⟨#[]⟩, .string ⟨#[41]⟩] 9) = w4 at *
  generalize w3.heap.size = g2 at *
  clear hc2
  have hop := dpOpen_small hd
  have hsh := dpShut_small hd
  obtain ⟨O, hO⟩ : ∃ S : ByteArray, (⟨(dpOpen d).toArray⟩ : ByteArray) = S := ⟨_, rfl⟩
  obtain ⟨C, hC⟩ : ∃ S : ByteArray, (⟨(dpShut d).toArray⟩ : ByteArray) = S := ⟨_, rfl⟩
  have hOs : O.size ≤ 4 := by rw [← hO]; exact hop
  have hCs : C.size ≤ 4 := by rw [← hC]; exact hsh
  rw [hO, hC]
  have HOC := Lib.hid (And.intro hO hC)
  clear hO hC hop hsh hkz hdz hd4
  go_wp2_with fail
  go_loopg [9, 10] k (fun gk t9 t10 wr => ∃ i : Nat, i + gk = k ∧ t10 = .int .i64 i ∧ t9 = .string ⟨(dpA d i).toArray⟩ ∧ w4 = wr)
  case atStart => exact ⟨0, by omega, rfl, rfl, rfl⟩
  obtain ⟨i, hi, rfl, rfl, rfl⟩ := hrel
  rcases Nat.lt_or_ge i k with hlt | hge
  · have hsz := dpA_small hd i
    obtain ⟨S, hS⟩ : ∃ S : ByteArray, (⟨(dpA d i).toArray⟩ : ByteArray) = S := ⟨_, rfl⟩
    have hSs : S.size ≤ 400 := by rw [← hS]; show (dpA d i).length ≤ 400; omega
    have hnx : S ++ O = ⟨(dpA d (i + 1)).toArray⟩ := by rw [← hS, ← HOC.out.1]; exact cat2 _ _
    rw [hS]
    have HN := Lib.hid hnx
    clear hS hnx hsz
    go_wp2_with fail
    go_roundg (k - (i + 1))
    case measure => omega
    case rel => exact ⟨i + 1, by omega, by go_num, by rw [HN.out], rfl⟩
  obtain rfl : k = i := by omega
  obtain ⟨S1, hS1⟩ : ∃ S : ByteArray, (⟨(dpA d k).toArray⟩ : ByteArray) = S := ⟨_, rfl⟩
  have hsz1 := dpA_small hd k
  have hS1s : S1.size ≤ 400 := by rw [← hS1]; show (dpA d k).length ≤ 400; omega
  have hb0 : S1 ++ (⟨#[97]⟩ : ByteArray) = ⟨(dpB d k 0).toArray⟩ := by rw [← hS1]; exact cat2 _ [97]
  have HB0 := Lib.hid hb0
  rw [hS1]
  clear hS1 hsz1 hb0 hi hge
  go_wp2_with fail
  go_loopg [9, 11] k (fun gk t9 t11 wr => ∃ i : Nat, i + gk = k ∧ t11 = .int .i64 i ∧ t9 = .string ⟨(dpB d k i).toArray⟩ ∧ w4 = wr)
  case atStart => exact ⟨0, by omega, rfl, congrArg Value.string HB0.out, rfl⟩
  obtain ⟨i, hi, rfl, rfl, rfl⟩ := hrel
  rcases Nat.lt_or_ge i k with hlt | hge
  · have hsz := dpB_small hd k i
    obtain ⟨S, hS⟩ : ∃ S : ByteArray, (⟨(dpB d k i).toArray⟩ : ByteArray) = S := ⟨_, rfl⟩
    have hSs : S.size ≤ 800 := by rw [← hS]; show (dpB d k i).length ≤ 800; omega
    have hnx : S ++ C = ⟨(dpB d k (i + 1)).toArray⟩ := by rw [← hS, ← HOC.out.2]; exact cat2 _ _
    rw [hS]
    have HN := Lib.hid hnx
    clear hS hnx hsz
    go_wp2_with fail
    go_roundg (k - (i + 1))
    case measure => omega
    case rel => exact ⟨i + 1, by omega, by go_num, by rw [HN.out], rfl⟩
  obtain rfl : k = i := by omega
  obtain ⟨S2, hS2⟩ : ∃ S : ByteArray, (⟨(dpB d k k).toArray⟩ : ByteArray) = S := ⟨_, rfl⟩
  have hsz2 := dpB_small hd k k
  have hS2s : S2.size ≤ 800 := by rw [← hS2]; show (dpB d k k).length ≤ 800; omega
  have hT2 : S2 ++ (⟨#[32, 70, 82, 79, 77, 32, 116]⟩ : ByteArray) = ⟨(dpT d k).toArray⟩ := by rw [← hS2]; exact cat2 _ [32, 70, 82, 79, 77, 32, 116]
  have hTl : (dpT d k).length ≤ 9223372036854775807 := by unfold dpT; rw [List.length_append]; simp; omega
  have hok := dp_all hd hk
  rw [hS2]
  obtain ⟨o, ho⟩ : ∃ z, O.size = z := ⟨_, rfl⟩
  have hol : (dpOpen d).length = o := by rw [← ho, ← HOC.out.1]; rfl
  have ho4 : o ≤ 4 := by omega
  by_cases h64 : 64 < k
  · have hbad : parseV (dpT d k) = .bad (7 + 64 * o) 9 := by
      unfold dpOk at hok
      rw [if_pos h64, hol] at hok
      exact of_decide_eq_true hok
    have hp : Calls Tryz.prog 13 #[.string (S2 ++ (⟨#[32, 70, 82, 79, 77, 32, 116]⟩ : ByteArray))] w4 (fun e w' => e = .returned (.tuple #[.pointer none, .int .i64 ((7 + 64 * o : Nat) : Int), .int .i64 ((9 : Nat) : Int)]) ∧ Mods [] w4 w') := by
      rw [hT2]; exact parse_bad w4 (HT.out.1.mods hMw4) _ _ _ hbad hTl
    clear hS2 hsz2 hT2 hTl hok hbad hol HB0 HOC hi hge
    go_wp2_with fail
    (with_reducible refine hp.mono ?_)
    rintro e w5 ⟨rfl, hM5⟩
    clear hp
    go_wp2_with fail
    go_ret
    exact ⟨rfl, hMw4.trans hM5 (by simp)⟩
  · obtain ⟨q, hq⟩ : ∃ q, parseV (dpT d k) = .good q := by
      unfold dpOk at hok
      rw [if_neg h64] at hok
      cases hp : parseV (dpT d k) with
      | good q => exact ⟨q, rfl⟩
      | bad p k => rw [hp] at hok; cases hok
    have hp : Calls Tryz.prog 13 #[.string (S2 ++ (⟨#[32, 70, 82, 79, 77, 32, 116]⟩ : ByteArray))] w4 (fun e w' => ∃ qb, e = .returned (.tuple #[PtrV qb, .int .i64 0, .int .i64 0]) ∧ Mods [] w4 w' ∧ QueryAt w' [] qb q ∧ QueryOk q) := by
      rw [hT2]; exact parse_good w4 (HT.out.1.mods hMw4) _ _ hq hTl
    clear hS2 hsz2 hT2 hTl hok hq hol HB0 HOC hi hge
    go_wp2_with fail
    (with_reducible refine hp.mono ?_)
    rintro e w5 ⟨qb, rfl, hM5, -, -⟩
    unfold PtrV
    clear hp
    go_wp2_with fail
    go_ret
    exact ⟨rfl, hMw4.trans hM5 (by simp)⟩
end Go.Proofs.YtgbpoaimbjlamaaGreatDoor
