/-
  The law LexTexts, walked whole. No condition but that Go's own variables hold what they were laid with.
-/
import Derived.Test.YtcjijjdoglpjbaaDoorLyB
namespace Go.Proofs.YtcjijjdoglpjbaaDoor
open Go.RowKit
set_option linter.unusedVariables false

theorem dbl_snoc (l : List UInt8) (c : UInt8) : dbl (l ++ [c]) = dbl l ++ (if c = 39 then [39, 39] else [c]) := by
  rw [dbl_append]
  congr 1
theorem app_list (a b : ByteArray) : (a ++ b).data.toList = a.data.toList ++ b.data.toList := by simp
theorem size_list (a : ByteArray) : a.size = a.data.toList.length := rfl

set_option maxRecDepth 100000 in
set_option maxHeartbeats 2000000 in
theorem lexTexts_walk (w : World) (hT : Tabs w) (s0 : ByteArray) (hs0 : s0.size ≤ 140737488351232) :
    Calls Tryd.prog 5 #[.string s0] w fun e w' => e = .returned (.bool true) ∧ Mods [] w w' := by
  obtain ⟨m, hm, hm1⟩ : ∃ m : Nat, ((s0.size ≤ 250 ∧ m = s0.size) ∨ (250 < s0.size ∧ m = 250)) ∧ m ≤ 250 ∧ m ≤ s0.size := ⟨if s0.size ≤ 250 then s0.size else 250, by split <;> omega, by split <;> omega⟩
  have hmin := fun w => run_min (P := Tryd.prog) w 3 3 3 .i64 s0.size 250 m (by omega)
  obtain ⟨S, hS⟩ : ∃ S, s0.extract 0 m = S := ⟨_, rfl⟩
  have hSs : S.size = m := by
    rw [← hS, size_list, show (0 : Nat) = 0 from rfl]
    have := ext_list s0 0 m
    rw [Nat.zero_add] at this
    rw [this, List.length_take, List.length_drop, ← size_list]; omega
  have hmz : (m : Int) ≤ (s0.size : Int) := by omega
  clear hm
  go_enter Tryd.func5, Tryd.ntmps5
  go_wp2_with fail
  refine (examples11 _ hT).mono ?_
  rintro e w1 ⟨rfl, hM1⟩
  have hT1 := hT.mods hM1
  go_wp2_with fail
  have HSS := Lib.hid hSs
  clear hS hmin hSs hmz hT
  go_loop [4, 5] (fun t4 t5 => ∃ (i : Nat) (Q : ByteArray), i ≤ S.size ∧ t5 = .int .i64 i ∧ t4 = .string Q ∧ Q.size ≤ 1 + 2 * i ∧ Hid (Q.data.toList = 39 :: dbl (S.data.toList.take i))) (fun _ t5 => S.size - (intOf t5).toNat)
  case atStart => exact ⟨0, ⟨#[39]⟩, by omega, rfl, rfl, by decide, Lib.hid (by simp [dbl])⟩
  case round =>
    obtain ⟨i, Q, hi, rfl, rfl, hQ, HQ⟩ := hrel
    by_cases hlt : i < S.size
    · have hx := s_at S i hlt
      obtain ⟨x, hx'⟩ : ∃ x, S[i] = x := ⟨_, rfl⟩
      rw [hx'] at hx
      have htk : S.data.toList.take (i + 1) = S.data.toList.take i ++ [x] := by
        rw [List.take_add_one, hx]; rfl
      have hpc : (S.extract i (i + 1)).data.toList = [x] := by
        rw [ext_list]
        have h1 : i < S.data.toList.length := hlt
        rw [List.drop_eq_getElem_cons h1]
        obtain ⟨h2, h3⟩ := List.getElem?_eq_some_iff.1 hx
        rw [h3]; rfl
      have hps : (S.extract i (i + 1)).size = 1 := by rw [size_list, hpc]; rfl
      have hd := dbl_snoc (S.data.toList.take i) x
      have HTK := Lib.hid htk
      have HPC := Lib.hid hpc
      have HD := Lib.hid hd
      have hSz : (i : Int) < (S.size : Int) := by omega
      have hS2 : S.size ≤ 250 := by rw [HSS.out]; omega
      have hc1 : ¬ 9223372036854775807 < Q.size + 1 := by omega
      have hc2 : ¬ 9223372036854775807 < Q.size + (S.extract i (i + 1)).size := by rw [hps]; omega
      have HPS := Lib.hid hps
      clear hx htk hpc hd hps
      by_cases hq : x = 39
      · have hqz : ((x.toNat : Int) == 39) = true := by rw [hq]; rfl
        have hc3 : ¬ 9223372036854775807 < (Q ++ ⟨#[39]⟩ : ByteArray).size + (S.extract i (i + 1)).size := by rw [HPS.out, ByteArray.size_append]; show ¬ _ < Q.size + 1 + 1; omega
        have HX := Lib.hid hq
        clear hq
        go_wp2_with fail
        go_round
        case measure => simp [intOf]; omega
        case rel =>
          refine ⟨i + 1, _, by omega, by go_num, rfl, ?_, Lib.hid ?_⟩
          · rw [ByteArray.size_append, ByteArray.size_append, HPS.out]; show Q.size + 1 + 1 ≤ _; omega
          · rw [app_list, app_list, HQ.out, HTK.out, HD.out, if_pos HX.out, HPC.out, HX.out]; simp
      · have hqn : x.toNat ≠ 39 := fun h => hq (UInt8.toNat_inj.1 h)
        have hqz : ((x.toNat : Int) == 39) = false := by rw [beq_eq_false_iff_ne]; omega
        clear hqn
        have HX := Lib.hid hq
        clear hq
        go_wp2_with fail
        go_round
        case measure => simp [intOf]; omega
        case rel =>
          refine ⟨i + 1, _, by omega, by go_num, rfl, ?_, Lib.hid ?_⟩
          · rw [ByteArray.size_append, HPS.out]; omega
          · rw [app_list, HQ.out, HTK.out, HD.out, if_neg HX.out, HPC.out]; simp
    · obtain rfl : i = S.size := by omega
      have hfull : S.data.toList.take S.size = S.data.toList := List.take_of_length_le (Nat.le_refl _)
      have hQ2 : Q.data.toList = 39 :: dbl S.data.toList := by rw [HQ.out, hfull]
      have hS2 : S.size ≤ 250 := by rw [HSS.out]; omega
      have hA : (Q ++ ⟨#[39]⟩ : ByteArray).data.toList = 39 :: (dbl S.data.toList ++ [39]) := by rw [app_list, hQ2]; rfl
      have hAs : (Q ++ ⟨#[39]⟩ : ByteArray).size ≤ 4096 := by rw [ByteArray.size_append]; show Q.size + 1 ≤ _; omega
      have hla := lex_text S.data.toList
      have hc1 : ¬ 9223372036854775807 < Q.size + 1 := by omega
      have hopen := fun w (h : Tabs w) => all_bad w h Q (by omega) 0 (by rw [hQ2]; exact lex_open _)
      rw [← hA, ← size_list] at hla
      clear hfull hQ2 hlt
      by_cases h200 : 200 < S.size
      · rw [if_pos h200] at hla
        have h200z : (200 : Int) < (S.size : Int) := by omega
        have hall := all_bad w1 hT1 _ hAs 0 hla
        clear hla hA
        go_wp2_with fail
        (with_reducible refine hall.mono ?_)
        rintro e w2 ⟨rfl, hM2⟩
        have hT2 := hT1.mods hM2
        clear hall
        go_wp2_with fail
        (with_reducible refine (hopen w2 hT2).mono ?_)
        rintro e w3 ⟨rfl, hM3⟩
        clear hopen
        go_wp2_with fail
        go_ret
        exact ⟨rfl, (hM1.trans hM2 (by simp)).trans hM3 (by simp)⟩
      · rw [if_neg h200] at hla
        have h200z : ¬ (200 : Int) < (S.size : Int) := by omega
        have hall := all_good w1 hT1 _ hAs _ hla
        clear hla hA
        go_wp2_with fail
        (with_reducible refine hall.mono ?_)
        rintro e w2 ⟨g, cap, rfl, hM2, hAt, hcap⟩
        have hT2 := hT1.mods hM2
        clear hall
        go_wp2_with fail
        (with_reducible refine (hopen w2 hT2).mono ?_)
        rintro e w3 ⟨rfl, hM3⟩
        have hA3 := hAt.mods hM3
        have c0 : w3.cell? ⟨g, 0, none⟩ = some (.int .i64 4) := hA3 0 _ rfl
        have c2 : w3.cell? ⟨g, 2, none⟩ = some (.string S) := hA3 2 _ rfl
        clear hopen hA3 hAt
        go_wp2_with fail
        go_ret
        exact ⟨rfl, (hM1.trans hM2 (by simp)).trans hM3 (by simp)⟩
end Go.Proofs.YtcjijjdoglpjbaaDoor
