/-
  The law LexReads, walked whole. No condition but that Go's own variables hold what they were laid with.
-/
import Derived.Test.YtpghimiecigakaaDoorRdF
import Derived.Test.YtpghimiecigakaaDoorLyB
import Derived.Test.YtpghimiecigakaaDoorLyC
namespace Go.Proofs.YtpghimiecigakaaDoor
open Go.RowKit
set_option linter.unusedVariables false


set_option maxRecDepth 100000 in
set_option maxHeartbeats 2000000 in
theorem lexReads_walk (w : World) (hT : Tabs w) (s : ByteArray) (hs0 : s.size ≤ 140737488351232) :
    Calls Tryd.prog 3 #[.string s] w fun e w' => e = .returned (.bool true) ∧ Mods [] w w' := by
  go_enter Tryd.func3, Tryd.ntmps3
  go_wp2_with fail
  refine (examples11 _ hT).mono ?_
  rintro e w1 ⟨rfl, hM1⟩
  have hT1 := hT.mods hM1
  have hA := all_any w1 hT1 s (by omega)
  have hR := fun W => all_ref W s (by omega)
  clear hT
  by_cases hbig : 4096 < s.size
  · unfold AllPost at hA hR
    simp only [if_pos hbig] at hA hR
    clear hbig
    go_wp2_with fail
    (with_reducible refine hA.mono ?_)
    rintro e w2 ⟨rfl, hM2⟩
    clear hA
    have hT2 := hT1.mods hM2
    go_wp2_with fail
    (with_reducible refine (hR w2).mono ?_)
    rintro e w3 ⟨rfl, hM3⟩
    clear hR
    have hT3 := hT2.mods hM3
    have hk1 := key_any w3 hT3 s
    have hk2 := fun W => key_ref W s
    obtain ⟨K, hK⟩ : ∃ K, isKey s.data.toList = K := ⟨_, rfl⟩
    rw [hK] at hk1 hk2
    clear hK
    go_wp2_with fail
    (with_reducible refine hk1.mono ?_)
    rintro e w4 ⟨rfl, hM4⟩
    clear hk1
    go_wp2_with fail
    (with_reducible refine (hk2 w4).mono ?_)
    rintro e w5 ⟨rfl, hM5⟩
    clear hk2
    have hMw := (((hM1.trans hM2 (by simp)).trans hM3 (by simp)).trans hM4 (by simp)).trans hM5 (by simp)
    clear hM1 hM2 hM3 hM4 hM5
    go_wp2_with fail
    go_loop [10] (fun t10 => t10 = .int .i64 0) (fun _ => 0)
    case atStart => rfl
    case round =>
      subst hrel
      go_wp2_with fail
      go_ret
      exact ⟨rfl, hMw⟩
  · cases hl : lexAll s.data.toList with
    | bad p =>
      unfold AllPost at hA hR
      simp only [if_neg hbig, hl] at hA hR
      clear hbig hl
      go_wp2_with fail
      (with_reducible refine hA.mono ?_)
      rintro e w2 ⟨rfl, hM2⟩
      clear hA
      have hT2 := hT1.mods hM2
      go_wp2_with fail
      (with_reducible refine (hR w2).mono ?_)
      rintro e w3 ⟨rfl, hM3⟩
      clear hR
      have hT3 := hT2.mods hM3
      have hk1 := key_any w3 hT3 s
      have hk2 := fun W => key_ref W s
      obtain ⟨K, hK⟩ : ∃ K, isKey s.data.toList = K := ⟨_, rfl⟩
      rw [hK] at hk1 hk2
      clear hK
      go_wp2_with fail
      (with_reducible refine hk1.mono ?_)
      rintro e w4 ⟨rfl, hM4⟩
      clear hk1
      go_wp2_with fail
      (with_reducible refine (hk2 w4).mono ?_)
      rintro e w5 ⟨rfl, hM5⟩
      clear hk2
      have hMw := (((hM1.trans hM2 (by simp)).trans hM3 (by simp)).trans hM4 (by simp)).trans hM5 (by simp)
      clear hM1 hM2 hM3 hM4 hM5
      go_wp2_with fail
      go_loop [10] (fun t10 => t10 = .int .i64 0) (fun _ => 0)
      case atStart => rfl
      case round =>
        subst hrel
        go_wp2_with fail
        go_ret
        exact ⟨rfl, hMw⟩
    | good ts =>
      have hb := lexAll_len hl
      have hne := lexAll_ne hl
      unfold AllPost at hA hR
      simp only [if_neg hbig, hl] at hA hR
      obtain ⟨n, hn⟩ : ∃ n, ts.length = n := ⟨_, rfl⟩
      have hnb : n ≤ 4097 := by have : s.data.toList.length = s.size := rfl; omega
      clear hl hb hbig
      go_wp2_with fail
      (with_reducible refine hA.mono ?_)
      rintro e w2 ⟨t1, rfl, hO1⟩
      obtain ⟨g1, cap1, rfl, hA1, hc1⟩ := hO1.at hne
      have hM2 := hO1.1
      rw [hn] at hc1 ⊢
      clear hA hO1
      have hT2 := hT1.mods hM2
      go_wp2_with fail
      (with_reducible refine (hR w2).mono ?_)
      rintro e w3 ⟨t2, rfl, hO2⟩
      obtain ⟨g2, cap2, rfl, hA2, hc2⟩ := hO2.at hne
      have hM3 := hO2.1
      rw [hn] at hc2 ⊢
      clear hR hO2
      have hT3 := hT2.mods hM3
      have hk1 := key_any w3 hT3 s
      have hk2 := fun W => key_ref W s
      obtain ⟨K, hK⟩ : ∃ K, isKey s.data.toList = K := ⟨_, rfl⟩
      rw [hK] at hk1 hk2
      clear hK
      go_wp2_with fail
      (with_reducible refine hk1.mono ?_)
      rintro e w4 ⟨rfl, hM4⟩
      clear hk1
      go_wp2_with fail
      (with_reducible refine (hk2 w4).mono ?_)
      rintro e w5 ⟨rfl, hM5⟩
      clear hk2
      have hMw := (((hM1.trans hM2 (by simp)).trans hM3 (by simp)).trans hM4 (by simp)).trans hM5 (by simp)
      have HAT := Lib.hid (And.intro (((hA1.mods hM3).mods hM4).mods hM5) ((hA2.mods hM4).mods hM5))
      clear hM1 hM2 hM3 hM4 hM5 hA1 hA2 hT1 hT2 hT3 hne
      have HN := Lib.hid hn
      clear hn
      go_wp2_with fail
      go_loopw [10] (fun t10 wx => ∃ i : Nat, i ≤ n ∧ t10 = .int .i64 i ∧ Mods [] w5 wx) (fun t10 _ => n - (intOf t10).toNat)
      case atStart => exact ⟨0, by omega, rfl, Mods.refl [] _⟩
      case round =>
        obtain ⟨i, hi, rfl, hM⟩ := hrel
        by_cases hlt : i < n
        · have hiz : (i : Int) < (n : Int) := by omega
          have hil : i < ts.length := by rw [HN.out]; exact hlt
          obtain ⟨c0, c1, c2, c3, c4⟩ := (HAT.out.1.mods hM).tok i hil
          obtain ⟨d0, d1, d2, d3, d4⟩ := (HAT.out.2.mods hM).tok i hil
          generalize ts[i]'hil = T at *
          go_upto_region 11 with fail
          go_quiet (fail)
          have hMy := hM.drewN nq
          generalize wr.drewN nq = wy at *
          clear c0 c1 c2 c3 c4 d0 d1 d2 d3 d4 hM
          go_wp2_with fail
          go_roundw
          case measure => simp [intOf]; omega
          case rel => exact ⟨i + 1, by omega, by go_num, hMy⟩
        · obtain rfl : i = n := by omega
          go_wp2_with fail
          go_ret
          exact ⟨rfl, hMw.trans hM (by simp)⟩
end Go.Proofs.YtpghimiecigakaaDoor
