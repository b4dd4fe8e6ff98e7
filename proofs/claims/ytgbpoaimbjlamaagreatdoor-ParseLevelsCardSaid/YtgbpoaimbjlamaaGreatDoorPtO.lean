/-
  The law ParseLevels, walked. No condition but that Go's own variables hold what they were laid with.
-/
import Derived.Test.YtgbpoaimbjlamaaGreatDoorPtI
import Derived.Deep.RegionLaw
namespace Go.Proofs.YtgbpoaimbjlamaaGreatDoor
open Go.RowKit
set_option linter.unusedVariables false

theorem opL_at (w : World) (i : Nat) (h : i < 8) : (w.alloc (.cells #[.string ⟨#[111, 114]⟩, .string ⟨#[97, 110, 100]⟩, .string ⟨#[61]⟩, .string ⟨#[60]⟩, .string ⟨#[43]⟩, .string ⟨#[45]⟩, .string ⟨#[42]⟩, .string ⟨#[47]⟩] 9)).cell? ⟨w.heap.size, i, none⟩ = some (.string ⟨(opL i).toArray⟩) := by
  rw [cell_of_heap (heap_alloc_new w _) i]
  rcases op_cases h with rfl | rfl | rfl | rfl | rfl | rfl | rfl | rfl <;> rfl
theorem opV_at (w : World) (i : Nat) (h : i < 8) : (w.alloc (.cells #[.int .i64 0, .int .i64 1, .int .i64 2, .int .i64 2, .int .i64 3, .int .i64 3, .int .i64 4, .int .i64 4] 3)).cell? ⟨w.heap.size, i, none⟩ = some (.int .i64 (opV i : Nat)) := by
  rw [cell_of_heap (heap_alloc_new w _) i]
  rcases op_cases h with rfl | rfl | rfl | rfl | rfl | rfl | rfl | rfl <;> rfl
set_option linter.unusedSimpArgs false
theorem cat_bs (a b : Bs) : (⟨a.toArray⟩ : ByteArray) ++ ⟨b.toArray⟩ = ⟨(a ++ b).toArray⟩ := cat2 a b
set_option maxRecDepth 100000 in
set_option maxHeartbeats 4000000 in
theorem parseLevels_walk (w : World) (hT : Tabs2 w) (na : Nat) (hna : na < 65536) (nb : Nat) (hnb : nb < 65536) (nc : Nat) (hnc : nc < 65536) (np : Nat) (hnp : np < 256) (nk : Nat) (hnk : nk < 256) :
    Calls Tryz.prog 4 #[.int .u16 na, .int .u16 nb, .int .u16 nc, .int .u8 np, .int .u8 nk] w fun e w' => e = .returned (.bool true) ∧ Mods [] w w' := by
  have hex := examples13_any w hT
  obtain ⟨i, hi, hiz⟩ : ∃ k : Nat, k < 8 ∧ (np : Int).tmod 8 = (k : Int) := ⟨np % 8, by omega, by rw [Int.tmod_eq_emod_of_nonneg (by omega)]; omega⟩
  obtain ⟨k, hk, hkz⟩ : ∃ k : Nat, k < 8 ∧ (nk : Int).tmod 8 = (k : Int) := ⟨nk % 8, by omega, by rw [Int.tmod_eq_emod_of_nonneg (by omega)]; omega⟩
  have hlv := lv_show (a := na % 14) (b := nb % 14) (c := nc % 14) (Nat.mod_lt _ (by decide)) hi (Nat.mod_lt _ (by decide)) hk (Nat.mod_lt _ (by decide))
  have hA := wd_small (i := na % 14) (Nat.mod_lt _ (by decide))
  have hB := wd_small (i := nb % 14) (Nat.mod_lt _ (by decide))
  have hC := wd_small (i := nc % 14) (Nat.mod_lt _ (by decide))
  have hOi := op_small hi
  have hOk := op_small hk
  have w1 := fun w => word13_any w na hna
  have w2 := fun w => word13_any w nb hnb
  have w3 := fun w => word13_any w nc hnc
  unfold lvX leftS rightS at hlv
  generalize wdL (na % 14) = A at *
  generalize wdL (nb % 14) = B at *
  generalize wdL (nc % 14) = C at *
  have hcat : (⟨A.toArray⟩ : ByteArray) ++ ⟨#[32]⟩ ++ ⟨(opL i).toArray⟩ ++ ⟨#[32]⟩ ++ ⟨B.toArray⟩ ++ ⟨#[32]⟩ ++ ⟨(opL k).toArray⟩ ++ ⟨#[32]⟩ ++ ⟨C.toArray⟩ = ⟨(A ++ ([32] ++ (opL i ++ ([32] ++ (B ++ ([32] ++ (opL k ++ ([32] ++ C)))))))).toArray⟩ := by
    have e : (⟨#[32]⟩ : ByteArray) = ⟨([32] : Bs).toArray⟩ := rfl
    simp only [e, cat_bs]
    simp
  have hleft : (⟨#[40]⟩ : ByteArray) ++ ⟨(opL k).toArray⟩ ++ ⟨#[32, 40]⟩ ++ ⟨(opL i).toArray⟩ ++ ⟨#[32]⟩ ++ ⟨A.toArray⟩ ++ ⟨#[32]⟩ ++ ⟨B.toArray⟩ ++ ⟨#[41, 32]⟩ ++ ⟨C.toArray⟩ ++ ⟨#[41]⟩ = ⟨([40] ++ opL k ++ [32, 40] ++ opL i ++ [32] ++ A ++ [32] ++ B ++ [41, 32] ++ C ++ [41] : Bs).toArray⟩ := by
    have e : (⟨#[32]⟩ : ByteArray) = ⟨([32] : Bs).toArray⟩ := rfl
    have e1 : (⟨#[40]⟩ : ByteArray) = ⟨([40] : Bs).toArray⟩ := rfl
    have e2 : (⟨#[32, 40]⟩ : ByteArray) = ⟨([32, 40] : Bs).toArray⟩ := rfl
    have e3 : (⟨#[41, 32]⟩ : ByteArray) = ⟨([41, 32] : Bs).toArray⟩ := rfl
    have e4 : (⟨#[41]⟩ : ByteArray) = ⟨([41] : Bs).toArray⟩ := rfl
    simp only [e, e1, e2, e3, e4, cat_bs]
  have hright : (⟨#[40]⟩ : ByteArray) ++ ⟨(opL i).toArray⟩ ++ ⟨#[32]⟩ ++ ⟨A.toArray⟩ ++ ⟨#[32, 40]⟩ ++ ⟨(opL k).toArray⟩ ++ ⟨#[32]⟩ ++ ⟨B.toArray⟩ ++ ⟨#[32]⟩ ++ ⟨C.toArray⟩ ++ ⟨#[41, 41]⟩ = ⟨([40] ++ opL i ++ [32] ++ A ++ [32, 40] ++ opL k ++ [32] ++ B ++ [32] ++ C ++ [41, 41] : Bs).toArray⟩ := by
    have e : (⟨#[32]⟩ : ByteArray) = ⟨([32] : Bs).toArray⟩ := rfl
    have e1 : (⟨#[40]⟩ : ByteArray) = ⟨([40] : Bs).toArray⟩ := rfl
    have e2 : (⟨#[32, 40]⟩ : ByteArray) = ⟨([32, 40] : Bs).toArray⟩ := rfl
    have e4 : (⟨#[41, 41]⟩ : ByteArray) = ⟨([41, 41] : Bs).toArray⟩ := rfl
    simp only [e, e1, e2, e4, cat_bs]
  have hsh := fun w hT => show13_any w hT (A ++ ([32] ++ (opL i ++ ([32] ++ (B ++ ([32] ++ (opL k ++ ([32] ++ C)))))))) (by simp only [List.length_append, List.length_cons, List.length_nil]; omega)
  rw [← hcat] at hsh
  generalize A ++ ([32] ++ (opL i ++ ([32] ++ (B ++ ([32] ++ (opL k ++ ([32] ++ C))))))) = LV at *
  have hG : (⟨(showV LV).toArray⟩ : ByteArray) = if opV i = 2 ∧ opV k = 2 then ⟨#[]⟩ else if opV k ≤ opV i then (⟨#[40]⟩ : ByteArray) ++ ⟨(opL k).toArray⟩ ++ ⟨#[32, 40]⟩ ++ ⟨(opL i).toArray⟩ ++ ⟨#[32]⟩ ++ ⟨A.toArray⟩ ++ ⟨#[32]⟩ ++ ⟨B.toArray⟩ ++ ⟨#[41, 32]⟩ ++ ⟨C.toArray⟩ ++ ⟨#[41]⟩ else (⟨#[40]⟩ : ByteArray) ++ ⟨(opL i).toArray⟩ ++ ⟨#[32]⟩ ++ ⟨A.toArray⟩ ++ ⟨#[32, 40]⟩ ++ ⟨(opL k).toArray⟩ ++ ⟨#[32]⟩ ++ ⟨B.toArray⟩ ++ ⟨#[32]⟩ ++ ⟨C.toArray⟩ ++ ⟨#[41, 41]⟩ := by
    rw [hlv, hleft, hright]
    split
    · rfl
    split <;> rfl
  clear hlv hleft hright hcat
  generalize showV LV = GV at *
  have hoi := opL_at
  have hov := opV_at
  have hAs : (⟨A.toArray⟩ : ByteArray).size ≤ 4 := hA.1
  have hBs : (⟨B.toArray⟩ : ByteArray).size ≤ 4 := hB.1
  have hCs : (⟨C.toArray⟩ : ByteArray).size ≤ 4 := hC.1
  have hIs : (⟨(opL i).toArray⟩ : ByteArray).size ≤ 3 := hOi.1
  have hKs : (⟨(opL k).toArray⟩ : ByteArray).size ≤ 3 := hOk.1
  generalize (⟨GV.toArray⟩ : ByteArray) = G at *
  have HG := Lib.hid hG
  have HT := Lib.hid hT
  have HO : Hid (∀ w : World, _) := Lib.hid (fun w => And.intro (hoi w i hi) (hoi w k hk))
  have HV : Hid (∀ w : World, _) := Lib.hid (fun w => And.intro (hov w i hi) (hov w k hk))
  have hli : opV i ≤ 4 := opV_le hi
  have hlk : opV k ≤ 4 := opV_le hk
  clear hG hT hoi hov hA hB hC hOi hOk
  generalize (⟨A.toArray⟩ : ByteArray) = SA at *
  generalize (⟨B.toArray⟩ : ByteArray) = SB at *
  generalize (⟨C.toArray⟩ : ByteArray) = SC at *
  generalize (⟨(opL i).toArray⟩ : ByteArray) = SI at *
  generalize (⟨(opL k).toArray⟩ : ByteArray) = SK at *
  generalize opV i = vi at *
  generalize opV k = vk at *
  go_enter Tryz.func4, Tryz.ntmps4
  go_wp2_with fail
  (with_reducible refine hex.mono ?_)
  rintro e wa ⟨rfl, hMa⟩
  clear hex
  go_upto_region 5 with fail
  have hO := HO.out wa
  have hMb := hMa.trans ((Mods.refl [] wa).alloc (.cells #[.string ⟨#[111, 114]⟩, .string ⟨#[97, 110, 100]⟩, .string ⟨#[61]⟩, .string ⟨#[60]⟩, .string ⟨#[43]⟩, .string ⟨#[45]⟩, .string ⟨#[42]⟩, .string ⟨#[47]⟩] 9)) (by simp)
  generalize wa.alloc (.cells #[.string ⟨#[111, 114]⟩, .string ⟨#[97, 110, 100]⟩, .string ⟨#[61]⟩, .string ⟨#[60]⟩, .string ⟨#[43]⟩, .string ⟨#[45]⟩, .string ⟨#[42]⟩, .string ⟨#[47]⟩] 9) = wb at *
  generalize wa.heap.size = g at *
  go_upto_region 6 with fail
  have hV := HV.out wb
  have hbc := (Mods.refl [] wb).alloc (.cells #[.int .i64 0, .int .i64 1, .int .i64 2, .int .i64 2, .int .i64 3, .int .i64 3, .int .i64 4, .int .i64 4] 3)
  have hMc := hMb.trans hbc (by simp)
  have hO1 := hbc.cell hO.1 (by simp)
  have hO2 := hbc.cell hO.2 (by simp)
  generalize wb.alloc (.cells #[.int .i64 0, .int .i64 1, .int .i64 2, .int .i64 2, .int .i64 3, .int .i64 3, .int .i64 4, .int .i64 4] 3) = wc at *
  generalize wb.heap.size = g2 at *
  obtain ⟨hV1, hV2⟩ := hV
  clear HO HV hO hbc hMa hMb
  go_wp2_with fail
  (with_reducible refine (w1 wc).mono ?_)
  rintro e wd ⟨rfl, hMd⟩
  go_wp2_with fail
  (with_reducible refine (w2 wd).mono ?_)
  rintro e we ⟨rfl, hMe⟩
  go_wp2_with fail
  (with_reducible refine (w3 we).mono ?_)
  rintro e wf ⟨rfl, hMf⟩
  have hMcf := (hMd.trans hMe (by simp)).trans hMf (by simp)
  have hMwf := hMc.trans hMcf (by simp)
  have o1 := hMcf.cell hO1 (by simp)
  have o2 := hMcf.cell hO2 (by simp)
  have v1 := hMcf.cell hV1 (by simp)
  have v2 := hMcf.cell hV2 (by simp)
  clear w1 w2 w3 hMd hMe hMf hMcf hO1 hO2 hV1 hV2 hMc
  go_upto_region 11 with fail
  have hd := (Mods.refl [] wf).drew
  have hMd := hMwf.drew
  have o1d := hd.cell o1 (by simp)
  have o2d := hd.cell o2 (by simp)
  have v1d := hd.cell v1 (by simp)
  have v2d := hd.cell v2 (by simp)
  have hp := hsh wf.drew (HT.out.later hMd)
  have hki : (i : Int) < 8 := by omega
  have hkk : (k : Int) < 8 := by omega
  have n1 : ¬ 9223372036854775807 < SA.size + 1 := by omega
  have n2 : ¬ 9223372036854775807 < SA.size + 1 + SI.size := by omega
  have n3 : ¬ 9223372036854775807 < SA.size + 1 + SI.size + 1 := by omega
  have n4 : ¬ 9223372036854775807 < SA.size + 1 + SI.size + 1 + SB.size := by omega
  have n5 : ¬ 9223372036854775807 < SA.size + 1 + SI.size + 1 + SB.size + 1 := by omega
  have n6 : ¬ 9223372036854775807 < SA.size + 1 + SI.size + 1 + SB.size + 1 + SK.size := by omega
  have n7 : ¬ 9223372036854775807 < SA.size + 1 + SI.size + 1 + SB.size + 1 + SK.size + 1 := by omega
  have n8 : ¬ 9223372036854775807 < SA.size + 1 + SI.size + 1 + SB.size + 1 + SK.size + 1 + SC.size := by omega
  clear hsh
  go_region_law (go_simp; go_at_call 11; (with_reducible refine hp.mono ?_); rintro e w6 ⟨rfl, hM6⟩; have o16 := hM6.cell o1d (by simp); have o26 := hM6.cell o2d (by simp))
  all_goals
    have v16 := hM6.cell v1d (by simp)
    have v26 := hM6.cell v2d (by simp)
    have hMw6 := hMd.trans hM6 (by simp)
    clear hp hM6 hd n1 n2 n3 n4 n5 n6 n7 n8 o1d o2d v1d v2d hMd o1 o2 v1 v2
    go_upto_region 12 with fail
    have hd := (Mods.refl [] w6).drew
    have o1d := hd.cell o16 (by simp)
    have o2d := hd.cell o26 (by simp)
    have n1 : ¬ 9223372036854775807 < 1 + SK.size := by omega
    have n2 : ¬ 9223372036854775807 < 1 + SK.size + 2 := by omega
    have n3 : ¬ 9223372036854775807 < 1 + SK.size + 2 + SI.size := by omega
    have n4 : ¬ 9223372036854775807 < 1 + SK.size + 2 + SI.size + 1 := by omega
    have n5 : ¬ 9223372036854775807 < 1 + SK.size + 2 + SI.size + 1 + SA.size := by omega
    have n6 : ¬ 9223372036854775807 < 1 + SK.size + 2 + SI.size + 1 + SA.size + 1 := by omega
    have n7 : ¬ 9223372036854775807 < 1 + SK.size + 2 + SI.size + 1 + SA.size + 1 + SB.size := by omega
    have n8 : ¬ 9223372036854775807 < 1 + SK.size + 2 + SI.size + 1 + SA.size + 1 + SB.size + 2 := by omega
    have n9 : ¬ 9223372036854775807 < 1 + SK.size + 2 + SI.size + 1 + SA.size + 1 + SB.size + 2 + SC.size := by omega
    have n10 : ¬ 9223372036854775807 < 1 + SK.size + 2 + SI.size + 1 + SA.size + 1 + SB.size + 2 + SC.size + 1 := by omega
    go_quiet (fail)
    have x1 := (Mods.refl [] w6).drewN nq
    have o17 := x1.cell o16 (by simp)
    have o27 := x1.cell o26 (by simp)
    have v17 := x1.cell v16 (by simp)
    have v27 := x1.cell v26 (by simp)
    have hMw7 := hMw6.drewN nq
    generalize w6.drewN nq = w7 at *
    clear x1 hd o1d o2d o16 o26 v16 v26 hMw6 n1 n2 n3 n4 n5 n6 n7 n8 n9 n10
    go_upto_region 13 with fail
    have hd := (Mods.refl [] w7).drew
    have o1d := hd.cell o17 (by simp)
    have o2d := hd.cell o27 (by simp)
    have n1 : ¬ 9223372036854775807 < 1 + SI.size := by omega
    have n2 : ¬ 9223372036854775807 < 1 + SI.size + 1 := by omega
    have n3 : ¬ 9223372036854775807 < 1 + SI.size + 1 + SA.size := by omega
    have n4 : ¬ 9223372036854775807 < 1 + SI.size + 1 + SA.size + 2 := by omega
    have n5 : ¬ 9223372036854775807 < 1 + SI.size + 1 + SA.size + 2 + SK.size := by omega
    have n6 : ¬ 9223372036854775807 < 1 + SI.size + 1 + SA.size + 2 + SK.size + 1 := by omega
    have n7 : ¬ 9223372036854775807 < 1 + SI.size + 1 + SA.size + 2 + SK.size + 1 + SB.size := by omega
    have n8 : ¬ 9223372036854775807 < 1 + SI.size + 1 + SA.size + 2 + SK.size + 1 + SB.size + 1 := by omega
    have n9 : ¬ 9223372036854775807 < 1 + SI.size + 1 + SA.size + 2 + SK.size + 1 + SB.size + 1 + SC.size := by omega
    have n10 : ¬ 9223372036854775807 < 1 + SI.size + 1 + SA.size + 2 + SK.size + 1 + SB.size + 1 + SC.size + 2 := by omega
    go_quiet (fail)
    have x1 := (Mods.refl [] w7).drewN nq
    have v18 := x1.cell v17 (by simp)
    have v28 := x1.cell v27 (by simp)
    have hMw8 := hMw7.drewN nq
    generalize w7.drewN nq = w8 at *
    clear x1 hd o1d o2d o17 o27 v17 v27 hMw7 n1 n2 n3 n4 n5 n6 n7 n8 n9 n10
    go_upto_region 14 with fail
    have hcase : (vi = 2 ∧ vk = 2) ∨ ((vi : Int) == 2) = false ∨ (vi = 2 ∧ ((vk : Int) == 2) = false) := by
      by_cases h1 : vi = 2
      · by_cases h2 : vk = 2
        · exact .inl ⟨h1, h2⟩
        · exact .inr (.inr ⟨h1, beq_eq_false_iff_ne.2 (by omega)⟩)
      · exact .inr (.inl (beq_eq_false_iff_ne.2 (by omega)))
    rcases hcase with ⟨h1, h2⟩ | z1 | ⟨h1, z2⟩
    · have hG := HG.out
      rw [if_pos ⟨h1, h2⟩] at hG
      clear HG
      subst hG
      subst h1
      subst h2
      change w8.cell? _ = some (.int .i64 2) at v18
      change w8.cell? _ = some (.int .i64 2) at v28
      go_wp2_with fail
      go_ret
      exact ⟨rfl, hMw8⟩
    · have hno : ¬ (vi = 2 ∧ vk = 2) := fun h => absurd z1 (by rw [h.1]; decide)
      go_upto_region 16 with fail
      have hd := (Mods.refl [] w8).drew
      have v1d := hd.cell v18 (by simp)
      have v2d := hd.cell v28 (by simp)
      by_cases hle : vk ≤ vi
      · have hlz : (vk : Int) ≤ (vi : Int) := by omega
        have hG := HG.out
        rw [if_neg hno, if_pos hle] at hG
        clear HG
        subst hG
        clear hle hno
        go_quiet (fail)
        have hMw9 := hMw8.drewN nq
        generalize w8.drewN nq = w9 at *
        go_wp2_with fail
        go_ret
        exact ⟨rfl, hMw9⟩
      · have hlz : ¬ (vk : Int) ≤ (vi : Int) := by omega
        have hG := HG.out
        rw [if_neg hno, if_neg hle] at hG
        clear HG
        subst hG
        clear hle hno
        go_quiet (fail)
        have hMw9 := hMw8.drewN nq
        generalize w8.drewN nq = w9 at *
        go_wp2_with fail
        go_ret
        exact ⟨rfl, hMw9⟩
    · have hno : ¬ (vi = 2 ∧ vk = 2) := fun h => absurd z2 (by rw [h.2]; decide)
      have z1 : ((vi : Int) == 2) = true := by rw [h1]; rfl
      clear h1
      go_upto_region 16 with fail
      have hd := (Mods.refl [] w8).drew
      have v1d := hd.cell v18 (by simp)
      have v2d := hd.cell v28 (by simp)
      by_cases hle : vk ≤ vi
      · have hlz : (vk : Int) ≤ (vi : Int) := by omega
        have hG := HG.out
        rw [if_neg hno, if_pos hle] at hG
        clear HG
        subst hG
        clear hle hno
        go_quiet (fail)
        have hMw9 := hMw8.drewN nq
        generalize w8.drewN nq = w9 at *
        go_wp2_with fail
        go_ret
        exact ⟨rfl, hMw9⟩
      · have hlz : ¬ (vk : Int) ≤ (vi : Int) := by omega
        have hG := HG.out
        rw [if_neg hno, if_neg hle] at hG
        clear HG
        subst hG
        clear hle hno
        go_quiet (fail)
        have hMw9 := hMw8.drewN nq
        generalize w8.drewN nq = w9 at *
        go_wp2_with fail
        go_ret
        exact ⟨rfl, hMw9⟩
end Go.Proofs.YtgbpoaimbjlamaaGreatDoor
