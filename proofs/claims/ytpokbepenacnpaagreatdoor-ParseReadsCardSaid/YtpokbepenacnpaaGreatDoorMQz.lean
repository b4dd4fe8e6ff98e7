/-
  The law's rest of a query's text, walked: it is some text, of no great length. No condition.
-/
import Derived.Test.YtpokbepenacnpaaGreatDoorMLw
import Derived.Test.YtpokbepenacnpaaGreatDoorMPx
import Derived.Deep.CutRange
import Derived.Deep.CutBlock
import Derived.Deep.RegionLaw
namespace Go.Proofs.YtpokbepenacnpaaGreatDoor
open Go.RowKit
set_option linter.unusedVariables false

/-- A text of at most so many bytes comes back, and nothing old has changed. -/
def SomeText (w : World) (n : Nat) (e : Ending) (w' : World) : Prop := ∃ S : ByteArray, e = .returned (.string S) ∧ S.size ≤ n ∧ Mods [] w w'
def TextTo (w : World) (n : Nat) (s : Value) (w' : World) : Prop := ∃ S : ByteArray, s = .string S ∧ S.size ≤ n ∧ Mods [] w w'
def askC (ia : Option Addr) (ni ic : Nat) (ag : Nat) (st : Bool) (jo : Nat) (oa : Option Addr) (no oc : Nat) (wa : Option Addr) (nw wc : Nat) (hw : Bool) (ga : Option Addr) (ng gc : Nat) (ra : Option Addr) (nr rc : Nat) (lm lf : Nat) : Array Value :=
  #[.slice ia ni ic, .int .u16 ag, .bool st, .int .u8 jo, .slice oa no oc, .slice wa nw wc, .bool hw, .slice ga ng gc, .slice ra nr rc, .int .u8 lm, .int .u8 lf]
theorem wdL_small {n : Nat} (h : n < 14) : (⟨(wdL n).toArray⟩ : ByteArray).size ≤ 4 := (wd_small h).1
theorem digV_small (n : Nat) : (⟨(digV n).toArray⟩ : ByteArray).size ≤ 6 := digV_len n

set_option maxRecDepth 100000 in
set_option maxHeartbeats 8000000 in
theorem rest_any (w : World) (v : Value) (a : AskT) (h : AskIn w v a) : Calls Tryz.prog 27 #[v] w (SomeText w 300) := by
  obtain ⟨ia, ic, oa, oc, wa, wc, ga, gc, ra, rc, rfl, -, -, -, hG, hR, ⟨-, -, -, hg1, hr1⟩, -, -, hlm, hlf⟩ := h
  have hal := (Mods.refl [] w).alloc (.cells #[.slice ia a.items.length ic, .int .u16 (a.agg : Nat), .bool a.star, .int .u8 (a.join : Nat), .slice oa a.on.length oc, .slice wa a.whr.length wc, .bool a.hasWhere, .slice ga a.group.length gc, .slice ra a.order.length rc, .int .u8 (a.limit : Nat), .int .u8 (a.offset : Nat)] 27)
  have hbn := heap_alloc_new w (.cells #[.slice ia a.items.length ic, .int .u16 (a.agg : Nat), .bool a.star, .int .u8 (a.join : Nat), .slice oa a.on.length oc, .slice wa a.whr.length wc, .bool a.hasWhere, .slice ga a.group.length gc, .slice ra a.order.length rc, .int .u8 (a.limit : Nat), .int .u8 (a.offset : Nat)] 27)
  go_enter Tryz.func27, Tryz.ntmps27
  go_upto_region 1 with fail
  generalize w.alloc (.cells #[.slice ia a.items.length ic, .int .u16 (a.agg : Nat), .bool a.star, .int .u8 (a.join : Nat), .slice oa a.on.length oc, .slice wa a.whr.length wc, .bool a.hasWhere, .slice ga a.group.length gc, .slice ra a.order.length rc, .int .u8 (a.limit : Nat), .int .u8 (a.offset : Nat)] 27) = w1 at *
  have d7 := cell_of_heap hbn 7
  have d8 := cell_of_heap hbn 8
  have d9 := cell_of_heap hbn 9
  have d10 := cell_of_heap hbn 10
  change w1.cell? _ = some (.slice ga a.group.length gc) at d7
  change w1.cell? _ = some (.slice ra a.order.length rc) at d8
  change w1.cell? _ = some (.int .u8 (a.limit : Nat)) at d9
  change w1.cell? _ = some (.int .u8 (a.offset : Nat)) at d10
  obtain ⟨ng, hng⟩ : ∃ n, a.group.length = n := ⟨_, rfl⟩
  obtain ⟨nr, hnr⟩ : ∃ n, a.order.length = n := ⟨_, rfl⟩
  have HG := Lib.hid (And.intro (hG.mods hal) hng)
  have HR := Lib.hid (And.intro (hR.mods hal) hnr)
  have HAL := Lib.hid hal
  rw [hng] at d7 hg1
  rw [hnr] at d8 hr1
  generalize a.limit = lm at *
  generalize a.offset = lf at *
  generalize w.heap.size = ab at *
  clear hG hR hng hnr hbn hal
  go_upto_block 0 with fail
  go_cut [3] from 4 to 29 (fun s3 wx => TextTo w1 60 s3 wx)
  case first =>
    go_wp2_with fail
    go_loopg [3, 4] 3 (fun gk t3 t4 wr => ∃ (i : Nat) (S : ByteArray), i + gk = 3 ∧ t4 = .int .i64 i ∧ t3 = .string S ∧ S.size ≤ 20 * i ∧ Mods [] w1 wr)
    case atStart => exact ⟨0, ⟨#[]⟩, by omega, rfl, rfl, by decide, Mods.refl _ _⟩
    obtain ⟨i, S, hi, rfl, rfl, hS, hMr⟩ := hrel
    have e7 := hMr.cell d7 (by simp)
    by_cases hlt : i < ng ∧ i < 3
    · obtain ⟨h1, h2⟩ := hlt
      have hiq : i < a.group.length := by rw [HG.out.2]; exact h1
      obtain ⟨b, off, rfl, hc⟩ := HG.out.1 (by omega)
      obtain ⟨k0, hk⟩ := hc i hiq
      have k1 := hMr.cell k0 (by simp)
      obtain ⟨k, hkk⟩ : ∃ k, a.group[i] = k := ⟨_, rfl⟩
      rw [hkk] at k1 hk
      have hz1 : (i : Int) < (ng : Int) := by omega
      have hz2 : (i : Int) < 3 := by omega
      have hwd := wdL_small (n := k % 14) (by omega)
      have hw13 : ∀ W, Calls Tryz.prog 53 #[.int .u16 k] W fun e w' => e = .returned (.string ⟨(wdL (k % 14)).toArray⟩) ∧ Mods [] W w' := fun W => word13_any W k hk
      generalize (⟨(wdL (k % 14)).toArray⟩ : ByteArray) = SW at *
      clear hc k0 hkk hiq
      go_upto_region 5 with fail
      have hd := (Mods.refl [] wr).drew
      have f7 := hd.cell e7 (by simp)
      have f1 := hd.cell k1 (by simp)
      have hMd := hMr.trans hd (by simp)
      have hal := (Mods.refl [] wr).alloc (.cells #[.string ⟨#[32, 71, 82, 79, 85, 80, 32, 66, 89, 32]⟩, .string ⟨#[44, 32]⟩, .string ⟨#[44, 32]⟩] 9)
      have hMa := (hMr.trans hal (by simp)).drew
      have i7 := hal.cell e7 (by simp)
      have i1 := hal.cell k1 (by simp)
      have hbl := heap_alloc_new wr (.cells #[.string ⟨#[32, 71, 82, 79, 85, 80, 32, 66, 89, 32]⟩, .string ⟨#[44, 32]⟩, .string ⟨#[44, 32]⟩] 9)
      obtain ⟨L, hL, hel0⟩ : ∃ L : ByteArray, L.size ≤ 10 ∧ ∀ W : World, (W.alloc (.cells #[.string ⟨#[32, 71, 82, 79, 85, 80, 32, 66, 89, 32]⟩, .string ⟨#[44, 32]⟩, .string ⟨#[44, 32]⟩] 9)).cell? ⟨W.heap.size, i, none⟩ = some (.string L) := by
        have h3 : i = 0 ∨ i = 1 ∨ i = 2 := by omega
        rcases h3 with rfl | rfl | rfl
        · exact ⟨_, by decide, fun W => cell_of_heap (heap_alloc_new W _) 0⟩
        · exact ⟨⟨#[44, 32]⟩, by decide, fun W => cell_of_heap (heap_alloc_new W _) 1⟩
        · exact ⟨⟨#[44, 32]⟩, by decide, fun W => cell_of_heap (heap_alloc_new W _) 2⟩
      have hel := hel0 wr
      have HEL := Lib.hid hel0
      clear hel0
      clear hbl
      have i7d := hal.drew.cell e7 (by simp)
      have i1d := hal.drew.cell k1 (by simp)
      have m1 : ¬ 9223372036854775807 < S.size + L.size := by omega
      have m2 : ¬ 9223372036854775807 < S.size + L.size + SW.size := by omega
      go_region_law (first | (go_simp; go_at_call 53; (with_reducible refine (hw13 wr.drew).mono ?_); rintro e w2 ⟨rfl, hM2⟩; have hM3 := hMd.trans hM2 (by simp); have g7 := hM2.cell f7 (by simp); have g1 := hM2.cell f1 (by simp); have gl := HEL.out w2) | (go_simp; go_at_call 53; (with_reducible refine (hw13 _).mono ?_); rintro e w2 ⟨rfl, hM2⟩; have hM3 := hMa.trans hM2 (by simp); have g7 := hM2.cell i7d (by simp); have g1 := hM2.cell i1d (by simp); have gl := hM2.cell hel (by simp)))
      all_goals
        go_wp2_with fail
        go_roundg (3 - (i + 1))
        case measure => omega
        case rel => exact ⟨i + 1, _, by omega, by go_num, rfl, by simp only [ByteArray.size_append]; omega, by first | exact hM3 | exact hM3.alloc _⟩
    have hcase : (i : Int) < (ng : Int) ∧ ¬ (i : Int) < 3 ∨ ¬ (i : Int) < (ng : Int) := by omega
    have hfin : TextTo w1 60 (.string S) wr := ⟨S, rfl, by omega, hMr⟩
    have HFIN := Lib.hid hfin
    clear hfin hlt
    rcases hcase with ⟨z1, z2⟩ | z1
    · go_wp2_with fail
      go_meet
      exact HFIN.out
    · go_wp2_with fail
      go_meet
      exact HFIN.out
  case rest =>
  obtain ⟨S1, rfl, hS1, hM1⟩ := hcut
  generalize wc = V1 at *
  go_upto_block 2 with fail
  go_cut [3] from 5 to 64 (fun s3 wx => TextTo w1 160 s3 wx)
  case first =>
    go_wp2_with fail
    go_loopg [3, 5] 3 (fun gk t3 t5 wr => ∃ (i : Nat) (S : ByteArray), i + gk = 3 ∧ t5 = .int .i64 i ∧ t3 = .string S ∧ S.size ≤ 60 + 30 * i ∧ Mods [] w1 wr)
    case atStart => exact ⟨0, S1, by omega, rfl, rfl, by omega, hM1⟩
    obtain ⟨i, S, hi, rfl, rfl, hS, hMr⟩ := hrel
    have e8 := hMr.cell d8 (by simp)
    by_cases hlt : i < nr ∧ i < 3
    · obtain ⟨h1, h2⟩ := hlt
      have hiq : i < a.order.length := by rw [HR.out.2]; exact h1
      obtain ⟨b, off, rfl, hc⟩ := HR.out.1 (by omega)
      obtain ⟨k0, hk⟩ := hc i hiq
      have k1 := hMr.cell k0 (by simp)
      obtain ⟨k, hkk⟩ : ∃ k, a.order[i] = k := ⟨_, rfl⟩
      rw [hkk] at k1 hk
      have hz1 : (i : Int) < (nr : Int) := by omega
      have hz2 : (i : Int) < 3 := by omega
      obtain ⟨m, hm⟩ : ∃ m, k % 5 = m := ⟨_, rfl⟩
      have hmz : (k : Int).tmod 5 = (m : Int) := by rw [Int.tmod_eq_emod_of_nonneg (by omega)]; omega
      have hm5 : (m : Int) < 5 := by omega
      obtain ⟨L, hL, hA0⟩ : ∃ L : ByteArray, L.size ≤ 10 ∧ ∀ W : World, (W.alloc (.cells #[.string ⟨#[32, 79, 82, 68, 69, 82, 32, 66, 89, 32]⟩, .string ⟨#[44, 32]⟩, .string ⟨#[44, 32]⟩] 9)).cell? ⟨W.heap.size, i, none⟩ = some (.string L) := by
        have h3 : i = 0 ∨ i = 1 ∨ i = 2 := by omega
        rcases h3 with rfl | rfl | rfl
        · exact ⟨_, by decide, fun W => cell_of_heap (heap_alloc_new W _) 0⟩
        · exact ⟨⟨#[44, 32]⟩, by decide, fun W => cell_of_heap (heap_alloc_new W _) 1⟩
        · exact ⟨⟨#[44, 32]⟩, by decide, fun W => cell_of_heap (heap_alloc_new W _) 2⟩
      obtain ⟨L2, hL2, hB0⟩ : ∃ L : ByteArray, L.size ≤ 10 ∧ ∀ W : World, (W.alloc (.cells #[.string ⟨#[49]⟩, .string ⟨#[50]⟩, .string ⟨#[107, 49]⟩, .string ⟨#[97]⟩, .string ⟨#[51]⟩] 9)).cell? ⟨W.heap.size, m, none⟩ = some (.string L) := by
        have h3 : m = 0 ∨ m = 1 ∨ m = 2 ∨ m = 3 ∨ m = 4 := by omega
        rcases h3 with rfl | rfl | rfl | rfl | rfl
        · exact ⟨⟨#[49]⟩, by decide, fun W => cell_of_heap (heap_alloc_new W _) 0⟩
        · exact ⟨⟨#[50]⟩, by decide, fun W => cell_of_heap (heap_alloc_new W _) 1⟩
        · exact ⟨⟨#[107, 49]⟩, by decide, fun W => cell_of_heap (heap_alloc_new W _) 2⟩
        · exact ⟨⟨#[97]⟩, by decide, fun W => cell_of_heap (heap_alloc_new W _) 3⟩
        · exact ⟨⟨#[51]⟩, by decide, fun W => cell_of_heap (heap_alloc_new W _) 4⟩
      rw [hkk] at k0
      clear hc hkk hiq hm
      have pA : ∀ W : World, Mods [] W (W.alloc (.cells #[.string ⟨#[32, 79, 82, 68, 69, 82, 32, 66, 89, 32]⟩, .string ⟨#[44, 32]⟩, .string ⟨#[44, 32]⟩] 9)) := fun W => (Mods.refl [] W).alloc _
      have pB : ∀ W : World, Mods [] W (W.alloc (.cells #[.string ⟨#[49]⟩, .string ⟨#[50]⟩, .string ⟨#[107, 49]⟩, .string ⟨#[97]⟩, .string ⟨#[51]⟩] 9)) := fun W => (Mods.refl [] W).alloc _
      go_upto_region 9 with fail
      have hd := (Mods.refl [] wr).drew
      have a1 := hd.cell e8 (by simp)
      have a2 := hd.cell k1 (by simp)
      have b1 := (pA wr).cell e8 (by simp)
      have b2 := (pA wr).cell k1 (by simp)
      have b3 := hA0 wr
      have c1 := (pB wr).cell e8 (by simp)
      have c2 := (pB wr).cell k1 (by simp)
      have c3 := hB0 wr
      have x1 := (pB _).cell b1 (by simp)
      have x2 := (pB _).cell b2 (by simp)
      have x3 := (pB _).cell b3 (by simp)
      have x4 := hB0 (wr.alloc (.cells #[.string ⟨#[32, 79, 82, 68, 69, 82, 32, 66, 89, 32]⟩, .string ⟨#[44, 32]⟩, .string ⟨#[44, 32]⟩] 9))
      have y1 := (pA _).cell c1 (by simp)
      have y2 := (pA _).cell c2 (by simp)
      have y3 := (pA _).cell c3 (by simp)
      have y4 := hA0 (wr.alloc (.cells #[.string ⟨#[49]⟩, .string ⟨#[50]⟩, .string ⟨#[107, 49]⟩, .string ⟨#[97]⟩, .string ⟨#[51]⟩] 9))
      rw [size_alloc] at x4 y4
      have HMA := Lib.hid (((hMr.trans (pA wr) (by simp)).trans (pB _) (by simp)).drew)
      have HMB := Lib.hid (((hMr.trans (pB wr) (by simp)).trans (pA _) (by simp)).drew)
      clear hA0 hB0 pA pB
      have m1 : ¬ 9223372036854775807 < S.size + L.size := by omega
      have m2 : ¬ 9223372036854775807 < S.size + L.size + L2.size := by omega
      go_cut [3] from 41 to 56 (fun s3 wx => s3 = .string (S ++ L ++ L2) ∧ Mods [] w1 wx)
      case first =>
        go_region_law (fail)
        all_goals
          go_wp2_with fail
          go_meet
          first | exact ⟨rfl, HMA.out⟩ | exact ⟨rfl, HMB.out⟩
      case rest =>
      obtain ⟨rfl, hM2⟩ := hcut
      clear hd a1 a2 b1 b2 b3 c1 c2 c3 x1 x2 x3 x4 y1 y2 y3 y4 HMA HMB
      obtain ⟨S3, hS3⟩ : ∃ T, S ++ L ++ L2 = T := ⟨_, rfl⟩
      have z3 : S3.size ≤ 60 + 30 * i + 20 := by rw [← hS3, ByteArray.size_append, ByteArray.size_append]; omega
      rw [hS3]
      generalize wc = V2 at *
      have f8 := hM2.cell d8 (by simp)
      have f1 : V2.cell? ⟨b, off + i, none⟩ = some (.int .u16 (k : Nat)) := hM2.cell k0 (by simp)
      have m3 : ¬ 9223372036854775807 < S3.size + 5 := by omega
      clear hS3 e8 k1 m1 m2
      by_cases h9 : 9 < k
      · have h9z : (9 : Int) < (k : Int) := by omega
        go_wp2_with fail
        go_roundg (3 - (i + 1))
        case measure => omega
        case rel => exact ⟨i + 1, _, by omega, by go_num, rfl, by rw [ByteArray.size_append]; show S3.size + 5 ≤ _; omega, hM2⟩
      · have h9z : ¬ (9 : Int) < (k : Int) := by omega
        go_wp2_with fail
        go_roundg (3 - (i + 1))
        case measure => omega
        case rel => exact ⟨i + 1, _, by omega, by go_num, rfl, by omega, hM2⟩
    have hcase : (i : Int) < (nr : Int) ∧ ¬ (i : Int) < 3 ∨ ¬ (i : Int) < (nr : Int) := by omega
    have hfin : TextTo w1 160 (.string S) wr := ⟨S, rfl, by omega, hMr⟩
    have HFIN := Lib.hid hfin
    clear hfin hlt
    rcases hcase with ⟨z1, z2⟩ | z1
    · go_wp2_with fail
      go_meet
      exact HFIN.out
    · go_wp2_with fail
      go_meet
      exact HFIN.out
  case rest =>
  obtain ⟨S2, rfl, hS2, hM2⟩ := hcut
  generalize wc = V2 at *
  have f9 := hM2.cell d9 (by simp)
  go_upto_if 67 with fail
  go_cut [3] from 65 to 75 (fun s3 wx => TextTo w1 180 s3 wx)
  case first =>
    have hdg := digits_any V2 (lm % 8) (by omega)
    have hsd := digV_small (lm % 8)
    have hlz : ((lm % 8 : Nat) : Int) = (lm : Int) % 8 := by omega
    rw [hlz] at hdg
    generalize (⟨(digV (lm % 8)).toArray⟩ : ByteArray) = SD at *
    have m1 : ¬ 9223372036854775807 < S2.size + 7 := by omega
    have m2 : ¬ 9223372036854775807 < S2.size + 7 + SD.size := by omega
    by_cases hlim : lm < 100
    · have hz : (lm : Int) < 100 := by omega
      go_wp2_with fail
      (with_reducible refine hdg.mono ?_)
      rintro e w3 ⟨rfl, hMd⟩
      clear hdg
      go_wp2_with fail
      go_meet
      exact ⟨_, rfl, by simp only [ByteArray.size_append]; show S2.size + 7 + SD.size ≤ _; omega, hM2.trans hMd (by simp)⟩
    · have hz : ¬ (lm : Int) < 100 := by omega
      clear hdg
      go_wp2_with fail
      go_meet
      exact ⟨S2, rfl, by omega, hM2⟩
  case rest =>
  obtain ⟨S3, rfl, hS3, hM3⟩ := hcut
  generalize wc = V3 at *
  clear f9
  have f10 := hM3.cell d10 (by simp)
  go_upto_if 78 with fail
  go_cut [3] from 76 to 86 (fun s3 wx => TextTo w1 200 s3 wx)
  case first =>
    have hdg := digits_any V3 (lf % 4) (by omega)
    have hsd := digV_small (lf % 4)
    have hlz : ((lf % 4 : Nat) : Int) = (lf : Int) % 4 := by omega
    rw [hlz] at hdg
    generalize (⟨(digV (lf % 4)).toArray⟩ : ByteArray) = SD at *
    have m1 : ¬ 9223372036854775807 < S3.size + 8 := by omega
    have m2 : ¬ 9223372036854775807 < S3.size + 8 + SD.size := by omega
    by_cases hlim : lf < 50
    · have hz : (lf : Int) < 50 := by omega
      go_wp2_with fail
      (with_reducible refine hdg.mono ?_)
      rintro e w3 ⟨rfl, hMd⟩
      clear hdg
      go_wp2_with fail
      go_meet
      exact ⟨_, rfl, by simp only [ByteArray.size_append]; show S3.size + 8 + SD.size ≤ _; omega, hM3.trans hMd (by simp)⟩
    · have hz : ¬ (lf : Int) < 50 := by omega
      clear hdg
      go_wp2_with fail
      go_meet
      exact ⟨S3, rfl, by omega, hM3⟩
  case rest =>
  obtain ⟨S4, rfl, hS4, hM4⟩ := hcut
  generalize wc = V4 at *
  have hfin : SomeText w 300 (.returned (.string S4)) V4 := ⟨S4, rfl, by omega, HAL.out.trans hM4 (by simp)⟩
  have HFIN := Lib.hid hfin
  clear hfin f10
  go_wp2_with fail
  go_ret
  exact HFIN.out
end Go.Proofs.YtpokbepenacnpaaGreatDoor

namespace Go.Proofs.YtpokbepenacnpaaGreatDoor
open Go.RowKit
set_option linter.unusedVariables false

theorem expr_text (W : World) (a : Option Addr) (l : List PartT) (cap : Nat) (hP : PartsIn W a l) (hl : l.length ≤ 9223372036854775807) (hok : ∀ p ∈ l, PartOk p) :
    Calls Tryz.prog 25 #[.slice a l.length cap] W (SomeText W 600) :=
  (expr13_any W a l cap hP hl hok).mono fun e w' h => ⟨⟨(exprV l).toArray⟩, h.1, by
    have := exprV_small l
    show (exprV l).length ≤ 600
    omega, h.2⟩

set_option maxRecDepth 100000 in
set_option maxHeartbeats 8000000 in
theorem asktext_any (w : World) (v : Value) (a : AskT) (h : AskIn w v a) : Calls Tryz.prog 9 #[v] w (SomeText w 9000) := by
  have hrest := fun W hM => rest_any W v a (h.later hM)
  obtain ⟨ia, ic, oa, oc, wa, wc, ga, gc, ra, rc, rfl, hI, hO, hW, -, -, ⟨hi1, ho1, hw1, -, -⟩, hag, hjo, -, -⟩ := h
  have hal := (Mods.refl [] w).alloc (.cells #[.slice ia a.items.length ic, .int .u16 (a.agg : Nat), .bool a.star, .int .u8 (a.join : Nat), .slice oa a.on.length oc, .slice wa a.whr.length wc, .bool a.hasWhere, .slice ga a.group.length gc, .slice ra a.order.length rc, .int .u8 (a.limit : Nat), .int .u8 (a.offset : Nat)] 27)
  have hbn := heap_alloc_new w (.cells #[.slice ia a.items.length ic, .int .u16 (a.agg : Nat), .bool a.star, .int .u8 (a.join : Nat), .slice oa a.on.length oc, .slice wa a.whr.length wc, .bool a.hasWhere, .slice ga a.group.length gc, .slice ra a.order.length rc, .int .u8 (a.limit : Nat), .int .u8 (a.offset : Nat)] 27)
  go_enter Tryz.func9, Tryz.ntmps9
  go_upto_region 1 with fail
  generalize w.alloc (.cells #[.slice ia a.items.length ic, .int .u16 (a.agg : Nat), .bool a.star, .int .u8 (a.join : Nat), .slice oa a.on.length oc, .slice wa a.whr.length wc, .bool a.hasWhere, .slice ga a.group.length gc, .slice ra a.order.length rc, .int .u8 (a.limit : Nat), .int .u8 (a.offset : Nat)] 27) = w1 at *
  generalize w.heap.size = ab at *
  have d0 := cell_of_heap hbn 0
  have d1 := cell_of_heap hbn 1
  have d2 := cell_of_heap hbn 2
  have d3 := cell_of_heap hbn 3
  have d4 := cell_of_heap hbn 4
  have d5 := cell_of_heap hbn 5
  have d6 := cell_of_heap hbn 6
  change w1.cell? _ = some (.slice ia a.items.length ic) at d0
  change w1.cell? _ = some (.int .u16 (a.agg : Nat)) at d1
  change w1.cell? _ = some (.bool a.star) at d2
  change w1.cell? _ = some (.int .u8 (a.join : Nat)) at d3
  change w1.cell? _ = some (.slice oa a.on.length oc) at d4
  change w1.cell? _ = some (.slice wa a.whr.length wc) at d5
  change w1.cell? _ = some (.bool a.hasWhere) at d6
  have HI := Lib.hid (And.intro (hI.mods hal) hi1)
  have HO : Hid (∀ W, Mods [] w1 W → _) := Lib.hid fun W hM => expr_text W oa a.on oc ((hO.1.mods hal).mods hM) ho1 hO.2
  have HW : Hid (∀ W, Mods [] w1 W → _) := Lib.hid fun W hM => expr_text W wa a.whr wc ((hW.1.mods hal).mods hM) hw1 hW.2
  have HR := Lib.hid hrest
  have HB := Lib.hid (And.intro hbn hal)
  clear hrest hbn hI hO hW hal hi1 ho1 hw1
  obtain ⟨ni, hni⟩ : ∃ n, a.items.length = n := ⟨_, rfl⟩
  rw [hni] at d0
  have HNI := Lib.hid hni
  clear hni
  generalize hst : a.star = st at *
  generalize hag2 : a.agg = ag at *
  generalize hjo2 : a.join = jo at *
  generalize hhw : a.hasWhere = hw at *
  have HST := Lib.hid (And.intro hst (And.intro hag2 (And.intro hjo2 hhw)))
  clear hst hag2 hjo2 hhw
  go_upto_if 7 with fail
  go_cut [3] from 6 to 9 (fun s3 wx => s3 = .string ⟨(if st = true then [83, 69, 76, 69, 67, 84, 32, 42] else [83, 69, 76, 69, 67, 84, 32] : Bs).toArray⟩ ∧ w1 = wx)
  case first =>
    cases st with
    | false =>
      go_wp2_with fail
      go_meet
      exact ⟨rfl, rfl⟩
    | true =>
      go_wp2_with fail
      go_meet
      exact ⟨rfl, rfl⟩
  case rest =>
  obtain ⟨rfl, rfl⟩ := hcut
  have hS0 : (⟨(if st = true then [83, 69, 76, 69, 67, 84, 32, 42] else [83, 69, 76, 69, 67, 84, 32] : Bs).toArray⟩ : ByteArray).size ≤ 8 := by cases st <;> decide
  generalize (⟨(if st = true then [83, 69, 76, 69, 67, 84, 32, 42] else [83, 69, 76, 69, 67, 84, 32] : Bs).toArray⟩ : ByteArray) = S0 at *
  go_upto_block 0 with fail
  go_cut [3] from 4 to 75 (fun s3 wx => TextTo w1 4000 s3 wx)
  case first =>
    go_wp2_with fail
    go_loopg [3, 4, 5] 4 (fun gk t3 t4 t5 wr => ∃ (i : Nat) (S : ByteArray), i + gk = 4 ∧ t4 = .int .i64 i ∧ t3 = .string S ∧ S.size ≤ 8 + 700 * i ∧ Mods [] w1 wr)
    case atStart => exact ⟨0, S0, by omega, rfl, rfl, by omega, Mods.refl _ _⟩
    obtain ⟨i, S, hi, rfl, rfl, hS, hMr⟩ := hrel
    have e0 := hMr.cell d0 (by simp)
    have e2 := hMr.cell d2 (by simp)
    by_cases hlt : i < ni ∧ i < 4 ∧ st = false
    · obtain ⟨h1, h2, rfl⟩ := hlt
      have hiq : i < a.items.length := by rw [HNI.out]; exact h1
      obtain ⟨b, off, rfl, hc⟩ := HI.out.1 (by omega)
      obtain ⟨ao, cap, k0, kP, kl, ko⟩ := hc i hiq
      have k1 := hMr.cell k0 (by simp)
      have hex := fun W hM => expr_text W ao _ cap (kP.mods hM) kl ko
      have hz1 : (i : Int) < (ni : Int) := by omega
      have hz2 : (i : Int) < 4 := by omega
      generalize a.items[i].length = nl at *
      have HEX := Lib.hid hex
      clear hc k0 kP kl ko hiq hex
      go_upto_if 27 with fail
      go_cut [3] from 26 to 29 (fun s3 wx => TextTo wr (8 + 700 * i + 2) s3 wx)
      case first =>
        by_cases hi0 : i = 0
        · have hz : ¬ (0 : Int) < (i : Int) := by omega
          clear hi0
          go_wp2_with fail
          go_meet
          exact ⟨S, rfl, by omega, Mods.refl _ _⟩
        · have hz : (0 : Int) < (i : Int) := by omega
          clear hi0
          have m1 : ¬ 9223372036854775807 < S.size + 2 := by omega
          go_wp2_with fail
          go_meet
          exact ⟨_, rfl, by rw [ByteArray.size_append]; show S.size + 2 ≤ _; omega, Mods.refl _ _⟩
      case rest =>
      obtain ⟨S1, rfl, hS1, hM1⟩ := hcut
      generalize wc = V1 at *
      have hMv := hMr.trans hM1 (by simp)
      have f0 := hMv.cell d0 (by simp)
      have f1 := hM1.cell k1 (by simp)
      have hca := HEX.out V1 hMv
      clear hM1 e0 e2 k1 hS
      go_wp2_with fail
      (with_reducible refine hca.mono ?_)
      rintro e V2 ⟨E, rfl, hE, hM2⟩
      have hMv2 := hMv.trans hM2 (by simp)
      have g1 := hMv2.cell d1 (by simp)
      clear hca f0 f1 hM2 hMv
      go_upto_block 2 with fail
      generalize ((ag : Int) / 2 ^ (3 * i)).tmod 8 = how at *
      have hE2 : ¬ 9223372036854775807 < 6 + E.size := by omega
      have hE3 : ¬ 9223372036854775807 < 6 + E.size + 1 := by omega
      have hE4 : ¬ 9223372036854775807 < 4 + E.size := by omega
      have hE5 : ¬ 9223372036854775807 < 4 + E.size + 1 := by omega
      go_cut [5] from 42 to 63 (fun s5 wx => ∃ E2 : ByteArray, s5 = .string E2 ∧ E2.size ≤ 610 ∧ V2 = wx)
      case first =>
        have h6 : how = 1 ∨ how = 2 ∨ how = 3 ∨ how = 4 ∨ how = 5 ∨ (¬ how = 1 ∧ ¬ how = 2 ∧ ¬ how = 3 ∧ ¬ how = 4 ∧ ¬ how = 5) := by omega
        clear g1
        rcases h6 with rfl | rfl | rfl | rfl | rfl | ⟨n1, n2, n3, n4, n5⟩
        · go_wp2_with fail
          go_meet
          exact ⟨_, rfl, by decide, rfl⟩
        · go_wp2_with fail
          go_meet
          exact ⟨_, rfl, by simp only [ByteArray.size_append]; show 6 + E.size + 1 ≤ _; omega, rfl⟩
        · go_wp2_with fail
          go_meet
          exact ⟨_, rfl, by simp only [ByteArray.size_append]; show 4 + E.size + 1 ≤ _; omega, rfl⟩
        · go_wp2_with fail
          go_meet
          exact ⟨_, rfl, by simp only [ByteArray.size_append]; show 4 + E.size + 1 ≤ _; omega, rfl⟩
        · go_wp2_with fail
          go_meet
          exact ⟨_, rfl, by simp only [ByteArray.size_append]; show 4 + E.size + 1 ≤ _; omega, rfl⟩
        · have z1 : (how == 1) = false := beq_eq_false_iff_ne.2 n1
          have z2 : (how == 2) = false := beq_eq_false_iff_ne.2 n2
          have z3 : (how == 3) = false := beq_eq_false_iff_ne.2 n3
          have z4 : (how == 4) = false := beq_eq_false_iff_ne.2 n4
          have z5 : (how == 5) = false := beq_eq_false_iff_ne.2 n5
          go_wp2_with fail
          go_meet
          exact ⟨E, rfl, by omega, rfl⟩
      case rest =>
      obtain ⟨E2, rfl, hE9, rfl⟩ := hcut
      have m1 : ¬ 9223372036854775807 < S1.size + E2.size := by omega
      have m2 : ¬ 9223372036854775807 < S1.size + E2.size + 5 := by omega
      have hdg := digits_any V2 i (by omega)
      have hsd := digV_small i
      generalize (⟨(digV i).toArray⟩ : ByteArray) = SD at *
      have m3 : ¬ 9223372036854775807 < S1.size + E2.size + 5 + SD.size := by omega
      clear hE2 hE3 hE4 hE5 g1
      have hpar : (i : Int).tmod 2 = 1 ∨ (i : Int).tmod 2 = 0 := by rw [Int.tmod_eq_emod_of_nonneg (by omega)]; omega
      rcases hpar with hp | hp
      · go_wp2_with fail
        (with_reducible refine hdg.mono ?_)
        rintro e V3 ⟨rfl, hM3⟩
        clear hdg
        go_wp2_with fail
        go_roundg (4 - (i + 1))
        case measure => omega
        case rel => exact ⟨i + 1, _, by omega, by go_num, rfl, by simp only [ByteArray.size_append]; show S1.size + E2.size + 5 + SD.size ≤ _; omega, hMv2.trans hM3 (by simp)⟩
      · clear hdg
        go_wp2_with fail
        go_roundg (4 - (i + 1))
        case measure => omega
        case rel => exact ⟨i + 1, _, by omega, by go_num, rfl, by rw [ByteArray.size_append]; omega, hMv2⟩
    have hfin : TextTo w1 4000 (.string S) wr := ⟨S, rfl, by omega, hMr⟩
    have HFIN := Lib.hid hfin
    have hcase : ¬ (i : Int) < (ni : Int) ∨ ((i : Int) < (ni : Int) ∧ ¬ (i : Int) < 4) ∨ ((i : Int) < (ni : Int) ∧ (i : Int) < 4 ∧ st = true) := by
      by_cases h1 : i < ni
      · by_cases h2 : i < 4
        · cases st with
          | false => exact absurd ⟨h1, h2, rfl⟩ hlt
          | true => exact .inr (.inr ⟨by omega, by omega, rfl⟩)
        · exact .inr (.inl ⟨by omega, by omega⟩)
      · exact .inl (by omega)
    clear hfin hlt
    rcases hcase with z1 | ⟨z1, z2⟩ | ⟨z1, z2, rfl⟩
    · go_wp2_with fail
      go_meet
      exact HFIN.out
    · go_wp2_with fail
      go_meet
      exact HFIN.out
    · go_wp2_with fail
      go_meet
      exact HFIN.out
  case rest =>
  obtain ⟨S1, rfl, hS1, hM1⟩ := hcut
  generalize wc = V1 at *
  clear hS0
  have f0 := hM1.cell d0 (by simp)
  have f2 := hM1.cell d2 (by simp)
  go_upto_region 24 with fail
  go_cut [84] from 76 to 83 (fun t84 wx => t84 = .bool (decide (ni = 0) && !st) ∧ V1 = wx)
  case first =>
    by_cases h0 : ni = 0
    · have hz : ((ni : Int) == 0) = true := by rw [h0]; rfl
      have hd0 : decide (ni = 0) = true := by rw [h0]; rfl
      have HD0 := Lib.hid hd0
      clear h0 hd0
      cases st with
      | false =>
        go_wp2_with fail
        go_meet
        exact ⟨by rw [HD0.out]; rfl, rfl⟩
      | true =>
        go_wp2_with fail
        go_meet
        exact ⟨by rw [HD0.out]; rfl, rfl⟩
    · have hz : ((ni : Int) == 0) = false := beq_eq_false_iff_ne.2 (by omega)
      have hd0 : decide (ni = 0) = false := decide_eq_false h0
      have HD0 := Lib.hid hd0
      clear h0 hd0
      go_wp2_with fail
      go_meet
      exact ⟨by rw [HD0.out]; rfl, rfl⟩
  case rest =>
  obtain ⟨rfl, rfl⟩ := hcut
  generalize (decide (ni = 0) && !st) = gb at *
  go_upto_if 84 with fail
  go_cut [3] from 84 to 86 (fun s3 wx => ∃ S : ByteArray, s3 = .string S ∧ S.size ≤ 4001 ∧ V1 = wx)
  case first =>
    have m1 : ¬ 9223372036854775807 < S1.size + 1 := by omega
    cases gb with
    | true =>
      go_wp2_with fail
      go_meet
      exact ⟨_, rfl, by rw [ByteArray.size_append]; show S1.size + 1 ≤ _; omega, rfl⟩
    | false =>
      go_wp2_with fail
      go_meet
      exact ⟨S1, rfl, by omega, rfl⟩
  case rest =>
  obtain ⟨S2, rfl, hS2, rfl⟩ := hcut
  have f3 := hM1.cell d3 (by simp)
  have m1 : ¬ 9223372036854775807 < S2.size + 7 := by omega
  clear f0 f2 hS1
  go_upto_block 3 with fail
  obtain ⟨S3, hS3⟩ : ∃ T, S2 ++ (⟨#[32, 70, 82, 79, 77, 32, 116]⟩ : ByteArray) = T := ⟨_, rfl⟩
  have hS3z : S3.size ≤ 4008 := by rw [← hS3, ByteArray.size_append]; show S2.size + 7 ≤ _; omega
  rw [hS3]
  clear hS3 m1 hS2
  generalize (jo : Int) % 4 = how at *
  go_cut [3] from 92 to 111 (fun s3 wx => TextTo w1 4700 s3 wx)
  case first =>
    have f4 := hM1.cell d4 (by simp)
    clear f3
    have h6 : how = 1 ∨ how = 2 ∨ how = 3 ∨ (¬ how = 1 ∧ ¬ how = 2 ∧ ¬ how = 3) := by omega
    rcases h6 with rfl | rfl | rfl | ⟨n1, n2, n3⟩
    · have m2 : ¬ 9223372036854775807 < S3.size + 11 := by omega
      have hca := HO.out V1 hM1
      go_wp2_with fail
      (with_reducible refine hca.mono ?_)
      rintro e V2 ⟨E, rfl, hE, hMe⟩
      have m3 : ¬ 9223372036854775807 < S3.size + 11 + E.size := by omega
      clear hca f4
      go_wp2_with fail
      go_meet
      exact ⟨_, rfl, by simp only [ByteArray.size_append]; show S3.size + 11 + E.size ≤ _; omega, hM1.trans hMe (by simp)⟩
    · have m2 : ¬ 9223372036854775807 < S3.size + 25 := by omega
      have hca := HO.out V1 hM1
      go_wp2_with fail
      (with_reducible refine hca.mono ?_)
      rintro e V2 ⟨E, rfl, hE, hMe⟩
      have m3 : ¬ 9223372036854775807 < S3.size + 25 + E.size := by omega
      clear hca f4
      go_wp2_with fail
      go_meet
      exact ⟨_, rfl, by simp only [ByteArray.size_append]; show S3.size + 25 + E.size ≤ _; omega, hM1.trans hMe (by simp)⟩
    · have m2 : ¬ 9223372036854775807 < S3.size + 32 := by omega
      go_wp2_with fail
      go_meet
      exact ⟨_, rfl, by simp only [ByteArray.size_append]; show S3.size + 32 ≤ _; omega, hM1⟩
    · have z1 : (how == 1) = false := beq_eq_false_iff_ne.2 n1
      have z2 : (how == 2) = false := beq_eq_false_iff_ne.2 n2
      have z3 : (how == 3) = false := beq_eq_false_iff_ne.2 n3
      go_wp2_with fail
      go_meet
      exact ⟨S3, rfl, by omega, hM1⟩
  case rest =>
  obtain ⟨S4, rfl, hS4, hM4⟩ := hcut
  generalize wc = V4 at *
  clear f3 hS3z hM1
  have f6 := hM4.cell d6 (by simp)
  go_upto_if 113 with fail
  go_cut [3] from 112 to 119 (fun s3 wx => TextTo w1 5400 s3 wx)
  case first =>
    cases hw with
    | false =>
      go_wp2_with fail
      go_meet
      exact ⟨S4, rfl, by omega, hM4⟩
    | true =>
      have f5 := hM4.cell d5 (by simp)
      have m2 : ¬ 9223372036854775807 < S4.size + 7 := by omega
      have hca := HW.out V4 hM4
      go_wp2_with fail
      (with_reducible refine hca.mono ?_)
      rintro e V5 ⟨E, rfl, hE, hMe⟩
      have m3 : ¬ 9223372036854775807 < S4.size + 7 + E.size := by omega
      clear hca f5
      go_wp2_with fail
      go_meet
      exact ⟨_, rfl, by simp only [ByteArray.size_append]; show S4.size + 7 + E.size ≤ _; omega, hM4.trans hMe (by simp)⟩
  case rest =>
  obtain ⟨S5, rfl, hS5, hM5⟩ := hcut
  generalize wc = V5 at *
  have hMw := HB.out.2.trans hM5 (by simp)
  have hb5 := hM5.heap HB.out.1 (by simp)
  have hca := HR.out V5 hMw
  clear f6 d0 d1 d2 d3 d4 d5 d6
  have x0 := cell_of_heap hb5 0
  have x1 := cell_of_heap hb5 1
  have x2 := cell_of_heap hb5 2
  have x3 := cell_of_heap hb5 3
  have x4 := cell_of_heap hb5 4
  have x5 := cell_of_heap hb5 5
  have x6 := cell_of_heap hb5 6
  have x7 := cell_of_heap hb5 7
  have x8 := cell_of_heap hb5 8
  have x9 := cell_of_heap hb5 9
  have x10 := cell_of_heap hb5 10
  clear hb5
  go_wp2_with fail
  (with_reducible refine hca.mono ?_)
  rintro e V6 ⟨E, rfl, hE, hMe⟩
  have m3 : ¬ 9223372036854775807 < S5.size + E.size := by omega
  clear hca x0 x1 x2 x3 x4 x5 x6 x7 x8 x9 x10
  have hfin : SomeText w 9000 (.returned (.string (S5 ++ E))) V6 := ⟨_, rfl, by rw [ByteArray.size_append]; omega, hMw.trans hMe (by simp)⟩
  have HFIN := Lib.hid hfin
  clear hfin
  go_wp2_with fail
  go_ret
  exact HFIN.out
end Go.Proofs.YtpokbepenacnpaaGreatDoor
