/-
  The laws ParseBrackets and ParseCuts, walked. No condition but that Go's own variables hold what they were laid with.
-/
import Derived.Test.YtgbpoaimbjlamaaGreatDoorMPx
import Derived.Test.YtgbpoaimbjlamaaGreatDoorMPw
namespace Go.Proofs.YtgbpoaimbjlamaaGreatDoor
open Go.RowKit
set_option linter.unusedVariables false

theorem brN_in (n : Nat) (s : Bs) : (⟨#[40, 32]⟩ : ByteArray) ++ ⟨(brN n s).toArray⟩ ++ ⟨#[10, 41]⟩ = ⟨(brN (n + 1) s).toArray⟩ := cat3 [40, 32] (brN n s) [10, 41]
set_option maxRecDepth 100000 in
set_option maxHeartbeats 4000000 in
theorem parseBrackets_walk (w : World) (hT : Tabs2 w) (a : Option Addr) (l : List PartT) (cap : Nat) (hP : PartsIn w a l) (hl : l.length ≤ 9223372036854775807) (hok : ∀ p ∈ l, PartOk p) (n : Nat) (hn : n < 256) :
    Calls Tryz.prog 3 #[.slice a l.length cap, .int .u8 n] w fun e w' => e = .returned (.bool true) ∧ Mods [] w w' := by
  have hex := examples13_any w hT
  obtain ⟨k, hk, hkz⟩ : ∃ k : Nat, k < 10 ∧ (n : Int) % 10 = (k : Int) := ⟨n % 10, by omega, by omega⟩
  have hxp := fun w1 (hM : Mods [] w w1) => expr13_any w1 a l cap (hP.mods hM) hl hok
  have hlaw := fun j (hj : j < 10) => brackets_law l j hj
  have HX := Lib.hid hxp
  have HL := Lib.hid hlaw
  have HT := Lib.hid hT
  clear hT hxp hlaw hP hok
  generalize l.length = len at *
  go_enter Tryz.func3, Tryz.ntmps3
  go_wp2_with fail
  (with_reducible refine hex.mono ?_)
  rintro e wa ⟨rfl, hMa⟩
  clear hex
  have hx := HX.out wa hMa
  go_wp2_with fail
  (with_reducible refine hx.mono ?_)
  rintro e wb ⟨rfl, hMb⟩
  have hMab := hMa.trans hMb (by simp)
  clear hx hMa hMb HX
  go_wp2_with fail
  go_loopg [7, 8] k (fun gk t7 t8 wr => ∃ i : Nat, i + gk = k ∧ t8 = .int .i64 i ∧ t7 = .string ⟨(brN i (exprV l)).toArray⟩ ∧ wb = wr)
  case atStart => exact ⟨0, by omega, rfl, rfl, rfl⟩
  obtain ⟨i, hi, rfl, rfl, rfl⟩ := hrel
  rcases Nat.lt_or_ge i k with hlt | hge
  · have hsz := (HL.out i (by omega)).2.2
    have hcat := brN_in i (exprV l)
    have hS : (⟨(brN i (exprV l)).toArray⟩ : ByteArray).size ≤ 400 := hsz
    generalize (⟨(brN i (exprV l)).toArray⟩ : ByteArray) = S at *
    have n1 : ¬ 9223372036854775807 < 2 + S.size := by omega
    have n2 : ¬ 9223372036854775807 < 2 + S.size + 2 := by omega
    have hz : (i : Int) < (k : Int) := by omega
    have HC := Lib.hid hcat
    clear hsz hcat
    go_wp2_with fail
    go_roundg (k - (i + 1))
    case measure => omega
    case rel => exact ⟨i + 1, by omega, by go_num, by rw [HC.out], rfl⟩
  · obtain rfl : i = k := by omega
    obtain ⟨l1, l2, l3⟩ := HL.out i hk
    have l4 := exprV_small l
    have s1 := fun w hT => show13_any w hT (exprV l) (by omega)
    have s2 := fun w hT => show13_any w hT (brN i (exprV l)) (by omega)
    rw [l2] at s2
    have hne : (⟨(showV (exprV l)).toArray⟩ : ByteArray).toList.isEmpty = false := by
      rw [ByteArray.toList_eq]
      cases hv : showV (exprV l) with
      | nil => exact absurd hv l1
      | cons x y => rfl
    generalize (⟨(showV (exprV l)).toArray⟩ : ByteArray) = V at *
    have HS1 := Lib.hid s1
    have HS2 := Lib.hid s2
    have hz : ¬ (i : Int) < (i : Int) := by omega
    clear l1 l2 l3 l4 s1 s2 hge
    have h1 := HS1.out wb (HT.out.later hMab)
    go_wp2_with fail
    (with_reducible refine h1.mono ?_)
    rintro e wc ⟨rfl, hMc⟩
    have hMac := hMab.trans hMc (by simp)
    have h2 := HS1.out wc (HT.out.later hMac)
    clear h1 hMc
    go_wp2_with fail
    (with_reducible refine h2.mono ?_)
    rintro e wd ⟨rfl, hMd⟩
    have hMad := hMac.trans hMd (by simp)
    have h3 := HS2.out wd (HT.out.later hMad)
    clear h2 hMd
    go_wp2_with fail
    (with_reducible refine h3.mono ?_)
    rintro e we ⟨rfl, hMe⟩
    have hMae := hMad.trans hMe (by simp)
    clear h3 hMe
    go_wp2_with fail
    go_ret
    exact ⟨rfl, hMae⟩

theorem take_ext (l : Bs) (k : Nat) (hk : k ≤ l.length) : (⟨l.toArray⟩ : ByteArray).extract 0 k = ⟨(l.take k).toArray⟩ := by
  have h := ext_list ⟨l.toArray⟩ 0 k
  rw [Nat.zero_add, List.drop_zero] at h
  exact bytes_of h
set_option maxRecDepth 100000 in
set_option maxHeartbeats 4000000 in
theorem parseCuts_walk (w : World) (hT : Tabs2 w) (a : Option Addr) (l : List PartT) (cap : Nat) (hP : PartsIn w a l) (hl : l.length ≤ 9223372036854775807) (hok : ∀ p ∈ l, PartOk p) (n : Nat) (hn : n < 65536) :
    Calls Tryz.prog 6 #[.slice a l.length cap, .int .u16 n] w fun e w' => e = .returned (.bool true) ∧ Mods [] w w' := by
  have hex := examples13_any w hT
  have hxp := fun w1 (hM : Mods [] w w1) => expr13_any w1 a l cap (hP.mods hM) hl hok
  have HX := Lib.hid hxp
  have HT := Lib.hid hT
  clear hT hxp hP hok
  have hsm := exprV_small l
  obtain ⟨L, hL⟩ : ∃ L : Bs, cutHead ++ exprV l ++ cutTail = L := ⟨_, rfl⟩
  have hLl : L.length = 8 + (exprV l).length + 8 := by rw [← hL]; simp only [List.length_append]; rfl
  obtain ⟨k, hk⟩ : ∃ k, n % L.length = k := ⟨_, rfl⟩
  have hk2 : k < L.length := by rw [← hk]; exact Nat.mod_lt _ (by omega)
  have hlaw := cut_law l k (by rw [hL]; exact hk2)
  rw [hL] at hlaw
  obtain ⟨⟨p, er, hbad, hpk, her⟩, q, hgood⟩ := hlaw
  have hcat : (⟨#[83, 69, 76, 69, 67, 84, 32, 40]⟩ : ByteArray) ++ ⟨(exprV l).toArray⟩ ++ ⟨#[41, 32, 70, 82, 79, 77, 32, 116]⟩ = ⟨L.toArray⟩ := by rw [← hL]; exact cat3 cutHead (exprV l) cutTail
  have htake := take_ext L k (by omega)
  have hpb := fun w (hT : Tabs2 w) => parse_bad w hT.1 (L.take k) p er hbad (by rw [List.length_take]; omega)
  have hpg := fun w (hT : Tabs2 w) => parse_good w hT.1 L q hgood (by omega)
  rw [← htake] at hpb
  have hEs : (⟨(exprV l).toArray⟩ : ByteArray).size ≤ 352 := hsm
  have hLs : (⟨L.toArray⟩ : ByteArray).size = L.length := rfl
  obtain ⟨LL, hLL⟩ : ∃ LL, L.length = LL := ⟨_, rfl⟩
  have hLL2 : LL ≤ 400 := by omega
  have hkz : (n : Int) % (LL : Int) = (k : Int) := by rw [← hLL]; omega
  have hnz : (LL : Int) ≠ 0 := by omega
  rw [hLL] at hLs hk2
  generalize (⟨L.toArray⟩ : ByteArray) = SL at *
  generalize (⟨(exprV l).toArray⟩ : ByteArray) = SE at *
  have HC := Lib.hid hcat
  have HPB := Lib.hid hpb
  have HPG := Lib.hid hpg
  have n1 : ¬ 9223372036854775807 < 8 + SE.size := by omega
  have n2 : ¬ 9223372036854775807 < 8 + SE.size + 8 := by omega
  have hz1 : (p : Int) ≤ (k : Int) := by omega
  have hz2 : ((er : Int) != 0) = true := bne_iff_ne.2 (by omega)
  have hz3 : (k : Int) ≤ (LL : Int) := by omega
  clear hcat hpb hpg htake hbad hgood hL hLl hLL hk her hpk hsm
  generalize l.length = len at *
  go_enter Tryz.func6, Tryz.ntmps6
  go_wp2_with fail
  (with_reducible refine hex.mono ?_)
  rintro e wa ⟨rfl, hMa⟩
  clear hex
  have hx := HX.out wa hMa
  go_wp2_with fail
  (with_reducible refine hx.mono ?_)
  rintro e wb ⟨rfl, hMb⟩
  have hMab := hMa.trans hMb (by simp)
  clear hx hMa hMb HX
  go_upto_region 5 with fail
  rw [HC.out]
  have hp1 := HPB.out wb (HT.out.later hMab)
  go_wp2_with fail
  (with_reducible refine hp1.mono ?_)
  rintro e wc ⟨rfl, hMc⟩
  have hMac := hMab.trans hMc (by simp)
  clear hp1 hMc
  have hp2 := HPG.out wc (HT.out.later hMac)
  go_wp2_with fail
  (with_reducible refine hp2.mono ?_)
  rintro e wd ⟨qb, rfl, hMd, -, -⟩
  have hMad := hMac.trans hMd (by simp)
  clear hp2 hMd
  unfold PtrV
  go_wp2_with fail
  go_ret
  exact ⟨rfl, hMad⟩
end Go.Proofs.YtgbpoaimbjlamaaGreatDoor
