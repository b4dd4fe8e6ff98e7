/-
  The document's chapter 11: letter, digit, digits, capitals, Key, walked. No condition.
-/
import Derived.Test.YtpghimiecigakaaDoorLyC
import Derived.Test.YtpghimiecigakaaDoorLat
import Derived.Test.YtpghimiecigakaaDoorCom
namespace Go.Proofs.YtpghimiecigakaaDoor
open Go.RowKit
set_option linter.unusedVariables false

theorem isLet_nat (c : UInt8) : isLet c = ((decide (97 ≤ c.toNat) && decide (c.toNat ≤ 122)) || (decide (65 ≤ c.toNat) && decide (c.toNat ≤ 90)) || decide (c.toNat = 95)) := rfl

set_option maxRecDepth 100000 in
theorem letter_ref (w : World) (c : UInt8) (v : Int) (hv : v = c.toNat) : Calls Tryd.prog 14 #[.int .u8 v] w fun e w' => e = .returned (.bool (isLet c)) ∧ w' = w := by
  rw [isLet_nat]
  obtain ⟨n, hn⟩ : ∃ n, c.toNat = n := ⟨_, rfl⟩
  rw [hn] at hv ⊢
  subst hv
  clear hn
  go_enter Tryd.func14, Tryd.ntmps14
  by_cases h1 : 97 ≤ n
  · have z1 : (97 : Int) ≤ (n : Int) := by omega
    by_cases h2 : n ≤ 122
    · have z2 : (n : Int) ≤ 122 := by omega
      rw [decide_eq_true h1, decide_eq_true h2]
      clear h1 h2
      go_wp2_with fail
      go_ret
      exact ⟨rfl, rfl⟩
    · have z2 : ¬ (n : Int) ≤ 122 := by omega
      have z3 : (65 : Int) ≤ (n : Int) := by omega
      have z4 : ¬ (n : Int) ≤ 90 := by omega
      have z5 : ((n : Int) == 95) = false := by rw [beq_eq_false_iff_ne]; omega
      rw [decide_eq_true h1, decide_eq_false h2, decide_eq_true (show 65 ≤ n by omega), decide_eq_false (show ¬ n ≤ 90 by omega), decide_eq_false (show ¬ n = 95 by omega)]
      clear h1 h2 z1
      have z1 : (97 : Int) ≤ (n : Int) := by omega
      go_wp2_with fail
      go_ret
      exact ⟨rfl, rfl⟩
  · have z1 : ¬ (97 : Int) ≤ (n : Int) := by omega
    rw [decide_eq_false h1]
    by_cases h3 : 65 ≤ n
    · have z3 : (65 : Int) ≤ (n : Int) := by omega
      by_cases h4 : n ≤ 90
      · have z4 : (n : Int) ≤ 90 := by omega
        rw [decide_eq_true h3, decide_eq_true h4]
        clear h1 h3 h4
        go_wp2_with fail
        go_ret
        exact ⟨rfl, rfl⟩
      · have z4 : ¬ (n : Int) ≤ 90 := by omega
        rw [decide_eq_true h3, decide_eq_false h4]
        by_cases h5 : n = 95
        · have z5 : ((n : Int) == 95) = true := by rw [beq_iff_eq]; omega
          rw [decide_eq_true h5]
          clear h1 h3 h4 h5
          go_wp2_with fail
          go_ret
          exact ⟨rfl, rfl⟩
        · have z5 : ((n : Int) == 95) = false := by rw [beq_eq_false_iff_ne]; omega
          rw [decide_eq_false h5]
          clear h1 h3 h4 h5
          go_wp2_with fail
          go_ret
          exact ⟨rfl, rfl⟩
    · have z3 : ¬ (65 : Int) ≤ (n : Int) := by omega
      have z5 : ((n : Int) == 95) = false := by rw [beq_eq_false_iff_ne]; omega
      rw [decide_eq_false h3, decide_eq_false (show ¬ n = 95 by omega)]
      clear h1 h3
      go_wp2_with fail
      go_ret
      exact ⟨rfl, rfl⟩

set_option maxRecDepth 100000 in
theorem digit_ref (w : World) (c : UInt8) (v : Int) (hv : v = c.toNat) : Calls Tryd.prog 16 #[.int .u8 v] w fun e w' => e = .returned (.bool (isDig c)) ∧ w' = w := by
  unfold isDig
  obtain ⟨n, hn⟩ : ∃ n, c.toNat = n := ⟨_, rfl⟩
  rw [hn] at hv ⊢
  subst hv
  clear hn
  go_enter Tryd.func16, Tryd.ntmps16
  by_cases h1 : 48 ≤ n
  · have z1 : (48 : Int) ≤ (n : Int) := by omega
    by_cases h2 : n ≤ 57
    · have z2 : (n : Int) ≤ 57 := by omega
      rw [decide_eq_true h1, decide_eq_true h2]
      clear h1 h2
      go_wp2_with fail
      go_ret
      exact ⟨rfl, rfl⟩
    · have z2 : ¬ (n : Int) ≤ 57 := by omega
      rw [decide_eq_true h1, decide_eq_false h2]
      clear h1 h2
      go_wp2_with fail
      go_ret
      exact ⟨rfl, rfl⟩
  · have z1 : ¬ (48 : Int) ≤ (n : Int) := by omega
    rw [decide_eq_false h1]
    clear h1
    go_wp2_with fail
    go_ret
    exact ⟨rfl, rfl⟩

set_option maxRecDepth 100000 in
set_option maxHeartbeats 1000000 in
theorem digits_ref (w : World) (s : ByteArray) (hs : s.size ≤ 4096) (at_ : Nat) (hat : at_ ≤ s.size) :
    Calls Tryd.prog 25 #[.string s, .int .i64 at_] w fun e w' => e = .returned (.int .i64 (runL isDig s at_)) ∧ w' = w := by
  go_enter Tryd.func25, Tryd.ntmps25
  go_wp2_with fail
  go_loop [5] (fun t5 => ∃ k : Nat, at_ + k ≤ s.size ∧ t5 = .int .i64 k ∧ Hid (∀ j, j < k → ∃ x, s.data.toList[at_ + j]? = some x ∧ isDig x = true)) (fun t5 => s.size - (intOf t5).toNat)
  case atStart => exact ⟨0, by omega, rfl, Lib.hid (fun j hj => by omega)⟩
  case round =>
    obtain ⟨k, hk, rfl, hP⟩ := hrel
    have e1 : IntKind.i64.wrap ((at_ : Int) + (k : Int)) = (at_ : Int) + (k : Int) := IntWalk.i64_in _ (by omega)
    by_cases hlt : at_ + k < s.size
    · have hd : (at_ : Int) + (k : Int) < (s.size : Int) := by omega
      have hx := s_at s (at_ + k) hlt
      obtain ⟨x, hx'⟩ : ∃ x, s[at_ + k] = x := ⟨_, rfl⟩
      rw [hx'] at hx
      have hcall := digit_ref w x _ rfl
      have HX := Lib.hid hx
      cases hpx : isDig x with
      | true =>
        rw [hpx] at hcall
        have HPX := Lib.hid hpx
        clear hx hpx
        go_wp2_with fail
        (with_reducible refine hcall.mono ?_)
        rintro e w2 ⟨rfl, rfl⟩
        clear hcall
        go_wp2_with fail
        go_round
        case measure => simp [intOf]; omega
        case rel =>
          refine ⟨k + 1, by omega, by go_num, Lib.hid (fun j hj => ?_)⟩
          by_cases hjk : j = k
          · subst hjk; exact ⟨x, HX.out, HPX.out⟩
          · exact hP.out j (by omega)
      | false =>
        rw [hpx] at hcall
        have fin : runL isDig s at_ = k := tw_len isDig _ k (fun j hj => by rw [List.getElem?_drop]; exact hP.out j hj) (.inr ⟨x, by rw [List.getElem?_drop]; exact hx, hpx⟩)
        have FIN := Lib.hid fin
        clear hx hpx fin
        go_wp2_with fail
        (with_reducible refine hcall.mono ?_)
        rintro e w2 ⟨rfl, rfl⟩
        clear hcall
        go_wp2_with fail
        go_ret
        exact ⟨ret_int (congrArg Int.ofNat FIN.out.symm), rfl⟩
    · have hd : ¬ (at_ : Int) + (k : Int) < (s.size : Int) := by omega
      have fin : runL isDig s at_ = k := tw_len isDig _ k (fun j hj => by rw [List.getElem?_drop]; exact hP.out j hj) (.inl (by rw [List.getElem?_drop, List.getElem?_eq_none]; show s.size ≤ _; omega))
      have FIN := Lib.hid fin
      clear fin
      go_wp2_with fail
      go_ret
      exact ⟨ret_int (congrArg Int.ofNat FIN.out.symm), rfl⟩

theorem run_char {w : World} (v : Int) (c : UInt8) (hv : v = c.toNat) : (convert 50 9 (.slice (some ⟨w.heap.size, 0, none⟩) 1 1)).run Tryd.prog (w.alloc (.cells #[.int .u8 v] 5)) = .ok (.string ⟨#[c]⟩) (w.alloc (.cells #[.int .u8 v] 5)) := by
  subst hv
  have := run_convert_bytes_back (P := Tryd.prog) (w.alloc (.cells #[.int .u8 (c.toNat : Int)] 5)) 50 9 5 ⟨w.heap.size, 0, none⟩ 1 [c] Tryd.underlying50 Tryd.underlying5 Tryd.underlying9 (by
    intro j hj
    obtain rfl : j = 0 := by simpa using hj
    rw [addr_add, cell_of_heap (heap_alloc_new w _)]
    rfl)
  simpa using this

set_option maxRecDepth 100000 in
set_option maxHeartbeats 1000000 in
theorem capitals_ref (w : World) (s : ByteArray) (hs : s.size ≤ 4096) :
    Calls Tryd.prog 24 #[.string s] w fun e w' => e = .returned (.string ⟨(s.data.toList.map upc).toArray⟩) ∧ Mods [] w w' := by
  go_enter Tryd.func24, Tryd.ntmps24
  go_wp2_with fail
  go_loopw [3, 4] (fun t3 t4 wr => ∃ (i : Nat) (R : ByteArray), i ≤ s.size ∧ t4 = .int .i64 i ∧ t3 = .string R ∧ R.size = i ∧ Mods [] w wr ∧ Hid (R.data.toList = (s.data.toList.take i).map upc)) (fun _ t4 _ => s.size - (intOf t4).toNat)
  case atStart => exact ⟨0, ⟨#[]⟩, by omega, rfl, rfl, rfl, Mods.refl [] _, Lib.hid (by simp)⟩
  case round =>
    obtain ⟨i, R, hi, rfl, rfl, hR, hM, HR⟩ := hrel
    by_cases hlt : i < s.size
    · have hx := s_at s i hlt
      obtain ⟨x, hx'⟩ : ∃ x, s[i] = x := ⟨_, rfl⟩
      rw [hx'] at hx
      have htk : s.data.toList.take (i + 1) = s.data.toList.take i ++ [x] := by
        rw [List.take_add_one, hx]; rfl
      have hnext : Hid ((R ++ ⟨#[upc x]⟩ : ByteArray).data.toList = (s.data.toList.take (i + 1)).map upc) := Lib.hid (by rw [app_list, HR.out, htk, List.map_append]; rfl)
      have hnsz : (R ++ ⟨#[upc x]⟩ : ByteArray).size = i + 1 := by rw [ByteArray.size_append, hR]; rfl
      have hiz : (i : Int) < (s.size : Int) := by omega
      have hcb : ¬ 9223372036854775807 < R.size + 1 := by omega
      have HNS := Lib.hid hnsz
      clear hx htk HR hnsz
      by_cases h1 : 97 ≤ x.toNat
      · by_cases h2 : x.toNat ≤ 122
        · have hup : ((x.toNat : Int) - 32) = ((upc x).toNat : Int) := by
            unfold upc
            rw [if_pos ⟨h1, h2⟩, UInt8.toNat_sub]
            show ((x.toNat : Int) - 32) = (((2 ^ 8 - 32 + x.toNat) % 2 ^ 8 : Nat) : Int)
            omega
          have z1 : (97 : Int) ≤ (x.toNat : Int) := by omega
          have z2 : (x.toNat : Int) ≤ 122 := by omega
          have hcv := run_char (w := wr) ((x.toNat : Int) - 32) (upc x) hup
          clear hup h1 h2
          go_wp2_with fail
          exact ⟨⟨i + 1, _, by omega, by go_num, rfl, HNS.out, hM.alloc _, hnext⟩, by simp [intOf]; omega⟩
        · have hup : (x.toNat : Int) = ((upc x).toNat : Int) := by unfold upc; rw [if_neg (by omega)]
          have z1 : (97 : Int) ≤ (x.toNat : Int) := by omega
          have z2 : ¬ (x.toNat : Int) ≤ 122 := by omega
          have hcv := run_char (w := wr) (x.toNat : Int) (upc x) hup
          clear hup h1 h2
          go_wp2_with fail
          exact ⟨⟨i + 1, _, by omega, by go_num, rfl, HNS.out, hM.alloc _, hnext⟩, by simp [intOf]; omega⟩
      · have hup : (x.toNat : Int) = ((upc x).toNat : Int) := by unfold upc; rw [if_neg (by omega)]
        have z1 : ¬ (97 : Int) ≤ (x.toNat : Int) := by omega
        have hcv := run_char (w := wr) (x.toNat : Int) (upc x) hup
        clear hup h1
        go_wp2_with fail
        exact ⟨⟨i + 1, _, by omega, by go_num, rfl, HNS.out, hM.alloc _, hnext⟩, by simp [intOf]; omega⟩
    · obtain rfl : i = s.size := by omega
      have hfull : s.data.toList.take s.size = s.data.toList := List.take_of_length_le (Nat.le_refl _)
      have hR2 : R = ⟨(s.data.toList.map upc).toArray⟩ := bytes_of (by rw [HR.out, hfull])
      have HR2 := Lib.hid hR2
      clear hfull hR2
      go_wp2_with fail
      go_ret
      exact ⟨by rw [HR2.out]; rfl, hM⟩

set_option maxRecDepth 100000 in
set_option maxHeartbeats 1000000 in
theorem key_ref (w : World) (s : ByteArray) : Calls Tryd.prog 8 #[.string s] w fun e w' => e = .returned (.bool (isKey s.data.toList)) ∧ Mods [] w w' := by
  go_enter Tryd.func8, Tryd.ntmps8
  go_upto_region 2 with fail
  have hM1 := (Mods.refl [] w).alloc (.cells wordCells 9)
  have hg := heap_alloc_new w (.cells wordCells 9)
  change Code.wp _ _ _ _ (w.alloc (.cells wordCells 9))
  generalize w.alloc (.cells wordCells 9) = w1 at *
  generalize w.heap.size = gb at *
  have HG := Lib.hid hg
  clear hg
  go_wp2_with fail
  go_loopw [4] (fun t4 wr => ∃ k : Nat, k ≤ 24 ∧ t4 = .int .i64 k ∧ wr = w1 ∧ Hid (∀ j, j < k → keyWords[j]? ≠ some s.data.toList)) (fun t4 _ => 24 - (intOf t4).toNat)
  case atStart => exact ⟨0, by omega, rfl, rfl, Lib.hid (fun j hj => by omega)⟩
  case round =>
    obtain ⟨k, hk, rfl, rfl, HP⟩ := hrel
    by_cases hlt : k < 24
    · obtain ⟨x, hx⟩ : ∃ x, keyWords[k]? = some x := ⟨_, List.getElem?_eq_getElem hlt⟩
      have hc : wr.cell? ⟨gb, k, none⟩ = some (.string ⟨x.toArray⟩) := by
        rw [cell_of_heap HG.out]
        show ((keyWords.map fun l => Value.string ⟨l.toArray⟩).toArray)[k]? = _
        rw [List.getElem?_toArray, List.getElem?_map, hx]; rfl
      have HX := Lib.hid hx
      clear hx
      by_cases he : x = s.data.toList
      · have hs : s = ⟨x.toArray⟩ := bytes_of he.symm
        have hk : isKey s.data.toList = true := by
          have := List.mem_of_getElem? HX.out
          rw [he] at this
          simpa [isKey] using this
        rw [← hs] at hc
        have HK := Lib.hid hk
        clear he hs hk
        go_wp2_with fail
        go_ret
        exact ⟨by rw [HK.out]; rfl, hM1⟩
      · have e1 : ¬ s.toList = x := by rw [ByteArray.toList_eq]; exact fun h => he h.symm
        have e2 : ((⟨x.toArray⟩ : ByteArray).toList == s.toList) = false := by rw [beq_eq_false_iff_ne, ByteArray.toList_eq, ByteArray.toList_eq]; exact he
        have e3 : (x == s.toList) = false := by rw [beq_eq_false_iff_ne]; exact fun h => e1 h.symm
        have e4 : ¬ x = s.toList := fun h => e1 h.symm
        have HE := Lib.hid he
        clear he
        go_wp2_with fail
        go_round
        case measure => simp [intOf]; omega
        case rel =>
          refine ⟨k + 1, by omega, by go_num, by trivial, Lib.hid (fun j hj => ?_)⟩
          by_cases hjk : j = k
          · subst hjk; rw [HX.out]; exact fun h => HE.out (Option.some.inj h)
          · exact HP.out j (by omega)
    · obtain rfl : k = 24 := by omega
      have hno : isKey s.data.toList = false := by
        cases hk : isKey s.data.toList with
        | false => rfl
        | true =>
          have hm : s.data.toList ∈ keyWords := by simpa [isKey] using hk
          obtain ⟨j, hj, he⟩ := List.mem_iff_getElem.1 hm
          exact absurd (by rw [List.getElem?_eq_getElem hj, he]) (HP.out j hj)
      have HNO := Lib.hid hno
      clear hno
      go_wp2_with fail
      go_ret
      exact ⟨by rw [HNO.out]; rfl, hM1⟩
end Go.Proofs.YtpghimiecigakaaDoor
