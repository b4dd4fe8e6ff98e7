/-
  The document's chapter 11: letter, digit, digits, capitals, Key, walked. No condition.
-/
import Derived.Test.YtpokbepenacnpaaGreatDoorLyC
import Derived.Test.YtpokbepenacnpaaGreatDoorMPx
import Derived.Test.YtpokbepenacnpaaGreatDoorCom
namespace Go.Proofs.YtpokbepenacnpaaGreatDoor
open Go.RowKit
set_option linter.unusedVariables false

theorem isLet_nat (c : UInt8) : isLet c = ((decide (97 ≤ c.toNat) && decide (c.toNat ≤ 122)) || (decide (65 ≤ c.toNat) && decide (c.toNat ≤ 90)) || decide (c.toNat = 95)) := rfl

set_option maxRecDepth 100000 in
theorem letter_ref (w : World) (c : UInt8) (v : Int) (hv : v = c.toNat) : Calls Tryz.prog 72 #[.int .u8 v] w fun e w' => e = .returned (.bool (isLet c)) ∧ w' = w := by
  rw [isLet_nat]
  obtain ⟨n, hn⟩ : ∃ n, c.toNat = n := ⟨_, rfl⟩
  rw [hn] at hv ⊢
  subst hv
  clear hn
  go_enter Tryz.func72, Tryz.ntmps72
  by_cases h1 : 97 ≤ n
  · have z1 : (97 : Int) ≤ (n : Int) := by omega
    by_cases h2 : n ≤ 122
    · have z2 : (n : Int) ≤ 122 := by omega
      rw [decide_eq_true h1, decide_eq_true h2]
      clear h1 h2
      go_wp2_with fail
      go_ret
      exact ⟨rfl, rfl⟩
    · have z2 : ¬ (n : Int) ≤ 122 := by omega
      have z3 : (65 : Int) ≤ (n : Int) := by omega
      have z4 : ¬ (n : Int) ≤ 90 := by omega
      have z5 : ((n : Int) == 95) = false := by rw [beq_eq_false_iff_ne]; omega
      rw [decide_eq_true h1, decide_eq_false h2, decide_eq_true (show 65 ≤ n by omega), decide_eq_false (show ¬ n ≤ 90 by omega), decide_eq_false (show ¬ n = 95 by omega)]
      clear h1 h2 z1
      have z1 : (97 : Int) ≤ (n : Int) := by omega
      go_wp2_with fail
      go_ret
      exact ⟨rfl, rfl⟩
  · have z1 : ¬ (97 : Int) ≤ (n : Int) := by omega
    rw [decide_eq_false h1]
    by_cases h3 : 65 ≤ n
    · have z3 : (65 : Int) ≤ (n : Int) := by omega
      by_cases h4 : n ≤ 90
      · have z4 : (n : Int) ≤ 90 := by omega
        rw [decide_eq_true h3, decide_eq_true h4]
        clear h1 h3 h4
        go_wp2_with fail
        go_ret
        exact ⟨rfl, rfl⟩
      · have z4 : ¬ (n : Int) ≤ 90 := by omega
        rw [decide_eq_true h3, decide_eq_false h4]
        by_cases h5 : n = 95
        · have z5 : ((n : Int) == 95) = true := by rw [beq_iff_eq]; omega
          rw [decide_eq_true h5]
          clear h1 h3 h4 h5
          go_wp2_with fail
          go_ret
          exact ⟨rfl, rfl⟩
        · have z5 : ((n : Int) == 95) = false := by rw [beq_eq_false_iff_ne]; omega
          rw [decide_eq_false h5]
          clear h1 h3 h4 h5
          go_wp2_with fail
          go_ret
          exact ⟨rfl, rfl⟩
    · have z3 : ¬ (65 : Int) ≤ (n : Int) := by omega
      have z5 : ((n : Int) == 95) = false := by rw [beq_eq_false_iff_ne]; omega
      rw [decide_eq_false h3, decide_eq_false (show ¬ n = 95 by omega)]
      clear h1 h3
      go_wp2_with fail
      go_ret
      exact ⟨rfl, rfl⟩

set_option maxRecDepth 100000 in
theorem digit_ref (w : World) (c : UInt8) (v : Int) (hv : v = c.toNat) : Calls Tryz.prog 74 #[.int .u8 v] w fun e w' => e = .returned (.bool (isDig c)) ∧ w' = w := by
  unfold isDig
  obtain ⟨n, hn⟩ : ∃ n, c.toNat = n := ⟨_, rfl⟩
  rw [hn] at hv ⊢
  subst hv
  clear hn
  go_enter Tryz.func74, Tryz.ntmps74
  by_cases h1 : 48 ≤ n
  · have z1 : (48 : Int) ≤ (n : Int) := by omega
    by_cases h2 : n ≤ 57
    · have z2 : (n : Int) ≤ 57 := by omega
      rw [decide_eq_true h1, decide_eq_true h2]
      clear h1 h2
      go_wp2_with fail
      go_ret
      exact ⟨rfl, rfl⟩
    · have z2 : ¬ (n : Int) ≤ 57 := by omega
      rw [decide_eq_true h1, decide_eq_false h2]
      clear h1 h2
      go_wp2_with fail
      go_ret
      exact ⟨rfl, rfl⟩
  · have z1 : ¬ (48 : Int) ≤ (n : Int) := by omega
    rw [decide_eq_false h1]
    clear h1
    go_wp2_with fail
    go_ret
    exact ⟨rfl, rfl⟩

set_option maxRecDepth 100000 in
set_option maxHeartbeats 1000000 in
theorem digits_ref (w : World) (s : ByteArray) (hs : s.size ≤ 4096) (at_ : Nat) (hat : at_ ≤ s.size) :
    Calls Tryz.prog 123 #[.string s, .int .i64 at_] w fun e w' => e = .returned (.int .i64 (runL isDig s at_)) ∧ w' = w := by
  go_enter Tryz.func123, Tryz.ntmps123
  go_wp2_with fail
  go_loop [5] (fun t5 => ∃ k : Nat, at_ + k ≤ s.size ∧ t5 = .int .i64 k ∧ Hid (∀ j, j < k → ∃ x, s.data.toList[at_ + j]? = some x ∧ isDig x = true)) (fun t5 => s.size - (intOf t5).toNat)
  case atStart => exact ⟨0, by omega, rfl, Lib.hid (fun j hj => by omega)⟩
  case round =>
    obtain ⟨k, hk, rfl, hP⟩ := hrel
    have e1 : IntKind.i64.wrap ((at_ : Int) + (k : Int)) = (at_ : Int) + (k : Int) := IntWalk.i64_in _ (by omega)
    by_cases hlt : at_ + k < s.size
    · have hd : (at_ : Int) + (k : Int) < (s.size : Int) := by omega
      have hx := s_at s (at_ + k) hlt
      obtain ⟨x, hx'⟩ : ∃ x, s[at_ + k] = x := ⟨_, rfl⟩
      rw [hx'] at hx
      have hcall := digit_ref w x _ rfl
      have HX := Lib.hid hx
      cases hpx : isDig x with
      | true =>
        rw [hpx] at hcall
        have HPX := Lib.hid hpx
        clear hx hpx
        go_wp2_with fail
        (with_reducible refine hcall.mono ?_)
        rintro e w2 ⟨rfl, rfl⟩
        clear hcall
        go_wp2_with fail
        go_round
        case measure => simp [intOf]; omega
        case rel =>
          refine ⟨k + 1, by omega, by go_num, Lib.hid (fun j hj => ?_)⟩
          by_cases hjk : j = k
          · subst hjk; exact ⟨x, HX.out, HPX.out⟩
          · exact hP.out j (by omega)
      | false =>
        rw [hpx] at hcall
        have fin : runL isDig s at_ = k := tw_len isDig _ k (fun j hj => by rw [List.getElem?_drop]; exact hP.out j hj) (.inr ⟨x, by rw [List.getElem?_drop]; exact hx, hpx⟩)
        have FIN := Lib.hid fin
        clear hx hpx fin
        go_wp2_with fail
        (with_reducible refine hcall.mono ?_)
        rintro e w2 ⟨rfl, rfl⟩
        clear hcall
        go_wp2_with fail
        go_ret
        exact ⟨ret_int (congrArg Int.ofNat FIN.out.symm), rfl⟩
    · have hd : ¬ (at_ : Int) + (k : Int) < (s.size : Int) := by omega
      have fin : runL isDig s at_ = k := tw_len isDig _ k (fun j hj => by rw [List.getElem?_drop]; exact hP.out j hj) (.inl (by rw [List.getElem?_drop, List.getElem?_eq_none]; show s.size ≤ _; omega))
      have FIN := Lib.hid fin
      clear fin
      go_wp2_with fail
      go_ret
      exact ⟨ret_int (congrArg Int.ofNat FIN.out.symm), rfl⟩

theorem run_char {w : World} (v : Int) (c : UInt8) (hv : v = c.toNat) : (convert 119 9 (.slice (some ⟨w.heap.size, 0, none⟩) 1 1)).run Tryz.prog (w.alloc (.cells #[.int .u8 v] 5)) = .ok (.string ⟨#[c]⟩) (w.alloc (.cells #[.int .u8 v] 5)) := by
  subst hv
  have := run_convert_bytes_back (P := Tryz.prog) (w.alloc (.cells #[.int .u8 (c.toNat : Int)] 5)) 119 9 5 ⟨w.heap.size, 0, none⟩ 1 [c] Tryz.underlying119 Tryz.underlying5 Tryz.underlying9 (by
    intro j hj
    obtain rfl : j = 0 := by simpa using hj
    rw [addr_add, cell_of_heap (heap_alloc_new w _)]
    rfl)
  simpa using this

set_option maxRecDepth 100000 in
set_option maxHeartbeats 1000000 in
theorem capitals_ref (w : World) (s : ByteArray) (hs : s.size ≤ 4096) :
    Calls Tryz.prog 122 #[.string s] w fun e w' => e = .returned (.string ⟨(s.data.toList.map upc).toArray⟩) ∧ Mods [] w w' := by
  go_enter Tryz.func122, Tryz.ntmps122
  go_wp2_with fail
  go_loopw [3, 4] (fun t3 t4 wr => ∃ (i : Nat) (R : ByteArray), i ≤ s.size ∧ t4 = .int .i64 i ∧ t3 = .string R ∧ R.size = i ∧ Mods [] w wr ∧ Hid (R.data.toList = (s.data.toList.take i).map upc)) (fun _ t4 _ => s.size - (intOf t4).toNat)
  case atStart => exact ⟨0, ⟨#[]⟩, by omega, rfl, rfl, rfl, Mods.refl [] _, Lib.hid (by simp)⟩
  case round =>
    obtain ⟨i, R, hi, rfl, rfl, hR, hM, HR⟩ := hrel
    by_cases hlt : i < s.size
    · have hx := s_at s i hlt
      obtain ⟨x, hx'⟩ : ∃ x, s[i] = x := ⟨_, rfl⟩
      rw [hx'] at hx
      have htk : s.data.toList.take (i + 1) = s.data.toList.take i ++ [x] := by
        rw [List.take_add_one, hx]; rfl
      have hnext : Hid ((R ++ ⟨#[upc x]⟩ : ByteArray).data.toList = (s.data.toList.take (i + 1)).map upc) := Lib.hid (by rw [app_list, HR.out, htk, List.map_append]; rfl)
      have hnsz : (R ++ ⟨#[upc x]⟩ : ByteArray).size = i + 1 := by rw [ByteArray.size_append, hR]; rfl
      have hiz : (i : Int) < (s.size : Int) := by omega
      have hcb : ¬ 9223372036854775807 < R.size + 1 := by omega
      have HNS := Lib.hid hnsz
      clear hx htk HR hnsz
      by_cases h1 : 97 ≤ x.toNat
      · by_cases h2 : x.toNat ≤ 122
        · have hup : ((x.toNat : Int) - 32) = ((upc x).toNat : Int) := by
            unfold upc
            rw [if_pos ⟨h1, h2⟩, UInt8.toNat_sub]
            show ((x.toNat : Int) - 32) = (((2 ^ 8 - 32 + x.toNat) % 2 ^ 8 : Nat) : Int)
            omega
          have z1 : (97 : Int) ≤ (x.toNat : Int) := by omega
          have z2 : (x.toNat : Int) ≤ 122 := by omega
          have hcv := run_char (w := wr) ((x.toNat : Int) - 32) (upc x) hup
          clear hup h1 h2
          go_wp2_with fail
          exact ⟨⟨i + 1, _, by omega, by go_num, rfl, HNS.out, hM.alloc _, hnext⟩, by simp [intOf]; omega⟩
        · have hup : (x.toNat : Int) = ((upc x).toNat : Int) := by unfold upc; rw [if_neg (by omega)]
          have z1 : (97 : Int) ≤ (x.toNat : Int) := by omega
          have z2 : ¬ (x.toNat : Int) ≤ 122 := by omega
          have hcv := run_char (w := wr) (x.toNat : Int) (upc x) hup
          clear hup h1 h2
          go_wp2_with fail
          exact ⟨⟨i + 1, _, by omega, by go_num, rfl, HNS.out, hM.alloc _, hnext⟩, by simp [intOf]; omega⟩
      · have hup : (x.toNat : Int) = ((upc x).toNat : Int) := by unfold upc; rw [if_neg (by omega)]
        have z1 : ¬ (97 : Int) ≤ (x.toNat : Int) := by omega
        have hcv := run_char (w := wr) (x.toNat : Int) (upc x) hup
        clear hup h1
        go_wp2_with fail
        exact ⟨⟨i + 1, _, by omega, by go_num, rfl, HNS.out, hM.alloc _, hnext⟩, by simp [intOf]; omega⟩
    · obtain rfl : i = s.size := by omega
      have hfull : s.data.toList.take s.size = s.data.toList := List.take_of_length_le (Nat.le_refl _)
      have hR2 : R = ⟨(s.data.toList.map upc).toArray⟩ := bytes_of (by rw [HR.out, hfull])
      have HR2 := Lib.hid hR2
      clear hfull hR2
      go_wp2_with fail
      go_ret
      exact ⟨by rw [HR2.out]; rfl, hM⟩

set_option maxRecDepth 100000 in
set_option maxHeartbeats 1000000 in
theorem key_ref (w : World) (s : ByteArray) : Calls Tryz.prog 121 #[.string s] w fun e w' => e = .returned (.bool (isKey s.data.toList)) ∧ Mods [] w w' := by
  go_enter Tryz.func121, Tryz.ntmps121
  go_upto_region 2 with fail
  have hM1 := (Mods.refl [] w).alloc (.cells wordCells 9)
  have hg := heap_alloc_new w (.cells wordCells 9)
  change Code.wp _ _ _ _ (w.alloc (.cells wordCells 9))
  generalize w.alloc (.cells wordCells 9) = w1 at *
  generalize w.heap.size = gb at *
  have HG := Lib.hid hg
  clear hg
  go_wp2_with fail
  go_loopw [4] (fun t4 wr => ∃ k : Nat, k ≤ 24 ∧ t4 = .int .i64 k ∧ wr = w1 ∧ Hid (∀ j, j < k → keyWords[j]? ≠ some s.data.toList)) (fun t4 _ => 24 - (intOf t4).toNat)
  case atStart => exact ⟨0, by omega, rfl, rfl, Lib.hid (fun j hj => by omega)⟩
  case round =>
    obtain ⟨k, hk, rfl, rfl, HP⟩ := hrel
    by_cases hlt : k < 24
    · obtain ⟨x, hx⟩ : ∃ x, keyWords[k]? = some x := ⟨_, List.getElem?_eq_getElem hlt⟩
      have hc : wr.cell? ⟨gb, k, none⟩ = some (.string ⟨x.toArray⟩) := by
        rw [cell_of_heap HG.out]
        show ((keyWords.map fun l => Value.string ⟨l.toArray⟩).toArray)[k]? = _
        rw [List.getElem?_toArray, List.getElem?_map, hx]; rfl
      have HX := Lib.hid hx
      clear hx
      by_cases he : x = s.data.toList
      · have hs : s = ⟨x.toArray⟩ := bytes_of he.symm
        have hk : isKey s.data.toList = true := by
          have := List.mem_of_getElem? HX.out
          rw [he] at this
          simpa [isKey] using this
        rw [← hs] at hc
        have HK := Lib.hid hk
        clear he hs hk
        go_wp2_with fail
        go_ret
        exact ⟨by rw [HK.out]; rfl, hM1⟩
      · have e1 : ¬ s.toList = x := by rw [ByteArray.toList_eq]; exact fun h => he h.symm
        have e2 : ((⟨x.toArray⟩ : ByteArray).toList == s.toList) = false := by rw [beq_eq_false_iff_ne, ByteArray.toList_eq, ByteArray.toList_eq]; exact he
        have e3 : (x == s.toList) = false := by rw [beq_eq_false_iff_ne]; exact fun h => e1 h.symm
        have e4 : ¬ x = s.toList := fun h => e1 h.symm
        have HE := Lib.hid he
        clear he
        go_wp2_with fail
        go_round
        case measure => simp [intOf]; omega
        case rel =>
          refine ⟨k + 1, by omega, by go_num, by trivial, Lib.hid (fun j hj => ?_)⟩
          by_cases hjk : j = k
          · subst hjk; rw [HX.out]; exact fun h => HE.out (Option.some.inj h)
          · exact HP.out j (by omega)
    · obtain rfl : k = 24 := by omega
      have hno : isKey s.data.toList = false := by
        cases hk : isKey s.data.toList with
        | false => rfl
        | true =>
          have hm : s.data.toList ∈ keyWords := by simpa [isKey] using hk
          obtain ⟨j, hj, he⟩ := List.mem_iff_getElem.1 hm
          exact absurd (by rw [List.getElem?_eq_getElem hj, he]) (HP.out j hj)
      have HNO := Lib.hid hno
      clear hno
      go_wp2_with fail
      go_ret
      exact ⟨by rw [HNO.out]; rfl, hM1⟩
end Go.Proofs.YtpokbepenacnpaaGreatDoor

namespace Go.Proofs.YtpokbepenacnpaaGreatDoor
open Go.RowKit
set_option linter.unusedVariables false

theorem tok_info_ref : (Tryz.prog.info? 165).map (·.size) = some 5 := by kernel_rfl


set_option maxRecDepth 100000 in
set_option maxHeartbeats 1000000 in
theorem word_ref (w : World) (s : ByteArray) (hs : s.size ≤ 4096) (at_ : Nat) (hat : at_ ≤ s.size) :
    Calls Tryz.prog 73 #[.string s, .int .i64 at_] w (TokPost w (wordL (s.data.toList.drop at_)) at_) := by
  have hrb := heap_alloc_new w (.cells (tokCells 0 0 ⟨#[]⟩ 0 0) 165)
  have hM0 := (Mods.refl [] w).alloc (.cells (tokCells 0 0 ⟨#[]⟩ 0 0) 165)
  go_enter Tryz.func73, Tryz.ntmps73
  go_wp2_with fail
  generalize w.alloc (.cells (tokCells 0 0 ⟨#[]⟩ 0 0) 165) = w0 at *
  generalize hrbn : w.heap.size = rb at *
  have HRB := Lib.hid hrbn
  have HR0 := Lib.hid hrb
  clear hrbn hrb
  have hinfo := tok_info_ref
  have HINFO := Lib.hid hinfo
  clear hinfo
  go_loop [6] (fun t6 => ∃ k : Nat, at_ + k ≤ s.size ∧ t6 = .int .i64 k ∧ Hid (∀ j, j < k → ∃ x, s.data.toList[at_ + j]? = some x ∧ isLD x = true)) (fun t6 => s.size - (intOf t6).toNat)
  case atStart => exact ⟨0, by omega, rfl, Lib.hid (fun j hj => by omega)⟩
  case round =>
    obtain ⟨k, hk, rfl, hP⟩ := hrel
    have e1 : IntKind.i64.wrap ((at_ : Int) + (k : Int)) = (at_ : Int) + (k : Int) := IntWalk.i64_in _ (by omega)
    have more : ∀ x, s.data.toList[at_ + k]? = some x → isLD x = true → Hid (∀ j, j < k + 1 → ∃ x, s.data.toList[at_ + j]? = some x ∧ isLD x = true) := fun x hx hp => Lib.hid fun j hj => by
      by_cases hjk : j = k
      · subst hjk; exact ⟨x, hx, hp⟩
      · exact hP.out j (by omega)
    have stop : (s.data.toList[at_ + k]? = none ∨ ∃ x, s.data.toList[at_ + k]? = some x ∧ isLD x = false) → runL isLD s at_ = k := fun h => tw_len isLD _ k (fun j hj => by rw [List.getElem?_drop]; exact hP.out j hj) (by simpa [List.getElem?_drop] using h)
    by_cases hlt : at_ + k < s.size
    · have hd : (at_ : Int) + (k : Int) < (s.size : Int) := by omega
      have hx := s_at s (at_ + k) hlt
      obtain ⟨x, hx'⟩ : ∃ x, s[at_ + k] = x := ⟨_, rfl⟩
      rw [hx'] at hx
      have hc1 := fun W => (letter_ref W x _ rfl).mono (fun e w' h => (⟨h.1, h.2.symm⟩ : _ ∧ W = w'))
      have hc2 := fun W => (digit_ref W x _ rfl).mono (fun e w' h => (⟨h.1, h.2.symm⟩ : _ ∧ W = w'))
      cases hl : isLet x with
      | true =>
        rw [hl] at hc1
        have hmore := more x hx (by simp [isLD, hl])
        clear more stop hl hx hc2 hP
        go_wp2_with fail
        (with_reducible refine (hc1 _).mono ?_)
        rintro e w2 ⟨rfl, rfl⟩
        clear hc1
        go_wp2_with fail
        go_round
        case measure => simp [intOf]; omega
        case rel => exact ⟨k + 1, by omega, by go_num, hmore⟩
      | false =>
        rw [hl] at hc1
        cases hdg : isDig x with
        | true =>
          rw [hdg] at hc2
          have hmore := more x hx (by simp [isLD, hdg])
          clear more stop hl hx hP hdg
          go_wp2_with fail
          (with_reducible refine (hc1 _).mono ?_)
          rintro e w2 ⟨rfl, rfl⟩
          clear hc1
          go_wp2_with fail
          (with_reducible refine (hc2 _).mono ?_)
          rintro e w2 ⟨rfl, rfl⟩
          clear hc2
          go_wp2_with fail
          go_round
          case measure => simp [intOf]; omega
          case rel => exact ⟨k + 1, by omega, by go_num, hmore⟩
        | false =>
          rw [hdg] at hc2
          have hst := Lib.hid (stop (.inr ⟨x, hx, by simp [isLD, hl, hdg]⟩))
          clear more stop hl hx hP hdg
          go_wp2_with fail
          (with_reducible refine (hc1 _).mono ?_)
          rintro e w2 ⟨rfl, rfl⟩
          clear hc1
          go_wp2_with fail
          (with_reducible refine (hc2 _).mono ?_)
          rintro e w2 ⟨rfl, rfl⟩
          clear hc2
          have hWl : (s.extract at_ (at_ + k)).data.toList = (s.data.toList.drop at_).takeWhile isLD := by rw [ext_list, ← hst.out]; exact take_tw _ _
          have hWs : (s.extract at_ (at_ + k)).size = k := by rw [size_list, hWl]; exact hst.out
          obtain ⟨U, hU⟩ : ∃ U : ByteArray, U = ⟨((s.extract at_ (at_ + k)).data.toList.map upc).toArray⟩ := ⟨_, rfl⟩
          have hUl : U.data.toList = ((s.data.toList.drop at_).takeWhile isLD).map upc := by rw [hU, hWl]
          have hcap := fun W => capitals_ref W (s.extract at_ (at_ + k)) (by omega)
          rw [← hU] at hcap
          have hkey := fun W => key_ref W U
          have fin := Lib.hid (show ∀ b, isKey U.data.toList = b → wordL (s.data.toList.drop at_) = if b = true then some (⟨1, U.data.toList, 0, 0⟩, k) else if 40 < k then none else some (⟨2, (s.extract at_ (at_ + k)).data.toList, 0, 0⟩, k) by
            intro b hb
            have e1 : ((s.data.toList.drop at_).takeWhile isLD).length = k := hst.out
            unfold wordL
            rw [← hUl, hb, e1, hWl])
          clear hWl hU hUl
          obtain ⟨b, hb⟩ : ∃ b, isKey U.data.toList = b := ⟨_, rfl⟩
          have ends : ∀ o, (if b = true then some (⟨1, U.data.toList, 0, 0⟩, k) else if 40 < k then none else some (⟨2, (s.extract at_ (at_ + k)).data.toList, 0, 0⟩, k)) = o → wordL (s.data.toList.drop at_) = o := fun o h => (fin.out b hb).trans h
          have HE := Lib.hid ends
          rw [hb] at hkey
          clear ends fin hb hst
          go_wp2_with fail
          (with_reducible refine (hcap _).mono ?_)
          rintro e w3 ⟨rfl, hM3⟩
          go_wp2_with fail
          (with_reducible refine (hkey _).mono ?_)
          rintro e w4 ⟨rfl, hM4⟩
          have hM04 := (hM0.trans hM3 (by simp)).trans hM4 (by simp)
          have hr4 := hM4.heap (hM3.heap HR0.out (by simp)) (by simp)
          clear hM0 hM3 hM4 hkey
          have hinfo := HINFO.out
          cases b with
          | true =>
            go_wp2_with fail
            (with_reducible refine (hcap _).mono ?_)
            rintro e w5 ⟨rfl, hM5⟩
            have hM05 := hM04.trans hM5 (by simp)
            have hr5 := hM5.heap hr4 (by simp)
            clear hM04 hM5 hr4 hcap
            go_wp2_with (refine wpList_store_row rfl 165 (.tmp 4) (.tmp 44) rfl rb (tokCells 1 at_ U 0 0) rfl rfl 165 _ hr5 hinfo rfl (tok_one _ _ _ _ _) ?_)
            refine bodyPost_ret (results_cell_two rfl _ _ rb 165 (tokCells 1 at_ U 0 0) (0, 0) _ rfl (row_set_same _ hr5) Tryz.underlying165 rfl hinfo _ rfl) rfl ?_
            rw [HE.out _ rfl]
            exact ⟨rfl, hM05.setRow (.inr (by rw [HRB.out]; exact Nat.le_refl _)) _⟩
          | false =>
            by_cases h40 : 40 < k
            · have h40z : (40 : Int) < (k : Int) := by omega
              have e := HE.out none (by rw [if_neg (by decide), if_pos h40])
              go_wp2_with (refine wpList_store_row rfl 165 (.tmp 4) (.tmp 48) rfl rb (tokCells 0 0 ⟨#[]⟩ 0 0) rfl rfl 165 _ hr4 hinfo rfl (tok_one _ _ _ _ _) ?_)
              refine bodyPost_ret (results_cell_two rfl _ _ rb 165 (tokCells 0 0 ⟨#[]⟩ 0 0) (0, 0) _ rfl (row_set_same _ hr4) Tryz.underlying165 rfl hinfo _ rfl) rfl ?_
              rw [e]
              exact ⟨rfl, hM04.setRow (.inr (by rw [HRB.out]; exact Nat.le_refl _)) _⟩
            · have h40z : ¬ (40 : Int) < (k : Int) := by omega
              have e := Lib.hid (HE.out _ (by rw [if_neg (by decide), if_neg h40]))
              go_wp2_with (refine wpList_store_row rfl 165 (.tmp 4) (.tmp 51) rfl rb (tokCells 2 at_ (s.extract at_ (at_ + k)) 0 0) rfl rfl 165 _ hr4 hinfo rfl (tok_one _ _ _ _ _) ?_)
              refine bodyPost_ret (results_cell_two rfl _ _ rb 165 (tokCells 2 at_ (s.extract at_ (at_ + k)) 0 0) (0, 0) _ rfl (row_set_same _ hr4) Tryz.underlying165 rfl hinfo _ rfl) rfl ?_
              rw [e.out]
              exact ⟨rfl, hM04.setRow (.inr (by rw [HRB.out]; exact Nat.le_refl _)) _⟩
    · have hd : ¬ (at_ : Int) + (k : Int) < (s.size : Int) := by omega
      have hst := Lib.hid (stop (.inl (by rw [List.getElem?_eq_none]; show s.size ≤ _; omega)))
      clear more stop hP
      have hWl : (s.extract at_ (at_ + k)).data.toList = (s.data.toList.drop at_).takeWhile isLD := by rw [ext_list, ← hst.out]; exact take_tw _ _
      have hWs : (s.extract at_ (at_ + k)).size = k := by rw [size_list, hWl]; exact hst.out
      obtain ⟨U, hU⟩ : ∃ U : ByteArray, U = ⟨((s.extract at_ (at_ + k)).data.toList.map upc).toArray⟩ := ⟨_, rfl⟩
      have hUl : U.data.toList = ((s.data.toList.drop at_).takeWhile isLD).map upc := by rw [hU, hWl]
      have hcap := fun W => capitals_ref W (s.extract at_ (at_ + k)) (by omega)
      rw [← hU] at hcap
      have hkey := fun W => key_ref W U
      have fin := Lib.hid (show ∀ b, isKey U.data.toList = b → wordL (s.data.toList.drop at_) = if b = true then some (⟨1, U.data.toList, 0, 0⟩, k) else if 40 < k then none else some (⟨2, (s.extract at_ (at_ + k)).data.toList, 0, 0⟩, k) by
        intro b hb
        have e1 : ((s.data.toList.drop at_).takeWhile isLD).length = k := hst.out
        unfold wordL
        rw [← hUl, hb, e1, hWl])
      clear hWl hU hUl
      obtain ⟨b, hb⟩ : ∃ b, isKey U.data.toList = b := ⟨_, rfl⟩
      have ends : ∀ o, (if b = true then some (⟨1, U.data.toList, 0, 0⟩, k) else if 40 < k then none else some (⟨2, (s.extract at_ (at_ + k)).data.toList, 0, 0⟩, k)) = o → wordL (s.data.toList.drop at_) = o := fun o h => (fin.out b hb).trans h
      have HE := Lib.hid ends
      rw [hb] at hkey
      clear ends fin hb hst
      go_wp2_with fail
      (with_reducible refine (hcap _).mono ?_)
      rintro e w3 ⟨rfl, hM3⟩
      go_wp2_with fail
      (with_reducible refine (hkey _).mono ?_)
      rintro e w4 ⟨rfl, hM4⟩
      have hM04 := (hM0.trans hM3 (by simp)).trans hM4 (by simp)
      have hr4 := hM4.heap (hM3.heap HR0.out (by simp)) (by simp)
      clear hM0 hM3 hM4 hkey
      have hinfo := HINFO.out
      cases b with
      | true =>
        go_wp2_with fail
        (with_reducible refine (hcap _).mono ?_)
        rintro e w5 ⟨rfl, hM5⟩
        have hM05 := hM04.trans hM5 (by simp)
        have hr5 := hM5.heap hr4 (by simp)
        clear hM04 hM5 hr4 hcap
        go_wp2_with (refine wpList_store_row rfl 165 (.tmp 4) (.tmp 44) rfl rb (tokCells 1 at_ U 0 0) rfl rfl 165 _ hr5 hinfo rfl (tok_one _ _ _ _ _) ?_)
        refine bodyPost_ret (results_cell_two rfl _ _ rb 165 (tokCells 1 at_ U 0 0) (0, 0) _ rfl (row_set_same _ hr5) Tryz.underlying165 rfl hinfo _ rfl) rfl ?_
        rw [HE.out _ rfl]
        exact ⟨rfl, hM05.setRow (.inr (by rw [HRB.out]; exact Nat.le_refl _)) _⟩
      | false =>
        by_cases h40 : 40 < k
        · have h40z : (40 : Int) < (k : Int) := by omega
          have e := HE.out none (by rw [if_neg (by decide), if_pos h40])
          go_wp2_with (refine wpList_store_row rfl 165 (.tmp 4) (.tmp 48) rfl rb (tokCells 0 0 ⟨#[]⟩ 0 0) rfl rfl 165 _ hr4 hinfo rfl (tok_one _ _ _ _ _) ?_)
          refine bodyPost_ret (results_cell_two rfl _ _ rb 165 (tokCells 0 0 ⟨#[]⟩ 0 0) (0, 0) _ rfl (row_set_same _ hr4) Tryz.underlying165 rfl hinfo _ rfl) rfl ?_
          rw [e]
          exact ⟨rfl, hM04.setRow (.inr (by rw [HRB.out]; exact Nat.le_refl _)) _⟩
        · have h40z : ¬ (40 : Int) < (k : Int) := by omega
          have e := Lib.hid (HE.out _ (by rw [if_neg (by decide), if_neg h40]))
          go_wp2_with (refine wpList_store_row rfl 165 (.tmp 4) (.tmp 51) rfl rb (tokCells 2 at_ (s.extract at_ (at_ + k)) 0 0) rfl rfl 165 _ hr4 hinfo rfl (tok_one _ _ _ _ _) ?_)
          refine bodyPost_ret (results_cell_two rfl _ _ rb 165 (tokCells 2 at_ (s.extract at_ (at_ + k)) 0 0) (0, 0) _ rfl (row_set_same _ hr4) Tryz.underlying165 rfl hinfo _ rfl) rfl ?_
          rw [e.out]
          exact ⟨rfl, hM04.setRow (.inr (by rw [HRB.out]; exact Nat.le_refl _)) _⟩
end Go.Proofs.YtpokbepenacnpaaGreatDoor

namespace Go.Proofs.YtpokbepenacnpaaGreatDoor
open Go.RowKit
set_option linter.unusedVariables false

theorem TRel.byte {l : List UInt8} {s : ByteArray} {at_ k : Nat} {acc : List UInt8} (h : TRel l s at_ k acc) (hat : at_ < k) {x : UInt8} (hx : s.data.toList[k]? = some x) (h39 : x ≠ 39) : TRel l s at_ (k + 1) (acc ++ [x]) := by
  have e1 : s.data.toList.drop k = x :: s.data.toList.drop (k + 1) := by
    obtain ⟨h1, h2⟩ := List.getElem?_eq_some_iff.1 hx
    rw [List.drop_eq_getElem_cons h1, h2]
  unfold TRel at h ⊢
  rw [h, e1, textL_cons _ h39]
  cases textL (s.data.toList.drop (k + 1)) with
  | none => rfl
  | some y =>
    simp only [Option.map_some, List.append_assoc, List.cons_append, List.nil_append]
    congr 2; omega


set_option maxRecDepth 100000 in
set_option maxHeartbeats 1000000 in
theorem text_ref (w : World) (s : ByteArray) (hs : s.size ≤ 4096) (at_ : Nat) (hat : at_ < s.size) :
    Calls Tryz.prog 76 #[.string s, .int .i64 at_] w (TokPost w (textT (s.data.toList.drop at_)) at_) := by
  obtain ⟨l, hl⟩ : ∃ l, s.data.toList.drop at_ = l := ⟨_, rfl⟩
  have hst : TRel l s at_ (at_ + 1) [] := by
    unfold TRel
    rw [← hl, List.drop_drop, show at_ + 1 - at_ - 1 = 0 by omega]
    cases textL (s.data.toList.drop (at_ + 1)) <;> simp
  rw [hl]
  have hrb := heap_alloc_new w (.cells (tokCells 0 0 ⟨#[]⟩ 0 0) 165)
  have hM0 := (Mods.refl [] w).alloc (.cells (tokCells 0 0 ⟨#[]⟩ 0 0) 165)
  go_enter Tryz.func76, Tryz.ntmps76
  go_wp2_with fail
  generalize w.alloc (.cells (tokCells 0 0 ⟨#[]⟩ 0 0) 165) = w0 at *
  generalize hrbn : w.heap.size = rb at *
  have HRB := Lib.hid hrbn
  have HTR := Lib.hid hst
  clear hrbn hl hst
  have hinfo := tok_info_ref
  go_loop [6, 7] (fun t6 t7 => ∃ (k : Nat) (Q : ByteArray), at_ < k ∧ k ≤ s.size ∧ t7 = .int .i64 k ∧ t6 = .string Q ∧ Q.size ≤ k ∧ Hid (TRel l s at_ k Q.data.toList)) (fun _ t7 => s.size + 1 - (intOf t7).toNat)
  case atStart => exact ⟨at_ + 1, ⟨#[]⟩, by omega, by omega, by go_num, rfl, Nat.zero_le _, HTR⟩
  case round =>
    clear HTR
    obtain ⟨k, Q, hk, hks, rfl, rfl, hQ, HT⟩ := hrel
    by_cases hlt : k < s.size
    · have hd : (k : Int) < (s.size : Int) := by omega
      have hx := s_at s k hlt
      obtain ⟨x, hx'⟩ : ∃ x, s[k] = x := ⟨_, rfl⟩
      rw [hx'] at hx
      by_cases h39 : x = 39
      · have hz : ((x.toNat : Int) != 39) = false := by rw [h39]; rfl
        have hz2 : ((x.toNat : Int) == 39) = true := by rw [h39]; rfl
        have hstep := HT.out.step (n := 0) hk (by omega) (by rw [List.getElem?_drop]; exact h39 ▸ hx) (by
          rw [List.drop_zero]
          generalize textL (s.data.toList.drop k) = o
          cases o with
          | none => rfl
          | some y => simp)
        simp only [List.take_zero, List.append_nil, Nat.add_zero] at hstep
        by_cases hlt1 : k + 1 < s.size
        · have hd1 : (k : Int) + 1 < (s.size : Int) := by omega
          have hy := s_at s (k + 1) hlt1
          obtain ⟨y, hy'⟩ : ∃ y, s[k + 1] = y := ⟨_, rfl⟩
          rw [hy'] at hy
          have hhd : (s.data.toList.drop (k + 1)).head? = some y := by rw [List.head?_drop]; exact hy
          rw [hhd] at hstep
          by_cases hy39 : y = 39
          · have hyz : ((y.toNat : Int) == 39) = true := by rw [hy39]; rfl
            rw [if_pos (by rw [hy39])] at hstep
            have HS : Hid (TRel l s at_ (k + 2) (Q ++ ⟨#[39]⟩ : ByteArray).data.toList) := Lib.hid (by rw [app_list]; exact hstep)
            have hQs : (Q ++ ⟨#[39]⟩ : ByteArray).size ≤ k + 2 := by rw [ByteArray.size_append]; show Q.size + 1 ≤ _; omega
            have hcb : ¬ 9223372036854775807 < Q.size + 1 := by omega
            have HQS := Lib.hid hQs
            clear hhd hstep hy hx h39 hy39 HT hQs
            go_wp2_with fail
            go_round
            case measure => simp [intOf]; omega
            case rel => exact ⟨k + 2, _, by omega, by omega, by go_num, rfl, HQS.out, HS⟩
          · have hyz : ((y.toNat : Int) == 39) = false := by rw [beq_eq_false_iff_ne]; exact fun h => hy39 (UInt8.toNat_inj.1 (by show y.toNat = 39; omega))
            rw [if_neg (by intro h; exact hy39 (Option.some.inj h))] at hstep
            clear hhd hy hx h39 hy39 HT
            rw [← size_list] at hstep
            by_cases h200 : 200 < Q.size
            · have h200z : (200 : Int) < (Q.size : Int) := by omega
              rw [if_pos h200] at hstep
              have HE := Lib.hid hstep
              clear hstep
              go_wp2_with (refine wpList_store_row rfl 165 (.tmp 4) (.tmp 46) rfl rb (tokCells 0 0 ⟨#[]⟩ 0 0) rfl rfl 165 _ hrb hinfo rfl (tok_one _ _ _ _ _) ?_)
              refine bodyPost_ret (results_cell_two rfl _ _ rb 165 (tokCells 0 0 ⟨#[]⟩ 0 0) (0, 0) _ rfl (row_set_same _ hrb) Tryz.underlying165 rfl hinfo _ rfl) rfl ?_
              rw [HE.out]
              exact ⟨rfl, hM0.setRow (.inr (by rw [HRB.out]; exact Nat.le_refl _)) _⟩
            · have h200z : ¬ (200 : Int) < (Q.size : Int) := by omega
              rw [if_neg h200] at hstep
              have HE := Lib.hid hstep
              clear hstep
              go_wp2_with (refine wpList_store_row rfl 165 (.tmp 4) (.tmp 49) rfl rb (tokCells 4 at_ Q 0 0) rfl rfl 165 _ hrb hinfo rfl (tok_one _ _ _ _ _) ?_)
              refine bodyPost_ret (results_cell_two rfl _ _ rb 165 (tokCells 4 at_ Q 0 0) (0, 0) _ rfl (row_set_same _ hrb) Tryz.underlying165 rfl hinfo _ rfl) rfl ?_
              rw [HE.out]
              exact ⟨by rw [show (k : Int) + 1 - (at_ : Int) = ((k + 1 - at_ : Nat) : Int) by omega]; rfl, hM0.setRow (.inr (by rw [HRB.out]; exact Nat.le_refl _)) _⟩
        · have hd1 : ¬ (k : Int) + 1 < (s.size : Int) := by omega
          have hnil : (s.data.toList.drop (k + 1)).head? = none := by rw [List.head?_drop, List.getElem?_eq_none]; show s.size ≤ _; omega
          rw [hnil, if_neg (by simp)] at hstep
          clear hnil hx h39 HT
          rw [← size_list] at hstep
          by_cases h200 : 200 < Q.size
          · have h200z : (200 : Int) < (Q.size : Int) := by omega
            rw [if_pos h200] at hstep
            have HE := Lib.hid hstep
            clear hstep
            go_wp2_with (refine wpList_store_row rfl 165 (.tmp 4) (.tmp 46) rfl rb (tokCells 0 0 ⟨#[]⟩ 0 0) rfl rfl 165 _ hrb hinfo rfl (tok_one _ _ _ _ _) ?_)
            refine bodyPost_ret (results_cell_two rfl _ _ rb 165 (tokCells 0 0 ⟨#[]⟩ 0 0) (0, 0) _ rfl (row_set_same _ hrb) Tryz.underlying165 rfl hinfo _ rfl) rfl ?_
            rw [HE.out]
            exact ⟨rfl, hM0.setRow (.inr (by rw [HRB.out]; exact Nat.le_refl _)) _⟩
          · have h200z : ¬ (200 : Int) < (Q.size : Int) := by omega
            rw [if_neg h200] at hstep
            have HE := Lib.hid hstep
            clear hstep
            go_wp2_with (refine wpList_store_row rfl 165 (.tmp 4) (.tmp 49) rfl rb (tokCells 4 at_ Q 0 0) rfl rfl 165 _ hrb hinfo rfl (tok_one _ _ _ _ _) ?_)
            refine bodyPost_ret (results_cell_two rfl _ _ rb 165 (tokCells 4 at_ Q 0 0) (0, 0) _ rfl (row_set_same _ hrb) Tryz.underlying165 rfl hinfo _ rfl) rfl ?_
            rw [HE.out]
            exact ⟨by rw [show (k : Int) + 1 - (at_ : Int) = ((k + 1 - at_ : Nat) : Int) by omega]; rfl, hM0.setRow (.inr (by rw [HRB.out]; exact Nat.le_refl _)) _⟩
      · have hz : ((x.toNat : Int) != 39) = true := by rw [bne_iff_ne]; exact fun h => h39 (UInt8.toNat_inj.1 (by show x.toNat = 39; omega))
        have hz2 : ((x.toNat : Int) == 39) = false := by rw [beq_eq_false_iff_ne]; exact fun h => h39 (UInt8.toNat_inj.1 (by show x.toNat = 39; omega))
        have hb := HT.out.byte hk hx h39
        have hel : (s.extract k (k + 1)).data.toList = [x] := by
          rw [ext_list]
          obtain ⟨h2, h3⟩ := List.getElem?_eq_some_iff.1 hx
          rw [List.drop_eq_getElem_cons h2, h3]; rfl
        have hes : (s.extract k (k + 1)).size = 1 := by rw [size_list, hel]; rfl
        have HS : Hid (TRel l s at_ (k + 1) (Q ++ s.extract k (k + 1) : ByteArray).data.toList) := Lib.hid (by rw [app_list, hel]; exact hb)
        have hQs : (Q ++ s.extract k (k + 1) : ByteArray).size ≤ k + 1 := by rw [ByteArray.size_append, hes]; omega
        have hcb : ¬ 9223372036854775807 < Q.size + (s.extract k (k + 1)).size := by omega
        have HQS := Lib.hid hQs
        have hkz : (k : Int) + 1 ≤ (s.size : Int) := by omega
        clear hb hel hes hQs hx h39 HT
        go_wp2_with fail
        go_round
        case measure => simp [intOf]; omega
        case rel => exact ⟨k + 1, _, by omega, by omega, by go_num, rfl, HQS.out, HS⟩
    · have hd : ¬ (k : Int) < (s.size : Int) := by omega
      have hn : textL (s.data.toList.drop k) = none := by rw [List.drop_eq_nil_of_le (by show s.size ≤ k; omega)]; rfl
      have hE := Lib.hid (HT.out.bad hn)
      clear hn HT
      go_wp2_with (refine wpList_store_row rfl 165 (.tmp 4) (.tmp 54) rfl rb (tokCells 0 0 ⟨#[]⟩ 0 0) rfl rfl 165 _ hrb hinfo rfl (tok_one _ _ _ _ _) ?_)
      refine bodyPost_ret (results_cell_two rfl _ _ rb 165 (tokCells 0 0 ⟨#[]⟩ 0 0) (0, 0) _ rfl (row_set_same _ hrb) Tryz.underlying165 rfl hinfo _ rfl) rfl ?_
      rw [hE.out]
      exact ⟨rfl, hM0.setRow (.inr (by rw [HRB.out]; exact Nat.le_refl _)) _⟩
end Go.Proofs.YtpokbepenacnpaaGreatDoor
