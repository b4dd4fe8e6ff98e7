/-
  The document's chapter 11: number, walked, at a place where a digit stands. No condition.
-/
import Derived.Test.YtpghimiecigakaaDoorRdD
namespace Go.Proofs.YtpghimiecigakaaDoor
open Go.RowKit
set_option linter.unusedVariables false

theorem numVal_app (a b : List UInt8) : numVal (a ++ b) = numVal a * 10 ^ b.length + numVal b := by
  have h := numVal_fold b (numVal a)
  rw [← h]
  unfold numVal
  rw [List.foldl_append]
theorem numVal_take_le (D : List UInt8) (i : Nat) : numVal (D.take i) ≤ numVal D := by
  have h := numVal_app (D.take i) (D.drop i)
  rw [List.take_append_drop] at h
  rw [h]
  exact Nat.le_trans (Nat.le_mul_of_pos_right _ (Nat.pow_pos (by omega))) (Nat.le_add_right _ _)

set_option maxRecDepth 100000 in
set_option maxHeartbeats 2000000 in
theorem number_ref (w : World) (s : ByteArray) (hs : s.size ≤ 4096) (at_ : Nat) (hat : at_ ≤ s.size) :
    Calls Tryd.prog 17 #[.string s, .int .i64 at_] w (TokPost w (numberL (s.data.toList.drop at_)) at_) := by
  obtain ⟨n, hn⟩ : ∃ n, runL isDig s at_ = n := ⟨_, rfl⟩
  have hn1 := runL_le isDig s at_ hat
  rw [hn] at hn1
  obtain ⟨l, hl⟩ : ∃ l, s.data.toList.drop at_ = l := ⟨_, rfl⟩
  have hnl : (l.takeWhile isDig).length = n := by rw [← hl]; exact hn
  have hDl : (s.extract at_ (at_ + n)).data.toList = l.takeWhile isDig := by rw [ext_list, hl, ← hnl]; exact take_tw _ _
  have hRl : s.data.toList.drop (at_ + n) = l.dropWhile isDig := by rw [dropWhile_eq_drop, hnl, ← hl, List.drop_drop]
  have hdg := fun W => (digits_ref W s hs at_ hat).mono (fun e w' h => (⟨h.1, h.2.symm⟩ : _ ∧ W = w'))
  rw [hn] at hdg
  rw [hl]
  have HL := Lib.hid hl
  have HNL := Lib.hid hnl
  have HDL := Lib.hid hDl
  have HRL := Lib.hid hRl
  clear hnl hDl hRl hl hn
  have hrb := heap_alloc_new w (.cells (tokCells 0 0 ⟨#[]⟩ 0 0) 33)
  have hM0 := (Mods.refl [] w).alloc (.cells (tokCells 0 0 ⟨#[]⟩ 0 0) 33)
  go_enter Tryd.func17, Tryd.ntmps17
  go_wp2_with fail
  generalize w.alloc (.cells (tokCells 0 0 ⟨#[]⟩ 0 0) 33) = w0 at *
  generalize hrbn : w.heap.size = rb at *
  have HRB := Lib.hid hrbn
  have HR0 := Lib.hid hrb
  clear hrbn hrb
  (with_reducible refine (hdg _).mono ?_)
  rintro e w2 ⟨rfl, rfl⟩
  clear hdg
  have hki : (at_ : Int) + (n : Int) ≤ (s.size : Int) := by omega
  obtain ⟨PF, hPF⟩ : ∃ PF, decide ((l.dropWhile isDig).head? = some 46) = PF := ⟨_, rfl⟩
  have HPF := Lib.hid hPF
  clear hPF
  go_upto_region 5 with fail
  go_cut [36] from 23 to 36 (fun s36 wx => s36 = .bool PF ∧ w0 = wx)
  case first =>
    have hP := HPF.out
    rw [← HRL.out, List.head?_drop] at hP
    by_cases hlt : at_ + n < s.size
    · have hd : (at_ : Int) + (n : Int) < (s.size : Int) := by omega
      have hx := s_at s (at_ + n) hlt
      obtain ⟨x, hx'⟩ : ∃ x, s[at_ + n] = x := ⟨_, rfl⟩
      rw [hx'] at hx
      rw [hx] at hP
      by_cases h46 : x = 46
      · have hz : ((x.toNat : Int) == 46) = true := by rw [h46]; rfl
        rw [h46, decide_eq_true rfl] at hP
        subst hP
        clear hx h46
        go_wp2_with fail
        go_meet
        exact ⟨rfl, rfl⟩
      · have hz : ((x.toNat : Int) == 46) = false := by rw [beq_eq_false_iff_ne]; exact fun h => h46 (UInt8.toNat_inj.1 (by show x.toNat = 46; omega))
        rw [decide_eq_false (fun h => h46 (Option.some.inj h))] at hP
        subst hP
        clear hx h46
        go_wp2_with fail
        go_meet
        exact ⟨rfl, rfl⟩
    · have hd : ¬ (at_ : Int) + (n : Int) < (s.size : Int) := by omega
      rw [List.getElem?_eq_none (by show s.size ≤ _; omega), decide_eq_false (by simp)] at hP
      subst hP
      go_wp2_with fail
      go_meet
      exact ⟨rfl, rfl⟩
  case rest =>
    obtain ⟨rfl, rfl⟩ := hcut
    go_upto_if 36 with fail
    go_cut [7, 8, 9] (fun s7 s8 s9 wx => ∃ (D : ByteArray) (k sc : Nat), s7 = .string D ∧ s8 = .int .i64 k ∧ s9 = .int .i64 sc ∧ w0 = wx ∧ NumRel l D k sc)
    case first =>
      cases PF with
      | false =>
        have hf : fracL (l.dropWhile isDig) = [] := by unfold fracL; rw [if_neg (of_decide_eq_false HPF.out)]
        have fin : NumRel l (s.extract at_ (at_ + n)) n 0 := ⟨by rw [HDL.out]; unfold numDigits; rw [hf, List.append_nil], by unfold numLen; rw [if_pos hf]; exact HNL.out.symm, by rw [hf]; rfl⟩
        go_wp2_with fail
        go_meet
        exact ⟨s.extract at_ (at_ + n), n, 0, rfl, rfl, rfl, rfl, fin⟩
      | true =>
        have hh := of_decide_eq_true HPF.out
        obtain ⟨r, hr⟩ : ∃ r, l.dropWhile isDig = 46 :: r := by
          cases hd : l.dropWhile isDig with
          | nil => rw [hd] at hh; simp at hh
          | cons c r => rw [hd] at hh; simp at hh; exact ⟨r, by rw [hh]⟩
        have hr2 : s.data.toList.drop (at_ + n) = 46 :: r := by rw [HRL.out, hr]
        have hr3 : s.data.toList.drop (at_ + n + 1) = r := by rw [← List.drop_drop, hr2]; rfl
        have hlt : at_ + n < s.size := by
          have := congrArg List.length hr2
          rw [List.length_drop] at this
          have e1 : s.data.toList.length = s.size := rfl
          rw [e1] at this
          simp at this
          omega
        obtain ⟨sc, hsc⟩ : ∃ sc, runL isDig s (at_ + n + 1) = sc := ⟨_, rfl⟩
        have hsc1 := runL_le isDig s (at_ + n + 1) (by omega)
        rw [hsc] at hsc1
        have hf : fracL (l.dropWhile isDig) = r.takeWhile isDig := by rw [hr]; unfold fracL; rw [List.head?_cons, if_pos rfl]; rfl
        have hfl : (r.takeWhile isDig).length = sc := by rw [← hr3]; exact hsc
        have hrun := fun W => (digits_ref W s hs (at_ + n + 1) (by omega)).mono (fun e w' h => (⟨h.1, h.2.symm⟩ : _ ∧ W = w'))
        have e1 : ((at_ + n + 1 : Nat) : Int) = (at_ : Int) + (n : Int) + 1 := by omega
        rw [e1, hsc] at hrun
        have HF := Lib.hid hf
        have HFL := Lib.hid hfl
        have HR3 := Lib.hid hr3
        have hk2 : (at_ : Int) + (n : Int) + 1 + (sc : Int) ≤ (s.size : Int) := by omega
        clear hh hr hr2 hr3 hsc hf hfl e1
        go_wp2_with fail
        (with_reducible refine (hrun _).mono ?_)
        rintro e w2 ⟨rfl, rfl⟩
        clear hrun
        by_cases hs0 : sc = 0
        · subst hs0
          have hf0 : fracL (l.dropWhile isDig) = [] := by rw [HF.out]; exact List.length_eq_zero_iff.1 HFL.out
          have fin : NumRel l (s.extract at_ (at_ + n)) n 0 := ⟨by rw [HDL.out]; unfold numDigits; rw [hf0, List.append_nil], by unfold numLen; rw [if_pos hf0]; exact HNL.out.symm, by rw [hf0]; rfl⟩
          have FIN := Lib.hid fin
          clear fin hf0
          go_wp2_with fail
          go_meet
          exact ⟨s.extract at_ (at_ + n), n, 0, rfl, rfl, rfl, rfl, FIN.out⟩
        · have hs0z : (0 : Int) < (sc : Int) := by omega
          have hf0 : fracL (l.dropWhile isDig) ≠ [] := by rw [HF.out]; intro h; have := HFL.out; rw [h] at this; simp at this; omega
          have fin : NumRel l (s.extract at_ (at_ + n) ++ s.extract (at_ + n + 1) (at_ + n + 1 + sc)) (n + 1 + sc) sc := by
            refine ⟨?_, by unfold numLen; rw [if_neg hf0, HNL.out, HF.out, HFL.out], by rw [HF.out]; exact HFL.out.symm⟩
            rw [app_list, HDL.out, ext_list, HR3.out, ← HFL.out, take_tw, ← HF.out]
            rfl
          have FIN := Lib.hid fin
          have hsz1 : (s.extract at_ (at_ + n)).size ≤ 4096 := by rw [size_list, HDL.out, HNL.out]; omega
          have hsz2 : (s.extract (at_ + n + 1) (at_ + n + 1 + sc)).size ≤ 4096 := by rw [size_list, ext_list, List.length_take]; omega
          have hcat : ¬ 9223372036854775807 < (s.extract at_ (at_ + n)).size + (s.extract (at_ + n + 1) (at_ + n + 1 + sc)).size := by omega
          clear fin hf0
          go_wp2_with fail
          go_meet
          exact ⟨_, n + 1 + sc, sc, rfl, by go_num, rfl, rfl, by rw [show at_ + (n + 1 + sc) = at_ + n + 1 + sc by omega]; exact FIN.out⟩
    case rest =>
      obtain ⟨D, k, sc, rfl, rfl, rfl, rfl, hNum⟩ := hcut
      obtain ⟨hD, hk, hsc⟩ := hNum
      have hll : l.length = s.size - at_ := by rw [← HL.out, List.length_drop]; rfl
      have hkl := numLen_le l
      rw [← hk, hll] at hkl
      have hDs : D.size ≤ 4096 := by
        have := numDigits_le l
        rw [size_list, hD]; omega
      have hall := numDigits_dig l
      rw [← hD] at hall
      have hscl : sc ≤ 4096 := by
        rw [hsc]
        have h1 : (fracL (l.dropWhile isDig)).length ≤ (numDigits l).length := by unfold numDigits; rw [List.length_append]; omega
        rw [← hD, ← size_list] at h1
        omega
      obtain ⟨V, hV⟩ : ∃ V, numVal D.data.toList = V := ⟨_, rfl⟩
      obtain ⟨H, hH⟩ : ∃ H, headLet (l.drop k) = H := ⟨_, rfl⟩
      have fin : numberL l = if 9223372036854775807 < V ∨ 9 < sc ∨ H = true then none else some (⟨3, [], V, sc⟩, k) := by
        unfold numberL
        rw [← hD, ← hsc, ← hk, hV, hH]
      have hHx : headLet (s.data.toList.drop (at_ + k)) = H := by rw [← hH, ← HL.out, List.drop_drop]
      have FIN := Lib.hid fin
      have HALL := Lib.hid hall
      have HVV := Lib.hid hV
      have HHX := Lib.hid hHx
      have hk2 : (at_ : Int) + (k : Int) ≤ (s.size : Int) := by omega
      clear hD hk hsc fin hall hV hH hHx hll HL HNL HDL HRL HPF
      go_upto_region 10 with fail
      obtain ⟨BAD, hBAD⟩ : ∃ BAD, (decide (9 < sc) || H) = BAD := ⟨_, rfl⟩
      go_cut [77] from 60 to 77 (fun s77 wx => s77 = .bool BAD ∧ w0 = wx)
      case first =>
        by_cases h9 : 9 < sc
        · have h9z : (9 : Int) < (sc : Int) := by omega
          rw [decide_eq_true h9, Bool.true_or] at hBAD
          subst hBAD
          clear h9
          go_wp2_with fail
          go_meet
          exact ⟨rfl, rfl⟩
        · have h9z : ¬ (9 : Int) < (sc : Int) := by omega
          rw [decide_eq_false h9, Bool.false_or] at hBAD
          subst hBAD
          clear h9
          have hHx := HHX.out
          by_cases hlt : at_ + k < s.size
          · have hd : (at_ : Int) + (k : Int) < (s.size : Int) := by omega
            have hx := s_at s (at_ + k) hlt
            obtain ⟨x, hx'⟩ : ∃ x, s[at_ + k] = x := ⟨_, rfl⟩
            rw [hx'] at hx
            have hxl : isLet x = H := by
              rw [← hHx]
              obtain ⟨h2, h3⟩ := List.getElem?_eq_some_iff.1 hx
              rw [List.drop_eq_getElem_cons h2, h3]; rfl
            have hcall := fun W => (letter_ref W x _ rfl).mono (fun e w' h => (⟨h.1, h.2.symm⟩ : _ ∧ W = w'))
            rw [hxl] at hcall
            clear hx hxl hHx
            go_wp2_with fail
            (with_reducible refine (hcall _).mono ?_)
            rintro e w2 ⟨rfl, rfl⟩
            clear hcall
            go_wp2_with fail
            go_meet
            exact ⟨rfl, rfl⟩
          · have hd : ¬ (at_ : Int) + (k : Int) < (s.size : Int) := by omega
            rw [List.drop_eq_nil_of_le (show s.size ≤ at_ + k by omega)] at hHx
            have : H = false := hHx.symm
            subst this
            clear hHx
            go_wp2_with fail
            go_meet
            exact ⟨rfl, rfl⟩
      case rest =>
        obtain ⟨rfl, rfl⟩ := hcut
        have hinfo := tok_info_ref
        have hr := HR0.out
        cases BAD with
        | true =>
          have e := FIN.out
          rw [if_pos (by
            right
            rw [Bool.or_eq_true, decide_eq_true_eq] at hBAD
            exact hBAD)] at e
          have HE := Lib.hid e
          clear e
          go_wp2_with (refine wpList_store_row rfl 33 (.tmp 4) (.tmp 78) rfl rb (tokCells 0 0 ⟨#[]⟩ 0 0) rfl rfl 33 _ hr hinfo rfl (tok_one _ _ _ _ _) ?_)
          refine bodyPost_ret (results_cell_two rfl _ _ rb 33 (tokCells 0 0 ⟨#[]⟩ 0 0) (0, 0) _ rfl (row_set_same _ hr) Tryd.underlying33 rfl hinfo _ rfl) rfl ?_
          rw [HE.out]
          exact ⟨rfl, hM0.setRow (.inr (by rw [HRB.out]; exact Nat.le_refl _)) _⟩
        | false =>
          rw [Bool.or_eq_false_iff, decide_eq_false_iff_not] at hBAD
          have HBAD := Lib.hid hBAD
          clear hBAD hr
          go_wp2_with fail
          go_loop [10, 11] (fun t10 t11 => ∃ i v : Nat, i ≤ D.size ∧ t11 = .int .i64 i ∧ t10 = .int .i64 v ∧ v ≤ 9223372036854775807 ∧ Hid (numVal (D.data.toList.take i) = v)) (fun _ t11 => D.size - (intOf t11).toNat)
          case atStart => exact ⟨0, 0, by omega, rfl, rfl, by omega, Lib.hid rfl⟩
          case round =>
            obtain ⟨i, v, hi, rfl, rfl, hv, HV⟩ := hrel
            by_cases hlt : i < D.size
            · have hd : (i : Int) < (D.size : Int) := by omega
              have hx := s_at D i hlt
              obtain ⟨x, hx'⟩ : ∃ x, D[i] = x := ⟨_, rfl⟩
              rw [hx'] at hx
              have hdig : 48 ≤ x.toNat ∧ x.toNat ≤ 57 := by simpa [isDig] using HALL.out x (List.mem_of_getElem? hx)
              have htk : D.data.toList.take (i + 1) = D.data.toList.take i ++ [x] := by rw [List.take_add_one, hx]; rfl
              have hnv : numVal (D.data.toList.take (i + 1)) = v * 10 + (x.toNat - 48) := by rw [htk, numVal_snoc, HV.out]
              obtain ⟨d, hdx⟩ : ∃ d, x.toNat - 48 = d := ⟨_, rfl⟩
              rw [hdx] at hnv
              have hd9 : d ≤ 9 := by omega
              have hw1 : (x.toNat : Int) - 48 = (d : Int) := by omega
              have HNV := Lib.hid hnv
              clear hx htk hnv
              by_cases hov : 9223372036854775807 < v * 10 + d
              · have hz : decide ((9223372036854775807 - (d : Int)) / 10 < (v : Int)) = true := decide_eq_true (by omega)
                have hVbig : 9223372036854775807 < V := by
                  have := numVal_take_le D.data.toList (i + 1)
                  rw [HNV.out, HVV.out] at this
                  omega
                have e := FIN.out
                rw [if_pos (.inl hVbig)] at e
                have HE := Lib.hid e
                have hr := HR0.out
                clear e hVbig hov
                go_wp2_with (refine wpList_store_row rfl 33 (.tmp 4) (.tmp 95) rfl rb (tokCells 0 0 ⟨#[]⟩ 0 0) rfl rfl 33 _ hr hinfo rfl (tok_one _ _ _ _ _) ?_)
                refine bodyPost_ret (results_cell_two rfl _ _ rb 33 (tokCells 0 0 ⟨#[]⟩ 0 0) (0, 0) _ rfl (row_set_same _ hr) Tryd.underlying33 rfl hinfo _ rfl) rfl ?_
                rw [HE.out]
                exact ⟨rfl, hM0.setRow (.inr (by rw [HRB.out]; exact Nat.le_refl _)) _⟩
              · have hz : decide ((9223372036854775807 - (d : Int)) / 10 < (v : Int)) = false := decide_eq_false (by omega)
                have hz2 : (v : Int) * 10 + (d : Int) ≤ 9223372036854775807 := by omega
                have HNB : Hid (v * 10 + d ≤ 9223372036854775807) := Lib.hid (by omega)
                clear hov
                go_wp2_with fail
                go_round
                case measure => simp [intOf]; omega
                case rel => exact ⟨i + 1, v * 10 + d, by omega, by go_num, by go_num, HNB.out, HNV⟩
            · obtain rfl : i = D.size := by omega
              have hfull : D.data.toList.take D.size = D.data.toList := List.take_of_length_le (Nat.le_refl _)
              have hvV : v = V := by rw [← HV.out, hfull, HVV.out]
              subst hvV
              have e := FIN.out
              rw [if_neg (by
                rintro (h | h | h)
                · omega
                · exact HBAD.out.1 h
                · rw [HBAD.out.2] at h; cases h)] at e
              have HE := Lib.hid e
              have hr := HR0.out
              clear e hfull
              go_wp2_with (refine wpList_store_row rfl 33 (.tmp 4) (.tmp 103) rfl rb (tokCells 3 at_ ⟨#[]⟩ v sc) rfl rfl 33 _ hr hinfo rfl (tok_one _ _ _ _ _) ?_)
              refine bodyPost_ret (results_cell_two rfl _ _ rb 33 (tokCells 3 at_ ⟨#[]⟩ v sc) (0, 0) _ rfl (row_set_same _ hr) Tryd.underlying33 rfl hinfo _ rfl) rfl ?_
              rw [HE.out]
              exact ⟨rfl, hM0.setRow (.inr (by rw [HRB.out]; exact Nat.le_refl _)) _⟩
end Go.Proofs.YtpghimiecigakaaDoor
