/-
  A scanner's method number, walked, at a place where a digit stands. No condition but that Go's own variables hold what they were laid with.
-/
import Derived.Test.YtgbpoaimbjlamaaGreatDoorLxU
import Derived.Deep.LoopGhost
import Derived.Deep.DeepCutAuto
namespace Go.Proofs.YtgbpoaimbjlamaaGreatDoor
open Go.RowKit
set_option linter.unusedVariables false

theorem tok_info : (Tryz.prog.info? 56).map (·.size) = some 5 := by kernel_rfl

theorem ext_end (s : ByteArray) (a : Nat) : (s.extract a s.size).data.toList = s.data.toList.drop a := Lib.extract_to_end s a

/-- What is known of a number's digits, length and scale. -/
def NumRel (l : List UInt8) (D : ByteArray) (n sc : Nat) : Prop := D.data.toList = numDigits l ∧ n = numLen l ∧ sc = (fracL (l.dropWhile isDig)).length

theorem drop_tw {α : Type} (p : α → Bool) (l : List α) (k : Nat) : (l.drop k).takeWhile p = ((l.drop k).takeWhile p) := rfl

theorem headLet_run (s : ByteArray) (k : Nat) : headLet (s.data.toList.drop k) = decide (0 < runL isLet s k) := by
  unfold runL
  cases s.data.toList.drop k with
  | nil => rfl
  | cons c r =>
    rw [List.takeWhile_cons]
    cases h : isLet c with
    | true => simp [headLet, h]
    | false => simp [headLet, h]

theorem hasPrefix_dot (l : List UInt8) : Lib.hasPrefix l [46] = decide (l.head? = some 46) := by
  cases l with
  | nil => rfl
  | cons c r =>
    simp [Lib.hasPrefix, List.isPrefixOf]
    rw [Bool.eq_iff_iff]; simp; constructor <;> intro h <;> exact h.symm

theorem numDigits_le (l : List UInt8) : (numDigits l).length ≤ numLen l := by
  unfold numDigits numLen
  rw [List.length_append]
  split
  · rename_i h; rw [h]; simp
  · omega
theorem numDigits_dig (l : List UInt8) : ∀ x ∈ numDigits l, isDig x = true := by
  intro x hx
  unfold numDigits at hx
  rcases List.mem_append.1 hx with h | h
  · exact mem_tw h
  · unfold fracL at h
    split at h
    · exact mem_tw h
    · simp at h

set_option maxRecDepth 100000 in
set_option maxHeartbeats 2000000 in
theorem number_any (w : World) (b : Nat) (s : ByteArray) (hS : Scan w b s) (hT : Tabs w) (hs : s.size ≤ 4096) (at_ : Nat) (hat : at_ ≤ s.size) (h0 : (s.data.toList.drop at_).takeWhile isDig ≠ []) :
    Calls Tryz.prog 58 #[.pointer (some ⟨b, 0, none⟩), .int .i64 at_] w (TokPost w (numberL (s.data.toList.drop at_)) at_) := by
  obtain ⟨n, hn⟩ : ∃ n, runL isDig s at_ = n := ⟨_, rfl⟩
  have hn1 := runL_le isDig s at_ hat
  rw [hn] at hn1
  obtain ⟨l, hl⟩ : ∃ l, s.data.toList.drop at_ = l := ⟨_, rfl⟩
  have hnl : (l.takeWhile isDig).length = n := by rw [← hl]; exact hn
  have hDl : (s.extract at_ (at_ + n)).data.toList = l.takeWhile isDig := by rw [ext_list, hl, ← hnl]; exact take_tw _ _
  have hRl : (s.extract (at_ + n) s.size).data.toList = l.dropWhile isDig := by rw [ext_end, dropWhile_eq_drop, hnl, ← hl, List.drop_drop]
  have hpre := fun w => (Tryz.strings_HasPrefix (s.extract (at_ + n) s.size) ⟨#[46]⟩ w).mono (fun e w' h => (⟨h.1, h.2.symm⟩ : _ ∧ w = w'))
  have hpe : Lib.hasPrefix (s.extract (at_ + n) s.size).data.toList (⟨#[46]⟩ : ByteArray).data.toList = decide ((l.dropWhile isDig).head? = some 46) := by rw [hRl]; exact hasPrefix_dot _
  rw [hl] at h0 ⊢
  have HL := Lib.hid hl
  have HN := Lib.hid hn
  have HNL := Lib.hid hnl
  have HDL := Lib.hid hDl
  have H0 := Lib.hid h0
  obtain ⟨PF, hPF⟩ : ∃ PF, decide ((l.dropWhile isDig).head? = some 46) = PF := ⟨_, rfl⟩
  rw [hpe, hPF] at hpre
  have HPF := Lib.hid hPF
  clear hnl hDl hRl hl h0 hpe hPF
  have hrb := heap_alloc_new w (.cells (tokCells 0 0 ⟨#[]⟩ 0 0) 56)
  have hM0 := (Mods.refl [] w).alloc (.cells (tokCells 0 0 ⟨#[]⟩ 0 0) 56)
  have hS0 := hS.mods hM0
  clear hS
  go_enter Tryz.func58, Tryz.ntmps58
  go_wp2_with fail
  generalize w.alloc (.cells (tokCells 0 0 ⟨#[]⟩ 0 0) 56) = w0 at *
  generalize hrbn : w.heap.size = rb at *
  have HRB := Lib.hid hrbn
  clear hrbn
  refine (run_any w0 b s hS0 (by omega) at_ hat 4 isDig mask_dig).mono ?_
  rintro e w1 ⟨rfl, hM1⟩
  rw [hn]
  clear hn
  have hS1 := hS0.mods hM1
  have hrb1 := hM1.heap hrb (by simp)
  have hMw1 := hM0.trans hM1 (by simp)
  have c0 := hS1.text
  have hki : (at_ : Int) + (n : Int) ≤ (s.size : Int) := by omega
  clear hS0 hrb hM0 hM1
  go_upto_if 31 with ((with_reducible refine (hpre _).mono ?_); rintro e w2 ⟨rfl, rfl⟩)
  go_cut [6, 7, 8] (fun s6 s7 s8 wx => ∃ (D : ByteArray) (k sc : Nat), s6 = .int .i64 k ∧ s7 = .string D ∧ s8 = .int .i64 sc ∧ Mods [] w1 wx ∧ NumRel l D k sc)
  case first =>
    cases PF with
    | false =>
      have hf : fracL (l.dropWhile isDig) = [] := by unfold fracL; rw [if_neg (of_decide_eq_false HPF.out)]
      have fin : NumRel l (s.extract at_ (at_ + n)) n 0 := ⟨by rw [HDL.out]; unfold numDigits; rw [hf, List.append_nil], by unfold numLen; rw [if_pos hf]; exact HNL.out.symm, by rw [hf]; rfl⟩
      go_wp2_with fail
      go_meet
      exact ⟨s.extract at_ (at_ + n), n, 0, rfl, rfl, rfl, Mods.refl _ _, fin⟩
    | true =>
      have hh := of_decide_eq_true HPF.out
      obtain ⟨r, hr⟩ : ∃ r, l.dropWhile isDig = 46 :: r := by
        cases hd : l.dropWhile isDig with
        | nil => rw [hd] at hh; simp at hh
        | cons c r => rw [hd] at hh; simp at hh; exact ⟨r, by rw [hh]⟩
      have hr2 : s.data.toList.drop (at_ + n) = 46 :: r := by rw [← hr, dropWhile_eq_drop, HNL.out, ← HL.out, List.drop_drop]
      have hr3 : s.data.toList.drop (at_ + n + 1) = r := by rw [← List.drop_drop, hr2]; rfl
      have hlt : at_ + n < s.size := by
        have := congrArg List.length hr2
        rw [List.length_drop] at this
        have e1 : s.data.toList.length = s.size := rfl
        rw [e1] at this
        simp at this
        omega
      obtain ⟨sc, hsc⟩ : ∃ sc, runL isDig s (at_ + n + 1) = sc := ⟨_, rfl⟩
      have hsc1 := runL_le isDig s (at_ + n + 1) (by omega)
      rw [hsc] at hsc1
      have hf : fracL (l.dropWhile isDig) = r.takeWhile isDig := by rw [hr]; unfold fracL; rw [List.head?_cons, if_pos rfl]; rfl
      have hfl : (r.takeWhile isDig).length = sc := by rw [← hr3]; exact hsc
      have hrun := run_any w1 b s hS1 (by omega) (at_ + n + 1) (by omega) 4 isDig mask_dig
      have e1 : ((at_ + n + 1 : Nat) : Int) = (at_ : Int) + (n : Int) + 1 := by omega
      rw [e1, hsc] at hrun
      have HF := Lib.hid hf
      have HFL := Lib.hid hfl
      have HR3 := Lib.hid hr3
      have hk2 : (at_ : Int) + (n : Int) + 1 + (sc : Int) ≤ (s.size : Int) := by omega
      clear hh hr hr2 hr3 hsc hf hfl e1
      go_wp2_with fail
      refine hrun.mono ?_
      rintro e w2 ⟨rfl, hM2⟩
      have hS2 := hS1.mods hM2
      have c2 := hS2.text
      clear hrun c0
      by_cases hs0 : sc = 0
      · subst hs0
        have hf0 : fracL (l.dropWhile isDig) = [] := by rw [HF.out]; exact List.length_eq_zero_iff.1 HFL.out
        have fin : NumRel l (s.extract at_ (at_ + n)) n 0 := ⟨by rw [HDL.out]; unfold numDigits; rw [hf0, List.append_nil], by unfold numLen; rw [if_pos hf0]; exact HNL.out.symm, by rw [hf0]; rfl⟩
        have FIN := Lib.hid fin
        clear fin hf0
        go_wp2_with fail
        go_meet
        exact ⟨s.extract at_ (at_ + n), n, 0, rfl, rfl, rfl, hM2, FIN.out⟩
      · have hs0z : (0 : Int) < (sc : Int) := by omega
        have hf0 : fracL (l.dropWhile isDig) ≠ [] := by rw [HF.out]; intro h; have := HFL.out; rw [h] at this; simp at this; omega
        have fin : NumRel l (s.extract at_ (at_ + n) ++ s.extract (at_ + n + 1) (at_ + n + 1 + sc)) (n + 1 + sc) sc := by
          refine ⟨?_, by unfold numLen; rw [if_neg hf0, HNL.out, HF.out, HFL.out], by rw [HF.out]; exact HFL.out.symm⟩
          have e1 : (s.extract at_ (at_ + n) ++ s.extract (at_ + n + 1) (at_ + n + 1 + sc)).data.toList = (s.extract at_ (at_ + n)).data.toList ++ (s.extract (at_ + n + 1) (at_ + n + 1 + sc)).data.toList := by simp
          rw [e1, HDL.out, ext_list, HR3.out, ← HFL.out, take_tw, ← HF.out]
          rfl
        have FIN := Lib.hid fin
        have hsz1 : (s.extract at_ (at_ + n)).size ≤ 4096 := by
          have e1 : (s.extract at_ (at_ + n)).size = (s.extract at_ (at_ + n)).data.toList.length := rfl
          rw [e1, HDL.out, HNL.out]; omega
        have hsz2 : (s.extract (at_ + n + 1) (at_ + n + 1 + sc)).size ≤ 4096 := by
          have e1 : (s.extract (at_ + n + 1) (at_ + n + 1 + sc)).size = (s.extract (at_ + n + 1) (at_ + n + 1 + sc)).data.toList.length := rfl
          rw [e1, ext_list, List.length_take]; omega
        have hcat : ¬ 9223372036854775807 < (s.extract at_ (at_ + n)).size + (s.extract (at_ + n + 1) (at_ + n + 1 + sc)).size := by omega
        clear fin hf0
        go_wp2_with fail
        go_meet
        exact ⟨_, n + 1 + sc, sc, by go_num, rfl, rfl, hM2, FIN.out⟩
  case rest =>
    obtain ⟨D, k, sc, rfl, rfl, rfl, hMc, hNum⟩ := hcut
    obtain ⟨hD, hk, hsc⟩ := hNum
    have hSc := hS1.mods hMc
    have hMwc := hMw1.trans hMc (by simp)
    have hrbc := hMc.heap hrb1 (by simp)
    have hTc := hT.mods hMwc
    have hll : l.length ≤ s.size - at_ := by rw [← HL.out, List.length_drop]; exact Nat.le_refl _
    have hkl := numLen_le l
    rw [← hk] at hkl
    have hDl : D.size ≤ 4096 := by
      have e1 : D.size = D.data.toList.length := rfl
      have := numDigits_le l
      rw [e1, hD]
      omega
    have hall := numDigits_dig l
    have hne : numDigits l ≠ [] := by unfold numDigits; intro h; exact H0.out (List.append_eq_nil_iff.1 h).1
    have hpi := parse_digits (numDigits l) hne hall
    rw [← hD] at hpi
    have hlr2 : headLet (l.drop k) = decide (0 < runL isLet s (at_ + k)) := by rw [← HL.out, List.drop_drop]; exact headLet_run _ _
    obtain ⟨V, hV⟩ : ∃ V, numVal D.data.toList = V := ⟨_, rfl⟩
    obtain ⟨R, hR⟩ : ∃ R, runL isLet s (at_ + k) = R := ⟨_, rfl⟩
    have fin : numberL l = if 9223372036854775807 < V ∨ 9 < sc ∨ 0 < R then none else some (⟨3, [], V, sc⟩, k) := by
      unfold numberL
      rw [← hD, ← hsc, ← hk, hlr2, hV, hR]
      simp
    have FIN := Lib.hid fin
    rw [hV] at hpi
    have hrun := fun w (hw : Scan w b s) => run_any w b s hw (by omega) (at_ + k) (by omega) 2 isLet mask_let
    rw [hR] at hrun
    have e1 : ((at_ + k : Nat) : Int) = (at_ : Int) + (k : Int) := by omega
    rw [e1] at hrun
    have hk2 : (at_ : Int) + (k : Int) ≤ (s.size : Int) := by omega
    have hinfo := tok_info
    have HRUN := Lib.hid hrun
    clear hD hk hsc hlr2 fin hV hR e1 hMw1 hrb1 hS1 c0 hMc hpre hne hall hrun hll hkl
    by_cases hbig : 9223372036854775807 < V
    · rw [if_pos hbig] at hpi
      obtain ⟨-, ev, hv, hev⟩ := hTc
      have hpr := Tryz.strconv_ParseInt_10_at64_range D (by omega) hpi ev wc hv hev
      have e := FIN.out
      rw [if_pos (.inl hbig)] at e
      have HE := Lib.hid e
      clear hpi hv hev e hbig
      go_wp2_with fail
      (with_reducible refine hpr.mono ?_)
      rintro e w3 ⟨N, rfl, -, -, hB3⟩
      have hM3 := Mods.of_below hB3 (Nat.le_refl _) []
      have hrb3 := hM3.heap hrbc (by simp)
      have hMw3 := hMwc.trans hM3 (by simp)
      clear hpr hB3 hM3
      go_wp2_with (refine wpList_store_row rfl 56 (.tmp 4) (.tmp 80) rfl rb (tokCells 0 0 ⟨#[]⟩ 0 0) rfl rfl 56 _ hrb3 hinfo rfl (tok_one _ _ _ _ _) ?_)
      refine bodyPost_ret (results_cell_two rfl _ _ rb 56 (tokCells 0 0 ⟨#[]⟩ 0 0) (0, 0) _ rfl (row_set_same _ hrb3) Tryz.underlying56 rfl hinfo _ rfl) rfl ?_
      rw [HE.out]
      exact ⟨rfl, hMw3.setRow (.inr (by rw [HRB.out]; exact Nat.le_refl _)) _⟩
    · rw [if_neg hbig] at hpi
      have hpr := Tryz.strconv_ParseInt_10_at64_ok D (by omega) (V : Int) hpi wc
      have hVz : (V : Int) ≤ 9223372036854775807 := by omega
      clear hpi hTc
      go_wp2_with fail
      (with_reducible refine hpr.mono ?_)
      rintro e w3 ⟨rfl, hB3⟩
      have hM3 : Mods [] wc w3 := by
        rcases hB3 with rfl | ⟨t, rfl⟩
        · exact Mods.refl _ _
        · exact Mods.of_below (Lib.bytesWorld_below _ _ _) (Nat.le_refl _) []
      have hrb3 := hM3.heap hrbc (by simp)
      have hMw3 := hMwc.trans hM3 (by simp)
      have hSw3 := hSc.mods hM3
      clear hpr hB3 hM3
      by_cases h9 : 9 < sc
      · have h9z : (9 : Int) < (sc : Int) := by omega
        have e := FIN.out
        rw [if_pos (.inr (.inl h9))] at e
        have HE := Lib.hid e
        clear e
        go_wp2_with (refine wpList_store_row rfl 56 (.tmp 4) (.tmp 80) rfl rb (tokCells 0 0 ⟨#[]⟩ 0 0) rfl rfl 56 _ hrb3 hinfo rfl (tok_one _ _ _ _ _) ?_)
        refine bodyPost_ret (results_cell_two rfl _ _ rb 56 (tokCells 0 0 ⟨#[]⟩ 0 0) (0, 0) _ rfl (row_set_same _ hrb3) Tryz.underlying56 rfl hinfo _ rfl) rfl ?_
        rw [HE.out]
        exact ⟨rfl, hMw3.setRow (.inr (by rw [HRB.out]; exact Nat.le_refl _)) _⟩
      · have h9z : ¬ (9 : Int) < (sc : Int) := by omega
        go_wp2_with fail
        refine (HRUN.out _ hSw3).mono ?_
        rintro e w4 ⟨rfl, hM4⟩
        have hrb4 := hM4.heap hrb3 (by simp)
        have hMw4 := hMw3.trans hM4 (by simp)
        clear hM4
        by_cases hR0 : 0 < R
        · have hR0z : (0 : Int) < (R : Int) := by omega
          have e := FIN.out
          rw [if_pos (.inr (.inr hR0))] at e
          have HE := Lib.hid e
          clear e
          go_wp2_with (refine wpList_store_row rfl 56 (.tmp 4) (.tmp 80) rfl rb (tokCells 0 0 ⟨#[]⟩ 0 0) rfl rfl 56 _ hrb4 hinfo rfl (tok_one _ _ _ _ _) ?_)
          refine bodyPost_ret (results_cell_two rfl _ _ rb 56 (tokCells 0 0 ⟨#[]⟩ 0 0) (0, 0) _ rfl (row_set_same _ hrb4) Tryz.underlying56 rfl hinfo _ rfl) rfl ?_
          rw [HE.out]
          exact ⟨rfl, hMw4.setRow (.inr (by rw [HRB.out]; exact Nat.le_refl _)) _⟩
        · have hR0z : ¬ (0 : Int) < (R : Int) := by omega
          have e := FIN.out
          rw [if_neg (by omega)] at e
          have HE := Lib.hid e
          clear e
          go_wp2_with (refine wpList_store_row rfl 56 (.tmp 4) (.tmp 84) rfl rb (tokCells 3 at_ ⟨#[]⟩ V sc) rfl rfl 56 _ hrb4 hinfo rfl (tok_one _ _ _ _ _) ?_)
          refine bodyPost_ret (results_cell_two rfl _ _ rb 56 (tokCells 3 at_ ⟨#[]⟩ V sc) (0, 0) _ rfl (row_set_same _ hrb4) Tryz.underlying56 rfl hinfo _ rfl) rfl ?_
          rw [HE.out]
          exact ⟨rfl, hMw4.setRow (.inr (by rw [HRB.out]; exact Nat.le_refl _)) _⟩
end Go.Proofs.YtgbpoaimbjlamaaGreatDoor
