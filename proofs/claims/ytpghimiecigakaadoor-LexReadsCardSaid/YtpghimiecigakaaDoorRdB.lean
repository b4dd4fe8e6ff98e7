/-
  The document's chapter 11: word, walked. No condition.
-/
import Derived.Test.YtpghimiecigakaaDoorRdA
namespace Go.Proofs.YtpghimiecigakaaDoor
open Go.RowKit
set_option linter.unusedVariables false

theorem tok_info_ref : (Tryd.prog.info? 33).map (·.size) = some 5 := by kernel_rfl


set_option maxRecDepth 100000 in
set_option maxHeartbeats 1000000 in
theorem word_ref (w : World) (s : ByteArray) (hs : s.size ≤ 4096) (at_ : Nat) (hat : at_ ≤ s.size) :
    Calls Tryd.prog 15 #[.string s, .int .i64 at_] w (TokPost w (wordL (s.data.toList.drop at_)) at_) := by
  have hrb := heap_alloc_new w (.cells (tokCells 0 0 ⟨#[]⟩ 0 0) 33)
  have hM0 := (Mods.refl [] w).alloc (.cells (tokCells 0 0 ⟨#[]⟩ 0 0) 33)
  go_enter Tryd.func15, Tryd.ntmps15
  go_wp2_with fail
  generalize w.alloc (.cells (tokCells 0 0 ⟨#[]⟩ 0 0) 33) = w0 at *
  generalize hrbn : w.heap.size = rb at *
  have HRB := Lib.hid hrbn
  have HR0 := Lib.hid hrb
  clear hrbn hrb
  have hinfo := tok_info_ref
  have HINFO := Lib.hid hinfo
  clear hinfo
  go_loop [6] (fun t6 => ∃ k : Nat, at_ + k ≤ s.size ∧ t6 = .int .i64 k ∧ Hid (∀ j, j < k → ∃ x, s.data.toList[at_ + j]? = some x ∧ isLD x = true)) (fun t6 => s.size - (intOf t6).toNat)
  case atStart => exact ⟨0, by omega, rfl, Lib.hid (fun j hj => by omega)⟩
  case round =>
    obtain ⟨k, hk, rfl, hP⟩ := hrel
    have e1 : IntKind.i64.wrap ((at_ : Int) + (k : Int)) = (at_ : Int) + (k : Int) := IntWalk.i64_in _ (by omega)
    have more : ∀ x, s.data.toList[at_ + k]? = some x → isLD x = true → Hid (∀ j, j < k + 1 → ∃ x, s.data.toList[at_ + j]? = some x ∧ isLD x = true) := fun x hx hp => Lib.hid fun j hj => by
      by_cases hjk : j = k
      · subst hjk; exact ⟨x, hx, hp⟩
      · exact hP.out j (by omega)
    have stop : (s.data.toList[at_ + k]? = none ∨ ∃ x, s.data.toList[at_ + k]? = some x ∧ isLD x = false) → runL isLD s at_ = k := fun h => tw_len isLD _ k (fun j hj => by rw [List.getElem?_drop]; exact hP.out j hj) (by simpa [List.getElem?_drop] using h)
    by_cases hlt : at_ + k < s.size
    · have hd : (at_ : Int) + (k : Int) < (s.size : Int) := by omega
      have hx := s_at s (at_ + k) hlt
      obtain ⟨x, hx'⟩ : ∃ x, s[at_ + k] = x := ⟨_, rfl⟩
      rw [hx'] at hx
      have hc1 := fun W => (letter_ref W x _ rfl).mono (fun e w' h => (⟨h.1, h.2.symm⟩ : _ ∧ W = w'))
      have hc2 := fun W => (digit_ref W x _ rfl).mono (fun e w' h => (⟨h.1, h.2.symm⟩ : _ ∧ W = w'))
      cases hl : isLet x with
      | true =>
        rw [hl] at hc1
        have hmore := more x hx (by simp [isLD, hl])
        clear more stop hl hx hc2 hP
        go_wp2_with fail
        (with_reducible refine (hc1 _).mono ?_)
        rintro e w2 ⟨rfl, rfl⟩
        clear hc1
        go_wp2_with fail
        go_round
        case measure => simp [intOf]; omega
        case rel => exact ⟨k + 1, by omega, by go_num, hmore⟩
      | false =>
        rw [hl] at hc1
        cases hdg : isDig x with
        | true =>
          rw [hdg] at hc2
          have hmore := more x hx (by simp [isLD, hdg])
          clear more stop hl hx hP hdg
          go_wp2_with fail
          (with_reducible refine (hc1 _).mono ?_)
          rintro e w2 ⟨rfl, rfl⟩
          clear hc1
          go_wp2_with fail
          (with_reducible refine (hc2 _).mono ?_)
          rintro e w2 ⟨rfl, rfl⟩
          clear hc2
          go_wp2_with fail
          go_round
          case measure => simp [intOf]; omega
          case rel => exact ⟨k + 1, by omega, by go_num, hmore⟩
        | false =>
          rw [hdg] at hc2
          have hst := Lib.hid (stop (.inr ⟨x, hx, by simp [isLD, hl, hdg]⟩))
          clear more stop hl hx hP hdg
          go_wp2_with fail
          (with_reducible refine (hc1 _).mono ?_)
          rintro e w2 ⟨rfl, rfl⟩
          clear hc1
          go_wp2_with fail
          (with_reducible refine (hc2 _).mono ?_)
          rintro e w2 ⟨rfl, rfl⟩
          clear hc2
          have hWl : (s.extract at_ (at_ + k)).data.toList = (s.data.toList.drop at_).takeWhile isLD := by rw [ext_list, ← hst.out]; exact take_tw _ _
          have hWs : (s.extract at_ (at_ + k)).size = k := by rw [size_list, hWl]; exact hst.out
          obtain ⟨U, hU⟩ : ∃ U : ByteArray, U = ⟨((s.extract at_ (at_ + k)).data.toList.map upc).toArray⟩ := ⟨_, rfl⟩
          have hUl : U.data.toList = ((s.data.toList.drop at_).takeWhile isLD).map upc := by rw [hU, hWl]
          have hcap := fun W => capitals_ref W (s.extract at_ (at_ + k)) (by omega)
          rw [← hU] at hcap
          have hkey := fun W => key_ref W U
          have fin := Lib.hid (show ∀ b, isKey U.data.toList = b → wordL (s.data.toList.drop at_) = if b = true then some (⟨1, U.data.toList, 0, 0⟩, k) else if 40 < k then none else some (⟨2, (s.extract at_ (at_ + k)).data.toList, 0, 0⟩, k) by
            intro b hb
            have e1 : ((s.data.toList.drop at_).takeWhile isLD).length = k := hst.out
            unfold wordL
            rw [← hUl, hb, e1, hWl])
          clear hWl hU hUl
          obtain ⟨b, hb⟩ : ∃ b, isKey U.data.toList = b := ⟨_, rfl⟩
          have ends : ∀ o, (if b = true then some (⟨1, U.data.toList, 0, 0⟩, k) else if 40 < k then none else some (⟨2, (s.extract at_ (at_ + k)).data.toList, 0, 0⟩, k)) = o → wordL (s.data.toList.drop at_) = o := fun o h => (fin.out b hb).trans h
          have HE := Lib.hid ends
          rw [hb] at hkey
          clear ends fin hb hst
          go_wp2_with fail
          (with_reducible refine (hcap _).mono ?_)
          rintro e w3 ⟨rfl, hM3⟩
          go_wp2_with fail
          (with_reducible refine (hkey _).mono ?_)
          rintro e w4 ⟨rfl, hM4⟩
          have hM04 := (hM0.trans hM3 (by simp)).trans hM4 (by simp)
          have hr4 := hM4.heap (hM3.heap HR0.out (by simp)) (by simp)
          clear hM0 hM3 hM4 hkey
          have hinfo := HINFO.out
          cases b with
          | true =>
            go_wp2_with fail
            (with_reducible refine (hcap _).mono ?_)
            rintro e w5 ⟨rfl, hM5⟩
            have hM05 := hM04.trans hM5 (by simp)
            have hr5 := hM5.heap hr4 (by simp)
            clear hM04 hM5 hr4 hcap
            go_wp2_with (refine wpList_store_row rfl 33 (.tmp 4) (.tmp 44) rfl rb (tokCells 1 at_ U 0 0) rfl rfl 33 _ hr5 hinfo rfl (tok_one _ _ _ _ _) ?_)
            refine bodyPost_ret (results_cell_two rfl _ _ rb 33 (tokCells 1 at_ U 0 0) (0, 0) _ rfl (row_set_same _ hr5) Tryd.underlying33 rfl hinfo _ rfl) rfl ?_
            rw [HE.out _ rfl]
            exact ⟨rfl, hM05.setRow (.inr (by rw [HRB.out]; exact Nat.le_refl _)) _⟩
          | false =>
            by_cases h40 : 40 < k
            · have h40z : (40 : Int) < (k : Int) := by omega
              have e := HE.out none (by rw [if_neg (by decide), if_pos h40])
              go_wp2_with (refine wpList_store_row rfl 33 (.tmp 4) (.tmp 48) rfl rb (tokCells 0 0 ⟨#[]⟩ 0 0) rfl rfl 33 _ hr4 hinfo rfl (tok_one _ _ _ _ _) ?_)
              refine bodyPost_ret (results_cell_two rfl _ _ rb 33 (tokCells 0 0 ⟨#[]⟩ 0 0) (0, 0) _ rfl (row_set_same _ hr4) Tryd.underlying33 rfl hinfo _ rfl) rfl ?_
              rw [e]
              exact ⟨rfl, hM04.setRow (.inr (by rw [HRB.out]; exact Nat.le_refl _)) _⟩
            · have h40z : ¬ (40 : Int) < (k : Int) := by omega
              have e := Lib.hid (HE.out _ (by rw [if_neg (by decide), if_neg h40]))
              go_wp2_with (refine wpList_store_row rfl 33 (.tmp 4) (.tmp 51) rfl rb (tokCells 2 at_ (s.extract at_ (at_ + k)) 0 0) rfl rfl 33 _ hr4 hinfo rfl (tok_one _ _ _ _ _) ?_)
              refine bodyPost_ret (results_cell_two rfl _ _ rb 33 (tokCells 2 at_ (s.extract at_ (at_ + k)) 0 0) (0, 0) _ rfl (row_set_same _ hr4) Tryd.underlying33 rfl hinfo _ rfl) rfl ?_
              rw [e.out]
              exact ⟨rfl, hM04.setRow (.inr (by rw [HRB.out]; exact Nat.le_refl _)) _⟩
    · have hd : ¬ (at_ : Int) + (k : Int) < (s.size : Int) := by omega
      have hst := Lib.hid (stop (.inl (by rw [List.getElem?_eq_none]; show s.size ≤ _; omega)))
      clear more stop hP
      have hWl : (s.extract at_ (at_ + k)).data.toList = (s.data.toList.drop at_).takeWhile isLD := by rw [ext_list, ← hst.out]; exact take_tw _ _
      have hWs : (s.extract at_ (at_ + k)).size = k := by rw [size_list, hWl]; exact hst.out
      obtain ⟨U, hU⟩ : ∃ U : ByteArray, U = ⟨((s.extract at_ (at_ + k)).data.toList.map upc).toArray⟩ := ⟨_, rfl⟩
      have hUl : U.data.toList = ((s.data.toList.drop at_).takeWhile isLD).map upc := by rw [hU, hWl]
      have hcap := fun W => capitals_ref W (s.extract at_ (at_ + k)) (by omega)
      rw [← hU] at hcap
      have hkey := fun W => key_ref W U
      have fin := Lib.hid (show ∀ b, isKey U.data.toList = b → wordL (s.data.toList.drop at_) = if b = true then some (⟨1, U.data.toList, 0, 0⟩, k) else if 40 < k then none else some (⟨2, (s.extract at_ (at_ + k)).data.toList, 0, 0⟩, k) by
        intro b hb
        have e1 : ((s.data.toList.drop at_).takeWhile isLD).length = k := hst.out
        unfold wordL
        rw [← hUl, hb, e1, hWl])
      clear hWl hU hUl
      obtain ⟨b, hb⟩ : ∃ b, isKey U.data.toList = b := ⟨_, rfl⟩
      have ends : ∀ o, (if b = true then some (⟨1, U.data.toList, 0, 0⟩, k) else if 40 < k then none else some (⟨2, (s.extract at_ (at_ + k)).data.toList, 0, 0⟩, k)) = o → wordL (s.data.toList.drop at_) = o := fun o h => (fin.out b hb).trans h
      have HE := Lib.hid ends
      rw [hb] at hkey
      clear ends fin hb hst
      go_wp2_with fail
      (with_reducible refine (hcap _).mono ?_)
      rintro e w3 ⟨rfl, hM3⟩
      go_wp2_with fail
      (with_reducible refine (hkey _).mono ?_)
      rintro e w4 ⟨rfl, hM4⟩
      have hM04 := (hM0.trans hM3 (by simp)).trans hM4 (by simp)
      have hr4 := hM4.heap (hM3.heap HR0.out (by simp)) (by simp)
      clear hM0 hM3 hM4 hkey
      have hinfo := HINFO.out
      cases b with
      | true =>
        go_wp2_with fail
        (with_reducible refine (hcap _).mono ?_)
        rintro e w5 ⟨rfl, hM5⟩
        have hM05 := hM04.trans hM5 (by simp)
        have hr5 := hM5.heap hr4 (by simp)
        clear hM04 hM5 hr4 hcap
        go_wp2_with (refine wpList_store_row rfl 33 (.tmp 4) (.tmp 44) rfl rb (tokCells 1 at_ U 0 0) rfl rfl 33 _ hr5 hinfo rfl (tok_one _ _ _ _ _) ?_)
        refine bodyPost_ret (results_cell_two rfl _ _ rb 33 (tokCells 1 at_ U 0 0) (0, 0) _ rfl (row_set_same _ hr5) Tryd.underlying33 rfl hinfo _ rfl) rfl ?_
        rw [HE.out _ rfl]
        exact ⟨rfl, hM05.setRow (.inr (by rw [HRB.out]; exact Nat.le_refl _)) _⟩
      | false =>
        by_cases h40 : 40 < k
        · have h40z : (40 : Int) < (k : Int) := by omega
          have e := HE.out none (by rw [if_neg (by decide), if_pos h40])
          go_wp2_with (refine wpList_store_row rfl 33 (.tmp 4) (.tmp 48) rfl rb (tokCells 0 0 ⟨#[]⟩ 0 0) rfl rfl 33 _ hr4 hinfo rfl (tok_one _ _ _ _ _) ?_)
          refine bodyPost_ret (results_cell_two rfl _ _ rb 33 (tokCells 0 0 ⟨#[]⟩ 0 0) (0, 0) _ rfl (row_set_same _ hr4) Tryd.underlying33 rfl hinfo _ rfl) rfl ?_
          rw [e]
          exact ⟨rfl, hM04.setRow (.inr (by rw [HRB.out]; exact Nat.le_refl _)) _⟩
        · have h40z : ¬ (40 : Int) < (k : Int) := by omega
          have e := Lib.hid (HE.out _ (by rw [if_neg (by decide), if_neg h40]))
          go_wp2_with (refine wpList_store_row rfl 33 (.tmp 4) (.tmp 51) rfl rb (tokCells 2 at_ (s.extract at_ (at_ + k)) 0 0) rfl rfl 33 _ hr4 hinfo rfl (tok_one _ _ _ _ _) ?_)
          refine bodyPost_ret (results_cell_two rfl _ _ rb 33 (tokCells 2 at_ (s.extract at_ (at_ + k)) 0 0) (0, 0) _ rfl (row_set_same _ hr4) Tryd.underlying33 rfl hinfo _ rfl) rfl ?_
          rw [e.out]
          exact ⟨rfl, hM04.setRow (.inr (by rw [HRB.out]; exact Nat.le_refl _)) _⟩
end Go.Proofs.YtpghimiecigakaaDoor
