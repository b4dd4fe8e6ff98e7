/-
  The document's chapter 11: text, walked. No condition.
-/
import Derived.Test.YtpghimiecigakaaDoorRdB
namespace Go.Proofs.YtpghimiecigakaaDoor
open Go.RowKit
set_option linter.unusedVariables false

theorem TRel.byte {l : List UInt8} {s : ByteArray} {at_ k : Nat} {acc : List UInt8} (h : TRel l s at_ k acc) (hat : at_ < k) {x : UInt8} (hx : s.data.toList[k]? = some x) (h39 : x ≠ 39) : TRel l s at_ (k + 1) (acc ++ [x]) := by
  have e1 : s.data.toList.drop k = x :: s.data.toList.drop (k + 1) := by
    obtain ⟨h1, h2⟩ := List.getElem?_eq_some_iff.1 hx
    rw [List.drop_eq_getElem_cons h1, h2]
  unfold TRel at h ⊢
  rw [h, e1, textL_cons _ h39]
  cases textL (s.data.toList.drop (k + 1)) with
  | none => rfl
  | some y =>
    simp only [Option.map_some, List.append_assoc, List.cons_append, List.nil_append]
    congr 2; omega


set_option maxRecDepth 100000 in
set_option maxHeartbeats 1000000 in
theorem text_ref (w : World) (s : ByteArray) (hs : s.size ≤ 4096) (at_ : Nat) (hat : at_ < s.size) :
    Calls Tryd.prog 18 #[.string s, .int .i64 at_] w (TokPost w (textT (s.data.toList.drop at_)) at_) := by
  obtain ⟨l, hl⟩ : ∃ l, s.data.toList.drop at_ = l := ⟨_, rfl⟩
  have hst : TRel l s at_ (at_ + 1) [] := by
    unfold TRel
    rw [← hl, List.drop_drop, show at_ + 1 - at_ - 1 = 0 by omega]
    cases textL (s.data.toList.drop (at_ + 1)) <;> simp
  rw [hl]
  have hrb := heap_alloc_new w (.cells (tokCells 0 0 ⟨#[]⟩ 0 0) 33)
  have hM0 := (Mods.refl [] w).alloc (.cells (tokCells 0 0 ⟨#[]⟩ 0 0) 33)
  go_enter Tryd.func18, Tryd.ntmps18
  go_wp2_with fail
  generalize w.alloc (.cells (tokCells 0 0 ⟨#[]⟩ 0 0) 33) = w0 at *
  generalize hrbn : w.heap.size = rb at *
  have HRB := Lib.hid hrbn
  have HTR := Lib.hid hst
  clear hrbn hl hst
  have hinfo := tok_info_ref
  go_loop [6, 7] (fun t6 t7 => ∃ (k : Nat) (Q : ByteArray), at_ < k ∧ k ≤ s.size ∧ t7 = .int .i64 k ∧ t6 = .string Q ∧ Q.size ≤ k ∧ Hid (TRel l s at_ k Q.data.toList)) (fun _ t7 => s.size + 1 - (intOf t7).toNat)
  case atStart => exact ⟨at_ + 1, ⟨#[]⟩, by omega, by omega, by go_num, rfl, Nat.zero_le _, HTR⟩
  case round =>
    clear HTR
    obtain ⟨k, Q, hk, hks, rfl, rfl, hQ, HT⟩ := hrel
    by_cases hlt : k < s.size
    · have hd : (k : Int) < (s.size : Int) := by omega
      have hx := s_at s k hlt
      obtain ⟨x, hx'⟩ : ∃ x, s[k] = x := ⟨_, rfl⟩
      rw [hx'] at hx
      by_cases h39 : x = 39
      · have hz : ((x.toNat : Int) != 39) = false := by rw [h39]; rfl
        have hz2 : ((x.toNat : Int) == 39) = true := by rw [h39]; rfl
        have hstep := HT.out.step (n := 0) hk (by omega) (by rw [List.getElem?_drop]; exact h39 ▸ hx) (by
          rw [List.drop_zero]
          generalize textL (s.data.toList.drop k) = o
          cases o with
          | none => rfl
          | some y => simp)
        simp only [List.take_zero, List.append_nil, Nat.add_zero] at hstep
        by_cases hlt1 : k + 1 < s.size
        · have hd1 : (k : Int) + 1 < (s.size : Int) := by omega
          have hy := s_at s (k + 1) hlt1
          obtain ⟨y, hy'⟩ : ∃ y, s[k + 1] = y := ⟨_, rfl⟩
          rw [hy'] at hy
          have hhd : (s.data.toList.drop (k + 1)).head? = some y := by rw [List.head?_drop]; exact hy
          rw [hhd] at hstep
          by_cases hy39 : y = 39
          · have hyz : ((y.toNat : Int) == 39) = true := by rw [hy39]; rfl
            rw [if_pos (by rw [hy39])] at hstep
            have HS : Hid (TRel l s at_ (k + 2) (Q ++ ⟨#[39]⟩ : ByteArray).data.toList) := Lib.hid (by rw [app_list]; exact hstep)
            have hQs : (Q ++ ⟨#[39]⟩ : ByteArray).size ≤ k + 2 := by rw [ByteArray.size_append]; show Q.size + 1 ≤ _; omega
            have hcb : ¬ 9223372036854775807 < Q.size + 1 := by omega
            have HQS := Lib.hid hQs
            clear hhd hstep hy hx h39 hy39 HT hQs
            go_wp2_with fail
            go_round
            case measure => simp [intOf]; omega
            case rel => exact ⟨k + 2, _, by omega, by omega, by go_num, rfl, HQS.out, HS⟩
          · have hyz : ((y.toNat : Int) == 39) = false := by rw [beq_eq_false_iff_ne]; exact fun h => hy39 (UInt8.toNat_inj.1 (by show y.toNat = 39; omega))
            rw [if_neg (by intro h; exact hy39 (Option.some.inj h))] at hstep
            clear hhd hy hx h39 hy39 HT
            rw [← size_list] at hstep
            by_cases h200 : 200 < Q.size
            · have h200z : (200 : Int) < (Q.size : Int) := by omega
              rw [if_pos h200] at hstep
              have HE := Lib.hid hstep
              clear hstep
              go_wp2_with (refine wpList_store_row rfl 33 (.tmp 4) (.tmp 46) rfl rb (tokCells 0 0 ⟨#[]⟩ 0 0) rfl rfl 33 _ hrb hinfo rfl (tok_one _ _ _ _ _) ?_)
              refine bodyPost_ret (results_cell_two rfl _ _ rb 33 (tokCells 0 0 ⟨#[]⟩ 0 0) (0, 0) _ rfl (row_set_same _ hrb) Tryd.underlying33 rfl hinfo _ rfl) rfl ?_
              rw [HE.out]
              exact ⟨rfl, hM0.setRow (.inr (by rw [HRB.out]; exact Nat.le_refl _)) _⟩
            · have h200z : ¬ (200 : Int) < (Q.size : Int) := by omega
              rw [if_neg h200] at hstep
              have HE := Lib.hid hstep
              clear hstep
              go_wp2_with (refine wpList_store_row rfl 33 (.tmp 4) (.tmp 49) rfl rb (tokCells 4 at_ Q 0 0) rfl rfl 33 _ hrb hinfo rfl (tok_one _ _ _ _ _) ?_)
              refine bodyPost_ret (results_cell_two rfl _ _ rb 33 (tokCells 4 at_ Q 0 0) (0, 0) _ rfl (row_set_same _ hrb) Tryd.underlying33 rfl hinfo _ rfl) rfl ?_
              rw [HE.out]
              exact ⟨by rw [show (k : Int) + 1 - (at_ : Int) = ((k + 1 - at_ : Nat) : Int) by omega]; rfl, hM0.setRow (.inr (by rw [HRB.out]; exact Nat.le_refl _)) _⟩
        · have hd1 : ¬ (k : Int) + 1 < (s.size : Int) := by omega
          have hnil : (s.data.toList.drop (k + 1)).head? = none := by rw [List.head?_drop, List.getElem?_eq_none]; show s.size ≤ _; omega
          rw [hnil, if_neg (by simp)] at hstep
          clear hnil hx h39 HT
          rw [← size_list] at hstep
          by_cases h200 : 200 < Q.size
          · have h200z : (200 : Int) < (Q.size : Int) := by omega
            rw [if_pos h200] at hstep
            have HE := Lib.hid hstep
            clear hstep
            go_wp2_with (refine wpList_store_row rfl 33 (.tmp 4) (.tmp 46) rfl rb (tokCells 0 0 ⟨#[]⟩ 0 0) rfl rfl 33 _ hrb hinfo rfl (tok_one _ _ _ _ _) ?_)
            refine bodyPost_ret (results_cell_two rfl _ _ rb 33 (tokCells 0 0 ⟨#[]⟩ 0 0) (0, 0) _ rfl (row_set_same _ hrb) Tryd.underlying33 rfl hinfo _ rfl) rfl ?_
            rw [HE.out]
            exact ⟨rfl, hM0.setRow (.inr (by rw [HRB.out]; exact Nat.le_refl _)) _⟩
          · have h200z : ¬ (200 : Int) < (Q.size : Int) := by omega
            rw [if_neg h200] at hstep
            have HE := Lib.hid hstep
            clear hstep
            go_wp2_with (refine wpList_store_row rfl 33 (.tmp 4) (.tmp 49) rfl rb (tokCells 4 at_ Q 0 0) rfl rfl 33 _ hrb hinfo rfl (tok_one _ _ _ _ _) ?_)
            refine bodyPost_ret (results_cell_two rfl _ _ rb 33 (tokCells 4 at_ Q 0 0) (0, 0) _ rfl (row_set_same _ hrb) Tryd.underlying33 rfl hinfo _ rfl) rfl ?_
            rw [HE.out]
            exact ⟨by rw [show (k : Int) + 1 - (at_ : Int) = ((k + 1 - at_ : Nat) : Int) by omega]; rfl, hM0.setRow (.inr (by rw [HRB.out]; exact Nat.le_refl _)) _⟩
      · have hz : ((x.toNat : Int) != 39) = true := by rw [bne_iff_ne]; exact fun h => h39 (UInt8.toNat_inj.1 (by show x.toNat = 39; omega))
        have hz2 : ((x.toNat : Int) == 39) = false := by rw [beq_eq_false_iff_ne]; exact fun h => h39 (UInt8.toNat_inj.1 (by show x.toNat = 39; omega))
        have hb := HT.out.byte hk hx h39
        have hel : (s.extract k (k + 1)).data.toList = [x] := by
          rw [ext_list]
          obtain ⟨h2, h3⟩ := List.getElem?_eq_some_iff.1 hx
          rw [List.drop_eq_getElem_cons h2, h3]; rfl
        have hes : (s.extract k (k + 1)).size = 1 := by rw [size_list, hel]; rfl
        have HS : Hid (TRel l s at_ (k + 1) (Q ++ s.extract k (k + 1) : ByteArray).data.toList) := Lib.hid (by rw [app_list, hel]; exact hb)
        have hQs : (Q ++ s.extract k (k + 1) : ByteArray).size ≤ k + 1 := by rw [ByteArray.size_append, hes]; omega
        have hcb : ¬ 9223372036854775807 < Q.size + (s.extract k (k + 1)).size := by omega
        have HQS := Lib.hid hQs
        have hkz : (k : Int) + 1 ≤ (s.size : Int) := by omega
        clear hb hel hes hQs hx h39 HT
        go_wp2_with fail
        go_round
        case measure => simp [intOf]; omega
        case rel => exact ⟨k + 1, _, by omega, by omega, by go_num, rfl, HQS.out, HS⟩
    · have hd : ¬ (k : Int) < (s.size : Int) := by omega
      have hn : textL (s.data.toList.drop k) = none := by rw [List.drop_eq_nil_of_le (by show s.size ≤ k; omega)]; rfl
      have hE := Lib.hid (HT.out.bad hn)
      clear hn HT
      go_wp2_with (refine wpList_store_row rfl 33 (.tmp 4) (.tmp 54) rfl rb (tokCells 0 0 ⟨#[]⟩ 0 0) rfl rfl 33 _ hrb hinfo rfl (tok_one _ _ _ _ _) ?_)
      refine bodyPost_ret (results_cell_two rfl _ _ rb 33 (tokCells 0 0 ⟨#[]⟩ 0 0) (0, 0) _ rfl (row_set_same _ hrb) Tryd.underlying33 rfl hinfo _ rfl) rfl ?_
      rw [hE.out]
      exact ⟨rfl, hM0.setRow (.inr (by rw [HRB.out]; exact Nat.le_refl _)) _⟩
end Go.Proofs.YtpghimiecigakaaDoor
