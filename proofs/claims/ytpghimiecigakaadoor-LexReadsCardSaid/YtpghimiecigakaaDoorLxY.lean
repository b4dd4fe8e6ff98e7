/-
  A scanner's method token, walked. No condition but that Go's own variables hold what they were laid with.
-/
import Derived.Test.YtpghimiecigakaaDoorLxW
import Derived.Test.YtpghimiecigakaaDoorLxX
namespace Go.Proofs.YtpghimiecigakaaDoor
open Go.RowKit
set_option linter.unusedVariables false

theorem tokV_form (o : Option (TokC × Nat)) (at_ : Nat) : ∃ (k a : Int) (x : ByteArray) (n c len : Int), tokV o at_ = .tuple #[.agg (tokCells k a x n c), .int .i64 len] := by
  cases o with
  | none => exact ⟨0, 0, ⟨#[]⟩, 0, 0, 0, rfl⟩
  | some x => exact ⟨_, _, _, _, _, _, rfl⟩

set_option maxRecDepth 100000 in
set_option maxHeartbeats 2000000 in
theorem token_any (w : World) (b : Nat) (s : ByteArray) (hS : Scan w b s) (hT : Tabs w) (hs : s.size ≤ 4096) (at_ : Nat) (hat : at_ < s.size) :
    Calls Tryd.prog 12 #[.pointer (some ⟨b, 0, none⟩), .int .i64 at_] w (TokPost w (tokL (s.data.toList.drop at_)) at_) := by
  obtain ⟨c, hc⟩ : ∃ c, s[at_] = c := ⟨_, rfl⟩
  have hl : s.data.toList.drop at_ = c :: s.data.toList.drop (at_ + 1) := by
    have h1 : at_ < s.data.toList.length := hat
    rw [List.drop_eq_getElem_cons h1]
    congr 1
  have htk : tokL (s.data.toList.drop at_) = if isLet c = true then wordL (s.data.toList.drop at_) else if isDig c = true then numberL (s.data.toList.drop at_) else if c = 39 then textT (s.data.toList.drop at_) else markL (s.data.toList.drop at_) := by rw [hl]; rfl
  have hdg : isDig c = true → (s.data.toList.drop at_).takeWhile isDig ≠ [] := fun h => by rw [hl, List.takeWhile_cons, if_pos h]; simp
  have hrb := heap_alloc_new w (.cells (tokCells 0 0 ⟨#[]⟩ 0 0) 32)
  have hM0 := (Mods.refl [] w).alloc (.cells (tokCells 0 0 ⟨#[]⟩ 0 0) 32)
  have hS0 := hS.mods hM0
  have hT0 := hT.mods hM0
  have c0 := hS0.text
  have hc256 := UInt8.toNat_lt c
  have ck := hS0.kind c.toNat (by omega)
  have hcz : (c.toNat : Int) < 256 := by omega
  have hatz : (at_ : Int) < (s.size : Int) := by omega
  have hinfo := tok_info
  have HTK := Lib.hid htk
  have HDG := Lib.hid hdg
  have HC := Lib.hid hc
  have H2 := Lib.hid (mask_let.2 c)
  have H4 := Lib.hid (mask_dig.2 c)
  clear hl htk hdg hS hT
  have ends : ∀ (o : Option (TokC × Nat)) (w0 w1 : World) (f : Nat) (args : Array Value), Mods [] w w0 → w0.heap[w.heap.size]? = some (.cells (tokCells 0 0 ⟨#[]⟩ 0 0) 32 (0, 0)) → Calls Tryd.prog f args w0 (TokPost w0 o at_) → Calls Tryd.prog f args w0 fun e w1 => ∃ (k a : Int) (x : ByteArray) (n c len : Int), e = .returned (.tuple #[.agg (tokCells k a x n c), .int .i64 len]) ∧ w1.heap[w.heap.size]? = some (.cells (tokCells 0 0 ⟨#[]⟩ 0 0) 32 (0, 0)) ∧ (tokL (s.data.toList.drop at_) = o → TokPost w (tokL (s.data.toList.drop at_)) at_ (.returned (.tuple #[.agg (tokCells k a x n c), .int .i64 len])) (w1.setRow w.heap.size (tokCells k a x n c))) := by
    intro o w0 w1 f args h0 h1 h
    refine h.mono fun e w1 he => ?_
    obtain ⟨he1, he2⟩ := he
    obtain ⟨k, a, x, n, c, len, hv⟩ := tokV_form o at_
    refine ⟨k, a, x, n, c, len, by rw [he1, hv], he2.heap h1 (by simp), fun ho => ⟨by rw [ho, hv], ?_⟩⟩
    exact (h0.trans he2 (by simp)).setRow (.inr (Nat.le_refl _)) _
  have HE := Lib.hid ends
  clear ends
  go_enter Tryd.func12, Tryd.ntmps12
  cases h2 : isLet c with
  | true =>
    have hb2 : (bits .and .u8 (kindB c.toNat : Int) 2 != 0) = true := by rw [bne_iff_ne]; exact H2.out.1 h2
    have e := HTK.out
    rw [if_pos h2] at e
    have hcall := HE.out _ _ w _ _ hM0 hrb (word_any _ b s hS0 hs at_ (by omega))
    have HT1 := Lib.hid e
    clear e h2
    go_wp2_with fail
    (with_reducible refine hcall.mono ?_)
    rintro e w2 ⟨k, a, x, n, cc, len, rfl, hr2, hfin⟩
    have HF := Lib.hid (hfin HT1.out)
    clear hfin hcall
    go_wp2_with (refine wpList_store_row rfl 32 (.tmp 4) (.tmp 25) rfl w.heap.size (tokCells k a x n cc) rfl rfl 32 _ hr2 hinfo rfl (tok_one _ _ _ _ _) ?_)
    exact bodyPost_ret (results_cell_two rfl _ _ w.heap.size 32 (tokCells k a x n cc) (0, 0) _ rfl (row_set_same _ hr2) Tryd.underlying32 rfl hinfo (.int .i64 len) rfl) rfl HF.out
  | false =>
    have hb2 : (bits .and .u8 (kindB c.toNat : Int) 2 != 0) = false := by rw [bne_eq_false_iff_eq]; exact H2.out.2 h2
    have e1 := HTK.out
    rw [if_neg (by rw [h2]; decide)] at e1
    clear h2
    cases h4 : isDig c with
    | true =>
      have hb4 : (bits .and .u8 (kindB c.toNat : Int) 4 != 0) = true := by rw [bne_iff_ne]; exact H4.out.1 h4
      rw [if_pos h4] at e1
      have hcall := HE.out _ _ w _ _ hM0 hrb (number_any _ b s hS0 hT0 hs at_ (by omega) (HDG.out h4))
      have HT1 := Lib.hid e1
      clear e1 h4
      go_wp2_with fail
      (with_reducible refine hcall.mono ?_)
      rintro e w2 ⟨k, a, x, n, cc, len, rfl, hr2, hfin⟩
      have HF := Lib.hid (hfin HT1.out)
      clear hfin hcall
      go_wp2_with (refine wpList_store_row rfl 32 (.tmp 4) (.tmp 39) rfl w.heap.size (tokCells k a x n cc) rfl rfl 32 _ hr2 hinfo rfl (tok_one _ _ _ _ _) ?_)
      exact bodyPost_ret (results_cell_two rfl _ _ w.heap.size 32 (tokCells k a x n cc) (0, 0) _ rfl (row_set_same _ hr2) Tryd.underlying32 rfl hinfo (.int .i64 len) rfl) rfl HF.out
    | false =>
      have hb4 : (bits .and .u8 (kindB c.toNat : Int) 4 != 0) = false := by rw [bne_eq_false_iff_eq]; exact H4.out.2 h4
      rw [if_neg (by rw [h4]; decide)] at e1
      clear h4
      by_cases h39 : c = 39
      · have hq : ((c.toNat : Int) == 39) = true := by rw [h39]; rfl
        rw [if_pos h39] at e1
        have hcall := HE.out _ _ w _ _ hM0 hrb (text_any _ b s hS0 hs at_ (by omega))
        have HT1 := Lib.hid e1
        clear e1 h39
        go_wp2_with fail
        (with_reducible refine hcall.mono ?_)
        rintro e w2 ⟨k, a, x, n, cc, len, rfl, hr2, hfin⟩
        have HF := Lib.hid (hfin HT1.out)
        clear hfin hcall
        go_wp2_with (refine wpList_store_row rfl 32 (.tmp 4) (.tmp 47) rfl w.heap.size (tokCells k a x n cc) rfl rfl 32 _ hr2 hinfo rfl (tok_one _ _ _ _ _) ?_)
        exact bodyPost_ret (results_cell_two rfl _ _ w.heap.size 32 (tokCells k a x n cc) (0, 0) _ rfl (row_set_same _ hr2) Tryd.underlying32 rfl hinfo (.int .i64 len) rfl) rfl HF.out
      · have hn : c.toNat ≠ 39 := fun h => h39 (UInt8.toNat_inj.1 h)
        have hq : ((c.toNat : Int) == 39) = false := by rw [beq_eq_false_iff_ne]; omega
        have hq2 : ¬ (c.toNat : Int) = 39 := by omega
        rw [if_neg h39] at e1
        have hcall := HE.out _ _ w _ _ hM0 hrb (mark_any _ b s hS0 hs at_ (by omega))
        have HT1 := Lib.hid e1
        clear e1 h39 hn
        go_wp2_with fail
        (with_reducible refine hcall.mono ?_)
        rintro e w2 ⟨k, a, x, n, cc, len, rfl, hr2, hfin⟩
        have HF := Lib.hid (hfin HT1.out)
        clear hfin hcall
        go_wp2_with (refine wpList_store_row rfl 32 (.tmp 4) (.tmp 52) rfl w.heap.size (tokCells k a x n cc) rfl rfl 32 _ hr2 hinfo rfl (tok_one _ _ _ _ _) ?_)
        exact bodyPost_ret (results_cell_two rfl _ _ w.heap.size 32 (tokCells k a x n cc) (0, 0) _ rfl (row_set_same _ hr2) Tryd.underlying32 rfl hinfo (.int .i64 len) rfl) rfl HF.out
end Go.Proofs.YtpghimiecigakaaDoor
