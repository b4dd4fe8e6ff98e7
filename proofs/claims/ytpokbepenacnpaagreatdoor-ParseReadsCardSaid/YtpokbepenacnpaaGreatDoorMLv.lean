/-
  A scanner's method number, walked, at a place where a digit stands. No condition but that Go's own variables hold what they were laid with.
-/
import Derived.Test.YtpokbepenacnpaaGreatDoorMLs
import Derived.Deep.LoopGhost
import Derived.Deep.DeepCutAuto
import Derived.Test.YtpokbepenacnpaaGreatDoorMBl
namespace Go.Proofs.YtpokbepenacnpaaGreatDoor
open Go.RowKit
set_option linter.unusedVariables false

theorem tok_info : (Tryz.prog.info? 75).map (·.size) = some 5 := by kernel_rfl

theorem ext_end (s : ByteArray) (a : Nat) : (s.extract a s.size).data.toList = s.data.toList.drop a := Lib.extract_to_end s a

/-- What is known of a number's digits, length and scale. -/
def NumRel (l : List UInt8) (D : ByteArray) (n sc : Nat) : Prop := D.data.toList = numDigits l ∧ n = numLen l ∧ sc = (fracL (l.dropWhile isDig)).length

theorem headLet_run (s : ByteArray) (k : Nat) : headLet (s.data.toList.drop k) = decide (0 < runL isLet s k) := by
  unfold runL
  cases s.data.toList.drop k with
  | nil => rfl
  | cons c r =>
    rw [List.takeWhile_cons]
    cases h : isLet c with
    | true => simp [headLet, h]
    | false => simp [headLet, h]

theorem hasPrefix_dot (l : List UInt8) : Lib.hasPrefix l [46] = decide (l.head? = some 46) := by
  cases l with
  | nil => rfl
  | cons c r =>
    simp [Lib.hasPrefix, List.isPrefixOf]
    rw [Bool.eq_iff_iff]; simp; constructor <;> intro h <;> exact h.symm

theorem numDigits_le (l : List UInt8) : (numDigits l).length ≤ numLen l := by
  unfold numDigits numLen
  rw [List.length_append]
  split
  · rename_i h; rw [h]; simp
  · omega
theorem numDigits_dig (l : List UInt8) : ∀ x ∈ numDigits l, isDig x = true := by
  intro x hx
  unfold numDigits at hx
  rcases List.mem_append.1 hx with h | h
  · exact mem_tw h
  · unfold fracL at h
    split at h
    · exact mem_tw h
    · simp at h

set_option maxRecDepth 100000 in
set_option maxHeartbeats 2000000 in
theorem number_any (w : World) (b : Nat) (s : ByteArray) (hS : Scan w b s) (hT : Tabs w) (hs : s.size ≤ 4096) (at_ : Nat) (hat : at_ ≤ s.size) (h0 : (s.data.toList.drop at_).takeWhile isDig ≠ []) :
    Calls Tryz.prog 113 #[.pointer (some ⟨b, 0, none⟩), .int .i64 at_] w (TokPost w (numberL (s.data.toList.drop at_)) at_) := by
  obtain ⟨n, hn⟩ : ∃ n, runL isDig s at_ = n := ⟨_, rfl⟩
  have hn1 := runL_le isDig s at_ hat
  rw [hn] at hn1
  obtain ⟨l, hl⟩ : ∃ l, s.data.toList.drop at_ = l := ⟨_, rfl⟩
  have hnl : (l.takeWhile isDig).length = n := by rw [← hl]; exact hn
  have hDl : (s.extract at_ (at_ + n)).data.toList = l.takeWhile isDig := by rw [ext_list, hl, ← hnl]; exact take_tw _ _
  have hRl : (s.extract (at_ + n) s.size).data.toList = l.dropWhile isDig := by rw [ext_end, dropWhile_eq_drop, hnl, ← hl, List.drop_drop]
  have hpre := fun w => (Tryz.strings_HasPrefix (s.extract (at_ + n) s.size) ⟨#[46]⟩ w).mono (fun e w' h => (⟨h.1, h.2.symm⟩ : _ ∧ w = w'))
  have hpe : Lib.hasPrefix (s.extract (at_ + n) s.size).data.toList (⟨#[46]⟩ : ByteArray).data.toList = decide ((l.dropWhile isDig).head? = some 46) := by rw [hRl]; exact hasPrefix_dot _
  rw [hl] at h0 ⊢
  have HL := Lib.hid hl
  have HN := Lib.hid hn
  have HNL := Lib.hid hnl
  have HDL := Lib.hid hDl
  have H0 := Lib.hid h0
  obtain ⟨PF, hPF⟩ : ∃ PF, decide ((l.dropWhile isDig).head? = some 46) = PF := ⟨_, rfl⟩
  rw [hpe, hPF] at hpre
  have HPF := Lib.hid hPF
  clear hnl hDl hRl hl h0 hpe hPF
  have hrb := heap_alloc_new w (.cells (tokCells 0 0 ⟨#[]⟩ 0 0) 75)
  have hM0 := (Mods.refl [] w).alloc (.cells (tokCells 0 0 ⟨#[]⟩ 0 0) 75)
  have hS0 := hS.mods hM0
  clear hS
  go_enter Tryz.func113, Tryz.ntmps113
  go_wp2_with fail
  generalize w.alloc (.cells (tokCells 0 0 ⟨#[]⟩ 0 0) 75) = w0 at *
  generalize hrbn : w.heap.size = rb at *
  have HRB := Lib.hid hrbn
  clear hrbn
  refine (run_any w0 b s hS0 (by omega) at_ hat 4 isDig mask_dig).mono ?_
  rintro e w1 ⟨rfl, hM1⟩
  rw [hn]
  clear hn
  have hS1 := hS0.mods hM1
  have hrb1 := hM1.heap hrb (by simp)
  have hMw1 := hM0.trans hM1 (by simp)
  have c0 := hS1.text
  have hki : (at_ : Int) + (n : Int) ≤ (s.size : Int) := by omega
  clear hS0 hrb hM0 hM1
  go_upto_if 31 with ((with_reducible refine (hpre _).mono ?_); rintro e w2 ⟨rfl, rfl⟩)
  go_cut [6, 7, 8] (fun s6 s7 s8 wx => ∃ (D : ByteArray) (k sc : Nat), s6 = .int .i64 k ∧ s7 = .string D ∧ s8 = .int .i64 sc ∧ Mods [] w1 wx ∧ NumRel l D k sc)
  case first =>
    cases PF with
    | false =>
      have hf : fracL (l.dropWhile isDig) = [] := by unfold fracL; rw [if_neg (of_decide_eq_false HPF.out)]
      have fin : NumRel l (s.extract at_ (at_ + n)) n 0 := ⟨by rw [HDL.out]; unfold numDigits; rw [hf, List.append_nil], by unfold numLen; rw [if_pos hf]; exact HNL.out.symm, by rw [hf]; rfl⟩
      go_wp2_with fail
      go_meet
      exact ⟨s.extract at_ (at_ + n), n, 0, rfl, rfl, rfl, Mods.refl _ _, fin⟩
    | true =>
      have hh := of_decide_eq_true HPF.out
      obtain ⟨r, hr⟩ : ∃ r, l.dropWhile isDig = 46 :: r := by
        cases hd : l.dropWhile isDig with
        | nil => rw [hd] at hh; simp at hh
        | cons c r => rw [hd] at hh; simp at hh; exact ⟨r, by rw [hh]⟩
      have hr2 : s.data.toList.drop (at_ + n) = 46 :: r := by rw [← hr, dropWhile_eq_drop, HNL.out, ← HL.out, List.drop_drop]
      have hr3 : s.data.toList.drop (at_ + n + 1) = r := by rw [← List.drop_drop, hr2]; rfl
      have hlt : at_ + n < s.size := by
        have := congrArg List.length hr2
        rw [List.length_drop] at this
        have e1 : s.data.toList.length = s.size := rfl
        rw [e1] at this
        simp at this
        omega
      obtain ⟨sc, hsc⟩ : ∃ sc, runL isDig s (at_ + n + 1) = sc := ⟨_, rfl⟩
      have hsc1 := runL_le isDig s (at_ + n + 1) (by omega)
      rw [hsc] at hsc1
      have hf : fracL (l.dropWhile isDig) = r.takeWhile isDig := by rw [hr]; unfold fracL; rw [List.head?_cons, if_pos rfl]; rfl
      have hfl : (r.takeWhile isDig).length = sc := by rw [← hr3]; exact hsc
      have hrun := run_any w1 b s hS1 (by omega) (at_ + n + 1) (by omega) 4 isDig mask_dig
      have e1 : ((at_ + n + 1 : Nat) : Int) = (at_ : Int) + (n : Int) + 1 := by omega
      rw [e1, hsc] at hrun
      have HF := Lib.hid hf
      have HFL := Lib.hid hfl
      have HR3 := Lib.hid hr3
      have hk2 : (at_ : Int) + (n : Int) + 1 + (sc : Int) ≤ (s.size : Int) := by omega
      clear hh hr hr2 hr3 hsc hf hfl e1
      go_wp2_with fail
      refine hrun.mono ?_
      rintro e w2 ⟨rfl, hM2⟩
      have hS2 := hS1.mods hM2
      have c2 := hS2.text
      clear hrun c0
      by_cases hs0 : sc = 0
      · subst hs0
        have hf0 : fracL (l.dropWhile isDig) = [] := by rw [HF.out]; exact List.length_eq_zero_iff.1 HFL.out
        have fin : NumRel l (s.extract at_ (at_ + n)) n 0 := ⟨by rw [HDL.out]; unfold numDigits; rw [hf0, List.append_nil], by unfold numLen; rw [if_pos hf0]; exact HNL.out.symm, by rw [hf0]; rfl⟩
        have FIN := Lib.hid fin
        clear fin hf0
        go_wp2_with fail
        go_meet
        exact ⟨s.extract at_ (at_ + n), n, 0, rfl, rfl, rfl, hM2, FIN.out⟩
      · have hs0z : (0 : Int) < (sc : Int) := by omega
        have hf0 : fracL (l.dropWhile isDig) ≠ [] := by rw [HF.out]; intro h; have := HFL.out; rw [h] at this; simp at this; omega
        have fin : NumRel l (s.extract at_ (at_ + n) ++ s.extract (at_ + n + 1) (at_ + n + 1 + sc)) (n + 1 + sc) sc := by
          refine ⟨?_, by unfold numLen; rw [if_neg hf0, HNL.out, HF.out, HFL.out], by rw [HF.out]; exact HFL.out.symm⟩
          have e1 : (s.extract at_ (at_ + n) ++ s.extract (at_ + n + 1) (at_ + n + 1 + sc)).data.toList = (s.extract at_ (at_ + n)).data.toList ++ (s.extract (at_ + n + 1) (at_ + n + 1 + sc)).data.toList := by simp
          rw [e1, HDL.out, ext_list, HR3.out, ← HFL.out, take_tw, ← HF.out]
          rfl
        have FIN := Lib.hid fin
        have hsz1 : (s.extract at_ (at_ + n)).size ≤ 4096 := by
          have e1 : (s.extract at_ (at_ + n)).size = (s.extract at_ (at_ + n)).data.toList.length := rfl
          rw [e1, HDL.out, HNL.out]; omega
        have hsz2 : (s.extract (at_ + n + 1) (at_ + n + 1 + sc)).size ≤ 4096 := by
          have e1 : (s.extract (at_ + n + 1) (at_ + n + 1 + sc)).size = (s.extract (at_ + n + 1) (at_ + n + 1 + sc)).data.toList.length := rfl
          rw [e1, ext_list, List.length_take]; omega
        have hcat : ¬ 9223372036854775807 < (s.extract at_ (at_ + n)).size + (s.extract (at_ + n + 1) (at_ + n + 1 + sc)).size := by omega
        clear fin hf0
        go_wp2_with fail
        go_meet
        exact ⟨_, n + 1 + sc, sc, by go_num, rfl, rfl, hM2, FIN.out⟩
  case rest =>
    obtain ⟨D, k, sc, rfl, rfl, rfl, hMc, hNum⟩ := hcut
    obtain ⟨hD, hk, hsc⟩ := hNum
    have hSc := hS1.mods hMc
    have hMwc := hMw1.trans hMc (by simp)
    have hrbc := hMc.heap hrb1 (by simp)
    have hTc := hT.mods hMwc
    have hll : l.length ≤ s.size - at_ := by rw [← HL.out, List.length_drop]; exact Nat.le_refl _
    have hkl := numLen_le l
    rw [← hk] at hkl
    have hDl : D.size ≤ 4096 := by
      have e1 : D.size = D.data.toList.length := rfl
      have := numDigits_le l
      rw [e1, hD]
      omega
    have hall := numDigits_dig l
    have hne : numDigits l ≠ [] := by unfold numDigits; intro h; exact H0.out (List.append_eq_nil_iff.1 h).1
    have hpi := parse_digits (numDigits l) hne hall
    rw [← hD] at hpi
    have hlr2 : headLet (l.drop k) = decide (0 < runL isLet s (at_ + k)) := by rw [← HL.out, List.drop_drop]; exact headLet_run _ _
    obtain ⟨V, hV⟩ : ∃ V, numVal D.data.toList = V := ⟨_, rfl⟩
    obtain ⟨R, hR⟩ : ∃ R, runL isLet s (at_ + k) = R := ⟨_, rfl⟩
    have fin : numberL l = if 9223372036854775807 < V ∨ 9 < sc ∨ 0 < R then none else some (⟨3, [], V, sc⟩, k) := by
      unfold numberL
      rw [← hD, ← hsc, ← hk, hlr2, hV, hR]
      simp
    have FIN := Lib.hid fin
    rw [hV] at hpi
    have hrun := fun w (hw : Scan w b s) => run_any w b s hw (by omega) (at_ + k) (by omega) 2 isLet mask_let
    rw [hR] at hrun
    have e1 : ((at_ + k : Nat) : Int) = (at_ : Int) + (k : Int) := by omega
    rw [e1] at hrun
    have hk2 : (at_ : Int) + (k : Int) ≤ (s.size : Int) := by omega
    have hinfo := tok_info
    have HRUN := Lib.hid hrun
    clear hD hk hsc hlr2 fin hV hR e1 hMw1 hrb1 hS1 c0 hMc hpre hne hall hrun hll hkl
    by_cases hbig : 9223372036854775807 < V
    · rw [if_pos hbig] at hpi
      obtain ⟨-, ev, hv, hev⟩ := hTc
      have hpr := Tryz.strconv_ParseInt_10_at64_range D (by omega) hpi ev wc hv hev
      have e := FIN.out
      rw [if_pos (.inl hbig)] at e
      have HE := Lib.hid e
      clear hpi hv hev e hbig
      go_wp2_with fail
      (with_reducible refine hpr.mono ?_)
      rintro e w3 ⟨N, rfl, -, -, hB3⟩
      have hM3 := Mods.of_below hB3 (Nat.le_refl _) []
      have hrb3 := hM3.heap hrbc (by simp)
      have hMw3 := hMwc.trans hM3 (by simp)
      clear hpr hB3 hM3
      go_wp2_with (refine wpList_store_row rfl 75 (.tmp 4) (.tmp 80) rfl rb (tokCells 0 0 ⟨#[]⟩ 0 0) rfl rfl 75 _ hrb3 hinfo rfl (tok_one _ _ _ _ _) ?_)
      refine bodyPost_ret (results_cell_two rfl _ _ rb 75 (tokCells 0 0 ⟨#[]⟩ 0 0) (0, 0) _ rfl (row_set_same _ hrb3) Tryz.underlying75 rfl hinfo _ rfl) rfl ?_
      rw [HE.out]
      exact ⟨rfl, hMw3.setRow (.inr (by rw [HRB.out]; exact Nat.le_refl _)) _⟩
    · rw [if_neg hbig] at hpi
      have hpr := Tryz.strconv_ParseInt_10_at64_ok D (by omega) (V : Int) hpi wc
      have hVz : (V : Int) ≤ 9223372036854775807 := by omega
      clear hpi hTc
      go_wp2_with fail
      (with_reducible refine hpr.mono ?_)
      rintro e w3 ⟨rfl, hB3⟩
      have hM3 : Mods [] wc w3 := by
        rcases hB3 with rfl | ⟨t, rfl⟩
        · exact Mods.refl _ _
        · exact Mods.of_below (Lib.bytesWorld_below _ _ _) (Nat.le_refl _) []
      have hrb3 := hM3.heap hrbc (by simp)
      have hMw3 := hMwc.trans hM3 (by simp)
      have hSw3 := hSc.mods hM3
      clear hpr hB3 hM3
      by_cases h9 : 9 < sc
      · have h9z : (9 : Int) < (sc : Int) := by omega
        have e := FIN.out
        rw [if_pos (.inr (.inl h9))] at e
        have HE := Lib.hid e
        clear e
        go_wp2_with (refine wpList_store_row rfl 75 (.tmp 4) (.tmp 80) rfl rb (tokCells 0 0 ⟨#[]⟩ 0 0) rfl rfl 75 _ hrb3 hinfo rfl (tok_one _ _ _ _ _) ?_)
        refine bodyPost_ret (results_cell_two rfl _ _ rb 75 (tokCells 0 0 ⟨#[]⟩ 0 0) (0, 0) _ rfl (row_set_same _ hrb3) Tryz.underlying75 rfl hinfo _ rfl) rfl ?_
        rw [HE.out]
        exact ⟨rfl, hMw3.setRow (.inr (by rw [HRB.out]; exact Nat.le_refl _)) _⟩
      · have h9z : ¬ (9 : Int) < (sc : Int) := by omega
        go_wp2_with fail
        refine (HRUN.out _ hSw3).mono ?_
        rintro e w4 ⟨rfl, hM4⟩
        have hrb4 := hM4.heap hrb3 (by simp)
        have hMw4 := hMw3.trans hM4 (by simp)
        clear hM4
        by_cases hR0 : 0 < R
        · have hR0z : (0 : Int) < (R : Int) := by omega
          have e := FIN.out
          rw [if_pos (.inr (.inr hR0))] at e
          have HE := Lib.hid e
          clear e
          go_wp2_with (refine wpList_store_row rfl 75 (.tmp 4) (.tmp 80) rfl rb (tokCells 0 0 ⟨#[]⟩ 0 0) rfl rfl 75 _ hrb4 hinfo rfl (tok_one _ _ _ _ _) ?_)
          refine bodyPost_ret (results_cell_two rfl _ _ rb 75 (tokCells 0 0 ⟨#[]⟩ 0 0) (0, 0) _ rfl (row_set_same _ hrb4) Tryz.underlying75 rfl hinfo _ rfl) rfl ?_
          rw [HE.out]
          exact ⟨rfl, hMw4.setRow (.inr (by rw [HRB.out]; exact Nat.le_refl _)) _⟩
        · have hR0z : ¬ (0 : Int) < (R : Int) := by omega
          have e := FIN.out
          rw [if_neg (by omega)] at e
          have HE := Lib.hid e
          clear e
          go_wp2_with (refine wpList_store_row rfl 75 (.tmp 4) (.tmp 84) rfl rb (tokCells 3 at_ ⟨#[]⟩ V sc) rfl rfl 75 _ hrb4 hinfo rfl (tok_one _ _ _ _ _) ?_)
          refine bodyPost_ret (results_cell_two rfl _ _ rb 75 (tokCells 3 at_ ⟨#[]⟩ V sc) (0, 0) _ rfl (row_set_same _ hrb4) Tryz.underlying75 rfl hinfo _ rfl) rfl ?_
          rw [HE.out]
          exact ⟨rfl, hMw4.setRow (.inr (by rw [HRB.out]; exact Nat.le_refl _)) _⟩
end Go.Proofs.YtpokbepenacnpaaGreatDoor

namespace Go.Proofs.YtpokbepenacnpaaGreatDoor
open Go.RowKit
set_option linter.unusedVariables false

/-- The world while a text is read: the builder, in block bb, holds the bytes acc; the result lies in block rb. -/
def TextSt (w : World) (rb bb : Nat) (acc : List UInt8) (wr : World) : Prop :=
  Mods [] w wr ∧ wr.heap[rb]? = some (.cells (tokCells 0 0 ⟨#[]⟩ 0 0) 75 (0, 0)) ∧ ∃ arr v, arr.size = 2 ∧ Bld wr bb 0 177 arr v acc ∧ ∀ g, v.ownBlock = some g → w.heap.size ≤ g

theorem TextSt.wrote {w wr w' : World} {rb bb : Nat} {acc acc' : List UInt8} {arr : Array Value} {v : Value} (hrb : w.heap.size ≤ rb) (hbb : w.heap.size ≤ bb) (hne : rb ≠ bb) (hM : Mods [] w wr) (hr : wr.heap[rb]? = some (.cells (tokCells 0 0 ⟨#[]⟩ 0 0) 75 (0, 0)))
    (ha : arr.size = 2) (hB : Bld wr bb 0 177 arr v acc) (hv : ∀ g, v.ownBlock = some g → w.heap.size ≤ g) (h : Wrote wr bb 0 177 arr v acc' w') : TextSt w rb bb acc' w' := by
  obtain ⟨h1, v', h2, h3⟩ := h
  have hvr : v.ownBlock ≠ some rb := Lib.ownBlock_ne hB.own hr (by decide)
  refine ⟨hM.trans h1 (fun x hx => ?_), h1.heap hr ?_, _, v', ?_, h2, fun g hg => ?_⟩
  · simp only [List.mem_cons, Option.mem_toList] at hx
    rcases hx with rfl | hx
    · exact .inr hbb
    · exact .inr (hv x hx)
  · simp only [List.mem_cons, Option.mem_toList]
    rintro (h | h)
    · exact hne h
    · exact hvr h
  · simp [ha]
  · rcases h3 g hg with h | h
    · exact hv g h
    · exact Nat.le_trans hM.size h

theorem hasPrefix_q (l : List UInt8) : Lib.hasPrefix l [39] = decide (l.head? = some 39) := by
  cases l with
  | nil => rfl
  | cons c r =>
    simp [Lib.hasPrefix, List.isPrefixOf]
    rw [Bool.eq_iff_iff]; simp; constructor <;> intro h <;> exact h.symm

def TRel (l : List UInt8) (s : ByteArray) (at_ k : Nat) (acc : List UInt8) : Prop := textL (l.drop 1) = (textL (s.data.toList.drop k)).map (fun x => (acc ++ x.1, x.2 + (k - at_ - 1)))

theorem TRel.bad {l : List UInt8} {s : ByteArray} {at_ k : Nat} {acc : List UInt8} (h : TRel l s at_ k acc) (hn : textL (s.data.toList.drop k) = none) : textT l = none := by
  unfold TRel at h
  rw [hn] at h
  unfold textT
  rw [h]; rfl
theorem TRel.step {l : List UInt8} {s : ByteArray} {at_ k n : Nat} {acc : List UInt8} (h : TRel l s at_ k acc) (hat : at_ < k) (hn : k + n < s.size) (hq : (s.data.toList.drop k)[n]? = some 39) (ht : textL (s.data.toList.drop k) = (textL ((s.data.toList.drop k).drop n)).map (fun x => ((s.data.toList.drop k).take n ++ x.1, x.2 + n))) :
    if (s.data.toList.drop (k + n + 1)).head? = some 39 then TRel l s at_ (k + n + 2) (acc ++ (s.data.toList.drop k).take n ++ [39])
    else textT l = if 200 < (acc ++ (s.data.toList.drop k).take n).length then none else some (⟨4, acc ++ (s.data.toList.drop k).take n, 0, 0⟩, k + n + 1 - at_) := by
  have e1 : (s.data.toList.drop k).drop n = 39 :: s.data.toList.drop (k + n + 1) := by
    rw [List.getElem?_drop] at hq
    rw [List.drop_drop]
    obtain ⟨h1, h2⟩ := List.getElem?_eq_some_iff.1 hq
    rw [List.drop_eq_getElem_cons h1, h2]
  rw [e1] at ht
  unfold TRel at h
  rw [ht] at h
  cases hd : s.data.toList.drop (k + n + 1) with
  | nil =>
    rw [if_neg (by simp)]
    rw [hd] at h
    have e2 : textL [39] = some ([], 1) := by simp [textL]
    rw [e2] at h
    unfold textT
    rw [h]
    simp only [Option.map_some, List.append_nil]
    split
    · rfl
    · congr 2; omega
  | cons c r =>
    rw [hd] at h
    by_cases hc : c = 39
    · subst hc
      rw [List.head?_cons, if_pos rfl]
      have e3 : s.data.toList.drop (k + n + 2) = r := by
        rw [show k + n + 2 = (k + n + 1) + 1 by omega, ← List.drop_drop, hd]; rfl
      unfold TRel
      rw [e3, h, textL_two]
      cases textL r with
      | none => rfl
      | some x =>
        simp only [Option.map_some, List.append_assoc, List.cons_append, List.nil_append]
        congr 2; omega
    · rw [if_neg (by simp [hc])]
      rw [textL_end c r hc] at h
      unfold textT
      rw [h]
      simp only [Option.map_some, List.append_nil]
      split
      · rfl
      · congr 2; omega

set_option maxRecDepth 100000 in
set_option maxHeartbeats 2000000 in
theorem text_any (w : World) (b : Nat) (s : ByteArray) (hS : Scan w b s) (hs : s.size ≤ 4096) (at_ : Nat) (hat : at_ < s.size) :
    Calls Tryz.prog 114 #[.pointer (some ⟨b, 0, none⟩), .int .i64 at_] w (TokPost w (textT (s.data.toList.drop at_)) at_) := by
  obtain ⟨l, hl⟩ : ∃ l, s.data.toList.drop at_ = l := ⟨_, rfl⟩
  have hst : TRel l s at_ (at_ + 1) [] := by
    unfold TRel
    rw [← hl, List.drop_drop, show at_ + 1 - at_ - 1 = 0 by omega]
    cases textL (s.data.toList.drop (at_ + 1)) <;> simp
  rw [hl]
  have hM0 := ((Mods.refl [] w).alloc (.cells (tokCells 0 0 ⟨#[]⟩ 0 0) 75)).alloc (.cells #[.pointer none, .slice none 0 0] 177)
  have hr0 := ((Mods.refl [] (w.alloc (.cells (tokCells 0 0 ⟨#[]⟩ 0 0) 75))).alloc (.cells #[.pointer none, .slice none 0 0] 177)).heap (heap_alloc_new w (.cells (tokCells 0 0 ⟨#[]⟩ 0 0) 75)) (by simp)
  have hb0 := heap_alloc_new (w.alloc (.cells (tokCells 0 0 ⟨#[]⟩ 0 0) 75)) (.cells #[.pointer none, .slice none 0 0] 177)
  rw [size_alloc] at hb0
  have hSt : TextSt w w.heap.size (w.heap.size + 1) [] ((w.alloc (.cells (tokCells 0 0 ⟨#[]⟩ 0 0) 75)).alloc (.cells #[.pointer none, .slice none 0 0] 177)) :=
    ⟨hM0, hr0, _, .slice none 0 0, rfl, ⟨hb0, .inl rfl, rfl, World.ownsRow_nil _ _ _ _, fun _ => rfl⟩, fun g hg => by cases hg⟩
  have HL := Lib.hid hl
  clear hM0 hr0 hb0 hl
  go_enter Tryz.func114, Tryz.ntmps114
  go_wp2_with fail
  generalize (w.alloc (.cells (tokCells 0 0 ⟨#[]⟩ 0 0) 75)).alloc (.cells #[.pointer none, .slice none 0 0] 177) = w0 at *
  have HSt := Lib.hid hSt
  have HTR := Lib.hid hst
  clear hSt hst
  go_loopw [7] (fun t7 wr => ∃ (k : Nat) (acc : List UInt8), at_ < k ∧ k ≤ s.size ∧ t7 = .int .i64 k ∧ acc.length ≤ k ∧ Hid (TextSt w w.heap.size (w.heap.size + 1) acc wr) ∧ Hid (TRel l s at_ k acc)) (fun t7 _ => s.size + 1 - (intOf t7).toNat)
  case atStart => exact ⟨at_ + 1, [], by omega, by omega, by go_num, by simp, HSt, HTR⟩
  case round =>
    clear HSt HTR
    obtain ⟨k, acc, hk, hks, rfl, hacc, HSt, HTR⟩ := hrel
    obtain ⟨hM, hr, arr, v, ha, hB, hv⟩ := HSt.out
    have hSr := hS.mods hM
    have c0 := hSr.text
    have hib := fun w => (Tryz.strings_IndexByte (s.extract k s.size) 39 w).mono (fun e w' h => (⟨h.1, h.2.symm⟩ : _ ∧ w = w'))
    rw [ext_end, show ((39 : Int).toNat.toUInt8) = (39 : UInt8) from rfl] at hib
    have hinfo := tok_info
    have hrbw : w.heap.size ≤ w.heap.size := Nat.le_refl _
    rcases textL_quote (s.data.toList.drop k) with ⟨h1, h2⟩ | ⟨n, h1, h2, h3, h4⟩
    · have HE := Lib.hid (HTR.out.bad h2)
      rw [h1] at hib
      clear h1 h2 hB hv
      go_wp2_with fail
      (with_reducible refine (hib _).mono ?_)
      rintro e w2 ⟨rfl, rfl⟩
      clear hib
      go_wp2_with (refine wpList_store_row rfl 75 (.tmp 4) (.tmp 20) rfl w.heap.size (tokCells 0 0 ⟨#[]⟩ 0 0) rfl rfl 75 _ hr hinfo rfl (tok_one _ _ _ _ _) ?_)
      refine bodyPost_ret (results_cell_two rfl _ _ w.heap.size 75 (tokCells 0 0 ⟨#[]⟩ 0 0) (0, 0) _ rfl (row_set_same _ hr) Tryz.underlying75 rfl hinfo _ rfl) rfl ?_
      rw [HE.out]
      exact ⟨rfl, hM.setRow (.inr (Nat.le_refl _)) _⟩
    · have hdl : (s.data.toList.drop k).length = s.size - k := by rw [List.length_drop]; rfl
      have hkn : k + n < s.size := by omega
      have hstep := HTR.out.step hk hkn h3 h4
      have hpl : (s.extract k (k + n)).data.toList = (s.data.toList.drop k).take n := ext_list s k n
      have hps : (s.extract k (k + n)).size = n := by
        have e1 : (s.extract k (k + n)).size = (s.extract k (k + n)).data.toList.length := rfl
        rw [e1, hpl, List.length_take]; omega
      have hws := writeString_any lies_own ha hB (s.extract k (k + n)) (by rw [hps]; omega)
      have hwr := fun w' h => TextSt.wrote (acc' := acc ++ (s.extract k (k + n)).data.toList) (w' := w') hrbw (Nat.le_succ _) (by omega) hM hr ha hB hv h
      rw [hpl] at hwr hws
      rw [h1] at hib
      have hkz : (k : Int) + ((n : Int) + 1) ≤ (s.size : Int) := by omega
      have hlenacc : (acc ++ (s.data.toList.drop k).take n).length ≤ k + n := by rw [List.length_append, List.length_take]; omega
      have HP := Lib.hid hpl
      have HSTEP := Lib.hid hstep
      have HLEN := Lib.hid hlenacc
      generalize hacc' : acc ++ (s.data.toList.drop k).take n = acc' at *
      have hpre := fun w => (Tryz.strings_HasPrefix (s.extract (k + (n + 1)) s.size) ⟨#[39]⟩ w).mono (fun e w' h => (⟨h.1, h.2.symm⟩ : _ ∧ w = w'))
      have hpe : Lib.hasPrefix (s.extract (k + (n + 1)) s.size).data.toList (⟨#[39]⟩ : ByteArray).data.toList = decide ((s.data.toList.drop (k + n + 1)).head? = some 39) := by rw [ext_end]; exact hasPrefix_q _
      rw [hpe] at hpre
      obtain ⟨PF, hPF⟩ : ∃ PF, decide ((s.data.toList.drop (k + n + 1)).head? = some 39) = PF := ⟨_, rfl⟩
      rw [hPF] at hpre
      have HPF := Lib.hid hPF
      clear h1 h2 h3 h4 hpl hps hstep hB hv hdl hlenacc hacc' hpe hPF
      go_wp2_with fail
      (with_reducible refine (hib _).mono ?_)
      rintro e w2 ⟨rfl, rfl⟩
      clear hib
      go_wp2_with fail
      refine hws.mono ?_
      rintro e w3 ⟨rfl, hW⟩
      have HSt3 := hwr w3 hW
      clear hws hwr hW hr hM
      obtain ⟨hM, hr, arr3, v3, ha3, hB3, hv3⟩ := id HSt3
      have hS3 := hS.mods hM
      have c3 := hS3.text
      clear c0
      go_wp2_with fail
      (with_reducible refine (hpre _).mono ?_)
      rintro e w4 ⟨rfl, rfl⟩
      clear hpre
      cases PF with
      | false =>
        have hT := HSTEP.out
        rw [if_neg (of_decide_eq_false HPF.out)] at hT
        have hlen := len_any hB3
        obtain ⟨L, hL⟩ : ∃ L, acc'.length = L := ⟨_, rfl⟩
        rw [hL] at hlen hT
        have hLk : L ≤ s.size := by rw [← hL]; have := HLEN.out; omega
        by_cases h200 : 200 < L
        · have h200z : (200 : Int) < (L : Int) := by omega
          rw [if_pos h200] at hT
          have HE := Lib.hid hT
          clear hT hL hB3 hv3 ha3
          go_wp2_with fail
          (with_reducible refine hlen.mono ?_)
          rintro e w5 ⟨rfl, h5⟩
          subst h5
          clear hlen
          go_wp2_with (refine wpList_store_row rfl 75 (.tmp 4) (.tmp 45) rfl w.heap.size (tokCells 0 0 ⟨#[]⟩ 0 0) rfl rfl 75 _ hr hinfo rfl (tok_one _ _ _ _ _) ?_)
          refine bodyPost_ret (results_cell_two rfl _ _ w.heap.size 75 (tokCells 0 0 ⟨#[]⟩ 0 0) (0, 0) _ rfl (row_set_same _ hr) Tryz.underlying75 rfl hinfo _ rfl) rfl ?_
          rw [HE.out]
          exact ⟨rfl, hM.setRow (.inr (Nat.le_refl _)) _⟩
        · have h200z : ¬ (200 : Int) < (L : Int) := by omega
          rw [if_neg h200] at hT
          have HE := Lib.hid hT
          have hstr := string_any hB3
          have hv3r : v3.ownBlock ≠ some w.heap.size := Lib.ownBlock_ne hB3.own hr (by decide)
          have hmv : ∀ x ∈ v3.ownBlock.toList, x ∈ [] ∨ w.heap.size ≤ x := fun x hx => .inr (hv3 x (by simpa using hx))
          have HMV := Lib.hid (And.intro hmv hv3r)
          clear hT hL hB3 hv3 ha3 hv3r hmv
          go_wp2_with fail
          (with_reducible refine hlen.mono ?_)
          rintro e w5 ⟨rfl, h5⟩
          subst h5
          clear hlen
          go_wp2_with fail
          (with_reducible refine hstr.mono ?_)
          rintro e w6 ⟨rfl, hM6⟩
          have hr6 := hM6.heap hr (by simpa using HMV.out.2)
          have hM7 := hM.trans hM6 HMV.out.1
          clear hstr hM6 hr
          go_wp2_with (refine wpList_store_row rfl 75 (.tmp 4) (.tmp 48) rfl w.heap.size (tokCells 4 at_ ⟨acc'.toArray⟩ 0 0) rfl rfl 75 _ hr6 hinfo rfl (tok_one _ _ _ _ _) ?_)
          refine bodyPost_ret (results_cell_two rfl _ _ w.heap.size 75 (tokCells 4 at_ ⟨acc'.toArray⟩ 0 0) (0, 0) _ rfl (row_set_same _ hr6) Tryz.underlying75 rfl hinfo _ rfl) rfl ?_
          rw [HE.out]
          refine ⟨?_, hM7.setRow (.inr (Nat.le_refl _)) _⟩
          show Ending.returned (.tuple #[_, .int .i64 _]) = Ending.returned (.tuple #[_, .int .i64 ((k + n + 1 - at_ : Nat) : Int)])
          rw [show ((k + n + 1 - at_ : Nat) : Int) = (k : Int) + ((n : Int) + 1) - (at_ : Int) by omega]
          rfl
      | true =>
        have hT := HSTEP.out
        rw [if_pos (of_decide_eq_true HPF.out)] at hT
        have hwb := writeByte_any lies_own ha3 hB3 39 (by have := HLEN.out; omega)
        change Calls _ _ #[.pointer _, .int .u8 39] _ _ at hwb
        have hwr := fun w' h => TextSt.wrote (acc' := acc' ++ [39]) (w' := w') hrbw (Nat.le_succ _) (by omega) hM hr ha3 hB3 hv3 h
        have hdl2 : k + n + 2 ≤ s.size := by
          have := of_decide_eq_true HPF.out
          have e2 : (s.data.toList.drop (k + n + 1)) ≠ [] := by intro h; rw [h] at this; simp at this
          have e3 := List.length_pos_iff.2 e2
          rw [List.length_drop] at e3
          have e4 : s.data.toList.length = s.size := rfl
          omega
        have HTR2 := Lib.hid hT
        clear hT hB3 hv3 ha3 hM hr
        go_wp2_with fail
        (with_reducible refine hwb.mono ?_)
        rintro e w5 ⟨rfl, hW⟩
        have HSt5 := hwr w5 hW
        have HST5 := Lib.hid HSt5
        clear hwb hwr hW HSt5
        go_wp2_with fail
        go_roundw
        case measure => simp [intOf]; omega
        case rel => exact ⟨k + n + 2, acc' ++ [39], by omega, by omega, by go_num, by rw [List.length_append]; have := HLEN.out; simp; omega, HST5, HTR2⟩
end Go.Proofs.YtpokbepenacnpaaGreatDoor
