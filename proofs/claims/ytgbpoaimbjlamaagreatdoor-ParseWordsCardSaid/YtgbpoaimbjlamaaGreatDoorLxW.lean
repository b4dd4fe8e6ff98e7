/-
  A scanner's method text, walked. No condition.
-/
import Derived.Test.YtgbpoaimbjlamaaGreatDoorLxV
import Derived.Test.YtgbpoaimbjlamaaGreatDoorBldB
namespace Go.Proofs.YtgbpoaimbjlamaaGreatDoor
open Go.RowKit
set_option linter.unusedVariables false

/-- The world while a text is read: the builder, in block bb, holds the bytes acc; the result lies in block rb. -/
def TextSt (w : World) (rb bb : Nat) (acc : List UInt8) (wr : World) : Prop :=
  Mods [] w wr ∧ wr.heap[rb]? = some (.cells (tokCells 0 0 ⟨#[]⟩ 0 0) 56 (0, 0)) ∧ ∃ arr v, arr.size = 2 ∧ Bld wr bb 0 95 arr v acc ∧ ∀ g, v.ownBlock = some g → w.heap.size ≤ g

theorem TextSt.wrote {w wr w' : World} {rb bb : Nat} {acc acc' : List UInt8} {arr : Array Value} {v : Value} (hrb : w.heap.size ≤ rb) (hbb : w.heap.size ≤ bb) (hne : rb ≠ bb) (hM : Mods [] w wr) (hr : wr.heap[rb]? = some (.cells (tokCells 0 0 ⟨#[]⟩ 0 0) 56 (0, 0)))
    (ha : arr.size = 2) (hB : Bld wr bb 0 95 arr v acc) (hv : ∀ g, v.ownBlock = some g → w.heap.size ≤ g) (h : Wrote wr bb 0 95 arr v acc' w') : TextSt w rb bb acc' w' := by
  obtain ⟨h1, v', h2, h3⟩ := h
  have hvr : v.ownBlock ≠ some rb := Lib.ownBlock_ne hB.own hr (by decide)
  refine ⟨hM.trans h1 (fun x hx => ?_), h1.heap hr ?_, _, v', ?_, h2, fun g hg => ?_⟩
  · simp only [List.mem_cons, Option.mem_toList] at hx
    rcases hx with rfl | hx
    · exact .inr hbb
    · exact .inr (hv x hx)
  · simp only [List.mem_cons, Option.mem_toList]
    rintro (h | h)
    · exact hne h
    · exact hvr h
  · simp [ha]
  · rcases h3 g hg with h | h
    · exact hv g h
    · exact Nat.le_trans hM.size h

theorem hasPrefix_q (l : List UInt8) : Lib.hasPrefix l [39] = decide (l.head? = some 39) := by
  cases l with
  | nil => rfl
  | cons c r =>
    simp [Lib.hasPrefix, List.isPrefixOf]
    rw [Bool.eq_iff_iff]; simp; constructor <;> intro h <;> exact h.symm

def TRel (l : List UInt8) (s : ByteArray) (at_ k : Nat) (acc : List UInt8) : Prop := textL (l.drop 1) = (textL (s.data.toList.drop k)).map (fun x => (acc ++ x.1, x.2 + (k - at_ - 1)))

theorem TRel.bad {l : List UInt8} {s : ByteArray} {at_ k : Nat} {acc : List UInt8} (h : TRel l s at_ k acc) (hn : textL (s.data.toList.drop k) = none) : textT l = none := by
  unfold TRel at h
  rw [hn] at h
  unfold textT
  rw [h]; rfl
theorem TRel.step {l : List UInt8} {s : ByteArray} {at_ k n : Nat} {acc : List UInt8} (h : TRel l s at_ k acc) (hat : at_ < k) (hn : k + n < s.size) (hq : (s.data.toList.drop k)[n]? = some 39) (ht : textL (s.data.toList.drop k) = (textL ((s.data.toList.drop k).drop n)).map (fun x => ((s.data.toList.drop k).take n ++ x.1, x.2 + n))) :
    if (s.data.toList.drop (k + n + 1)).head? = some 39 then TRel l s at_ (k + n + 2) (acc ++ (s.data.toList.drop k).take n ++ [39])
    else textT l = if 200 < (acc ++ (s.data.toList.drop k).take n).length then none else some (⟨4, acc ++ (s.data.toList.drop k).take n, 0, 0⟩, k + n + 1 - at_) := by
  have e1 : (s.data.toList.drop k).drop n = 39 :: s.data.toList.drop (k + n + 1) := by
    rw [List.getElem?_drop] at hq
    rw [List.drop_drop]
    obtain ⟨h1, h2⟩ := List.getElem?_eq_some_iff.1 hq
    rw [List.drop_eq_getElem_cons h1, h2]
  rw [e1] at ht
  unfold TRel at h
  rw [ht] at h
  cases hd : s.data.toList.drop (k + n + 1) with
  | nil =>
    rw [if_neg (by simp)]
    rw [hd] at h
    have e2 : textL [39] = some ([], 1) := by simp [textL]
    rw [e2] at h
    unfold textT
    rw [h]
    simp only [Option.map_some, List.append_nil]
    split
    · rfl
    · congr 2; omega
  | cons c r =>
    rw [hd] at h
    by_cases hc : c = 39
    · subst hc
      rw [List.head?_cons, if_pos rfl]
      have e3 : s.data.toList.drop (k + n + 2) = r := by
        rw [show k + n + 2 = (k + n + 1) + 1 by omega, ← List.drop_drop, hd]; rfl
      unfold TRel
      rw [e3, h, textL_two]
      cases textL r with
      | none => rfl
      | some x =>
        simp only [Option.map_some, List.append_assoc, List.cons_append, List.nil_append]
        congr 2; omega
    · rw [if_neg (by simp [hc])]
      rw [textL_end c r hc] at h
      unfold textT
      rw [h]
      simp only [Option.map_some, List.append_nil]
      split
      · rfl
      · congr 2; omega

set_option maxRecDepth 100000 in
set_option maxHeartbeats 2000000 in
theorem text_any (w : World) (b : Nat) (s : ByteArray) (hS : Scan w b s) (hs : s.size ≤ 4096) (at_ : Nat) (hat : at_ < s.size) :
    Calls Tryz.prog 59 #[.pointer (some ⟨b, 0, none⟩), .int .i64 at_] w (TokPost w (textT (s.data.toList.drop at_)) at_) := by
  obtain ⟨l, hl⟩ : ∃ l, s.data.toList.drop at_ = l := ⟨_, rfl⟩
  have hst : TRel l s at_ (at_ + 1) [] := by
    unfold TRel
    rw [← hl, List.drop_drop, show at_ + 1 - at_ - 1 = 0 by omega]
    cases textL (s.data.toList.drop (at_ + 1)) <;> simp
  rw [hl]
  have hM0 := ((Mods.refl [] w).alloc (.cells (tokCells 0 0 ⟨#[]⟩ 0 0) 56)).alloc (.cells #[.pointer none, .slice none 0 0] 95)
  have hr0 := ((Mods.refl [] (w.alloc (.cells (tokCells 0 0 ⟨#[]⟩ 0 0) 56))).alloc (.cells #[.pointer none, .slice none 0 0] 95)).heap (heap_alloc_new w (.cells (tokCells 0 0 ⟨#[]⟩ 0 0) 56)) (by simp)
  have hb0 := heap_alloc_new (w.alloc (.cells (tokCells 0 0 ⟨#[]⟩ 0 0) 56)) (.cells #[.pointer none, .slice none 0 0] 95)
  rw [size_alloc] at hb0
  have hSt : TextSt w w.heap.size (w.heap.size + 1) [] ((w.alloc (.cells (tokCells 0 0 ⟨#[]⟩ 0 0) 56)).alloc (.cells #[.pointer none, .slice none 0 0] 95)) :=
    ⟨hM0, hr0, _, .slice none 0 0, rfl, ⟨hb0, .inl rfl, rfl, World.ownsRow_nil _ _ _ _, fun _ => rfl⟩, fun g hg => by cases hg⟩
  have HL := Lib.hid hl
  clear hM0 hr0 hb0 hl
  go_enter Tryz.func59, Tryz.ntmps59
  go_wp2_with fail
  generalize (w.alloc (.cells (tokCells 0 0 ⟨#[]⟩ 0 0) 56)).alloc (.cells #[.pointer none, .slice none 0 0] 95) = w0 at *
  have HSt := Lib.hid hSt
  have HTR := Lib.hid hst
  clear hSt hst
  go_loopw [7] (fun t7 wr => ∃ (k : Nat) (acc : List UInt8), at_ < k ∧ k ≤ s.size ∧ t7 = .int .i64 k ∧ acc.length ≤ k ∧ Hid (TextSt w w.heap.size (w.heap.size + 1) acc wr) ∧ Hid (TRel l s at_ k acc)) (fun t7 _ => s.size + 1 - (intOf t7).toNat)
  case atStart => exact ⟨at_ + 1, [], by omega, by omega, by go_num, by simp, HSt, HTR⟩
  case round =>
    clear HSt HTR
    obtain ⟨k, acc, hk, hks, rfl, hacc, HSt, HTR⟩ := hrel
    obtain ⟨hM, hr, arr, v, ha, hB, hv⟩ := HSt.out
    have hSr := hS.mods hM
    have c0 := hSr.text
    have hib := fun w => (Tryz.strings_IndexByte (s.extract k s.size) 39 w).mono (fun e w' h => (⟨h.1, h.2.symm⟩ : _ ∧ w = w'))
    rw [ext_end, show ((39 : Int).toNat.toUInt8) = (39 : UInt8) from rfl] at hib
    have hinfo := tok_info
    have hrbw : w.heap.size ≤ w.heap.size := Nat.le_refl _
    rcases textL_quote (s.data.toList.drop k) with ⟨h1, h2⟩ | ⟨n, h1, h2, h3, h4⟩
    · have HE := Lib.hid (HTR.out.bad h2)
      rw [h1] at hib
      clear h1 h2 hB hv
      go_wp2_with fail
      (with_reducible refine (hib _).mono ?_)
      rintro e w2 ⟨rfl, rfl⟩
      clear hib
      go_wp2_with (refine wpList_store_row rfl 56 (.tmp 4) (.tmp 20) rfl w.heap.size (tokCells 0 0 ⟨#[]⟩ 0 0) rfl rfl 56 _ hr hinfo rfl (tok_one _ _ _ _ _) ?_)
      refine bodyPost_ret (results_cell_two rfl _ _ w.heap.size 56 (tokCells 0 0 ⟨#[]⟩ 0 0) (0, 0) _ rfl (row_set_same _ hr) Tryz.underlying56 rfl hinfo _ rfl) rfl ?_
      rw [HE.out]
      exact ⟨rfl, hM.setRow (.inr (Nat.le_refl _)) _⟩
    · have hdl : (s.data.toList.drop k).length = s.size - k := by rw [List.length_drop]; rfl
      have hkn : k + n < s.size := by omega
      have hstep := HTR.out.step hk hkn h3 h4
      have hpl : (s.extract k (k + n)).data.toList = (s.data.toList.drop k).take n := ext_list s k n
      have hps : (s.extract k (k + n)).size = n := by
        have e1 : (s.extract k (k + n)).size = (s.extract k (k + n)).data.toList.length := rfl
        rw [e1, hpl, List.length_take]; omega
      have hws := writeString_any lies_own ha hB (s.extract k (k + n)) (by rw [hps]; omega)
      have hwr := fun w' h => TextSt.wrote (acc' := acc ++ (s.extract k (k + n)).data.toList) (w' := w') hrbw (Nat.le_succ _) (by omega) hM hr ha hB hv h
      rw [hpl] at hwr hws
      rw [h1] at hib
      have hkz : (k : Int) + ((n : Int) + 1) ≤ (s.size : Int) := by omega
      have hlenacc : (acc ++ (s.data.toList.drop k).take n).length ≤ k + n := by rw [List.length_append, List.length_take]; omega
      have HP := Lib.hid hpl
      have HSTEP := Lib.hid hstep
      have HLEN := Lib.hid hlenacc
      generalize hacc' : acc ++ (s.data.toList.drop k).take n = acc' at *
      have hpre := fun w => (Tryz.strings_HasPrefix (s.extract (k + (n + 1)) s.size) ⟨#[39]⟩ w).mono (fun e w' h => (⟨h.1, h.2.symm⟩ : _ ∧ w = w'))
      have hpe : Lib.hasPrefix (s.extract (k + (n + 1)) s.size).data.toList (⟨#[39]⟩ : ByteArray).data.toList = decide ((s.data.toList.drop (k + n + 1)).head? = some 39) := by rw [ext_end]; exact hasPrefix_q _
      rw [hpe] at hpre
      obtain ⟨PF, hPF⟩ : ∃ PF, decide ((s.data.toList.drop (k + n + 1)).head? = some 39) = PF := ⟨_, rfl⟩
      rw [hPF] at hpre
      have HPF := Lib.hid hPF
      clear h1 h2 h3 h4 hpl hps hstep hB hv hdl hlenacc hacc' hpe hPF
      go_wp2_with fail
      (with_reducible refine (hib _).mono ?_)
      rintro e w2 ⟨rfl, rfl⟩
      clear hib
      go_wp2_with fail
      refine hws.mono ?_
      rintro e w3 ⟨rfl, hW⟩
      have HSt3 := hwr w3 hW
      clear hws hwr hW hr hM
      obtain ⟨hM, hr, arr3, v3, ha3, hB3, hv3⟩ := id HSt3
      have hS3 := hS.mods hM
      have c3 := hS3.text
      clear c0
      go_wp2_with fail
      (with_reducible refine (hpre _).mono ?_)
      rintro e w4 ⟨rfl, rfl⟩
      clear hpre
      cases PF with
      | false =>
        have hT := HSTEP.out
        rw [if_neg (of_decide_eq_false HPF.out)] at hT
        have hlen := len_any hB3
        obtain ⟨L, hL⟩ : ∃ L, acc'.length = L := ⟨_, rfl⟩
        rw [hL] at hlen hT
        have hLk : L ≤ s.size := by rw [← hL]; have := HLEN.out; omega
        by_cases h200 : 200 < L
        · have h200z : (200 : Int) < (L : Int) := by omega
          rw [if_pos h200] at hT
          have HE := Lib.hid hT
          clear hT hL hB3 hv3 ha3
          go_wp2_with fail
          (with_reducible refine hlen.mono ?_)
          rintro e w5 ⟨rfl, h5⟩
          subst h5
          clear hlen
          go_wp2_with (refine wpList_store_row rfl 56 (.tmp 4) (.tmp 45) rfl w.heap.size (tokCells 0 0 ⟨#[]⟩ 0 0) rfl rfl 56 _ hr hinfo rfl (tok_one _ _ _ _ _) ?_)
          refine bodyPost_ret (results_cell_two rfl _ _ w.heap.size 56 (tokCells 0 0 ⟨#[]⟩ 0 0) (0, 0) _ rfl (row_set_same _ hr) Tryz.underlying56 rfl hinfo _ rfl) rfl ?_
          rw [HE.out]
          exact ⟨rfl, hM.setRow (.inr (Nat.le_refl _)) _⟩
        · have h200z : ¬ (200 : Int) < (L : Int) := by omega
          rw [if_neg h200] at hT
          have HE := Lib.hid hT
          have hstr := string_any hB3
          have hv3r : v3.ownBlock ≠ some w.heap.size := Lib.ownBlock_ne hB3.own hr (by decide)
          have hmv : ∀ x ∈ v3.ownBlock.toList, x ∈ [] ∨ w.heap.size ≤ x := fun x hx => .inr (hv3 x (by simpa using hx))
          have HMV := Lib.hid (And.intro hmv hv3r)
          clear hT hL hB3 hv3 ha3 hv3r hmv
          go_wp2_with fail
          (with_reducible refine hlen.mono ?_)
          rintro e w5 ⟨rfl, h5⟩
          subst h5
          clear hlen
          go_wp2_with fail
          (with_reducible refine hstr.mono ?_)
          rintro e w6 ⟨rfl, hM6⟩
          have hr6 := hM6.heap hr (by simpa using HMV.out.2)
          have hM7 := hM.trans hM6 HMV.out.1
          clear hstr hM6 hr
          go_wp2_with (refine wpList_store_row rfl 56 (.tmp 4) (.tmp 48) rfl w.heap.size (tokCells 4 at_ ⟨acc'.toArray⟩ 0 0) rfl rfl 56 _ hr6 hinfo rfl (tok_one _ _ _ _ _) ?_)
          refine bodyPost_ret (results_cell_two rfl _ _ w.heap.size 56 (tokCells 4 at_ ⟨acc'.toArray⟩ 0 0) (0, 0) _ rfl (row_set_same _ hr6) Tryz.underlying56 rfl hinfo _ rfl) rfl ?_
          rw [HE.out]
          refine ⟨?_, hM7.setRow (.inr (Nat.le_refl _)) _⟩
          show Ending.returned (.tuple #[_, .int .i64 _]) = Ending.returned (.tuple #[_, .int .i64 ((k + n + 1 - at_ : Nat) : Int)])
          rw [show ((k + n + 1 - at_ : Nat) : Int) = (k : Int) + ((n : Int) + 1) - (at_ : Int) by omega]
          rfl
      | true =>
        have hT := HSTEP.out
        rw [if_pos (of_decide_eq_true HPF.out)] at hT
        have hwb := writeByte_any lies_own ha3 hB3 39 (by have := HLEN.out; omega)
        change Calls _ _ #[.pointer _, .int .u8 39] _ _ at hwb
        have hwr := fun w' h => TextSt.wrote (acc' := acc' ++ [39]) (w' := w') hrbw (Nat.le_succ _) (by omega) hM hr ha3 hB3 hv3 h
        have hdl2 : k + n + 2 ≤ s.size := by
          have := of_decide_eq_true HPF.out
          have e2 : (s.data.toList.drop (k + n + 1)) ≠ [] := by intro h; rw [h] at this; simp at this
          have e3 := List.length_pos_iff.2 e2
          rw [List.length_drop] at e3
          have e4 : s.data.toList.length = s.size := rfl
          omega
        have HTR2 := Lib.hid hT
        clear hT hB3 hv3 ha3 hM hr
        go_wp2_with fail
        (with_reducible refine hwb.mono ?_)
        rintro e w5 ⟨rfl, hW⟩
        have HSt5 := hwr w5 hW
        have HST5 := Lib.hid HSt5
        clear hwb hwr hW HSt5
        go_wp2_with fail
        go_roundw
        case measure => simp [intOf]; omega
        case rel => exact ⟨k + n + 2, acc' ++ [39], by omega, by omega, by go_num, by rw [List.length_append]; have := HLEN.out; simp; omega, HST5, HTR2⟩
end Go.Proofs.YtgbpoaimbjlamaaGreatDoor
