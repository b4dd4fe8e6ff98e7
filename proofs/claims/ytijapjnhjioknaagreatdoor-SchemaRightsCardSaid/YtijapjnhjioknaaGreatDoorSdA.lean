/-
  The document's chapter 12: NameRight, walked; that a text that is told as a Name whose S is the text stands at its beginning. No condition.
-/
import Derived.Test.YtijapjnhjioknaaGreatDoorScM
import Derived.Test.YtijapjnhjioknaaGreatDoorRdF
namespace Go.Proofs.YtijapjnhjioknaaGreatDoor
open Go.RowKit
open Go.Maps
set_option linter.unusedVariables false

theorem tokL_kind2 {l : List UInt8} {t : TokC} {n : Nat} (h : tokL l = some (t, n)) (hk : t.kind = 2) : t = ⟨2, l.takeWhile isLD, 0, 0⟩ := by
  unfold tokL at h
  split at h
  · cases h
  · split at h
    · unfold wordL at h
      split at h
      · simp at h; rw [← h.1] at hk; simp at hk
      · split at h
        · cases h
        · simp at h; exact h.1.symm
    · split at h
      · unfold numberL at h
        split at h
        · cases h
        · simp at h; rw [← h.1] at hk; simp at hk
      · split at h
        · unfold textT at h
          split at h
          · cases h
          · split at h
            · cases h
            · simp at h; rw [← h.1] at hk; simp at hk
        · unfold markL at h
          split at h
          · simp at h; rw [← h.1] at hk; simp at hk
          · split at h
            · cases h
            · split at h
              · simp at h; rw [← h.1] at hk; simp at hk
              · cases h
theorem head_name {l : List UInt8} {t : Tok} {ts : List Tok} (h : lexAll l = .good (t :: ts)) (hk : t.kind = 2) (hs : t.s = l) : t = ⟨2, 0, l, 0, 0⟩ := by
  unfold lexAll at h
  have hsp := len_split isBl l
  by_cases h0 : l.dropWhile isBl = []
  · rw [h0, lexG_nil] at h
    simp at h
    rw [← h.1] at hk
    simp at hk
  · cases htk : tokL (l.dropWhile isBl) with
    | none =>
      rw [lexG_bad _ h0 htk] at h
      cases h
    | some y =>
      obtain ⟨tc, n⟩ := y
      rw [lexG_good _ htk] at h
      have ht : t = tc.put (l.takeWhile isBl).length := by
        generalize lexG _ _ = G at h
        cases G with
        | good L => simp [Lexed.pre] at h; exact h.1.symm
        | bad p => cases h
      rw [ht] at hk hs
      have hk2 := tokL_kind2 htk hk
      have hp : (l.takeWhile isBl).length = 0 := by
        have h1 : tc.s = l := hs
        rw [hk2] at h1
        have h2 := congrArg List.length h1
        have h3 := len_takeWhile_le isLD (l.dropWhile isBl)
        simp only at h2
        omega
      rw [ht, hp]
      have h1 : tc.s = l := hs
      rw [hk2] at h1 ⊢
      simp only [TokC.put] at h1 ⊢
      rw [h1]

set_option maxRecDepth 100000 in
set_option maxHeartbeats 1000000 in
theorem nameRight_ref (w : World) (s : ByteArray) (hs0 : s.size ≤ 9223372036854775807) :
    Calls Tryz.prog 13 #[.string s] w fun e w' => e = .returned (.bool (nameL s.data.toList)) ∧ Mods [] w w' := by
  have hA := all_ref w s (by omega)
  have hsl : s.data.toList.length = s.size := rfl
  go_enter Tryz.func13, Tryz.ntmps13
  by_cases hbig : 4096 < s.size
  · have e : nameL s.data.toList = false := by unfold nameL; rw [if_pos (by omega)]
    unfold AllPost at hA
    simp only [if_pos hbig] at hA
    have HE := Lib.hid e
    clear hbig e
    go_wp2_with fail
    (with_reducible refine hA.mono ?_)
    rintro e w2 ⟨rfl, hM2⟩
    clear hA
    go_wp2_with fail
    go_ret
    exact ⟨by rw [HE.out]; rfl, hM2⟩
  · have hn : nameL s.data.toList = (match lexAll s.data.toList with | .good [t, _] => decide (t = ⟨2, 0, s.data.toList, 0, 0⟩) | _ => false) := by unfold nameL; rw [if_neg (by omega)]; rfl
    unfold AllPost at hA
    simp only [if_neg hbig] at hA
    cases hl : lexAll s.data.toList with
    | bad p =>
      rw [hl] at hn
      simp only [hl] at hA
      have HE := Lib.hid hn
      clear hbig hn hl
      go_wp2_with fail
      (with_reducible refine hA.mono ?_)
      rintro e w2 ⟨rfl, hM2⟩
      clear hA
      go_wp2_with fail
      go_ret
      exact ⟨by rw [HE.out]; rfl, hM2⟩
    | good ts =>
      have hne := lexAll_ne hl
      have HL := Lib.hid hl
      rw [hl] at hn
      simp only [hl] at hA
      have HE := Lib.hid hn
      clear hbig hn hl
      go_wp2_with fail
      (with_reducible refine hA.mono ?_)
      rintro e w2 ⟨t1, rfl, hO1⟩
      obtain ⟨g1, cap1, rfl, hA1, hc1⟩ := hO1.at hne
      have hM2 := hO1.1
      clear hA hO1
      by_cases h2 : ts.length = 2
      · match ts, h2 with
        | [t, u], _ =>
          obtain ⟨c0, c1, c2, c3, c4⟩ := hA1.tok 0 (by simp)
          simp only [List.getElem_cons_zero] at c0 c1 c2 c3 c4
          clear hA1 c1 c3 c4
          have hE : nameL s.data.toList = decide (t = ⟨2, 0, s.data.toList, 0, 0⟩) := HE.out
          have HE2 := Lib.hid hE
          clear HE hE
          by_cases hk : t.kind = 2
          · have z1 : ((t.kind : Int) == 2) = true := by rw [beq_iff_eq]; omega
            by_cases hts : t.s = s.data.toList
            · have hy : nameL s.data.toList = true := by rw [HE2.out, decide_eq_true (head_name HL.out hk hts)]
              have HY := Lib.hid hy
              rw [hts] at c2
              clear hy HL HE2 hts hk
              go_wp2_with fail
              go_ret
              exact ⟨by rw [HY.out]; rfl, hM2⟩
            · have hy : nameL s.data.toList = false := by rw [HE2.out]; exact decide_eq_false (fun h => hts (by rw [h]))
              have HY := Lib.hid hy
              have z2 : ¬ t.s = s.toList := by
                rw [ByteArray.toList_eq]
                exact hts
              have z3 : (t.s == s.toList) = false := by rw [beq_eq_false_iff_ne]; exact z2
              clear hy HL HE2 hts hk
              go_wp2_with fail
              go_ret
              exact ⟨by rw [HY.out]; rfl, hM2⟩
          · have z1 : ((t.kind : Int) == 2) = false := by rw [beq_eq_false_iff_ne]; omega
            have hy : nameL s.data.toList = false := by rw [HE2.out]; exact decide_eq_false (fun h => hk (by rw [h]))
            have HY := Lib.hid hy
            clear hy HL HE2 hk
            go_wp2_with fail
            go_ret
            exact ⟨by rw [HY.out]; rfl, hM2⟩
      · have h2z : ((ts.length : Int) == 2) = false := by rw [beq_eq_false_iff_ne]; omega
        have hno : nameL s.data.toList = false := by
          rw [HE.out]
          match ts, h2 with
          | [], _ => rfl
          | [_], _ => rfl
          | [_, _], h => exact absurd rfl h
          | _ :: _ :: _ :: _, _ => rfl
        have HNO := Lib.hid hno
        clear hno HE HL
        go_wp2_with fail
        go_ret
        exact ⟨by rw [HNO.out]; rfl, hM2⟩
end Go.Proofs.YtijapjnhjioknaaGreatDoor
