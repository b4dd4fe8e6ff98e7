/-
  schema.NameRight, walked. No condition but that Go's own variables hold what they were laid with.
-/
import Derived.Test.YtijapjnhjioknaaGreatDoorLyB0
import Derived.Test.YtijapjnhjioknaaGreatDoorLat
namespace Go.Proofs.YtijapjnhjioknaaGreatDoor
open Go.RowKit
set_option linter.unusedVariables false

/-- Is a text a name? -/
def nameL (l : List UInt8) : Bool :=
  if 4096 < l.length then false else
  match lexAll l with
  | .good [t, _] => decide (t = ⟨2, 0, l, 0, 0⟩)
  | _ => false

set_option maxRecDepth 100000 in
set_option maxHeartbeats 1000000 in
theorem nameRight_any (w : World) (hT : Tabs w) (s : ByteArray) (hs0 : s.size ≤ 9223372036854775807) :
    Calls Tryz.prog 12 #[.string s] w fun e w' => e = .returned (.bool (nameL s.data.toList)) ∧ Mods [] w w' := by
  have hA := all_any w hT s (by omega)
  have hsl : s.data.toList.length = s.size := rfl
  go_enter Tryz.func12, Tryz.ntmps12
  by_cases hbig : 4096 < s.size
  · have e : nameL s.data.toList = false := by unfold nameL; rw [if_pos (by omega)]
    unfold AllPost at hA
    simp only [if_pos hbig] at hA
    have HE := Lib.hid e
    clear hbig e
    go_wp2_with fail
    (with_reducible refine hA.mono ?_)
    rintro e w2 ⟨rfl, hM2⟩
    clear hA
    go_wp2_with fail
    go_ret
    exact ⟨by rw [HE.out]; rfl, hM2⟩
  · have hn : nameL s.data.toList = (match lexAll s.data.toList with | .good [t, _] => decide (t = ⟨2, 0, s.data.toList, 0, 0⟩) | _ => false) := by unfold nameL; rw [if_neg (by omega)]
    unfold AllPost at hA
    simp only [if_neg hbig] at hA
    cases hl : lexAll s.data.toList with
    | bad p =>
      rw [hl] at hn
      simp only [hl] at hA
      have HE := Lib.hid hn
      clear hbig hn hl
      go_wp2_with fail
      (with_reducible refine hA.mono ?_)
      rintro e w2 ⟨rfl, hM2⟩
      clear hA
      go_wp2_with fail
      go_ret
      exact ⟨by rw [HE.out]; rfl, hM2⟩
    | good ts =>
      have hne := lexAll_ne hl
      rw [hl] at hn
      simp only [hl] at hA
      have HE := Lib.hid hn
      clear hbig hn hl
      go_wp2_with fail
      (with_reducible refine hA.mono ?_)
      rintro e w2 ⟨t1, rfl, hO1⟩
      obtain ⟨g1, cap1, rfl, hA1, hc1⟩ := hO1.at hne
      have hM2 := hO1.1
      clear hA hO1
      by_cases h2 : ts.length = 2
      · match ts, h2 with
        | [t, u], _ =>
          obtain ⟨c0, c1, c2, c3, c4⟩ := hA1.tok 0 (by simp)
          simp only [List.getElem_cons_zero] at c0 c1 c2 c3 c4
          clear hA1
          go_wp2_with fail
          all_goals go_ret
          all_goals refine ⟨ret_bool ?_, hM2⟩
          all_goals rw [HE.out]
          all_goals clear c0 c1 c2 c3 c4 HE
          all_goals obtain ⟨k, p, l, n, c⟩ := t
          all_goals simp_all [ByteArray.toList_eq]
          all_goals omega
      · have h2z : ((ts.length : Int) == 2) = false := by rw [beq_eq_false_iff_ne]; omega
        have hno : nameL s.data.toList = false := by
          rw [HE.out]
          match ts, h2 with
          | [], _ => rfl
          | [_], _ => rfl
          | [_, _], h => exact absurd rfl h
          | _ :: _ :: _ :: _, _ => rfl
        have HNO := Lib.hid hno
        clear hno HE
        go_wp2_with fail
        go_ret
        exact ⟨by rw [HNO.out]; rfl, hM2⟩
end Go.Proofs.YtijapjnhjioknaaGreatDoor
