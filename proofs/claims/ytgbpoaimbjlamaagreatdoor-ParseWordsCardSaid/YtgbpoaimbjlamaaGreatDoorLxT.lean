/-
  A scanner in memory; its method run, walked: how many bytes of some kinds stand somewhere. No condition.
-/
import Derived.Test.YtgbpoaimbjlamaaGreatDoorLxS
import Derived.Deep.QuietTactic
import Derived.BigQuiet
import Derived.IntWalk
namespace Go.Proofs.YtgbpoaimbjlamaaGreatDoor
open Go.RowKit
set_option linter.unusedVariables false

/-- A scanner over a text, in a block. -/
structure Scan (w : World) (b : Nat) (s : ByteArray) : Prop where
  row : ∃ arr T mb, w.heap[b]? = some (.cells arr T (0, 0)) ∧ arr[0]? = some (.string s) ∧ (∀ j, j < 256 → arr[1 + j]? = some (.int .u8 (kindB j : Int))) ∧ arr[257]? = some (.map (some mb)) ∧ KeyMap w mb

theorem Scan.mods {w w' : World} {b : Nat} {s : ByteArray} (h : Scan w b s) (hM : Mods [] w w') : Scan w' b s := by
  obtain ⟨arr, T, mb, h1, h2, h3, h4, h5⟩ := h.row
  exact ⟨arr, T, mb, hM.heap h1 (by simp), h2, h3, h4, h5.mods hM (by simp)⟩
theorem Scan.text {w : World} {b : Nat} {s : ByteArray} (h : Scan w b s) : w.cell? ⟨b, 0, none⟩ = some (.string s) := by
  obtain ⟨arr, T, mb, h1, h2, -⟩ := h.row
  rw [cell_of_heap h1]; exact h2
theorem Scan.kind {w : World} {b : Nat} {s : ByteArray} (h : Scan w b s) (j : Nat) (hj : j < 256) : w.cell? ⟨b, 1 + j, none⟩ = some (.int .u8 (kindB j : Int)) := by
  obtain ⟨arr, T, mb, h1, h2, h3, -⟩ := h.row
  rw [cell_of_heap h1]; exact h3 j hj
theorem Scan.keys {w : World} {b : Nat} {s : ByteArray} (h : Scan w b s) : ∃ mb, w.cell? ⟨b, 257, none⟩ = some (.map (some mb)) ∧ KeyMap w mb := by
  obtain ⟨arr, T, mb, h1, h2, h3, h4, h5⟩ := h.row
  exact ⟨mb, by rw [cell_of_heap h1]; exact h4, h5⟩

theorem tw_len {α : Type} (p : α → Bool) : ∀ (l : List α) (k : Nat), (∀ j, j < k → ∃ x, l[j]? = some x ∧ p x = true) → (l[k]? = none ∨ ∃ x, l[k]? = some x ∧ p x = false) → (l.takeWhile p).length = k
  | [], 0, _, _ => rfl
  | [], k + 1, h, _ => by obtain ⟨x, hx, -⟩ := h 0 (by omega); simp at hx
  | a :: l, 0, _, h => by
    rcases h with h | ⟨x, hx, hp⟩
    · simp at h
    · simp at hx; subst hx; simp [hp]
  | a :: l, k + 1, h, h2 => by
    obtain ⟨x, hx, hp⟩ := h 0 (by omega)
    simp at hx; subst hx
    rw [List.takeWhile_cons, if_pos hp, List.length_cons, tw_len p l k (fun j hj => by simpa using h (j + 1) (by omega)) (by simpa using h2)]

/-- How many bytes of some kinds stand from a place on. -/
def runL (p : UInt8 → Bool) (s : ByteArray) (at_ : Nat) : Nat := ((s.data.toList.drop at_).takeWhile p).length
theorem runL_le (p : UInt8 → Bool) (s : ByteArray) (at_ : Nat) (h : at_ ≤ s.size) : at_ + runL p s at_ ≤ s.size := by
  have h1 := len_takeWhile_le p (s.data.toList.drop at_)
  have h2 : (s.data.toList.drop at_).length = s.size - at_ := by rw [List.length_drop]; rfl
  unfold runL; omega

/-- A mask and the bytes that it is of. -/
def Mask (m : Nat) (p : UInt8 → Bool) : Prop := m < 256 ∧ ∀ c : UInt8, (p c = true → ¬ bits .and .u8 (kindB c.toNat : Int) (m : Int) = 0) ∧ (p c = false → bits .and .u8 (kindB c.toNat : Int) (m : Int) = 0)

theorem kind_let (c : UInt8) : (isLet c = true ∧ kindB c.toNat = 2) ∨ (isLet c = false ∧ isDig c = true ∧ kindB c.toNat = 4) ∨ (isLet c = false ∧ isDig c = false ∧ isBl c = true ∧ kindB c.toNat = 1) ∨ (isLet c = false ∧ isDig c = false ∧ isBl c = false ∧ kindB c.toNat = 0) := by
  simp only [isLet, isDig, isBl, kindB]
  generalize c.toNat = n
  by_cases h1 : (97 ≤ n ∧ n ≤ 122) ∨ (65 ≤ n ∧ n ≤ 90) ∨ n = 95
  · left
    rw [if_pos h1]
    simp; omega
  · right
    rw [if_neg h1]
    by_cases h2 : 48 ≤ n ∧ n ≤ 57
    · left
      rw [if_pos h2]
      simp; omega
    · right
      rw [if_neg h2]
      by_cases h3 : n = 32 ∨ n = 9 ∨ n = 10 ∨ n = 13
      · left; rw [if_pos h3]; simp; omega
      · right; rw [if_neg h3]; simp; omega
theorem bl_not {c : UInt8} (h : isLet c = true ∨ isDig c = true) : isBl c = false := by
  rcases h with h | h
  · exact let_bl h
  · exact (dig_let h).2
theorem mask_LD : Mask 6 isLD := by
  refine ⟨by decide, fun c => ?_⟩
  rcases kind_let c with ⟨h1, h2⟩ | ⟨h1, h2, h3⟩ | ⟨h1, h2, h3, h4⟩ | ⟨h1, h2, h3, h4⟩ <;> simp only [isLD, Bool.true_or, Bool.false_or, Bool.or_false, *] <;> decide
theorem mask_dig : Mask 4 isDig := by
  refine ⟨by decide, fun c => ?_⟩
  rcases kind_let c with ⟨h1, h2⟩ | ⟨h1, h2, h3⟩ | ⟨h1, h2, h3, h4⟩ | ⟨h1, h2, h3, h4⟩
  · have : isDig c = false := by
      cases hd : isDig c with
      | false => rfl
      | true => rw [(dig_let hd).1] at h1; cases h1
    simp only [*]; decide
  all_goals simp only [*]; decide
theorem mask_let : Mask 2 isLet := by
  refine ⟨by decide, fun c => ?_⟩
  rcases kind_let c with ⟨h1, h2⟩ | ⟨h1, h2, h3⟩ | ⟨h1, h2, h3, h4⟩ | ⟨h1, h2, h3, h4⟩ <;> simp only [*] <;> decide
theorem mask_bl : Mask 1 isBl := by
  refine ⟨by decide, fun c => ?_⟩
  rcases kind_let c with ⟨h1, h2⟩ | ⟨h1, h2, h3⟩ | ⟨h1, h2, h3, h4⟩ | ⟨h1, h2, h3, h4⟩
  · have := bl_not (.inl h1); simp only [*]; decide
  · have := bl_not (.inr h2); simp only [*]; decide
  all_goals simp only [*]; decide

theorem s_at (s : ByteArray) (k : Nat) (h : k < s.size) : s.data.toList[k]? = some s[k] := Lib.data_getElem? s k h

set_option maxRecDepth 100000 in
set_option maxHeartbeats 1000000 in
theorem run_any (w : World) (b : Nat) (s : ByteArray) (hS : Scan w b s) (hs : s.size ≤ 9223372036854775807) (at_ : Nat) (hat : at_ ≤ s.size) (m : Nat) (p : UInt8 → Bool) (hm : Mask m p) :
    Calls Tryz.prog 29 #[.pointer (some ⟨b, 0, none⟩), .int .i64 at_, .int .u8 m] w fun e w' => e = .returned (.int .i64 (runL p s at_)) ∧ Mods [] w w' := by
  have HM := Lib.hid hm
  have HS := Lib.hid hS
  clear hm hS
  go_enter Tryz.func29, Tryz.ntmps29
  go_wp2_with fail
  go_loopw [7] (fun t7 wr => ∃ k : Nat, at_ + k ≤ s.size ∧ t7 = .int .i64 k ∧ Mods [] w wr ∧ Hid (∀ j, j < k → ∃ x, s.data.toList[at_ + j]? = some x ∧ p x = true)) (fun t7 _ => s.size - (intOf t7).toNat)
  case atStart => exact ⟨0, by omega, rfl, Mods.refl _ _, Lib.hid (fun j hj => by omega)⟩
  case round =>
    obtain ⟨k, hk, rfl, hM, hP⟩ := hrel
    have hSr := HS.out.mods hM
    have c0 := hSr.text
    have e1 : IntKind.i64.wrap ((at_ : Int) + (k : Int)) = (at_ : Int) + (k : Int) := IntWalk.i64_in _ (by omega)
    by_cases hlt : at_ + k < s.size
    · have e2 : (0 : Int) ≤ (at_ : Int) + (k : Int) := by omega
      have e3 : ((at_ : Int) + (k : Int)).toNat = at_ + k := by omega
      have hd : decide ((at_ : Int) + (k : Int) < (s.size : Int)) = true := by simp; omega
      have hx := s_at s (at_ + k) hlt
      obtain ⟨x, hx'⟩ : ∃ x, s[at_ + k] = x := ⟨_, rfl⟩
      rw [hx'] at hx
      have hx256 := UInt8.toNat_lt x
      have hkd := hSr.kind x.toNat (by omega)
      have hxz : (x.toNat : Int) < 256 := by omega
      have HX := Lib.hid hx
      cases hpx : p x with
      | true =>
        have hbit : (bits .and .u8 (kindB x.toNat : Int) (m : Int) != 0) = true := by rw [bne_iff_ne]; exact (HM.out.2 x).1 hpx
        have HPX := Lib.hid hpx
        clear hx hpx
        go_wp2_with fail
        go_quiet (fail)
        have hMy := hM.drewN nq
        generalize wr.drewN nq = wy at *
        clear e1 e2 e3
        go_wp2_with fail
        go_roundw
        case measure => simp [intOf]; omega
        case rel =>
          refine ⟨k + 1, by omega, by go_num, hMy, Lib.hid (fun j hj => ?_)⟩
          by_cases hjk : j = k
          · subst hjk; exact ⟨x, HX.out, HPX.out⟩
          · exact hP.out j (by omega)
      | false =>
        have hbit : (bits .and .u8 (kindB x.toNat : Int) (m : Int) != 0) = false := by rw [bne_eq_false_iff_eq]; exact (HM.out.2 x).2 hpx
        have fin : runL p s at_ = k := tw_len p _ k (fun j hj => by rw [List.getElem?_drop]; exact hP.out j hj) (.inr ⟨x, by rw [List.getElem?_drop]; exact HX.out, hpx⟩)
        have FIN := Lib.hid fin
        clear hx hpx fin
        go_wp2_with fail
        go_quiet (fail)
        have hMy := hM.drewN nq
        generalize wr.drewN nq = wy at *
        clear e1 e2 e3
        go_wp2_with fail
        go_ret
        exact ⟨ret_int (congrArg Int.ofNat FIN.out.symm), hMy⟩
    · have hd : decide ((at_ : Int) + (k : Int) < (s.size : Int)) = false := by simp; omega
      have fin : runL p s at_ = k := tw_len p _ k (fun j hj => by rw [List.getElem?_drop]; exact hP.out j hj) (.inl (by rw [List.getElem?_drop, List.getElem?_eq_none]; show s.size ≤ _; omega))
      have FIN := Lib.hid fin
      clear fin
      go_wp2_with fail
      go_quiet (fail)
      have hMy := hM.drewN nq
      generalize wr.drewN nq = wy at *
      clear e1
      go_wp2_with fail
      go_ret
      exact ⟨ret_int (congrArg Int.ofNat FIN.out.symm), hMy⟩
end Go.Proofs.YtgbpoaimbjlamaaGreatDoor
