/-
  A scanner's method mark, walked. No condition.
-/
import Derived.Test.YtpghimiecigakaaDoorLxV
namespace Go.Proofs.YtpghimiecigakaaDoor
open Go.RowKit
set_option linter.unusedVariables false

theorem index_has (l : List UInt8) (c : UInt8) : decide (0 ≤ Lib.indexByte l c) = l.contains c := by
  induction l with
  | nil => rfl
  | cons b r ih =>
    have h1 := Lib.indexByte_ge r c
    unfold Lib.indexByte
    by_cases hb : b = c
    · subst hb; simp
    · have hb2 : (b == c) = false := by simpa using hb
      have hb3 : (c == b) = false := by simpa using fun e => hb e.symm
      rw [hb2, List.contains_cons, hb3, Bool.false_or, ← ih]
      by_cases h2 : Lib.indexByte r c = -1
      · simp [h2]
      · have h3 : (Lib.indexByte r c == -1) = false := by simpa using h2
        simp [h3]; omega

def MRel (l : List UInt8) (n : Nat) : Prop := (n = 1 → ∀ c r, l = c :: r → markL l = if marks1.contains c = true then some (⟨5, [c], 0, 0⟩, 1) else none) ∧ (n = 0 → markL l = none) ∧ n ≤ l.length

theorem mark_two (l : List UInt8) (h : marks2.contains (l.take 2) = true) : markL l = some (⟨5, l.take 2, 0, 0⟩, 2) := by unfold markL; rw [if_pos h]
theorem mark_one {c : UInt8} {r : List UInt8} (h : marks2.contains ((c :: r).take 2) = false) : markL (c :: r) = if marks1.contains c = true then some (⟨5, [c], 0, 0⟩, 1) else none := by
  unfold markL; rw [if_neg (by rw [h]; decide)]
theorem marks2_cases {x : List UInt8} : (x = [60, 62] ∨ x = [60, 61] ∨ x = [62, 61]) ∨ (x ≠ [60, 62] ∧ x ≠ [60, 61] ∧ x ≠ [62, 61] ∧ marks2.contains x = false) := by
  by_cases h1 : x = [60, 62]
  · exact .inl (.inl h1)
  · by_cases h2 : x = [60, 61]
    · exact .inl (.inr (.inl h2))
    · by_cases h3 : x = [62, 61]
      · exact .inl (.inr (.inr h3))
      · refine .inr ⟨h1, h2, h3, ?_⟩
        simp [marks2, h1, h2, h3]
theorem bytes_ne {a : ByteArray} {l : List UInt8} (h : a.data.toList ≠ l) : (a == ⟨l.toArray⟩) = false := by
  cases hb : a == (⟨l.toArray⟩ : ByteArray) with
  | false => rfl
  | true => exact absurd (by rw [(MapKept.bytes_beq _ _).1 hb]) h

set_option maxRecDepth 100000 in
set_option maxHeartbeats 2000000 in
theorem mark_any (w : World) (b : Nat) (s : ByteArray) (hS : Scan w b s) (hs : s.size ≤ 4096) (at_ : Nat) (hat : at_ < s.size) :
    Calls Tryd.prog 23 #[.pointer (some ⟨b, 0, none⟩), .int .i64 at_] w (TokPost w (markL (s.data.toList.drop at_)) at_) := by
  obtain ⟨l, hl⟩ : ∃ l, s.data.toList.drop at_ = l := ⟨_, rfl⟩
  have hll : l.length = s.size - at_ := by rw [← hl, List.length_drop]; rfl
  rw [hl]
  obtain ⟨m, hm⟩ : ∃ m : Nat, (2 ≤ s.size - at_ ∧ m = 2) ∨ (s.size - at_ = 1 ∧ m = 1) := by
    by_cases h : 2 ≤ s.size - at_
    · exact ⟨2, .inl ⟨h, rfl⟩⟩
    · exact ⟨1, .inr ⟨by omega, rfl⟩⟩
  have hmin := fun w => run_min (P := Tryd.prog) w 3 3 3 .i64 2 ((s.size : Int) - (at_ : Int)) m (by omega)
  have hst : MRel l m := by
    refine ⟨fun h1 c r hc => ?_, fun h0 => by omega, by omega⟩
    subst hc
    have : r = [] := by have h2 : (c :: r).length = 1 := by omega
                        simpa using h2
    subst this
    exact mark_one (by simp [marks2])
  have hm2 : m ≤ 2 ∧ at_ + m ≤ s.size := by omega
  have HL := Lib.hid hl
  have HLL := Lib.hid hll
  have HST := Lib.hid hst
  have hrb := heap_alloc_new w (.cells (tokCells 0 0 ⟨#[]⟩ 0 0) 32)
  have hM0 := (Mods.refl [] w).alloc (.cells (tokCells 0 0 ⟨#[]⟩ 0 0) 32)
  have c0 := (hS.mods hM0).text
  have hinfo := tok_info
  clear hS hl hll hm hst
  go_enter Tryd.func23, Tryd.ntmps23
  go_wp2_with fail
  generalize w.alloc (.cells (tokCells 0 0 ⟨#[]⟩ 0 0) 32) = w0 at *
  generalize hrbn : w.heap.size = rb at *
  have HRB := Lib.hid hrbn
  clear hrbn hmin
  go_loop [6] (fun t6 => ∃ n : Nat, n ≤ 2 ∧ at_ + n ≤ s.size ∧ t6 = .int .i64 n ∧ Hid (MRel l n)) (fun t6 => (intOf t6).toNat)
  case atStart => exact ⟨m, hm2.1, hm2.2, rfl, HST⟩
  case round =>
    clear HST hm2
    obtain ⟨n, hn2, hn3, rfl, HR⟩ := hrel
    have hcases : n = 0 ∨ n = 1 ∨ n = 2 := by omega
    rcases hcases with rfl | rfl | rfl
    · have HE := Lib.hid (HR.out.2.1 rfl)
      go_wp2_with (refine wpList_store_row rfl 32 (.tmp 4) (.tmp 55) rfl rb (tokCells 0 0 ⟨#[]⟩ 0 0) rfl rfl 32 _ hrb hinfo rfl (tok_one _ _ _ _ _) ?_)
      refine bodyPost_ret (results_cell_two rfl _ _ rb 32 (tokCells 0 0 ⟨#[]⟩ 0 0) (0, 0) _ rfl (row_set_same _ hrb) Tryd.underlying32 rfl hinfo _ rfl) rfl ?_
      rw [HE.out]
      exact ⟨rfl, hM0.setRow (.inr (by rw [HRB.out]; exact Nat.le_refl _)) _⟩
    · obtain ⟨c, r, hcr⟩ : ∃ c r, l = c :: r := by
        cases l with
        | nil => have := HR.out.2.2; simp at this
        | cons c r => exact ⟨c, r, rfl⟩
      have hX : s.extract at_ (at_ + 1) = ⟨#[c]⟩ := by
        refine bytes_of (l := [c]) ?_
        rw [ext_list, HL.out, hcr]; rfl
      have hc := fun w => (Tryd.strings_Contains_one ⟨#[61, 60, 62, 43, 45, 42, 47, 40, 41, 44, 46]⟩ c w).mono (fun e w' h => (⟨h.1, h.2.symm⟩ : _ ∧ w = w'))
      rw [index_has] at hc
      have hmk := HR.out.1 rfl c r hcr
      obtain ⟨q, hq⟩ : ∃ q, marks1.contains c = q := ⟨_, rfl⟩
      rw [show (⟨#[61, 60, 62, 43, 45, 42, 47, 40, 41, 44, 46]⟩ : ByteArray).data.toList.contains c = marks1.contains c from rfl, hq] at hc
      rw [hq] at hmk
      have HMK := Lib.hid hmk
      have hkz : (at_ : Int) + 1 ≤ (s.size : Int) := by omega
      have hrel0 : MRel l 0 ∨ q = true := by
        cases q with
        | true => exact .inr rfl
        | false => exact .inl ⟨fun h => by omega, fun _ => by have := HMK.out; rw [if_neg (by decide)] at this; exact this, by omega⟩
      have HR0 := Lib.hid hrel0
      clear hcr hmk hq hrel0
      rw [show ((1 : Nat) : Int) = 1 from rfl]
      cases q with
      | true =>
        go_wp2_with (first
          | (go_at_call 36; (with_reducible refine (hc _).mono ?_); rintro e w2 ⟨rfl, rfl⟩)
          | (refine wpList_store_row rfl 32 (.tmp 4) (.tmp 53) rfl rb (tokCells 5 at_ ⟨#[c]⟩ 0 0) rfl rfl 32 _ hrb hinfo rfl (tok_one _ _ _ _ _) ?_))
        refine bodyPost_ret (results_cell_two rfl _ _ rb 32 (tokCells 5 at_ ⟨#[c]⟩ 0 0) (0, 0) _ rfl (row_set_same _ hrb) Tryd.underlying32 rfl hinfo _ rfl) rfl ?_
        rw [HMK.out, if_pos trivial]
        exact ⟨rfl, hM0.setRow (.inr (by rw [HRB.out]; exact Nat.le_refl _)) _⟩
      | false =>
        go_wp2_with (go_at_call 36; (with_reducible refine (hc _).mono ?_); rintro e w2 ⟨rfl, rfl⟩)
        go_round
        case measure => simp [intOf]
        case rel => exact ⟨0, by omega, by omega, by go_num, Lib.hid (HR0.out.resolve_right (by decide))⟩
    · have hX : (s.extract at_ (at_ + 2)).data.toList = l.take 2 := by rw [ext_list, HL.out]
      have hkz : (at_ : Int) + 2 ≤ (s.size : Int) := by omega
      rw [show ((2 : Nat) : Int) = 2 from rfl]
      rcases marks2_cases (x := l.take 2) with h | ⟨h1, h2, h3, h4⟩
      · have hc : marks2.contains (l.take 2) = true := by rcases h with h | h | h <;> rw [h] <;> decide
        have HMK := Lib.hid (mark_two l hc)
        have HX := Lib.hid hX
        clear hc
        rcases h with h | h | h
        all_goals
          rw [h] at hX
          have hX2 := bytes_of hX
          have HH := Lib.hid h
          clear hX h
          go_wp2_with (refine wpList_store_row rfl 32 (.tmp 4) (.tmp 53) rfl rb (tokCells 5 at_ _ 0 0) rfl rfl 32 _ hrb hinfo rfl (tok_one _ _ _ _ _) ?_)
          refine bodyPost_ret (results_cell_two rfl _ _ rb 32 (tokCells 5 at_ _ 0 0) (0, 0) _ rfl (row_set_same _ hrb) Tryd.underlying32 rfl hinfo _ rfl) rfl ?_
          rw [HMK.out, HH.out]
          exact ⟨rfl, hM0.setRow (.inr (by rw [HRB.out]; exact Nat.le_refl _)) _⟩
      · have n1 : ¬ (s.extract at_ (at_ + 2)).toList = [60, 62] := by rw [ByteArray.toList_eq, hX]; exact h1
        have n2 : ¬ (s.extract at_ (at_ + 2)).toList = [60, 61] := by rw [ByteArray.toList_eq, hX]; exact h2
        have n3 : ¬ (s.extract at_ (at_ + 2)).toList = [62, 61] := by rw [ByteArray.toList_eq, hX]; exact h3
        have m1 : ((s.extract at_ (at_ + 2)).toList == [60, 62]) = false := by rw [beq_eq_false_iff_ne]; exact n1
        have o1 := bytes_ne (a := s.extract at_ (at_ + 2)) (l := [60, 62]) (by rw [hX]; exact h1)
        have m2 : ((s.extract at_ (at_ + 2)).toList == [60, 61]) = false := by rw [beq_eq_false_iff_ne]; exact n2
        have o2 := bytes_ne (a := s.extract at_ (at_ + 2)) (l := [60, 61]) (by rw [hX]; exact h2)
        have m3 : ((s.extract at_ (at_ + 2)).toList == [62, 61]) = false := by rw [beq_eq_false_iff_ne]; exact n3
        have o3 := bytes_ne (a := s.extract at_ (at_ + 2)) (l := [62, 61]) (by rw [hX]; exact h3)
        have HR1 : Hid (MRel l 1) := Lib.hid ⟨fun _ c r hc => by subst hc; exact mark_one h4, fun h => by omega, by have := HR.out.2.2; omega⟩
        clear hX h1 h2 h3 h4
        go_wp2_with fail
        go_round
        case measure => simp [intOf]
        case rel => exact ⟨1, by omega, by omega, by go_num, HR1⟩
end Go.Proofs.YtpghimiecigakaaDoor
