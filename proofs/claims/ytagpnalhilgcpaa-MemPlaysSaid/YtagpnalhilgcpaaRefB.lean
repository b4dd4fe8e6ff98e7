/-
  The reference's memory (chapter 8): Pages, has, Load, Store, Bytes and Write, for every argument.
-/
import Derived.Test.YtagpnalhilgcpaaRefA
import Derived.Deep.QuietTactic
import Derived.BigQuiet
namespace Go.Proofs.Ytagpnalhilgcpaa
open Go.RowKit
set_option linter.unusedVariables false
set_option linter.unusedSimpArgs false

theorem IsRef.open_ {w : World} {b n : Nat} {most : Int} {sv : Value} {f : Nat → UInt8} (h : IsRef w b n most sv f) :
    ∃ g cap cur, sv = .slice (some ⟨g, 0, none⟩) (65536 * n) cap ∧ w.cell? ⟨b, 0, none⟩ = some (.slice (some ⟨g, 0, none⟩) (65536 * n) cap) ∧ w.cell? ⟨b, 1, none⟩ = some (.int .i64 most) ∧
      w.heap[g]? = some (.cells cur 5 (0, 0)) ∧ 65536 * n ≤ cap ∧ cap ≤ maxLen ∧ cur.size = cap ∧ (∀ o, o < 65536 * n → cur[o]? = some (bv (f o))) ∧ g ≠ b := by
  obtain ⟨g, cap, hsv⟩ := h.val
  rcases h.own.2 with ⟨h1, _⟩ | ⟨g', cap', cur, h1, _, hg, hnc, hcm, hcs, htake⟩
  · rw [hsv] at h1; cases h1
  · rw [hsv] at h1
    simp only [Value.slice.injEq, Option.some.injEq, Addr.mk.injEq, and_true, true_and] at h1
    obtain ⟨rfl, rfl⟩ := h1
    have hb := h.hb
    rw [hsv] at hb
    refine ⟨g, cap, cur, hsv, by rw [cell_of_heap hb]; rfl, by rw [cell_of_heap hb]; rfl, hg, hnc, hcm, by omega, fun o ho => ?_, fun e => ?_⟩
    · have : (cur.toList.take (65536 * n * 1))[o]? = some (bv (f o)) := by rw [htake, rowOf_get _ _ _ ho, Nat.zero_add]
      rw [List.getElem?_take, if_pos (by omega), Array.getElem?_toList] at this
      exact this
    · subst e; rw [hb] at hg; cases hg

theorem IsRef.shut {w : World} {b n : Nat} {most : Int} {f : Nat → UInt8} {g cap : Nat} {cur : Array Value} (hb : w.heap[b]? = some (.cells #[.slice (some ⟨g, 0, none⟩) (65536 * n) cap, .int .i64 most] 94 (0, 0)))
    (hg : w.heap[g]? = some (.cells cur 5 (0, 0))) (h1 : 65536 * n ≤ cap) (h2 : cap ≤ maxLen) (h3 : cur.size = cap) (h4 : ∀ o, o < 65536 * n → cur[o]? = some (bv (f o))) (h5 : ∀ a, 65536 * n ≤ a → f a = 0) :
    IsRef w b n most (.slice (some ⟨g, 0, none⟩) (65536 * n) cap) f := by
  refine ⟨hb, ⟨by rw [rowOf_len, Nat.mul_one], .inr ⟨g, cap, cur, rfl, Nat.zero_le _, hg, h1, h2, by omega, ?_⟩⟩, ⟨g, cap, rfl⟩, h5⟩
  apply List.ext_getElem?
  intro o
  rw [Nat.mul_one, List.getElem?_take]
  by_cases ho : o < 65536 * n
  · rw [if_pos ho, Array.getElem?_toList, h4 o ho, rowOf_get _ _ _ ho, Nat.zero_add]
  · rw [if_neg ho, List.getElem?_eq_none (by rw [rowOf_len]; omega)]

theorem IsRef.set {w : World} {b n : Nat} {most : Int} {f : Nat → UInt8} {g cap : Nat} (h : IsRef w b n most (.slice (some ⟨g, 0, none⟩) (65536 * n) cap) f) (o : Nat) (ho : o < 65536 * n) (x : UInt8) :
    IsRef (w.setCell ⟨g, o, none⟩ (bv x)) b n most (.slice (some ⟨g, 0, none⟩) (65536 * n) cap) (fun a => if a = o then x else f a) := by
  obtain ⟨g', cap', cur, hsv, -, -, hg, h1, h2, h3, h4, h5⟩ := h.open_
  simp only [Value.slice.injEq, Option.some.injEq, Addr.mk.injEq, and_true, true_and] at hsv
  obtain ⟨rfl, rfl⟩ := hsv
  refine IsRef.shut ?_ (heap_setCell_same hg o (bv x)) h1 h2 (by simpa using h3) (fun a ha => ?_) (fun a ha => ?_)
  · rw [Below.heap_setCell _ _ _ _ (fun e => h5 e.symm)]; exact h.hb
  · by_cases hao : a = o
    · subst hao
      rw [Array.getElem?_setIfInBounds_self_of_lt (by omega), if_pos rfl]
    · rw [Array.getElem?_setIfInBounds_ne (fun e => hao e.symm), if_neg hao]
      exact h4 a ha
  · rw [if_neg (by omega)]; exact h.past a ha

theorem putF_one (f : Nat → UInt8) (at_ k : Nat) (s : Nat → UInt8) : (fun a => if a = at_ + k then s k else putF f at_ k s a) = putF f at_ (k + 1) s := by
  funext a
  unfold putF
  by_cases h1 : a = at_ + k
  · rw [if_pos h1, if_pos (by omega)]; exact congrArg s (by omega)
  · rw [if_neg h1]
    by_cases h2 : at_ ≤ a ∧ a < at_ + k
    · rw [if_pos h2, if_pos (by omega)]
    · rw [if_neg h2, if_neg (by omega)]

theorem ref_width (size : Int) (w : World) : Calls Try.prog 55 #[.int .i64 size] w fun e w' => e = .returned (.bool (wOK size)) ∧ w = w' := by
  go_enter Try.func55, Try.ntmps55
  go_wp2
  all_goals go_ret
  all_goals exact ⟨ret_bool (by unfold wOK; simp_all), rfl⟩

theorem ref_has (w : World) (b n : Nat) (most : Int) (f : Nat → UInt8) (L : List Nat) (at_ : Nat) (size : Int) (h : Ref w b n most f L) (hn : n ≤ 256) (ha1 : at_ < 18446744073709551616) (hs0 : -9223372036854775808 ≤ size) (hs1 : size ≤ 9223372036854775807) :
   Calls Try.prog 54 #[.pointer (some ⟨b, 0, none⟩), .int .u64 at_, .int .i64 size] w fun e w' => e = .returned (.bool (hasB n at_ size)) ∧ w = w' := by
  obtain ⟨sv, h, -⟩ := h
  obtain ⟨g, cap, cur, hsv, hc0, -⟩ := h.open_
  clear hsv h
  go_enter Try.func54, Try.ntmps54
  go_wp2
  all_goals go_ret
  all_goals exact ⟨ret_bool (by unfold hasB; first | (rw [decide_eq_decide]; omega) | (symm; rw [decide_eq_false_iff_not]; omega)), rfl⟩

theorem ref_pages (w : World) (b n : Nat) (most : Int) (f : Nat → UInt8) (L : List Nat) (h : Ref w b n most f L) (hn : n ≤ 256) :
   Calls Try.prog 22 #[.pointer (some ⟨b, 0, none⟩)] w fun e w' => e = .returned (.int .i64 n) ∧ w = w' := by
  obtain ⟨sv, h, -⟩ := h
  obtain ⟨g, cap, cur, hsv, hc0, -⟩ := h.open_
  clear hsv h
  go_enter Try.func22, Try.ntmps22
  go_wp2
  go_ret
  exact ⟨ret_int (by omega), rfl⟩

theorem num_shift (s : Nat → UInt8) (c : Nat) : num s (c + 1) = (s 0).toNat + 256 * num (fun j => s (j + 1)) c := by
  induction c with
  | zero => simp [num]
  | succ c ih =>
    rw [show num s (c + 1 + 1) = num s (c + 1) + (s (c + 1)).toNat * 256 ^ (c + 1) from rfl, ih]
    simp only [num]
    rw [Nat.pow_succ, Nat.mul_add]
    have : (s (c + 1)).toNat * (256 ^ c * 256) = 256 * ((s (c + 1)).toNat * 256 ^ c) := by rw [← Nat.mul_assoc, Nat.mul_comm]
    omega

set_option maxRecDepth 100000 in
set_option maxHeartbeats 1000000 in
theorem ref_load (w : World) (b n : Nat) (most : Int) (f : Nat → UInt8) (L : List Nat) (at_ : Nat) (size : Int) (hR : Ref w b n most f L) (hn : n ≤ 256) (ha : at_ < 18446744073709551616) (hs0 : -9223372036854775808 ≤ size) (hs1 : size ≤ 9223372036854775807) :
    Calls Try.prog 42 #[.pointer (some ⟨b, 0, none⟩), .int .u64 at_, .int .i64 size] w (LoadPost w n f at_ size) := by
  cases hh : hasB n at_ size with
  | false =>
    have fin : LoadPost w n f at_ size (.returned (.tuple #[.int .u64 0, .bool false])) w := by
      unfold LoadPost; rw [hh, Bool.and_false]; exact ⟨rfl, Mods.refl _ _⟩
    go_enter Try.func42, Try.ntmps42
    go_wp2_with fail
    refine (ref_has w b n most f L at_ size hR hn ha hs0 hs1).mono ?_
    rintro e w1 ⟨rfl, rfl⟩
    go_wp2_with fail
    go_ret2
    exact fin
  | true =>
    cases hw : wOK size with
    | false =>
      have fin : LoadPost w n f at_ size (.returned (.tuple #[.int .u64 0, .bool false])) w := by
        unfold LoadPost; rw [hw, Bool.false_and]; exact ⟨rfl, Mods.refl _ _⟩
      go_enter Try.func42, Try.ntmps42
      go_wp2_with fail
      refine (ref_has w b n most f L at_ size hR hn ha hs0 hs1).mono ?_
      rintro e w1 ⟨rfl, rfl⟩
      go_wp2_with fail
      refine (ref_width size w).mono ?_
      rintro e w1 ⟨rfl, rfl⟩
      go_wp2_with fail
      go_ret2
      exact fin
    | true =>
      have hsz := wOK_range hw
      have hin : at_ + size ≤ 65536 * n := by unfold hasB at hh; exact (of_decide_eq_true hh).2
      have fin : LoadPost w n f at_ size (.returned (.tuple #[.int .u64 ((num (fun j => f (at_ + j)) size.toNat : Nat) : Int), .bool true])) w := by
        unfold LoadPost; rw [hw, hh]; exact ⟨rfl, Mods.refl _ _⟩
      obtain ⟨s, rfl⟩ := Int.eq_ofNat_of_zero_le (show 0 ≤ size by omega)
      simp only [Int.toNat_natCast] at fin
      have hs8 : 1 ≤ s ∧ s ≤ 8 := by omega
      obtain ⟨hs1', hs8'⟩ := hs8
      have hR' := hR
      obtain ⟨sv, h, -⟩ := hR'
      obtain ⟨g, cap, cur, hsv, hc0, -, hg, hnc, -, hcs, hcells, -⟩ := h.open_
      clear hsv h
      have HC := Lib.hid (And.intro hcs hcells)
      clear hcs hcells
      go_enter Try.func42, Try.ntmps42
      go_wp2_with fail
      refine (ref_has w b n most f L at_ s hR hn ha hs0 hs1).mono ?_
      rintro e w1 ⟨rfl, rfl⟩
      go_wp2_with fail
      refine (ref_width s w).mono ?_
      rintro e w1 ⟨rfl, rfl⟩
      go_wp2_with fail
      go_loop [9, 10] (fun t9 t10 => ∃ k : Nat, k ≤ s ∧ t10 = .int .i64 ((k : Int) - 1) ∧ t9 = .int .u64 ((num (fun j => f (at_ + k + j)) (s - k) : Nat) : Int)) (fun _ t10 => (intOf t10 + 1).toNat)
      case atStart => exact ⟨s, by omega, rfl, by simp [num]⟩
      case round =>
        obtain ⟨k, hk, rfl, rfl⟩ := hrel
        cases k with
        | zero =>
          simp only [Nat.add_zero, Nat.sub_zero]
          go_wp2_with fail
          go_ret2
          exact fin
        | succ k =>
          have hnum : num (fun j => f (at_ + k + j)) (s - k) = (f (at_ + k)).toNat + 256 * num (fun j => f (at_ + (k + 1) + j)) (s - (k + 1)) := by
            rw [show s - k = (s - (k + 1)) + 1 from by omega, num_shift]
            simp only [Nat.add_zero]
            congr 2
            exact num_congr fun j hj => congrArg f (by omega)
          have hlt := num_lt (fun j => f (at_ + (k + 1) + j)) (s - (k + 1))
          have hle : num (fun j => f (at_ + (k + 1) + j)) (s - (k + 1)) < 72057594037927936 := Nat.lt_of_lt_of_le hlt (by
            have := Nat.pow_le_pow_right (show 0 < 256 by decide) (show s - (k + 1) ≤ 7 by omega)
            exact Nat.le_trans this (by decide))
          generalize num (fun j => f (at_ + (k + 1) + j)) (s - (k + 1)) = y at *
          have hcell : w.cell? ⟨g, at_ + k, none⟩ = some (.int .u8 ((f (at_ + k)).toNat : Int)) := by rw [cell_of_heap hg, HC.out.2 _ (by omega)]; rfl
          have hx := (f (at_ + k)).toNat_lt
          generalize (f (at_ + k)).toNat = x at *
          have HN := Lib.hid hnum
          clear hnum hlt
          have e1 : ((k + 1 : Nat) : Int) - 1 = (k : Int) := by omega
          rw [e1]
          clear e1
          go_wp2_with fail
          refine ⟨⟨k, by omega, rfl, ?_⟩, by simp [intOf]⟩
          rw [HN.out]
          exact congrArg _ (by omega)

end Go.Proofs.Ytagpnalhilgcpaa
