/-
  The reference's memory (chapter 8): what it means that it lies in memory, and what its methods do, for every argument.
-/
import Derived.Test.YtagpnalhilgcpaaMemG
import Derived.Lib.AppendZeros
import Derived.Lib.AppendZerosOnto
namespace Go.Proofs.Ytagpnalhilgcpaa
open Go.RowKit
set_option linter.unusedVariables false

/-- The reference's memory of n pages, at most 'most' (-1: as many as there can be), of bytes f. -/
structure IsRef (w : World) (b n : Nat) (most : Int) (sv : Value) (f : Nat → UInt8) : Prop where
  hb : w.heap[b]? = some (.cells #[sv, .int .i64 most] 94 (0, 0))
  own : w.ownsRow 0 5 1 sv (65536 * n) (rowOf f 0 (65536 * n))
  val : ∃ g cap, sv = .slice (some ⟨g, 0, none⟩) (65536 * n) cap
  past : ∀ a, 65536 * n ≤ a → f a = 0

def Ref (w : World) (b n : Nat) (most : Int) (f : Nat → UInt8) (L : List Nat) : Prop :=
  ∃ sv, IsRef w b n most sv f ∧ L = b :: sv.ownBlock.toList

theorem Ref.lt {w : World} {b n : Nat} {most : Int} {f : Nat → UInt8} {L : List Nat} (h : Ref w b n most f L) : ∀ k ∈ L, k < w.heap.size := by
  obtain ⟨sv, h1, rfl⟩ := h
  intro k hk
  rcases List.mem_cons.1 hk with rfl | hk
  · exact lt_size_of_heap h1.hb
  · exact ownsRow_lt h1.own k hk

theorem Ref.mods {L' : List Nat} {w w' : World} {b n : Nat} {most : Int} {f : Nat → UInt8} {L : List Nat} (h : Ref w b n most f L) (hm : Mods L' w w') (hn : ∀ k ∈ L, k ∉ L') : Ref w' b n most f L := by
  obtain ⟨sv, h1, rfl⟩ := h
  exact ⟨sv, ⟨hm.heap h1.hb (hn b (List.mem_cons_self ..)), ownsRow_mods h1.own hm (fun g hg => hn g (List.mem_cons_of_mem _ (by simp [hg]))), h1.val, h1.past⟩, rfl⟩

theorem rowOf_zeros (n : Nat) : rowOf (fun _ => 0) 0 n = List.replicate n (.int .u8 0) := by
  apply List.ext_getElem?
  intro j
  by_cases h : j < n
  · rw [rowOf_get _ _ _ h]; simp [h, bv]
  · rw [List.getElem?_eq_none (by rw [rowOf_len]; omega), List.getElem?_eq_none (by simp; omega)]

theorem zeros_list (n : Nat) : (zeros n).toList = rowOf (fun _ => 0) 0 n := by rw [rowOf_zeros]; simp [zeros]

/-- The error that the reference's New tells. -/
def refErr (least most : Int) : Int := if least < 0 ∨ most < -1 ∨ (most ≠ -1 ∧ most < least) then 1 else if 256 < least then 12 else 0
theorem refErr_eq (least most : Int) : refErr least most = newErr least most := by
  unfold refErr newErr
  by_cases h : least < 0 ∨ most < -1 ∨ (0 ≤ most ∧ most < least)
  · rw [if_pos h, if_pos (by omega)]
  · rw [if_neg h, if_neg (by omega)]

theorem ref_new_err (w : World) (least most : Int) (hl0 : -9223372036854775808 ≤ least) (hl1 : least ≤ 9223372036854775807) (hm0 : -9223372036854775808 ≤ most) (hm1 : most ≤ 9223372036854775807) (h : newErr least most ≠ 0) :
    Calls Try.prog 20 #[.int .i64 least, .int .i64 most] w fun e w' => e = .returned (.tuple #[.pointer none, .int .i64 (newErr least most)]) ∧ w = w' := by
  rcases (show least < 0 ∨ (0 ≤ least ∧ most < -1) ∨ (0 ≤ least ∧ 0 ≤ most ∧ most < least) ∨ (0 ≤ least ∧ most = -1 ∧ 256 < least) ∨ (0 ≤ least ∧ 0 ≤ most ∧ least ≤ most ∧ 256 < least) from by unfold newErr at h; (repeat' split at h) <;> omega) with c | ⟨c1, c⟩ | ⟨c1, c2, c⟩ | ⟨c1, rfl, c⟩ | ⟨c1, c2, c3, c⟩
  · rw [show newErr least most = 1 from by unfold newErr; rw [if_pos (by omega)]]
    clear h
    go_enter Try.func20, Try.ntmps20
    go_wp2
    go_ret2
    exact ⟨rfl, rfl⟩
  · rw [show newErr least most = 1 from by unfold newErr; rw [if_pos (by omega)]]
    clear h
    go_enter Try.func20, Try.ntmps20
    go_wp2
    go_ret2
    exact ⟨rfl, rfl⟩
  · rw [show newErr least most = 1 from by unfold newErr; rw [if_pos (by omega)]]
    have c4 : (most == -1) = false := by rw [beq_eq_false_iff_ne]; omega
    have c5 : (most != -1) = true := by rw [bne_iff_ne]; omega
    clear h
    go_enter Try.func20, Try.ntmps20
    go_wp2
    go_ret2
    exact ⟨rfl, rfl⟩
  · rw [show newErr least (-1) = 12 from by unfold newErr; rw [if_neg (by omega), if_pos (by omega)]]
    clear h
    go_enter Try.func20, Try.ntmps20
    go_wp2
    go_ret2
    exact ⟨rfl, rfl⟩
  · rw [show newErr least most = 12 from by unfold newErr; rw [if_neg (by omega), if_pos (by omega)]]
    have c4 : (most == -1) = false := by rw [beq_eq_false_iff_ne]; omega
    have c5 : (most != -1) = true := by rw [bne_iff_ne]; omega
    clear h
    go_enter Try.func20, Try.ntmps20
    go_wp2
    go_ret2
    exact ⟨rfl, rfl⟩

theorem ref_new_ok (w : World) (least : Nat) (most : Int) (hm0 : -9223372036854775808 ≤ most) (hm1 : most ≤ 9223372036854775807) (h1 : least ≤ 256) (h2 : most = -1 ∨ (least : Int) ≤ most) :
    Calls Try.prog 20 #[.int .i64 least, .int .i64 most] w fun e w' => ∃ b L, e = .returned (.tuple #[.pointer (some ⟨b, 0, none⟩), .int .i64 0]) ∧ Ref w' b least most (fun _ => 0) L ∧ Mods [] w w' ∧ ∀ k ∈ L, w.heap.size ≤ k := by
  have hmk := fun (w : World) => run_mkbytes w .i64 .i64 (65536 * least) (by omega)
  have em : ((65536 * least : Nat) : Int) = (least : Int) * 65536 := by omega
  simp only [em] at hmk
  have fin : ∀ (w' : World), w' = (w.alloc (.cells (zeros (65536 * least)) 5)).alloc (.cells #[.slice (some ⟨w.heap.size, 0, none⟩) (65536 * least) (65536 * least), .int .i64 most] 94) →
      ∃ L, Ref w' (w.heap.size + 1) least most (fun _ => 0) L ∧ Mods [] w w' ∧ ∀ k ∈ L, w.heap.size ≤ k := by
    rintro w' rfl
    refine ⟨_, ⟨.slice (some ⟨w.heap.size, 0, none⟩) (65536 * least) (65536 * least), ⟨?_, ?_, ⟨_, _, rfl⟩, fun _ _ => rfl⟩, rfl⟩, ((Mods.refl [] w).alloc _).alloc _, ?_⟩
    · have := heap_alloc_new (w.alloc (.cells (zeros (65536 * least)) 5)) (.cells #[.slice (some ⟨w.heap.size, 0, none⟩) (65536 * least) (65536 * least), .int .i64 most] 94)
      simpa using this
    · refine World.ownsRow.alloc ?_ _
      refine ⟨by rw [rowOf_len, Nat.mul_one], .inr ⟨w.heap.size, 65536 * least, _, rfl, Nat.zero_le _, heap_alloc_new w _, Nat.le_refl _, by unfold maxLen; omega, by rw [size_zeros, Nat.mul_one], ?_⟩⟩
      rw [zeros_list, Nat.mul_one, List.take_of_length_le (by rw [rowOf_len]; exact Nat.le_refl _)]
    · intro k hk
      simp [Value.ownBlock] at hk
      omega
  rcases h2 with rfl | h2
  · go_enter Try.func20, Try.ntmps20
    go_wp2
    go_ret2
    obtain ⟨L, q1, q2, q3⟩ := fin _ rfl
    exact ⟨_, L, rfl, q1, q2, q3⟩
  · have c4 : (most == -1) = false := by rw [beq_eq_false_iff_ne]; omega
    have c5 : (most != -1) = true := by rw [bne_iff_ne]; omega
    go_enter Try.func20, Try.ntmps20
    go_wp2
    go_ret2
    obtain ⟨L, q1, q2, q3⟩ := fin _ rfl
    exact ⟨_, L, rfl, q1, q2, q3⟩

end Go.Proofs.Ytagpnalhilgcpaa
