/-
  page.get: what stands in a slot: a number, or the text to which it leads.
-/
import Derived.Test.YtagpnalhilgcpaaPagB
import Derived.Handy
namespace Go.Proofs.Ytagpnalhilgcpaa
open Go.RowKit
set_option linter.unusedVariables false

set_option maxHeartbeats 1000000 in
set_option maxRecDepth 100000 in
theorem get_num (w : World) (q : Option Addr) (k s : Int) (hk : k ≠ 3) (n : Nat) (hn : n < 18446744073709551616) :
    Calls Try.prog 51 #[.pointer q, .agg #[.int .i64 k, .int .i64 s], .int .u64 n] w fun e w' => e = .returned (.tuple #[.agg #[.bool false, .int .i64 (IntKind.i64.wrap n), .string ⟨#[]⟩], .bool true]) ∧ Mods [] w w' := by
  go_enter Try.func51, Try.ntmps51
  go_wp2_with fail
  go_returns
  refine ⟨?_, ((Mods.refl [] w).alloc _).alloc _⟩
  simp only [wrap64, IntKind.wrap_i64]

def GetPost (w : World) (S : ByteArray) (ok : Bool) (e : Ending) (w' : World) : Prop := e = .returned (.tuple #[.agg #[.bool false, .int .i64 0, .string S], .bool ok]) ∧ Mods [] w w'

set_option maxHeartbeats 1000000 in
set_option maxRecDepth 100000 in
theorem get_text (w : World) (b nP : Nat) (most : Int) (f : Nat → UInt8) (L : List Nat) (h : Mem w b nP most f L) (hnP : nP ≤ 256) (s : Int) (n : Nat) (hn : n < 18446744073709551616) :
    Calls Try.prog 51 #[.pointer (some ⟨b, 0, none⟩), .agg #[.int .i64 3, .int .i64 s], .int .u64 n] w (GetPost w (if hasB nP ((n / 256 : Nat) : Int) ((n % 256 : Nat) : Int) = true then strF f (n / 256) (n % 256) else ⟨#[]⟩) (hasB nP ((n / 256 : Nat) : Int) ((n % 256 : Nat) : Int))) := by
  have hn2 := hn
  have hand : bits .and .u64 (n : Int) 255 = ((n % 256 : Nat) : Int) := by
    show bits .and .u64 (n : Int) ((255 : Nat) : Int) = _
    rw [(bits_nat .u64 64 (by decide) wraps64 n 255 (by omega) (by decide)).1]
    rw [show (255 : Nat) = 2 ^ 8 - 1 from rfl, Nat.and_two_pow_sub_one_eq_mod]
  have hw8 : IntKind.i64.wrap ((n % 256 : Nat) : Int) = ((n % 256 : Nat) : Int) := by rw [IntKind.wrap_i64]; omega
  have hdiv : (n : Int) / 256 = ((n / 256 : Nat) : Int) := by omega
  obtain ⟨A, hA⟩ : ∃ A, A = n / 256 := ⟨_, rfl⟩
  obtain ⟨B, hB⟩ : ∃ B, B = n % 256 := ⟨_, rfl⟩
  have hA2 : A < 18446744073709551616 := by omega
  have hB2 : B < 256 := by omega
  rw [← hA] at hdiv ⊢
  rw [← hB] at hand hw8 ⊢
  clear hA hB
  go_enter Try.func51, Try.ntmps51
  have hM1 := ((Mods.refl [] w).alloc (.cells #[.int .i64 3, .int .i64 s] 60)).alloc (.cells #[.bool false, .int .i64 0, .string ⟨#[]⟩] 77)
  have hb1 := heap_alloc_new (w.alloc (.cells #[.int .i64 3, .int .i64 s] 60)) (.cells #[.bool false, .int .i64 0, .string ⟨#[]⟩] 77)
  rw [size_alloc] at hb1
  have hby := fun w' (h' : Mem w' b nP most f L) => bytes_any w' b nP most f L A B h' hnP hA2 (by omega) (by omega)
  unfold BytesPost at hby
  simp only [Int.toNat_natCast] at hby
  generalize (if hasB nP (A : Int) (B : Int) = true then strF f A B else ⟨#[]⟩) = S at *
  generalize hasB nP (A : Int) (B : Int) = ok at *
  have fin : ∀ w', Mods [] w w' → GetPost w S ok (.returned (.tuple #[.agg #[.bool false, .int .i64 0, .string S], .bool ok])) w' := fun w' h => ⟨rfl, h⟩
  go_wp2_with fail
  refine (hby _ (h.mods hM1 (by simp))).mono ?_
  rintro e w2 ⟨rfl, hM2⟩
  have hb2 := hM2.heap hb1 (by simp)
  have hM3 := hM1.trans hM2 (by simp)
  have hsz : w.heap.size + 1 < w2.heap.size := lt_size_of_heap hb2
  have c0 := cell_of_heap hb2 0
  have c1 := cell_of_heap hb2 1
  have c2 := cell_of_heap hb2 2
  have f0 := frozen_of_heap hb2 0
  have f1 := frozen_of_heap hb2 1
  have f2 := frozen_of_heap hb2 2
  simp at c0 c1 c2
  have d2 := cell_setCell_same (v := .string S) c2
  have hh1 := heap_setCell_same hb2 2 (.string S)
  have hh2 := heap_setCell_same hh1 0 (.bool false)
  have hh3 := heap_setCell_same hh2 1 (.int .i64 0)
  have hh4 := heap_setCell_same hh3 2 (.string S)
  have e0 : _ = some (Value.bool false) := (cell_of_heap hh2 0).trans rfl
  have e1 : _ = some (Value.int .i64 0) := (cell_of_heap hh3 1).trans rfl
  have e2 : _ = some (Value.string S) := (cell_of_heap hh4 2).trans rfl
  clear hh1 hh2 hh3 hh4
  clear hby
  go_wp2_with fail
  refine bodyPost_ret (by simp [results, Try.results51, go_sem, e0, e1, e2, Result.andThen]; try rfl) rfl ?_
  refine fin _ ?_
  repeat' (refine Mods.setCell ?_ (.inr (by show w.heap.size ≤ w.heap.size + 1; omega)) _)
  exact hM3
end Go.Proofs.Ytagpnalhilgcpaa
