/-
  The plain functions of package mem: width, has, Pages. Each returns what its text says and leaves all that was in memory as it was; no conditions.
-/
import Derived.Test.YtagpnalhilgcpaaProg
import Derived.Test.YtagpnalhilgcpaaBase
namespace Go.Proofs.Ytagpnalhilgcpaa
open Go.RowKit
set_option linter.unusedVariables false

def wOK (n : Int) : Bool := n == 1 || n == 2 || n == 4 || n == 8

def wEnts : List MapEntry := [⟨.int .i64 1, .agg #[], 0⟩, ⟨.int .i64 2, .agg #[], 1⟩, ⟨.int .i64 4, .agg #[], 2⟩, ⟨.int .i64 8, .agg #[], 3⟩]

theorem width_find (n : Int) : ∃ r, Instr.findNow (.int .i64) (.int .i64 n) wEnts 0 = some r ∧ r.isSome = wOK n ∧ (r.map (·.2)).getD (.agg #[]) = .agg #[] := by
  by_cases h1 : n = 1
  · subst h1; exact ⟨_, rfl, rfl, rfl⟩
  by_cases h2 : n = 2
  · subst h2; exact ⟨_, rfl, rfl, rfl⟩
  by_cases h4 : n = 4
  · subst h4; exact ⟨_, rfl, rfl, rfl⟩
  by_cases h8 : n = 8
  · subst h8; exact ⟨_, rfl, rfl, rfl⟩
  have e1 : (n == 1) = false := by simpa using h1
  have e2 : (n == 2) = false := by simpa using h2
  have e4 : (n == 4) = false := by simpa using h4
  have e8 : (n == 8) = false := by simpa using h8
  exact ⟨none, by simp only [Instr.findNow, Instr.sameNow, wEnts, e1, e2, e4, e8, if_true], by simp [wOK, e1, e2, e4, e8], rfl⟩

theorem width_lookup (n : Int) (w : World) : (Instr.lookup 113 (.map (some w.heap.size)) (.int .i64 n) true).run Try.prog (w.alloc (.map wEnts.toArray 4)) = .ok (.tuple #[.agg #[], .bool (wOK n)]) (w.alloc (.map wEnts.toArray 4)) := by
  obtain ⟨r, h1, h2, h3⟩ := width_find n
  have := run_lookup_new (P := Try.prog) 113 3 111 (.int .i64) Try.underlying113 Try.underlying3 w wEnts.toArray 4 (.int .i64 n) (.agg #[]) (fun w => by kernel_rfl) (by simp [MapKept.IsKey]) r (by simpa using h1)
  rw [this, h2, h3]

set_option maxRecDepth 100000 in
theorem width_any (size : Int) (w : World) : Calls Try.prog 36 #[.int .i64 size] w fun e w' => e = .returned (.bool (wOK size)) ∧ Below w.heap.size w w' := by
  have hmm := @run_makeMap Try.prog
  have hi := fun (w : World) (es : Array MapEntry) (c : Nat) (k : Int) (v : Value) => run_update_new (P := Try.prog) 113 3 111 (.int .i64) Try.underlying113 Try.underlying3 w es c (.int .i64 k) v (by simp [MapKept.IsKey])
  have i1 := fun w => hi w #[] 0 1 (.agg #[]) rfl
  have i2 := fun w => hi w (wEnts.take 1).toArray 1 2 (.agg #[]) rfl
  have i3 := fun w => hi w (wEnts.take 2).toArray 2 4 (.agg #[]) rfl
  have i4 := fun w => hi w (wEnts.take 3).toArray 3 8 (.agg #[]) rfl
  have hl := width_lookup size
  simp [wEnts] at i1 i2 i3 i4 hl
  clear hi
  go_enter Try.func36, Try.ntmps36
  go_wp2_with fail
  go_ret
  exact ⟨rfl, ((Below.refl _ _).alloc (Nat.le_refl _) _).alloc (by simp) _⟩

theorem pages_any (w : World) (b : Nat) (ad : Option Addr) (n c : Nat) (h1 : w.cell? ⟨b, 0, none⟩ = some (.slice ad n c)) :
   Calls Try.prog 17 #[.pointer (some ⟨b, 0, none⟩)] w fun e w' => e = .returned (.int .i64 n) ∧ w = w' := by
  go_enter Try.func17, Try.ntmps17
  go_wp2
  go_ret
  exact ⟨rfl, rfl⟩

/-- Are there so many bytes from 'at' on, of n pages? -/
def hasB (n : Nat) (at_ size : Int) : Bool := decide (0 ≤ size ∧ at_ + size ≤ 65536 * n)

set_option maxRecDepth 100000 in
theorem has_any (w : World) (b : Nat) (ad : Option Addr) (n c : Nat) (at_ size : Int) (hn : n ≤ 256) (ha0 : 0 ≤ at_) (ha1 : at_ < 18446744073709551616) (hs0 : -9223372036854775808 ≤ size) (hs1 : size ≤ 9223372036854775807)
   (h1 : w.cell? ⟨b, 0, none⟩ = some (.slice ad n c)) :
   Calls Try.prog 37 #[.pointer (some ⟨b, 0, none⟩), .int .u64 at_, .int .i64 size] w fun e w' => e = .returned (.bool (hasB n at_ size)) ∧ w = w' := by
  go_enter Try.func37, Try.ntmps37
  go_wp2
  all_goals go_ret
  all_goals exact ⟨ret_bool (by unfold hasB; first | (rw [decide_eq_decide]; omega) | (symm; rw [decide_eq_false_iff_not]; omega)), rfl⟩
end Go.Proofs.Ytagpnalhilgcpaa
