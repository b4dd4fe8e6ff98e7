/-
  The law's own helpers, walked: value (a value of a column out of a cell), tables (two tables).
-/
import Derived.Test.YtagpnalhilgcpaaPagM
import Derived.Test.YtagpnalhilgcpaaPagQ
import Derived.Handy
namespace Go.Proofs.Ytagpnalhilgcpaa
open Go.RowKit
set_option linter.unusedVariables false

/-- The value of a column, out of a cell. -/
def cellV (k : Int) (cn : Bool) (n : Int) (s : ByteArray) (z : Bool) : V :=
  if z = true ∧ cn = true then ⟨true, 0, ⟨#[]⟩⟩
  else if k = 3 then ⟨false, 0, s.extract 0 (if s.size ≤ 20 then s.size else 20)⟩
  else if k = 4 then ⟨false, n % 2, ⟨#[]⟩⟩
  else ⟨false, n, ⟨#[]⟩⟩

theorem i64_and1 (n : Int) : bits .and .i64 n 1 = n % 2 := by
  have h1 : (BitVec.ofInt 64 1).toNat = 2 ^ 1 - 1 := by decide
  have key : (BitVec.ofInt 64 n &&& BitVec.ofInt 64 1).toNat = (n % ((2 ^ 64 : Nat) : Int)).toNat % 2 ^ 1 := by
    rw [BitVec.toNat_and, BitVec.toNat_ofInt, h1, Nat.and_two_pow_sub_one_eq_mod]
  show IntKind.i64.wrap ((BitVec.ofInt 64 n &&& BitVec.ofInt 64 1).toNat : Nat) = n % 2
  rw [key, IntKind.wrap_i64]
  omega

def VPost (w : World) (v : V) (e : Ending) (w' : World) : Prop := e = .returned (.agg #[.bool v.z, .int .i64 v.n, .string v.s]) ∧ Mods [] w w'

set_option maxRecDepth 100000 in
set_option maxHeartbeats 1000000 in
theorem value_any (w : World) (name : ByteArray) (k sc : Int) (cn : Bool) (n : Int) (hn : -9223372036854775808 ≤ n ∧ n ≤ 9223372036854775807) (s : ByteArray) (hs : s.size ≤ 9223372036854775807) (z : Bool) :
    Calls Try.prog 45 #[.agg #[.string name, .int .i64 k, .int .i64 sc, .bool cn], .agg #[.int .i64 n, .string s, .bool z]] w (VPost w (cellV k cn n s z)) := by
  obtain ⟨sz, hsz⟩ : ∃ m, s.size = m := ⟨_, rfl⟩
  rw [hsz] at hs
  obtain ⟨m, hm⟩ : ∃ m, m = if sz ≤ 20 then sz else 20 := ⟨_, rfl⟩
  have hm1 : m ≤ sz ∧ m ≤ 20 := by rw [hm]; split <;> omega
  have hmin := fun w => run_min (P := Try.prog) w 3 3 3 .i64 sz 20 m (by rw [hm]; split <;> omega)
  have hcv : cellV k cn n s z = if z = true ∧ cn = true then ⟨true, 0, ⟨#[]⟩⟩ else if k = 3 then ⟨false, 0, s.extract 0 m⟩ else if k = 4 then ⟨false, n % 2, ⟨#[]⟩⟩ else ⟨false, n, ⟨#[]⟩⟩ := by unfold cellV; rw [hsz, hm]
  have hbit := i64_and1 n
  have HC := Lib.hid hcv
  have HM := Lib.hid hm
  clear hcv hm
  generalize cellV k cn n s z = CV at *
  by_cases hzc : z = true ∧ cn = true
  · obtain ⟨rfl, rfl⟩ := hzc
    have e := HC.out
    rw [if_pos ⟨rfl, rfl⟩] at e
    subst e
    clear HC
    go_enter Try.func45, Try.ntmps45
    go_wp2_with fail
    go_returns
    exact ⟨rfl, (((Mods.refl [] w).alloc _).alloc _).alloc _⟩
  · have e := HC.out
    rw [if_neg hzc] at e
    by_cases h3 : k = 3
    · subst h3
      rw [if_pos rfl] at e
      subst e
      clear HC
      go_enter Try.func45, Try.ntmps45
      cases z with
      | false =>
        go_wp2_with fail
        go_returns
        exact ⟨rfl, (((Mods.refl [] w).alloc _).alloc _).alloc _⟩
      | true =>
        cases cn with
        | false =>
          go_wp2_with fail
          go_returns
          exact ⟨rfl, (((Mods.refl [] w).alloc _).alloc _).alloc _⟩
        | true => exact absurd ⟨rfl, rfl⟩ hzc
    · rw [if_neg h3] at e
      by_cases h4 : k = 4
      · subst h4
        rw [if_pos rfl] at e
        subst e
        clear HC
        go_enter Try.func45, Try.ntmps45
        cases z with
        | false =>
          go_wp2_with fail
          go_returns
          exact ⟨rfl, (((Mods.refl [] w).alloc _).alloc _).alloc _⟩
        | true =>
          cases cn with
          | false =>
            go_wp2_with fail
            go_returns
            exact ⟨rfl, (((Mods.refl [] w).alloc _).alloc _).alloc _⟩
          | true => exact absurd ⟨rfl, rfl⟩ hzc
      · rw [if_neg h4] at e
        subst e
        clear HC hbit
        go_enter Try.func45, Try.ntmps45
        cases z with
        | false =>
          go_wp2_with fail
          go_returns
          exact ⟨rfl, (((Mods.refl [] w).alloc _).alloc _).alloc _⟩
        | true =>
          cases cn with
          | false =>
            go_wp2_with fail
            go_returns
            exact ⟨rfl, (((Mods.refl [] w).alloc _).alloc _).alloc _⟩
          | true => exact absurd ⟨rfl, rfl⟩ hzc

/-- The columns of the law's first table, and of its second one, as they lie. -/
def colsT : Array Value := #[.string ⟨#[97]⟩, .int .i64 1, .int .i64 0, .bool false, .string ⟨#[98]⟩, .int .i64 2, .int .i64 2, .bool true, .string ⟨#[99]⟩, .int .i64 3, .int .i64 0, .bool true, .string ⟨#[100]⟩, .int .i64 4, .int .i64 0, .bool true]

set_option maxRecDepth 100000 in
set_option maxHeartbeats 1000000 in
theorem tables_any (w : World) :
    Calls Try.prog 25 #[] w fun e w' => Mods [] w w' ∧ ∃ g tb d1 d2, e = .returned (.slice (some ⟨tb, 0, none⟩) 2 2) ∧ w'.heap[tb]? = some (.cells #[.string ⟨#[116]⟩, .slice (some ⟨g, 0, none⟩) 4 4, d1, d2] 56 (0, 0)) ∧ w'.heap[g]? = some (.cells colsT 62 (0, 0)) := by
  have hM := fun A B C D => ((((Mods.refl [] w).alloc A).alloc B).alloc C).alloc D
  have h4 := fun A B C D => heap_alloc_new (((w.alloc A).alloc B).alloc C) D
  have h2 := fun A B C D => (Below.heap_alloc (((w.alloc A).alloc B).alloc C) D (w.heap.size + 1) (by rw [size_alloc, size_alloc, size_alloc]; omega)).trans (three_new w A B C).2.1
  go_enter Try.func25, Try.ntmps25
  go_wp2_with fail
  go_ret
  refine ⟨hM _ _ _ _, w.heap.size + 1, w.heap.size + 1 + 1 + 1, .string ⟨#[117]⟩, .slice (some ⟨w.heap.size + 1 + 1, 0, none⟩) 3 3, rfl, ?_, h2 _ _ _ _⟩
  have := h4 (.cells #[.int .i64 1, .int .i64 0] 60)
  simp only [size_alloc] at this
  exact this _ _ _
end Go.Proofs.Ytagpnalhilgcpaa
