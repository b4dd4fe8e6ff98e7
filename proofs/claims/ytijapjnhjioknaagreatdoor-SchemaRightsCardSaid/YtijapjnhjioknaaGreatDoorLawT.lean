/-
  Arguments that are slices of one-cell elements: their cells, with the capacity's bound; numbers and truths. Plain facts; no condition.
-/
import Derived.Test.YtijapjnhjioknaaGreatDoorLawS
import Derived.Test.YtijapjnhjioknaaGreatDoorIns
namespace Go.Proofs.YtijapjnhjioknaaGreatDoor
open Go.ChangeShapes Go.WideShapes Go.ChangeAt Go.RowKit Go.Deep

section
variable {H : Type} {enc : TypeId × Value → H} {P : Program} {w : World} {base : Nat} {spare : Nat → Bool} {held : Bool}

/-- A slice that is read: nothing, or its elements, cell by cell; its length is at most its capacity. -/
theorem slice_elems2 {r : Reach} {b0 : Nat} {t e : TypeId} {v : Value} {d : DataW H} {ps : List MemPlace} (ht : P.underlying t = some (.slice e)) (hC : 0 < P.cellsOf e) (hval : Value.okWide P w r b0 t v) (h : DataW.Trod enc P w base spare held t v d ps) :
    ∃ (ao : Option Addr) (len cap : Nat), v = .slice ao len cap ∧ (len ≤ 9223372036854775807 ∧ len ≤ cap ∧ (ao = none → len = 0)) ∧ (0 < len → ∃ b off, ao = some ⟨b, off, none⟩ ∧ ∀ i, i < len → ∃ (cs : List Value) (n : Nat) (x : DataW H × List MemPlace), cs.length = P.cellsOf e ∧
      (∀ j, j < P.cellsOf e → w.cell? ⟨b, off + i * P.cellsOf e + j, none⟩ = cs[j]?) ∧ DataW.trod enc P w base spare held n e cs = some x) := by
  obtain ⟨ao, len, cap, rfl⟩ := okWide_slice ht hval
  have h' := h
  obtain ⟨fuel, hf⟩ := h'
  obtain ⟨ao', len', cap', he, hl, hx⟩ := slice_elems ht hC hval h
  simp only [Value.slice.injEq] at he
  obtain ⟨rfl, rfl, rfl⟩ := he
  refine ⟨ao, len, cap, rfl, ?_, hx⟩
  rcases open_slice ht hf with ⟨hcs, -⟩ | ⟨a, len', cap', m, n, D, Pl, hcs, -, hl2, hm, hmm, -, hi⟩
  · simp only [Value.cells, List.cons.injEq, Value.slice.injEq, and_true] at hcs
    obtain ⟨rfl, rfl, rfl⟩ := hcs
    exact ⟨by omega, by omega, fun _ => rfl⟩
  · simp only [Value.cells, List.cons.injEq, Value.slice.injEq, and_true] at hcs
    obtain ⟨rfl, rfl, rfl⟩ := hcs
    exact ⟨hl, hl2, fun h => by cases h⟩

theorem ints_arg {r : Reach} {b0 : Nat} {t e : TypeId} {v : Value} {d : DataW H} {ps : List MemPlace} (ht : P.underlying t = some (.slice e)) (he : P.underlying e = some (.int .i64)) (hC : P.cellsOf e = 1) (hval : Value.okWide P w r b0 t v) (h : DataW.Trod enc P w base spare held t v d ps) :
    ∃ (ao : Option Addr) (len cap : Nat) (X : Nat → Int), v = .slice ao len cap ∧ (len ≤ 9223372036854775807 ∧ len ≤ cap ∧ (ao = none → len = 0)) ∧ IntsIn w ao len X := by
  obtain ⟨ao, len, cap, hv, hl, hx⟩ := slice_elems2 ht (by omega) hval h
  by_cases h0 : 0 < len
  · obtain ⟨b, off, rfl, hi⟩ := hx h0
    rw [hC] at hi
    obtain ⟨X, hX⟩ := choose_lt (α := Int) (p := fun i z => w.cell? ⟨b, off + i, none⟩ = some (.int .i64 z) ∧ -9223372036854775808 ≤ z ∧ z ≤ 9223372036854775807) (n := len) (fun i hil => by
      obtain ⟨cs, n, x, hcl, hcells, htr⟩ := hi i hil
      have h1 := hcells 0 (by omega)
      obtain ⟨c, rfl⟩ : ∃ c, cs = [c] := by
        rcases cs with _ | ⟨c, _ | _⟩
        · simp at hcl
        · exact ⟨c, rfl⟩
        · simp at hcl
      obtain ⟨k, rfl, hk⟩ := cell_i64 he htr
      refine ⟨k, ?_, hk⟩
      rw [Nat.mul_one, Nat.add_zero] at h1
      exact h1)
    exact ⟨_, len, cap, X, hv, hl, fun _ => ⟨b, off, rfl, hX⟩⟩
  · exact ⟨ao, len, cap, fun _ => 0, hv, hl, fun h => absurd h h0⟩

theorem bools_arg {r : Reach} {b0 : Nat} {t e : TypeId} {v : Value} {d : DataW H} {ps : List MemPlace} (ht : P.underlying t = some (.slice e)) (he : P.underlying e = some .bool) (hC : P.cellsOf e = 1) (hval : Value.okWide P w r b0 t v) (h : DataW.Trod enc P w base spare held t v d ps) :
    ∃ (ao : Option Addr) (len cap : Nat) (X : Nat → Bool), v = .slice ao len cap ∧ (len ≤ 9223372036854775807 ∧ len ≤ cap ∧ (ao = none → len = 0)) ∧ BoolsIn w ao len X := by
  obtain ⟨ao, len, cap, hv, hl, hx⟩ := slice_elems2 ht (by omega) hval h
  by_cases h0 : 0 < len
  · obtain ⟨b, off, rfl, hi⟩ := hx h0
    rw [hC] at hi
    obtain ⟨X, hX⟩ := choose_lt (α := Bool) (p := fun i z => w.cell? ⟨b, off + i, none⟩ = some (.bool z)) (n := len) (fun i hil => by
      obtain ⟨cs, n, x, hcl, hcells, htr⟩ := hi i hil
      have h1 := hcells 0 (by omega)
      obtain ⟨c, rfl⟩ : ∃ c, cs = [c] := by
        rcases cs with _ | ⟨c, _ | _⟩
        · simp at hcl
        · exact ⟨c, rfl⟩
        · simp at hcl
      obtain ⟨k, rfl⟩ := cell_bool he htr
      refine ⟨k, ?_⟩
      rw [Nat.mul_one, Nat.add_zero] at h1
      exact h1)
    exact ⟨_, len, cap, X, hv, hl, fun _ => ⟨b, off, rfl, hX⟩⟩
  · exact ⟨ao, len, cap, fun _ => false, hv, hl, fun h => absurd h h0⟩
end
end Go.Proofs.YtijapjnhjioknaaGreatDoor
