/-
  How an argument that is a slice lies in memory: its elements' cells, and their readings; a struct's cells and their readings. Plain facts; no condition.
-/
import Derived.Test.YtijapjnhjioknaaGreatDoorLaw
import Derived.Deep.Slices
import Derived.Deep.Fields
import Derived.ChangeSame
namespace Go.Proofs.YtijapjnhjioknaaGreatDoor
open Go.ChangeShapes Go.WideShapes Go.ChangeAt Go.RowKit Go.Deep

section
variable {H : Type} {enc : TypeId × Value → H} {P : Program} {w : World} {base : Nat} {spare : Nat → Bool} {held : Bool}

theorem cell_spot {a : Addr} {v : Value} (h : w.cell? a = some v) : a = ⟨a.block, a.off, none⟩ := by
  obtain ⟨b, o, s⟩ := a
  cases s with
  | none => rfl
  | some k =>
    unfold World.cell? at h
    split at h
    · simp at h
    · cases h

/-- A slice that is read: nothing, or its elements, cell by cell. -/
theorem slice_elems {r : Reach} {b0 : Nat} {t e : TypeId} {v : Value} {d : DataW H} {ps : List MemPlace} (ht : P.underlying t = some (.slice e)) (hC : 0 < P.cellsOf e) (hval : Value.okWide P w r b0 t v) (h : DataW.Trod enc P w base spare held t v d ps) :
    ∃ (ao : Option Addr) (len cap : Nat), v = .slice ao len cap ∧ len ≤ 9223372036854775807 ∧ (0 < len → ∃ b off, ao = some ⟨b, off, none⟩ ∧ ∀ i, i < len → ∃ (cs : List Value) (n : Nat) (x : DataW H × List MemPlace), cs.length = P.cellsOf e ∧
      (∀ j, j < P.cellsOf e → w.cell? ⟨b, off + i * P.cellsOf e + j, none⟩ = cs[j]?) ∧ DataW.trod enc P w base spare held n e cs = some x) := by
  obtain ⟨ao, len, cap, rfl⟩ := okWide_slice ht hval
  obtain ⟨fuel, hf⟩ := h
  rcases open_slice ht hf with ⟨hcs, -⟩ | ⟨a, len', cap', m, n, D, Pl, hcs, -, hl, hm, hmm, -, hi⟩
  · simp only [Value.cells, List.cons.injEq, Value.slice.injEq, and_true] at hcs
    obtain ⟨rfl, rfl, rfl⟩ := hcs
    exact ⟨none, 0, 0, rfl, by omega, fun h => by omega⟩
  · simp only [Value.cells, List.cons.injEq, Value.slice.injEq, and_true] at hcs
    obtain ⟨rfl, rfl, rfl⟩ := hcs
    refine ⟨some a, len, cap, rfl, by unfold maxLen at hm; omega, fun h0 => ?_⟩
    have hlm : len ≤ m := by rw [hmm]; split <;> omega
    obtain ⟨cs0, hc0, -⟩ := hi 0 (by omega)
    obtain ⟨-, hcl0, hat0⟩ := World.cells?_some hc0
    have h00 := hat0 0 hC
    have ea : (a.add (0 * P.cellsOf e)).add 0 = a := by simp [Addr.add]
    rw [ea, List.getElem?_eq_getElem (by omega)] at h00
    have hsp := cell_spot h00
    refine ⟨a.block, a.off, congrArg some hsp, fun i hil => ?_⟩
    obtain ⟨cs, hc, ht'⟩ := hi i (by omega)
    obtain ⟨-, hcl, hat⟩ := World.cells?_some hc
    refine ⟨cs, n, _, hcl, fun j hj => ?_, ht'⟩
    rw [← hat j hj, hsp, addr_add, addr_add]

/-- A struct of one-cell fields that is read: each cell, with its reading. -/
theorem struct_field {e : TypeId} {fs : Array Field} {n : Nat} {cs : List Value} {x : DataW H × List MemPlace} (he : P.underlying e = some (.struct fs)) (hone : oneCellFields P fs = true) (hC : P.cellsOf e = fs.size) (h : DataW.trod enc P w base spare held n e cs = some x) {j : Nat} {f : Field} (hj : fs[j]? = some f) :
    ∃ (v : Value) (m : Nat) (y : DataW H × List MemPlace), cs[j]? = some v ∧ DataW.trod enc P w base spare held m f.type [v] = some y := by
  obtain ⟨ys, m, -, -, hlen, hyl, hf⟩ := DataW.trod_struct he h
  obtain ⟨ho, hk⟩ := hone_of hone j f hj
  have hjl : j < fs.size := (Array.getElem?_eq_some_iff.1 hj).1
  have h1 := hf j f hj
  rw [ho, hk, List.getElem?_eq_getElem (by omega)] at h1
  have hlt : j < cs.length := by omega
  refine ⟨cs[j], m, ys[j]'(by omega), List.getElem?_eq_getElem hlt, ?_⟩
  have e1 : List.take 1 (List.drop j cs) = [cs[j]] := by rw [List.drop_eq_getElem_cons hlt]; rfl
  rw [e1] at h1
  exact h1

theorem cell_u8 {e : TypeId} {n : Nat} {v : Value} {x : DataW H × List MemPlace} (he : P.underlying e = some (.int .u8)) (h : DataW.trod enc P w base spare held n e [v] = some x) : ∃ k : Nat, v = .int .u8 k ∧ k < 256 := by
  obtain ⟨m, hc, -, hw⟩ := DataW.trod_int he h
  obtain ⟨k, rfl, hk⟩ := wf_u8 hw
  exact ⟨k, by simpa using hc, hk⟩
theorem cell_u64 {e : TypeId} {n : Nat} {v : Value} {x : DataW H × List MemPlace} (he : P.underlying e = some (.int .u64)) (h : DataW.trod enc P w base spare held n e [v] = some x) : ∃ k : Nat, v = .int .u64 k ∧ k < 18446744073709551616 := by
  obtain ⟨m, hc, -, hw⟩ := DataW.trod_int he h
  obtain ⟨k, rfl, hk⟩ := wf_u64 hw
  exact ⟨k, by simpa using hc, hk⟩
theorem cell_i64 {e : TypeId} {n : Nat} {v : Value} {x : DataW H × List MemPlace} (he : P.underlying e = some (.int .i64)) (h : DataW.trod enc P w base spare held n e [v] = some x) : ∃ k : Int, v = .int .i64 k ∧ (-9223372036854775808 ≤ k ∧ k ≤ 9223372036854775807) := by
  obtain ⟨m, hc, -, hw⟩ := DataW.trod_int he h
  exact ⟨m, by simpa using hc, wf_i64 hw⟩
theorem cell_bool {e : TypeId} {n : Nat} {v : Value} {x : DataW H × List MemPlace} (he : P.underlying e = some .bool) (h : DataW.trod enc P w base spare held n e [v] = some x) : ∃ k : Bool, v = .bool k := by
  obtain ⟨m, hc, -⟩ := DataW.trod_bool he h
  exact ⟨m, by simpa using hc⟩
theorem cell_string {e : TypeId} {n : Nat} {v : Value} {x : DataW H × List MemPlace} (he : P.underlying e = some .string) (h : DataW.trod enc P w base spare held n e [v] = some x) : ∃ s : ByteArray, v = .string s ∧ s.size ≤ 9223372036854775807 := by
  obtain ⟨m, hc, -, hm⟩ := DataW.trod_string he h
  exact ⟨m, by simpa using hc, by unfold maxLen at hm; exact hm⟩
end

end Go.Proofs.YtijapjnhjioknaaGreatDoor
