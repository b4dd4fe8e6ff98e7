/-
  How a slice of numbers, and one of truths, lies in memory. Plain words; they speak of no program; no conditions.
-/
import Derived.Test.YtgbpoaimbjlamaaGreatDoorBase
import Derived.Test.YtgbpoaimbjlamaaGreatDoorLaw
import Derived.Deep.Slices
import Derived.Deep.Fields
import Derived.ChangeSame
import Derived.Test.YtgbpoaimbjlamaaGreatDoorMPx
namespace Go.Proofs.YtgbpoaimbjlamaaGreatDoor
open Go.RowKit

/-- A slice of numbers, read. -/
def IntsIn (w : World) (ao : Option Addr) (n : Nat) (X : Nat → Int) : Prop :=
  0 < n → ∃ b off, ao = some ⟨b, off, none⟩ ∧ ∀ i, i < n → w.cell? ⟨b, off + i, none⟩ = some (.int .i64 (X i)) ∧ -9223372036854775808 ≤ X i ∧ X i ≤ 9223372036854775807
/-- A slice of truths, read. -/
def BoolsIn (w : World) (ao : Option Addr) (n : Nat) (X : Nat → Bool) : Prop :=
  0 < n → ∃ b off, ao = some ⟨b, off, none⟩ ∧ ∀ i, i < n → w.cell? ⟨b, off + i, none⟩ = some (.bool (X i))

end Go.Proofs.YtgbpoaimbjlamaaGreatDoor

namespace Go.Proofs.YtgbpoaimbjlamaaGreatDoor
open Go.ChangeShapes Go.WideShapes Go.ChangeAt Go.RowKit Go.Deep

section
variable {H : Type} {enc : TypeId × Value → H} {P : Program} {w : World} {base : Nat} {spare : Nat → Bool} {held : Bool}

theorem cell_spot {a : Addr} {v : Value} (h : w.cell? a = some v) : a = ⟨a.block, a.off, none⟩ := by
  obtain ⟨b, o, s⟩ := a
  cases s with
  | none => rfl
  | some k =>
    unfold World.cell? at h
    split at h
    · simp at h
    · cases h

/-- A slice that is read: nothing, or its elements, cell by cell. -/
theorem slice_elems {r : Reach} {b0 : Nat} {t e : TypeId} {v : Value} {d : DataW H} {ps : List MemPlace} (ht : P.underlying t = some (.slice e)) (hC : 0 < P.cellsOf e) (hval : Value.okWide P w r b0 t v) (h : DataW.Trod enc P w base spare held t v d ps) :
    ∃ (ao : Option Addr) (len cap : Nat), v = .slice ao len cap ∧ len ≤ 9223372036854775807 ∧ (0 < len → ∃ b off, ao = some ⟨b, off, none⟩ ∧ ∀ i, i < len → ∃ (cs : List Value) (n : Nat) (x : DataW H × List MemPlace), cs.length = P.cellsOf e ∧
      (∀ j, j < P.cellsOf e → w.cell? ⟨b, off + i * P.cellsOf e + j, none⟩ = cs[j]?) ∧ DataW.trod enc P w base spare held n e cs = some x) := by
  obtain ⟨ao, len, cap, rfl⟩ := okWide_slice ht hval
  obtain ⟨fuel, hf⟩ := h
  rcases open_slice ht hf with ⟨hcs, -⟩ | ⟨a, len', cap', m, n, D, Pl, hcs, -, hl, hm, hmm, -, hi⟩
  · simp only [Value.cells, List.cons.injEq, Value.slice.injEq, and_true] at hcs
    obtain ⟨rfl, rfl, rfl⟩ := hcs
    exact ⟨none, 0, 0, rfl, by omega, fun h => by omega⟩
  · simp only [Value.cells, List.cons.injEq, Value.slice.injEq, and_true] at hcs
    obtain ⟨rfl, rfl, rfl⟩ := hcs
    refine ⟨some a, len, cap, rfl, by unfold maxLen at hm; omega, fun h0 => ?_⟩
    have hlm : len ≤ m := by rw [hmm]; split <;> omega
    obtain ⟨cs0, hc0, -⟩ := hi 0 (by omega)
    obtain ⟨-, hcl0, hat0⟩ := World.cells?_some hc0
    have h00 := hat0 0 hC
    have ea : (a.add (0 * P.cellsOf e)).add 0 = a := by simp [Addr.add]
    rw [ea, List.getElem?_eq_getElem (by omega)] at h00
    have hsp := cell_spot h00
    refine ⟨a.block, a.off, congrArg some hsp, fun i hil => ?_⟩
    obtain ⟨cs, hc, ht'⟩ := hi i (by omega)
    obtain ⟨-, hcl, hat⟩ := World.cells?_some hc
    refine ⟨cs, n, _, hcl, fun j hj => ?_, ht'⟩
    rw [← hat j hj, hsp, addr_add, addr_add]

/-- A struct of one-cell fields that is read: each cell, with its reading. -/
theorem struct_field {e : TypeId} {fs : Array Field} {n : Nat} {cs : List Value} {x : DataW H × List MemPlace} (he : P.underlying e = some (.struct fs)) (hone : oneCellFields P fs = true) (hC : P.cellsOf e = fs.size) (h : DataW.trod enc P w base spare held n e cs = some x) {j : Nat} {f : Field} (hj : fs[j]? = some f) :
    ∃ (v : Value) (m : Nat) (y : DataW H × List MemPlace), cs[j]? = some v ∧ DataW.trod enc P w base spare held m f.type [v] = some y := by
  obtain ⟨ys, m, -, -, hlen, hyl, hf⟩ := DataW.trod_struct he h
  obtain ⟨ho, hk⟩ := hone_of hone j f hj
  have hjl : j < fs.size := (Array.getElem?_eq_some_iff.1 hj).1
  have h1 := hf j f hj
  rw [ho, hk, List.getElem?_eq_getElem (by omega)] at h1
  have hlt : j < cs.length := by omega
  refine ⟨cs[j], m, ys[j]'(by omega), List.getElem?_eq_getElem hlt, ?_⟩
  have e1 : List.take 1 (List.drop j cs) = [cs[j]] := by rw [List.drop_eq_getElem_cons hlt]; rfl
  rw [e1] at h1
  exact h1

theorem cell_u8 {e : TypeId} {n : Nat} {v : Value} {x : DataW H × List MemPlace} (he : P.underlying e = some (.int .u8)) (h : DataW.trod enc P w base spare held n e [v] = some x) : ∃ k : Nat, v = .int .u8 k ∧ k < 256 := by
  obtain ⟨m, hc, -, hw⟩ := DataW.trod_int he h
  obtain ⟨k, rfl, hk⟩ := wf_u8 hw
  exact ⟨k, by simpa using hc, hk⟩
theorem cell_u64 {e : TypeId} {n : Nat} {v : Value} {x : DataW H × List MemPlace} (he : P.underlying e = some (.int .u64)) (h : DataW.trod enc P w base spare held n e [v] = some x) : ∃ k : Nat, v = .int .u64 k ∧ k < 18446744073709551616 := by
  obtain ⟨m, hc, -, hw⟩ := DataW.trod_int he h
  obtain ⟨k, rfl, hk⟩ := wf_u64 hw
  exact ⟨k, by simpa using hc, hk⟩
theorem cell_i64 {e : TypeId} {n : Nat} {v : Value} {x : DataW H × List MemPlace} (he : P.underlying e = some (.int .i64)) (h : DataW.trod enc P w base spare held n e [v] = some x) : ∃ k : Int, v = .int .i64 k ∧ (-9223372036854775808 ≤ k ∧ k ≤ 9223372036854775807) := by
  obtain ⟨m, hc, -, hw⟩ := DataW.trod_int he h
  exact ⟨m, by simpa using hc, wf_i64 hw⟩
theorem cell_bool {e : TypeId} {n : Nat} {v : Value} {x : DataW H × List MemPlace} (he : P.underlying e = some .bool) (h : DataW.trod enc P w base spare held n e [v] = some x) : ∃ k : Bool, v = .bool k := by
  obtain ⟨m, hc, -⟩ := DataW.trod_bool he h
  exact ⟨m, by simpa using hc⟩
theorem cell_string {e : TypeId} {n : Nat} {v : Value} {x : DataW H × List MemPlace} (he : P.underlying e = some .string) (h : DataW.trod enc P w base spare held n e [v] = some x) : ∃ s : ByteArray, v = .string s ∧ s.size ≤ 9223372036854775807 := by
  obtain ⟨m, hc, -, hm⟩ := DataW.trod_string he h
  exact ⟨m, by simpa using hc, by unfold maxLen at hm; exact hm⟩
end

end Go.Proofs.YtgbpoaimbjlamaaGreatDoor

namespace Go.Proofs.YtgbpoaimbjlamaaGreatDoor
open Go.ChangeShapes Go.WideShapes Go.ChangeAt Go.RowKit Go.Deep

section
variable {H : Type} {enc : TypeId × Value → H} {P : Program} {w : World} {base : Nat} {spare : Nat → Bool} {held : Bool}

/-- A slice that is read: nothing, or its elements, cell by cell; its length is at most its capacity. -/
theorem slice_elems2 {r : Reach} {b0 : Nat} {t e : TypeId} {v : Value} {d : DataW H} {ps : List MemPlace} (ht : P.underlying t = some (.slice e)) (hC : 0 < P.cellsOf e) (hval : Value.okWide P w r b0 t v) (h : DataW.Trod enc P w base spare held t v d ps) :
    ∃ (ao : Option Addr) (len cap : Nat), v = .slice ao len cap ∧ (len ≤ 9223372036854775807 ∧ len ≤ cap ∧ (ao = none → len = 0)) ∧ (0 < len → ∃ b off, ao = some ⟨b, off, none⟩ ∧ ∀ i, i < len → ∃ (cs : List Value) (n : Nat) (x : DataW H × List MemPlace), cs.length = P.cellsOf e ∧
      (∀ j, j < P.cellsOf e → w.cell? ⟨b, off + i * P.cellsOf e + j, none⟩ = cs[j]?) ∧ DataW.trod enc P w base spare held n e cs = some x) := by
  obtain ⟨ao, len, cap, rfl⟩ := okWide_slice ht hval
  have h' := h
  obtain ⟨fuel, hf⟩ := h'
  obtain ⟨ao', len', cap', he, hl, hx⟩ := slice_elems ht hC hval h
  simp only [Value.slice.injEq] at he
  obtain ⟨rfl, rfl, rfl⟩ := he
  refine ⟨ao, len, cap, rfl, ?_, hx⟩
  rcases open_slice ht hf with ⟨hcs, -⟩ | ⟨a, len', cap', m, n, D, Pl, hcs, -, hl2, hm, hmm, -, hi⟩
  · simp only [Value.cells, List.cons.injEq, Value.slice.injEq, and_true] at hcs
    obtain ⟨rfl, rfl, rfl⟩ := hcs
    exact ⟨by omega, by omega, fun _ => rfl⟩
  · simp only [Value.cells, List.cons.injEq, Value.slice.injEq, and_true] at hcs
    obtain ⟨rfl, rfl, rfl⟩ := hcs
    exact ⟨hl, hl2, fun h => by cases h⟩

theorem ints_arg {r : Reach} {b0 : Nat} {t e : TypeId} {v : Value} {d : DataW H} {ps : List MemPlace} (ht : P.underlying t = some (.slice e)) (he : P.underlying e = some (.int .i64)) (hC : P.cellsOf e = 1) (hval : Value.okWide P w r b0 t v) (h : DataW.Trod enc P w base spare held t v d ps) :
    ∃ (ao : Option Addr) (len cap : Nat) (X : Nat → Int), v = .slice ao len cap ∧ (len ≤ 9223372036854775807 ∧ len ≤ cap ∧ (ao = none → len = 0)) ∧ IntsIn w ao len X := by
  obtain ⟨ao, len, cap, hv, hl, hx⟩ := slice_elems2 ht (by omega) hval h
  by_cases h0 : 0 < len
  · obtain ⟨b, off, rfl, hi⟩ := hx h0
    rw [hC] at hi
    obtain ⟨X, hX⟩ := choose_lt (α := Int) (p := fun i z => w.cell? ⟨b, off + i, none⟩ = some (.int .i64 z) ∧ -9223372036854775808 ≤ z ∧ z ≤ 9223372036854775807) (n := len) (fun i hil => by
      obtain ⟨cs, n, x, hcl, hcells, htr⟩ := hi i hil
      have h1 := hcells 0 (by omega)
      obtain ⟨c, rfl⟩ : ∃ c, cs = [c] := by
        rcases cs with _ | ⟨c, _ | _⟩
        · simp at hcl
        · exact ⟨c, rfl⟩
        · simp at hcl
      obtain ⟨k, rfl, hk⟩ := cell_i64 he htr
      refine ⟨k, ?_, hk⟩
      rw [Nat.mul_one, Nat.add_zero] at h1
      exact h1)
    exact ⟨_, len, cap, X, hv, hl, fun _ => ⟨b, off, rfl, hX⟩⟩
  · exact ⟨ao, len, cap, fun _ => 0, hv, hl, fun h => absurd h h0⟩

theorem bools_arg {r : Reach} {b0 : Nat} {t e : TypeId} {v : Value} {d : DataW H} {ps : List MemPlace} (ht : P.underlying t = some (.slice e)) (he : P.underlying e = some .bool) (hC : P.cellsOf e = 1) (hval : Value.okWide P w r b0 t v) (h : DataW.Trod enc P w base spare held t v d ps) :
    ∃ (ao : Option Addr) (len cap : Nat) (X : Nat → Bool), v = .slice ao len cap ∧ (len ≤ 9223372036854775807 ∧ len ≤ cap ∧ (ao = none → len = 0)) ∧ BoolsIn w ao len X := by
  obtain ⟨ao, len, cap, hv, hl, hx⟩ := slice_elems2 ht (by omega) hval h
  by_cases h0 : 0 < len
  · obtain ⟨b, off, rfl, hi⟩ := hx h0
    rw [hC] at hi
    obtain ⟨X, hX⟩ := choose_lt (α := Bool) (p := fun i z => w.cell? ⟨b, off + i, none⟩ = some (.bool z)) (n := len) (fun i hil => by
      obtain ⟨cs, n, x, hcl, hcells, htr⟩ := hi i hil
      have h1 := hcells 0 (by omega)
      obtain ⟨c, rfl⟩ : ∃ c, cs = [c] := by
        rcases cs with _ | ⟨c, _ | _⟩
        · simp at hcl
        · exact ⟨c, rfl⟩
        · simp at hcl
      obtain ⟨k, rfl⟩ := cell_bool he htr
      refine ⟨k, ?_⟩
      rw [Nat.mul_one, Nat.add_zero] at h1
      exact h1)
    exact ⟨_, len, cap, X, hv, hl, fun _ => ⟨b, off, rfl, hX⟩⟩
  · exact ⟨ao, len, cap, fun _ => false, hv, hl, fun h => absurd h h0⟩
end
end Go.Proofs.YtgbpoaimbjlamaaGreatDoor

namespace Go.Proofs.YtgbpoaimbjlamaaGreatDoor
open Go.ChangeShapes Go.WideShapes Go.ChangeAt Go.RowKit Go.Deep
set_option linter.unusedVariables false

theorem part_hone : ∃ fs : Array Field, Tryz.prog.underlying 49 = some (.struct fs) ∧ oneCellFields Tryz.prog fs = true ∧ fs.size = 3 ∧ fs.map (·.type) = #[5, 27, 9] :=
  ⟨_, Tryz.underlying49, by kernel_rfl, by kernel_rfl, by kernel_rfl⟩
theorem cell_u16 {H : Type} {enc : TypeId × Value → H} {P : Program} {w : World} {base : Nat} {spare : Nat → Bool} {held : Bool} {e : TypeId} {n : Nat} {v : Value} {x : DataW H × List MemPlace} (he : P.underlying e = some (.int .u16)) (h : DataW.trod enc P w base spare held n e [v] = some x) : ∃ k : Nat, v = .int .u16 k ∧ k < 65536 := by
  obtain ⟨m, hc, -, hw⟩ := DataW.trod_int he h
  obtain ⟨k, rfl, hk⟩ := wf_u16 hw
  exact ⟨k, by simpa using hc, hk⟩

set_option maxRecDepth 100000 in
theorem parts_arg {H : Type} {enc : TypeId × Value → H} {W : World} {v : Value} {d : DataW H} {p : List MemPlace} (hval : Value.okWide Tryz.prog W .any 0 22 v) (h : DataW.Trod enc Tryz.prog W 0 (fun _ => true) true 22 v d p) :
    ∃ (ao : Option Addr) (cap : Nat) (l : List PartT), v = .slice ao l.length cap ∧ l.length ≤ 9223372036854775807 ∧ PartsIn W ao l ∧ ∀ p ∈ l, PartOk p := by
  have hC : Tryz.prog.cellsOf 49 = 3 := by kernel_rfl
  obtain ⟨fs, hs, h1, h6, hty⟩ := part_hone
  obtain ⟨ao, len, cap, hv, hl, hel⟩ := slice_elems2 Tryz.underlying22 (Nat.lt_of_lt_of_eq (by decide : 0 < 3) hC.symm) hval h
  by_cases h0 : 0 < len
  · obtain ⟨b, off, rfl, hi⟩ := hel h0
    rw [hC] at hi
    have : Inhabited PartT := ⟨⟨0, 0, []⟩⟩
    obtain ⟨C, hX⟩ := choose_lt (α := PartT) (p := fun i z => (W.cell? ⟨b, off + i * 3, none⟩ = some (.int .u8 (z.kind : Nat)) ∧ W.cell? ⟨b, off + i * 3 + 1, none⟩ = some (.int .u16 (z.n : Nat)) ∧ W.cell? ⟨b, off + i * 3 + 2, none⟩ = some (.string ⟨z.s.toArray⟩)) ∧ PartOk z) (n := len) (fun i hil => by
      obtain ⟨cs, n, x, hcl, hcells, ht⟩ := hi i hil
      have fld : ∀ (j : Nat) (t : TypeId), (#[5, 27, 9] : Array TypeId)[j]? = some t → ∃ (v : Value) (m : Nat) (y : DataW H × List MemPlace), cs[j]? = some v ∧ DataW.trod enc Tryz.prog W 0 (fun _ => true) true m t [v] = some y := by
        intro j t hj
        rw [← hty, Array.getElem?_map] at hj
        obtain ⟨f, hf, rfl⟩ := Option.map_eq_some_iff.1 hj
        exact struct_field hs h1 (hC.trans h6.symm) ht hf
      obtain ⟨v0, m0, y0, c0, t0⟩ := fld 0 _ rfl
      obtain ⟨v1, m1, y1, c1, t1⟩ := fld 1 _ rfl
      obtain ⟨v2, m2, y2, c2, t2⟩ := fld 2 _ rfl
      obtain ⟨K, rfl, hK⟩ := cell_u8 Tryz.underlying5 t0
      obtain ⟨N, rfl, hN⟩ := cell_u16 Tryz.underlying27 t1
      obtain ⟨s, rfl, hs5⟩ := cell_string Tryz.underlying9 t2
      refine ⟨⟨K, N, s.data.toList⟩, ⟨?_, ?_, ?_⟩, hK, hN, hs5⟩
      · have := hcells 0 (by omega); rw [Nat.add_zero] at this; exact this.trans c0
      · exact (hcells 1 (by omega)).trans c1
      · exact (hcells 2 (by omega)).trans c2)
    refine ⟨_, cap, (List.range len).map C, by rw [hv]; simp, by simp; omega, fun _ => ⟨b, off, rfl, fun i hil => ?_⟩, fun z hz => ?_⟩
    · have hil' : i < len := by simpa using hil
      simp only [List.getElem_map, List.getElem_range]
      exact (hX i hil').1
    · simp only [List.mem_map, List.mem_range] at hz
      obtain ⟨i, hi', rfl⟩ := hz
      exact (hX i hi').2
  · refine ⟨ao, cap, [], ?_, by simp, fun h => absurd h (by simp), fun v hv => by cases hv⟩
    rw [hv]
    have : len = 0 := by omega
    rw [this]
    rfl
end Go.Proofs.YtgbpoaimbjlamaaGreatDoor
