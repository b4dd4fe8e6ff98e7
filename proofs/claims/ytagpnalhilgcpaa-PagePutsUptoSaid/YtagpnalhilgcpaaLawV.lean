/-
  Arguments []api.Type and []api.Row: their cells, their readings, how many rows there are by the bulk. Plain facts; no condition.
-/
import Derived.Test.YtagpnalhilgcpaaLawT
import Derived.Test.YtagpnalhilgcpaaPagF
namespace Go.Proofs.Ytagpnalhilgcpaa
open Go.ChangeShapes Go.WideShapes Go.ChangeAt Go.RowKit Go.Deep
set_option linter.unusedVariables false

section
variable {H : Type} {enc : TypeId × Value → H} {P : Program} {w : World} {base : Nat} {spare : Nat → Bool} {held : Bool}

/-- A slice in a slice's cell. -/
theorem slice_inner {t e : TypeId} {n : Nat} {v : Value} {x : DataW H × List MemPlace} (ht : P.underlying t = some (.slice e)) (hC : 0 < P.cellsOf e) (hf : DataW.trod enc P w base spare held n t [v] = some x) :
    ∃ (ao : Option Addr) (len cap : Nat), v = .slice ao len cap ∧ (len ≤ 9223372036854775807 ∧ len ≤ cap ∧ (ao = none → len = 0)) ∧ (0 < len → ∃ b off, ao = some ⟨b, off, none⟩ ∧ ∀ i, i < len → ∃ (cs : List Value) (n : Nat) (x : DataW H × List MemPlace), cs.length = P.cellsOf e ∧
      (∀ j, j < P.cellsOf e → w.cell? ⟨b, off + i * P.cellsOf e + j, none⟩ = cs[j]?) ∧ DataW.trod enc P w base spare held n e cs = some x) := by
  rcases open_slice ht hf with ⟨hcs, -⟩ | ⟨a, len, cap, m, n', D, Pl, hcs, -, hl, hm, hmm, -, hi⟩
  · simp only [List.cons.injEq, and_true] at hcs
    exact ⟨none, 0, 0, hcs, ⟨by omega, by omega, fun _ => rfl⟩, fun h => by omega⟩
  · simp only [List.cons.injEq, and_true] at hcs
    refine ⟨some a, len, cap, hcs, ⟨by unfold maxLen at hm; omega, hl, fun h => by cases h⟩, fun h0 => ?_⟩
    have hlm : len ≤ m := by rw [hmm]; split <;> omega
    obtain ⟨cs0, hc0, -⟩ := hi 0 (by omega)
    obtain ⟨-, hcl0, hat0⟩ := World.cells?_some hc0
    have h00 := hat0 0 hC
    have ea : (a.add (0 * P.cellsOf e)).add 0 = a := by simp [Addr.add]
    rw [ea, List.getElem?_eq_getElem (by omega)] at h00
    have hsp := cell_spot h00
    refine ⟨a.block, a.off, congrArg some hsp, fun i hil => ?_⟩
    obtain ⟨cs, hc, ht'⟩ := hi i (by omega)
    obtain ⟨-, hcl, hat⟩ := World.cells?_some hc
    refine ⟨cs, n', _, hcl, fun j hj => ?_, ht'⟩
    rw [← hat j hj, hsp, addr_add, addr_add]

/-- How many elements, by the datum. -/
theorem slice_count {t e : TypeId} {v : Value} {d : DataW H} {ps : List MemPlace} (ht : P.underlying t = some (.slice e)) (h : DataW.Trod enc P w base spare held t v d ps) {ao : Option Addr} {len cap : Nat} (hv : v = .slice ao len cap) : (len = 0) ∨ ∃ el sp, d = .slice el sp ∧ el.length = len := by
  obtain ⟨fuel, hf⟩ := h
  subst hv
  rcases open_slice ht hf with ⟨hcs, -⟩ | ⟨a, len', cap', m, n, D, Pl, hcs, -, hl, hm, hmm, hx, hi⟩
  · simp only [Value.cells, List.cons.injEq, Value.slice.injEq, and_true] at hcs
    exact .inl hcs.2.1
  · simp only [Value.cells, List.cons.injEq, Value.slice.injEq, and_true] at hcs
    obtain ⟨-, rfl, -⟩ := hcs
    right
    simp only [Prod.mk.injEq] at hx
    exact ⟨_, _, hx.1, by simp⟩
end

theorem type_hone : ∃ fs : Array Field, Try.prog.underlying 60 = some (.struct fs) ∧ oneCellFields Try.prog fs = true ∧ fs.size = 2 ∧ fs.map (·.type) = #[3, 3] :=
  ⟨_, Try.underlying60, by kernel_rfl, by kernel_rfl, by kernel_rfl⟩
theorem value_hone : ∃ fs : Array Field, Try.prog.underlying 77 = some (.struct fs) ∧ oneCellFields Try.prog fs = true ∧ fs.size = 3 ∧ fs.map (·.type) = #[4, 2, 9] :=
  ⟨_, Try.underlying77, by kernel_rfl, by kernel_rfl, by kernel_rfl⟩

set_option maxRecDepth 100000 in
theorem types_arg {H : Type} {enc : TypeId × Value → H} {W : World} {v : Value} {d : DataW H} {p : List MemPlace} (hval : Value.okWide Try.prog W .any 0 51 v) (h : DataW.Trod enc Try.prog W 0 (fun _ => true) true 51 v d p) :
    ∃ (ao : Option Addr) (len cap : Nat) (ts : List (Int × Int)), v = .slice ao len cap ∧ (len ≤ 9223372036854775807 ∧ len ≤ cap ∧ (ao = none → len = 0)) ∧ ts.length = len ∧ TysIn W ao ts [] := by
  have hC : Try.prog.cellsOf 60 = 2 := by kernel_rfl
  obtain ⟨fs, hs, h1, h6, hty⟩ := type_hone
  obtain ⟨ao, len, cap, hv, hl, hel⟩ := slice_elems2 Try.underlying51 (Nat.lt_of_lt_of_eq (by decide : 0 < 2) hC.symm) hval h
  by_cases h0 : 0 < len
  · obtain ⟨b, off, rfl, hi⟩ := hel h0
    rw [hC] at hi
    obtain ⟨C, hX⟩ := choose_lt (α := Int × Int) (p := fun i z => W.cell? ⟨b, off + i * 2, none⟩ = some (.int .i64 z.1) ∧ W.cell? ⟨b, off + i * 2 + 1, none⟩ = some (.int .i64 z.2)) (n := len) (fun i hil => by
      obtain ⟨cs, n, x, hcl, hcells, ht⟩ := hi i hil
      have fld : ∀ (j : Nat) (t : TypeId), (#[3, 3] : Array TypeId)[j]? = some t → ∃ (v : Value) (m : Nat) (y : DataW H × List MemPlace), cs[j]? = some v ∧ DataW.trod enc Try.prog W 0 (fun _ => true) true m t [v] = some y := by
        intro j t hj
        rw [← hty, Array.getElem?_map] at hj
        obtain ⟨f, hf, rfl⟩ := Option.map_eq_some_iff.1 hj
        exact struct_field hs h1 (hC.trans h6.symm) ht hf
      obtain ⟨v0, m0, y0, c0, t0⟩ := fld 0 _ rfl
      obtain ⟨v1, m1, y1, c1, t1⟩ := fld 1 _ rfl
      obtain ⟨K, rfl, -⟩ := cell_i64 Try.underlying3 t0
      obtain ⟨S, rfl, -⟩ := cell_i64 Try.underlying3 t1
      refine ⟨(K, S), ?_, ?_⟩
      · have := hcells 0 (by omega); rw [Nat.add_zero] at this; exact this.trans c0
      · exact (hcells 1 (by omega)).trans c1)
    refine ⟨_, len, cap, (List.range len).map C, hv, hl, by simp, fun _ => ⟨b, off, rfl, by simp, fun i hil => ?_⟩⟩
    have hil' : i < len := by simpa using hil
    simp only [List.getElem_map, List.getElem_range]
    exact hX i hil'
  · exact ⟨ao, len, cap, [], hv, hl, by simp; omega, fun h => absurd rfl h⟩

/-- A row that is read. -/
theorem row_inner {H : Type} {enc : TypeId × Value → H} {W : World} {n : Nat} {v : Value} {x : DataW H × List MemPlace} (hf : DataW.trod enc Try.prog W 0 (fun _ => true) true n 71 [v] = some x) :
    ∃ (vs : List V) (ao : Option Addr) (cap : Nat), v = .slice ao vs.length cap ∧ ValsIn W ao vs [] ∧ vs.length ≤ 9223372036854775807 ∧ ∀ v ∈ vs, v.ok := by
  have hC : Try.prog.cellsOf 77 = 3 := by kernel_rfl
  obtain ⟨fs, hs, h1, h6, hty⟩ := value_hone
  obtain ⟨ao, len, cap, hv, hl, hel⟩ := slice_inner Try.underlying71 (Nat.lt_of_lt_of_eq (by decide : 0 < 3) hC.symm) hf
  by_cases h0 : 0 < len
  · obtain ⟨b, off, rfl, hi⟩ := hel h0
    rw [hC] at hi
    have : Inhabited V := ⟨⟨false, 0, ⟨#[]⟩⟩⟩
    obtain ⟨C, hX⟩ := choose_lt (α := V) (p := fun i z => (W.cell? ⟨b, off + i * 3, none⟩ = some (.bool z.z) ∧ W.cell? ⟨b, off + i * 3 + 1, none⟩ = some (.int .i64 z.n) ∧ W.cell? ⟨b, off + i * 3 + 2, none⟩ = some (.string z.s)) ∧ z.ok) (n := len) (fun i hil => by
      obtain ⟨cs, n, x, hcl, hcells, ht⟩ := hi i hil
      have fld : ∀ (j : Nat) (t : TypeId), (#[4, 2, 9] : Array TypeId)[j]? = some t → ∃ (v : Value) (m : Nat) (y : DataW H × List MemPlace), cs[j]? = some v ∧ DataW.trod enc Try.prog W 0 (fun _ => true) true m t [v] = some y := by
        intro j t hj
        rw [← hty, Array.getElem?_map] at hj
        obtain ⟨f, hf, rfl⟩ := Option.map_eq_some_iff.1 hj
        exact struct_field hs h1 (hC.trans h6.symm) ht hf
      obtain ⟨v0, m0, y0, c0, t0⟩ := fld 0 _ rfl
      obtain ⟨v1, m1, y1, c1, t1⟩ := fld 1 _ rfl
      obtain ⟨v2, m2, y2, c2, t2⟩ := fld 2 _ rfl
      obtain ⟨F, rfl⟩ := cell_bool Try.underlying4 t0
      obtain ⟨S, rfl, hS⟩ := cell_i64 Try.underlying2 t1
      obtain ⟨s, rfl, hs5⟩ := cell_string Try.underlying9 t2
      refine ⟨⟨F, S, s⟩, ⟨?_, ?_, ?_⟩, hS, hs5⟩
      · have := hcells 0 (by omega); rw [Nat.add_zero] at this; exact this.trans c0
      · exact (hcells 1 (by omega)).trans c1
      · exact (hcells 2 (by omega)).trans c2)
    refine ⟨(List.range len).map C, _, cap, by rw [hv]; simp, fun _ => ⟨b, off, rfl, by simp, fun i hil => ?_⟩, by simp; omega, fun z hz => ?_⟩
    · have hil' : i < len := by simpa using hil
      simp only [List.getElem_map, List.getElem_range]
      exact (hX i hil').1
    · simp only [List.mem_map, List.mem_range] at hz
      obtain ⟨i, hi', rfl⟩ := hz
      exact (hX i hi').2
  · refine ⟨[], ao, cap, ?_, fun h => absurd rfl h, by simp, fun v hv => by cases hv⟩
    rw [hv]
    have : len = 0 := by omega
    rw [this]
    rfl

set_option maxRecDepth 100000 in
theorem rows_arg {H : Type} {enc : TypeId × Value → H} {W : World} {v : Value} {d : DataW H} {p : List MemPlace} (hval : Value.okWide Try.prog W .any 0 52 v) (h : DataW.Trod enc Try.prog W 0 (fun _ => true) true 52 v d p) :
    ∃ (ao : Option Addr) (cap : Nat) (rs : List (List V)), v = .slice ao rs.length cap ∧ RowsIn W ao rs [] ∧ ∀ vs ∈ rs, vs.length ≤ 9223372036854775807 ∧ ∀ v ∈ vs, v.ok := by
  have hC : Try.prog.cellsOf 71 = 1 := by kernel_rfl
  obtain ⟨ao, len, cap, hv, hl, hel⟩ := slice_elems2 Try.underlying52 (Nat.lt_of_lt_of_eq (by decide : 0 < 1) hC.symm) hval h
  by_cases h0 : 0 < len
  · obtain ⟨b, off, rfl, hi⟩ := hel h0
    rw [hC] at hi
    obtain ⟨C, hX⟩ := choose_lt (α := List V) (p := fun i vs => (∃ vo c, W.cell? ⟨b, off + i, none⟩ = some (.slice vo vs.length c) ∧ ValsIn W vo vs []) ∧ vs.length ≤ 9223372036854775807 ∧ ∀ v ∈ vs, v.ok) (n := len) (fun i hil => by
      obtain ⟨cs, n, x, hcl, hcells, htr⟩ := hi i hil
      have h1 := hcells 0 (by omega)
      obtain ⟨c, rfl⟩ : ∃ c, cs = [c] := by
        rcases cs with _ | ⟨c, _ | _⟩
        · simp at hcl
        · exact ⟨c, rfl⟩
        · simp at hcl
      obtain ⟨vs, vo, vc, rfl, q1, q2, q3⟩ := row_inner htr
      rw [Nat.mul_one, Nat.add_zero] at h1
      exact ⟨vs, ⟨vo, vc, h1, q1⟩, q2, q3⟩)
    refine ⟨_, cap, (List.range len).map C, by rw [hv]; simp, fun _ => ⟨b, off, rfl, by simp, fun i hil => ?_⟩, fun vs hvs => ?_⟩
    · have hil' : i < len := by simpa using hil
      simp only [List.getElem_map, List.getElem_range]
      exact (hX i hil').1
    · simp only [List.mem_map, List.mem_range] at hvs
      obtain ⟨i, hi', rfl⟩ := hvs
      exact (hX i hi').2
  · refine ⟨ao, cap, [], ?_, fun h => absurd rfl h, fun vs hv => by cases hv⟩
    rw [hv]
    have : len = 0 := by omega
    rw [this]
    rfl
end Go.Proofs.Ytagpnalhilgcpaa
