/-
  Arguments api.Table, []api.Table and []api.Row: their cells, their readings. Plain facts; no condition.
-/
import Derived.Test.YtijapjnhjioknaaGreatDoorLawT
import Derived.Test.YtijapjnhjioknaaGreatDoorScM
namespace Go.Proofs.YtijapjnhjioknaaGreatDoor
open Go.ChangeShapes Go.WideShapes Go.ChangeAt Go.RowKit Go.Deep
set_option linter.unusedVariables false

section
variable {H : Type} {enc : TypeId × Value → H} {P : Program} {w : World} {base : Nat} {spare : Nat → Bool} {held : Bool}

/-- A slice in a slice's cell. -/
theorem slice_inner {t e : TypeId} {n : Nat} {v : Value} {x : DataW H × List MemPlace} (ht : P.underlying t = some (.slice e)) (hC : 0 < P.cellsOf e) (hf : DataW.trod enc P w base spare held n t [v] = some x) :
    ∃ (ao : Option Addr) (len cap : Nat), v = .slice ao len cap ∧ (len ≤ 9223372036854775807 ∧ len ≤ cap ∧ (ao = none → len = 0)) ∧ (0 < len → ∃ b off, ao = some ⟨b, off, none⟩ ∧ ∀ i, i < len → ∃ (cs : List Value) (n : Nat) (x : DataW H × List MemPlace), cs.length = P.cellsOf e ∧
      (∀ j, j < P.cellsOf e → w.cell? ⟨b, off + i * P.cellsOf e + j, none⟩ = cs[j]?) ∧ DataW.trod enc P w base spare held n e cs = some x) := by
  rcases open_slice ht hf with ⟨hcs, -⟩ | ⟨a, len, cap, m, n', D, Pl, hcs, -, hl, hm, hmm, -, hi⟩
  · simp only [List.cons.injEq, and_true] at hcs
    exact ⟨none, 0, 0, hcs, ⟨by omega, by omega, fun _ => rfl⟩, fun h => by omega⟩
  · simp only [List.cons.injEq, and_true] at hcs
    refine ⟨some a, len, cap, hcs, ⟨by unfold maxLen at hm; omega, hl, fun h => by cases h⟩, fun h0 => ?_⟩
    have hlm : len ≤ m := by rw [hmm]; split <;> omega
    obtain ⟨cs0, hc0, -⟩ := hi 0 (by omega)
    obtain ⟨-, hcl0, hat0⟩ := World.cells?_some hc0
    have h00 := hat0 0 hC
    have ea : (a.add (0 * P.cellsOf e)).add 0 = a := by simp [Addr.add]
    rw [ea, List.getElem?_eq_getElem (by omega)] at h00
    have hsp := cell_spot h00
    refine ⟨a.block, a.off, congrArg some hsp, fun i hil => ?_⟩
    obtain ⟨cs, hc, ht'⟩ := hi i (by omega)
    obtain ⟨-, hcl, hat⟩ := World.cells?_some hc
    refine ⟨cs, n', _, hcl, fun j hj => ?_, ht'⟩
    rw [← hat j hj, hsp, addr_add, addr_add]

/-- A struct that is read: each field's cells, with their reading. -/
theorem struct_at {e : TypeId} {fs : Array Field} {n : Nat} {cs : List Value} {x : DataW H × List MemPlace} (he : P.underlying e = some (.struct fs)) (h : DataW.trod enc P w base spare held n e cs = some x) {j : Nat} {f : Field} (hj : fs[j]? = some f) :
    ∃ (m : Nat) (y : DataW H × List MemPlace), DataW.trod enc P w base spare held m f.type ((cs.drop f.offset).take (P.cellsOf f.type)) = some y := by
  obtain ⟨ys, m, -, -, hlen, hyl, hf⟩ := DataW.trod_struct he h
  have hjl : j < fs.size := (Array.getElem?_eq_some_iff.1 hj).1
  have h1 := hf j f hj
  rw [List.getElem?_eq_getElem (by omega)] at h1
  exact ⟨m, _, h1⟩
end

theorem value_hone : ∃ fs : Array Field, Tryz.prog.underlying 46 = some (.struct fs) ∧ oneCellFields Tryz.prog fs = true ∧ fs.size = 3 ∧ fs.map (·.type) = #[4, 2, 9] :=
  ⟨_, Tryz.underlying46, by kernel_rfl, by kernel_rfl, by kernel_rfl⟩


theorem type_hone : ∃ fs : Array Field, Tryz.prog.underlying 42 = some (.struct fs) ∧ oneCellFields Tryz.prog fs = true ∧ fs.size = 2 ∧ fs.map (·.type) = #[3, 3] :=
  ⟨_, Tryz.underlying42, by kernel_rfl, by kernel_rfl, by kernel_rfl⟩
theorem table_hone : ∃ fs : Array Field, Tryz.prog.underlying 24 = some (.struct fs) ∧ oneCellFields Tryz.prog fs = true ∧ fs.size = 2 ∧ fs.map (·.type) = #[9, 22] :=
  ⟨_, Tryz.underlying24, by kernel_rfl, by kernel_rfl, by kernel_rfl⟩
theorem column_hone : ∃ fs : Array Field, Tryz.prog.underlying 44 = some (.struct fs) ∧ fs.map (fun f => (f.type, f.offset)) = #[(9, 0), (42, 1), (4, 3)] :=
  ⟨_, Tryz.underlying44, by kernel_rfl⟩

set_option maxRecDepth 100000 in
/-- A column that is read. -/
theorem column_inner {H : Type} {enc : TypeId × Value → H} {W : World} {n : Nat} {cs : List Value} {x : DataW H × List MemPlace} (hcl : cs.length = 4) (hf : DataW.trod enc Tryz.prog W 0 (fun _ => true) true n 44 cs = some x) :
    ∃ c : Col, cs = [.string c.name, .int .i64 c.k, .int .i64 c.s, .bool c.null] ∧ c.ok := by
  obtain ⟨fs, hs, hty⟩ := column_hone
  have fld : ∀ (j : Nat) (t : TypeId) (o : Nat), (#[(9, 0), (42, 1), (4, 3)] : Array (TypeId × Nat))[j]? = some (t, o) → ∃ (m : Nat) (y : DataW H × List MemPlace), DataW.trod enc Tryz.prog W 0 (fun _ => true) true m t ((cs.drop o).take (Tryz.prog.cellsOf t)) = some y := by
    intro j t o hj
    rw [← hty, Array.getElem?_map] at hj
    obtain ⟨f, hf2, he⟩ := Option.map_eq_some_iff.1 hj
    have e1 := congrArg Prod.fst he
    have e2 := congrArg Prod.snd he
    simp only at e1 e2
    obtain ⟨m, y, h⟩ := struct_at hs hf hf2
    rw [e1, e2] at h
    exact ⟨m, y, h⟩
  have k1 : Tryz.prog.cellsOf 9 = 1 := by kernel_rfl
  have k2 : Tryz.prog.cellsOf 42 = 2 := by kernel_rfl
  have k3 : Tryz.prog.cellsOf 4 = 1 := by kernel_rfl
  match cs, hcl with
  | [v0, v1, v2, v3], _ =>
    obtain ⟨m0, y0, t0⟩ := fld 0 _ _ rfl
    obtain ⟨m1, y1, t1⟩ := fld 1 _ _ rfl
    obtain ⟨m2, y2, t2⟩ := fld 2 _ _ rfl
    rw [k1] at t0
    rw [k2] at t1
    rw [k3] at t2
    simp only [List.drop_zero, List.drop_succ_cons, List.take_succ_cons, List.take_zero] at t0 t1 t2
    obtain ⟨gs, hg, h1, h6, hgty⟩ := type_hone
    have gld : ∀ (j : Nat) (t : TypeId), (#[3, 3] : Array TypeId)[j]? = some t → ∃ (v : Value) (m : Nat) (y : DataW H × List MemPlace), ([v1, v2] : List Value)[j]? = some v ∧ DataW.trod enc Tryz.prog W 0 (fun _ => true) true m t [v] = some y := by
      intro j t hj
      rw [← hgty, Array.getElem?_map] at hj
      obtain ⟨f, hf3, rfl⟩ := Option.map_eq_some_iff.1 hj
      exact struct_field hg h1 (k2.trans h6.symm) t1 hf3
    obtain ⟨u1, n1, z1, g1, s1⟩ := gld 0 _ rfl
    obtain ⟨u2, n2, z2, g2, s2⟩ := gld 1 _ rfl
    obtain rfl : v1 = u1 := by simpa using g1
    obtain rfl : v2 = u2 := by simpa using g2
    obtain ⟨a, rfl, ha⟩ := cell_string Tryz.underlying9 t0
    obtain ⟨K, rfl, hK⟩ := cell_i64 Tryz.underlying3 s1
    obtain ⟨S, rfl, hS⟩ := cell_i64 Tryz.underlying3 s2
    obtain ⟨b, rfl⟩ := cell_bool Tryz.underlying4 t2
    exact ⟨⟨a, K, S, b⟩, rfl, ⟨⟨hK, hS⟩, ha⟩⟩

set_option maxRecDepth 100000 in
/-- A table's columns that are read. -/
theorem columns_inner {H : Type} {enc : TypeId × Value → H} {W : World} {n : Nat} {v : Value} {x : DataW H × List MemPlace} (hf : DataW.trod enc Tryz.prog W 0 (fun _ => true) true n 22 [v] = some x) :
    ∃ (cs : List Col) (ao : Option Addr) (cap : Nat), v = .slice ao cs.length cap ∧ ColsIn W ao cs [] ∧ cs.length ≤ 9223372036854775807 ∧ ∀ c ∈ cs, c.ok := by
  have hC : Tryz.prog.cellsOf 44 = 4 := by kernel_rfl
  obtain ⟨ao, len, cap, hv, hl, hel⟩ := slice_inner Tryz.underlying22 (Nat.lt_of_lt_of_eq (by decide : 0 < 4) hC.symm) hf
  by_cases h0 : 0 < len
  · obtain ⟨b, off, rfl, hi⟩ := hel h0
    rw [hC] at hi
    have : Inhabited Col := ⟨⟨⟨#[]⟩, 0, 0, false⟩⟩
    obtain ⟨C, hX⟩ := choose_lt (α := Col) (p := fun i c => (W.cell? ⟨b, off + i * 4, none⟩ = some (.string c.name) ∧ W.cell? ⟨b, off + i * 4 + 1, none⟩ = some (.int .i64 c.k) ∧ W.cell? ⟨b, off + i * 4 + 2, none⟩ = some (.int .i64 c.s) ∧ W.cell? ⟨b, off + i * 4 + 3, none⟩ = some (.bool c.null)) ∧ c.ok) (n := len) (fun i hil => by
      obtain ⟨cs, n, x, hcl, hcells, ht⟩ := hi i hil
      obtain ⟨c, rfl, hok⟩ := column_inner hcl ht
      refine ⟨c, ⟨?_, ?_, ?_, ?_⟩, hok⟩
      · have := hcells 0 (by omega); rw [Nat.add_zero] at this; exact this
      · exact hcells 1 (by omega)
      · exact hcells 2 (by omega)
      · exact hcells 3 (by omega))
    refine ⟨(List.range len).map C, _, cap, by rw [hv]; simp, fun _ => ⟨b, off, rfl, by simp, fun i hil => ?_⟩, by simp; omega, fun z hz => ?_⟩
    · have hil' : i < len := by simpa using hil
      simp only [List.getElem_map, List.getElem_range]
      exact (hX i hil').1
    · simp only [List.mem_map, List.mem_range] at hz
      obtain ⟨i, hi', rfl⟩ := hz
      exact (hX i hi').2
  · refine ⟨[], ao, cap, ?_, fun h => absurd rfl h, by simp, fun v hv => by cases hv⟩
    rw [hv]
    have : len = 0 := by omega
    rw [this]
    rfl

set_option maxRecDepth 100000 in
/-- A table's two cells that are read. -/
theorem table_inner {H : Type} {enc : TypeId × Value → H} {W : World} {n : Nat} {cs : List Value} {x : DataW H × List MemPlace} (hcl : cs.length = 2) (hf : DataW.trod enc Tryz.prog W 0 (fun _ => true) true n 24 cs = some x) :
    ∃ (t : Tbl) (co : Option Addr) (cap : Nat), cs = [.string t.name, .slice co t.cols.length cap] ∧ ColsIn W co t.cols [] ∧ t.ok := by
  obtain ⟨fs, hs, h1, h6, hty⟩ := table_hone
  have hC : Tryz.prog.cellsOf 24 = 2 := by kernel_rfl
  have fld : ∀ (j : Nat) (t : TypeId), (#[9, 22] : Array TypeId)[j]? = some t → ∃ (v : Value) (m : Nat) (y : DataW H × List MemPlace), cs[j]? = some v ∧ DataW.trod enc Tryz.prog W 0 (fun _ => true) true m t [v] = some y := by
    intro j t hj
    rw [← hty, Array.getElem?_map] at hj
    obtain ⟨f, hf2, rfl⟩ := Option.map_eq_some_iff.1 hj
    exact struct_field hs h1 (hC.trans h6.symm) hf hf2
  obtain ⟨v0, m0, y0, c0, t0⟩ := fld 0 _ rfl
  obtain ⟨v1, m1, y1, c1, t1⟩ := fld 1 _ rfl
  match cs, hcl with
  | [u0, u1], _ =>
    obtain rfl : u0 = v0 := by simpa using c0
    obtain rfl : u1 = v1 := by simpa using c1
    obtain ⟨a, rfl, ha⟩ := cell_string Tryz.underlying9 t0
    obtain ⟨cols, ao, cap, rfl, hI, hl, hok⟩ := columns_inner t1
    exact ⟨⟨a, cols⟩, ao, cap, rfl, hI, ⟨ha, hl, hok⟩⟩

set_option maxRecDepth 100000 in
theorem table_arg {H : Type} {enc : TypeId × Value → H} {W : World} {v : Value} {d : DataW H} {p : List MemPlace} (hval : Value.okWide Tryz.prog W .any 0 24 v) (h : DataW.Trod enc Tryz.prog W 0 (fun _ => true) true 24 v d p) :
    ∃ (t : Tbl) (co : Option Addr) (cap : Nat), v = .agg #[.string t.name, .slice co t.cols.length cap] ∧ ColsIn W co t.cols [] ∧ t.ok := by
  obtain ⟨fs, hs, -⟩ := table_hone
  have hC : Tryz.prog.cellsOf 24 = 2 := by kernel_rfl
  obtain ⟨cs, rfl, hcs⟩ := okWide_struct hs hval
  rw [hC] at hcs
  obtain ⟨fuel, hf⟩ := h
  obtain ⟨t, co, cap, he, hI, hok⟩ := table_inner (by simpa [Value.cells] using hcs) hf
  refine ⟨t, co, cap, ?_, hI, hok⟩
  congr 1
  apply Array.ext'
  simpa [Value.cells] using he

set_option maxRecDepth 100000 in
theorem tables_arg {H : Type} {enc : TypeId × Value → H} {W : World} {v : Value} {d : DataW H} {p : List MemPlace} (hval : Value.okWide Tryz.prog W .any 0 33 v) (h : DataW.Trod enc Tryz.prog W 0 (fun _ => true) true 33 v d p) :
    ∃ (ao : Option Addr) (cap : Nat) (l : List Tbl), v = .slice ao l.length cap ∧ l.length ≤ 9223372036854775807 ∧ TblsIn W ao l [] ∧ ∀ t ∈ l, t.ok := by
  have hC : Tryz.prog.cellsOf 24 = 2 := by kernel_rfl
  obtain ⟨ao, len, cap, hv, hl, hel⟩ := slice_elems2 Tryz.underlying33 (Nat.lt_of_lt_of_eq (by decide : 0 < 2) hC.symm) hval h
  by_cases h0 : 0 < len
  · obtain ⟨b, off, rfl, hi⟩ := hel h0
    rw [hC] at hi
    have : Inhabited Tbl := ⟨⟨⟨#[]⟩, []⟩⟩
    obtain ⟨C, hX⟩ := choose_lt (α := Tbl) (p := fun i t => (W.cell? ⟨b, off + i * 2, none⟩ = some (.string t.name) ∧ ∃ co c, W.cell? ⟨b, off + i * 2 + 1, none⟩ = some (.slice co t.cols.length c) ∧ ColsIn W co t.cols []) ∧ t.ok) (n := len) (fun i hil => by
      obtain ⟨cs, n, x, hcl, hcells, htr⟩ := hi i hil
      obtain ⟨t, co, cap2, rfl, hI, hok⟩ := table_inner hcl htr
      refine ⟨t, ⟨?_, co, cap2, ?_, hI⟩, hok⟩
      · have := hcells 0 (by omega); rw [Nat.add_zero] at this; exact this
      · exact hcells 1 (by omega))
    refine ⟨_, cap, (List.range len).map C, by rw [hv]; simp, by simp; omega, fun _ => ⟨b, off, rfl, by simp, fun i hil => ?_⟩, fun vs hvs => ?_⟩
    · have hil' : i < len := by simpa using hil
      simp only [List.getElem_map, List.getElem_range]
      exact (hX i hil').1
    · simp only [List.mem_map, List.mem_range] at hvs
      obtain ⟨i, hi', rfl⟩ := hvs
      exact (hX i hi').2
  · refine ⟨ao, cap, [], ?_, by simp, fun h => absurd rfl h, fun vs hv => by cases hv⟩
    rw [hv]
    have : len = 0 := by omega
    rw [this]
    rfl

/-- A row that is read. -/
theorem row_inner {H : Type} {enc : TypeId × Value → H} {W : World} {n : Nat} {v : Value} {x : DataW H × List MemPlace} (hf : DataW.trod enc Tryz.prog W 0 (fun _ => true) true n 48 [v] = some x) :
    ∃ (vs : List V) (ao : Option Addr) (cap : Nat), v = .slice ao vs.length cap ∧ vs.length ≤ cap ∧ ValsIn W ao vs [] ∧ vs.length ≤ 9223372036854775807 ∧ ∀ v ∈ vs, v.ok := by
  have hC : Tryz.prog.cellsOf 46 = 3 := by kernel_rfl
  obtain ⟨fs, hs, h1, h6, hty⟩ := value_hone
  obtain ⟨ao, len, cap, hv, hl, hel⟩ := slice_inner Tryz.underlying48 (Nat.lt_of_lt_of_eq (by decide : 0 < 3) hC.symm) hf
  by_cases h0 : 0 < len
  · obtain ⟨b, off, rfl, hi⟩ := hel h0
    rw [hC] at hi
    have : Inhabited V := ⟨⟨false, 0, ⟨#[]⟩⟩⟩
    obtain ⟨C, hX⟩ := choose_lt (α := V) (p := fun i z => (W.cell? ⟨b, off + i * 3, none⟩ = some (.bool z.z) ∧ W.cell? ⟨b, off + i * 3 + 1, none⟩ = some (.int .i64 z.n) ∧ W.cell? ⟨b, off + i * 3 + 2, none⟩ = some (.string z.s)) ∧ z.ok) (n := len) (fun i hil => by
      obtain ⟨cs, n, x, hcl, hcells, ht⟩ := hi i hil
      have fld : ∀ (j : Nat) (t : TypeId), (#[4, 2, 9] : Array TypeId)[j]? = some t → ∃ (v : Value) (m : Nat) (y : DataW H × List MemPlace), cs[j]? = some v ∧ DataW.trod enc Tryz.prog W 0 (fun _ => true) true m t [v] = some y := by
        intro j t hj
        rw [← hty, Array.getElem?_map] at hj
        obtain ⟨f, hf, rfl⟩ := Option.map_eq_some_iff.1 hj
        exact struct_field hs h1 (hC.trans h6.symm) ht hf
      obtain ⟨v0, m0, y0, c0, t0⟩ := fld 0 _ rfl
      obtain ⟨v1, m1, y1, c1, t1⟩ := fld 1 _ rfl
      obtain ⟨v2, m2, y2, c2, t2⟩ := fld 2 _ rfl
      obtain ⟨F, rfl⟩ := cell_bool Tryz.underlying4 t0
      obtain ⟨S, rfl, hS⟩ := cell_i64 Tryz.underlying2 t1
      obtain ⟨s, rfl, hs5⟩ := cell_string Tryz.underlying9 t2
      refine ⟨⟨F, S, s⟩, ⟨?_, ?_, ?_⟩, hS, hs5⟩
      · have := hcells 0 (by omega); rw [Nat.add_zero] at this; exact this.trans c0
      · exact (hcells 1 (by omega)).trans c1
      · exact (hcells 2 (by omega)).trans c2)
    refine ⟨(List.range len).map C, _, cap, by rw [hv]; simp, by simp; omega, fun _ => ⟨b, off, rfl, by simp, fun i hil => ?_⟩, by simp; omega, fun z hz => ?_⟩
    · have hil' : i < len := by simpa using hil
      simp only [List.getElem_map, List.getElem_range]
      exact (hX i hil').1
    · simp only [List.mem_map, List.mem_range] at hz
      obtain ⟨i, hi', rfl⟩ := hz
      exact (hX i hi').2
  · refine ⟨[], ao, cap, ?_, by simp, fun h => absurd rfl h, by simp, fun v hv => by cases hv⟩
    rw [hv]
    have : len = 0 := by omega
    rw [this]
    rfl

set_option maxRecDepth 100000 in
theorem rows_arg {H : Type} {enc : TypeId × Value → H} {W : World} {v : Value} {d : DataW H} {p : List MemPlace} (hval : Value.okWide Tryz.prog W .any 0 25 v) (h : DataW.Trod enc Tryz.prog W 0 (fun _ => true) true 25 v d p) :
    ∃ (ao : Option Addr) (cap : Nat) (rs : List (List V)), v = .slice ao rs.length cap ∧ rs.length ≤ 9223372036854775807 ∧ RowsIn W ao rs [] ∧ ∀ vs ∈ rs, vs.length ≤ 9223372036854775807 ∧ ∀ v ∈ vs, v.ok := by
  have hC : Tryz.prog.cellsOf 48 = 1 := by kernel_rfl
  obtain ⟨ao, len, cap, hv, hl, hel⟩ := slice_elems2 Tryz.underlying25 (Nat.lt_of_lt_of_eq (by decide : 0 < 1) hC.symm) hval h
  by_cases h0 : 0 < len
  · obtain ⟨b, off, rfl, hi⟩ := hel h0
    rw [hC] at hi
    obtain ⟨C, hX⟩ := choose_lt (α := List V) (p := fun i vs => (∃ vo c, vs.length ≤ c ∧ W.cell? ⟨b, off + i, none⟩ = some (.slice vo vs.length c) ∧ ValsIn W vo vs []) ∧ vs.length ≤ 9223372036854775807 ∧ ∀ v ∈ vs, v.ok) (n := len) (fun i hil => by
      obtain ⟨cs, n, x, hcl, hcells, htr⟩ := hi i hil
      have h1 := hcells 0 (by omega)
      obtain ⟨c, rfl⟩ : ∃ c, cs = [c] := by
        rcases cs with _ | ⟨c, _ | _⟩
        · simp at hcl
        · exact ⟨c, rfl⟩
        · simp at hcl
      obtain ⟨vs, vo, vc, rfl, q0, q1, q2, q3⟩ := row_inner htr
      rw [Nat.mul_one, Nat.add_zero] at h1
      exact ⟨vs, ⟨vo, vc, q0, h1, q1⟩, q2, q3⟩)
    refine ⟨_, cap, (List.range len).map C, by rw [hv]; simp, by simp; omega, fun _ => ⟨b, off, rfl, by simp, fun i hil => ?_⟩, fun vs hvs => ?_⟩
    · have hil' : i < len := by simpa using hil
      simp only [List.getElem_map, List.getElem_range]
      exact (hX i hil').1
    · simp only [List.mem_map, List.mem_range] at hvs
      obtain ⟨i, hi', rfl⟩ := hvs
      exact (hX i hi').2
  · refine ⟨ao, cap, [], ?_, by simp, fun h => absurd rfl h, fun vs hv => by cases hv⟩
    rw [hv]
    have : len = 0 := by omega
    rw [this]
    rfl
end Go.Proofs.YtijapjnhjioknaaGreatDoor
