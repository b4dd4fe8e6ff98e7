/-
  How a slice of numbers, and one of truths, lies in memory. Plain words; they speak of no program; no conditions.
-/
import Derived.Test.YtpokbepenacnpaaGreatDoorBase
import Derived.Test.YtpokbepenacnpaaGreatDoorLaw
import Derived.Deep.Slices
import Derived.Deep.Fields
import Derived.ChangeSame
import Derived.Test.YtpokbepenacnpaaGreatDoorMPx
namespace Go.Proofs.YtpokbepenacnpaaGreatDoor
open Go.RowKit

/-- A slice of numbers, read. -/
def IntsIn (w : World) (ao : Option Addr) (n : Nat) (X : Nat → Int) : Prop :=
  0 < n → ∃ b off, ao = some ⟨b, off, none⟩ ∧ ∀ i, i < n → w.cell? ⟨b, off + i, none⟩ = some (.int .i64 (X i)) ∧ -9223372036854775808 ≤ X i ∧ X i ≤ 9223372036854775807
/-- A slice of truths, read. -/
def BoolsIn (w : World) (ao : Option Addr) (n : Nat) (X : Nat → Bool) : Prop :=
  0 < n → ∃ b off, ao = some ⟨b, off, none⟩ ∧ ∀ i, i < n → w.cell? ⟨b, off + i, none⟩ = some (.bool (X i))

end Go.Proofs.YtpokbepenacnpaaGreatDoor

namespace Go.Proofs.YtpokbepenacnpaaGreatDoor
open Go.ChangeShapes Go.WideShapes Go.ChangeAt Go.RowKit Go.Deep

section
variable {H : Type} {enc : TypeId × Value → H} {P : Program} {w : World} {base : Nat} {spare : Nat → Bool} {held : Bool}

theorem cell_spot {a : Addr} {v : Value} (h : w.cell? a = some v) : a = ⟨a.block, a.off, none⟩ := by
  obtain ⟨b, o, s⟩ := a
  cases s with
  | none => rfl
  | some k =>
    unfold World.cell? at h
    split at h
    · simp at h
    · cases h

/-- A struct of one-cell fields that is read: each cell, with its reading. -/
theorem struct_field {e : TypeId} {fs : Array Field} {n : Nat} {cs : List Value} {x : DataW H × List MemPlace} (he : P.underlying e = some (.struct fs)) (hone : oneCellFields P fs = true) (hC : P.cellsOf e = fs.size) (h : DataW.trod enc P w base spare held n e cs = some x) {j : Nat} {f : Field} (hj : fs[j]? = some f) :
    ∃ (v : Value) (m : Nat) (y : DataW H × List MemPlace), cs[j]? = some v ∧ DataW.trod enc P w base spare held m f.type [v] = some y := by
  obtain ⟨ys, m, -, -, hlen, hyl, hf⟩ := DataW.trod_struct he h
  obtain ⟨ho, hk⟩ := hone_of hone j f hj
  have hjl : j < fs.size := (Array.getElem?_eq_some_iff.1 hj).1
  have h1 := hf j f hj
  rw [ho, hk, List.getElem?_eq_getElem (by omega)] at h1
  have hlt : j < cs.length := by omega
  refine ⟨cs[j], m, ys[j]'(by omega), List.getElem?_eq_getElem hlt, ?_⟩
  have e1 : List.take 1 (List.drop j cs) = [cs[j]] := by rw [List.drop_eq_getElem_cons hlt]; rfl
  rw [e1] at h1
  exact h1

theorem cell_u8 {e : TypeId} {n : Nat} {v : Value} {x : DataW H × List MemPlace} (he : P.underlying e = some (.int .u8)) (h : DataW.trod enc P w base spare held n e [v] = some x) : ∃ k : Nat, v = .int .u8 k ∧ k < 256 := by
  obtain ⟨m, hc, -, hw⟩ := DataW.trod_int he h
  obtain ⟨k, rfl, hk⟩ := wf_u8 hw
  exact ⟨k, by simpa using hc, hk⟩
theorem cell_bool {e : TypeId} {n : Nat} {v : Value} {x : DataW H × List MemPlace} (he : P.underlying e = some .bool) (h : DataW.trod enc P w base spare held n e [v] = some x) : ∃ k : Bool, v = .bool k := by
  obtain ⟨m, hc, -⟩ := DataW.trod_bool he h
  exact ⟨m, by simpa using hc⟩
theorem cell_string {e : TypeId} {n : Nat} {v : Value} {x : DataW H × List MemPlace} (he : P.underlying e = some .string) (h : DataW.trod enc P w base spare held n e [v] = some x) : ∃ s : ByteArray, v = .string s ∧ s.size ≤ 9223372036854775807 := by
  obtain ⟨m, hc, -, hm⟩ := DataW.trod_string he h
  exact ⟨m, by simpa using hc, by unfold maxLen at hm; exact hm⟩
end

end Go.Proofs.YtpokbepenacnpaaGreatDoor

namespace Go.Proofs.YtpokbepenacnpaaGreatDoor
open Go.ChangeShapes Go.WideShapes Go.ChangeAt Go.RowKit Go.Deep

section
variable {H : Type} {enc : TypeId × Value → H} {P : Program} {w : World} {base : Nat} {spare : Nat → Bool} {held : Bool}

end
end Go.Proofs.YtpokbepenacnpaaGreatDoor

namespace Go.Proofs.YtpokbepenacnpaaGreatDoor
open Go.ChangeShapes Go.WideShapes Go.ChangeAt Go.RowKit Go.Deep
set_option linter.unusedVariables false

theorem part_hone : ∃ fs : Array Field, Tryz.prog.underlying 143 = some (.struct fs) ∧ oneCellFields Tryz.prog fs = true ∧ fs.size = 3 ∧ fs.map (·.type) = #[5, 23, 9] :=
  ⟨_, Tryz.underlying143, by kernel_rfl, by kernel_rfl, by kernel_rfl⟩
theorem cell_u16 {H : Type} {enc : TypeId × Value → H} {P : Program} {w : World} {base : Nat} {spare : Nat → Bool} {held : Bool} {e : TypeId} {n : Nat} {v : Value} {x : DataW H × List MemPlace} (he : P.underlying e = some (.int .u16)) (h : DataW.trod enc P w base spare held n e [v] = some x) : ∃ k : Nat, v = .int .u16 k ∧ k < 65536 := by
  obtain ⟨m, hc, -, hw⟩ := DataW.trod_int he h
  obtain ⟨k, rfl, hk⟩ := wf_u16 hw
  exact ⟨k, by simpa using hc, hk⟩

end Go.Proofs.YtpokbepenacnpaaGreatDoor

namespace Go.Proofs.YtpokbepenacnpaaGreatDoor
open Go.ChangeShapes Go.WideShapes Go.ChangeAt Go.RowKit Go.Deep
set_option linter.unusedVariables false

section
variable {H : Type} {enc : TypeId × Value → H} {P : Program} {w : World} {base : Nat} {spare : Nat → Bool} {held : Bool}
/-- A slice in a slice's cell. -/
theorem slice_within {t e : TypeId} {n : Nat} {v : Value} {x : DataW H × List MemPlace} (ht : P.underlying t = some (.slice e)) (hC : 0 < P.cellsOf e) (hf : DataW.trod enc P w base spare held n t [v] = some x) :
    ∃ (ao : Option Addr) (len cap : Nat), v = .slice ao len cap ∧ (len ≤ 9223372036854775807 ∧ len ≤ cap ∧ (ao = none → len = 0)) ∧ (0 < len → ∃ b off, ao = some ⟨b, off, none⟩ ∧ ∀ i, i < len → ∃ (cs : List Value) (n : Nat) (x : DataW H × List MemPlace), cs.length = P.cellsOf e ∧
      (∀ j, j < P.cellsOf e → w.cell? ⟨b, off + i * P.cellsOf e + j, none⟩ = cs[j]?) ∧ DataW.trod enc P w base spare held n e cs = some x) := by
  rcases open_slice ht hf with ⟨hcs, -⟩ | ⟨a, len, cap, m, n', D, Pl, hcs, -, hl, hm, hmm, -, hi⟩
  · simp only [List.cons.injEq, and_true] at hcs
    exact ⟨none, 0, 0, hcs, ⟨by omega, by omega, fun _ => rfl⟩, fun h => by omega⟩
  · simp only [List.cons.injEq, and_true] at hcs
    refine ⟨some a, len, cap, hcs, ⟨by unfold maxLen at hm; omega, hl, fun h => by cases h⟩, fun h0 => ?_⟩
    have hlm : len ≤ m := by rw [hmm]; split <;> omega
    obtain ⟨cs0, hc0, -⟩ := hi 0 (by omega)
    obtain ⟨-, hcl0, hat0⟩ := World.cells?_some hc0
    have h00 := hat0 0 hC
    have ea : (a.add (0 * P.cellsOf e)).add 0 = a := by simp [Addr.add]
    rw [ea, List.getElem?_eq_getElem (by omega)] at h00
    have hsp := cell_spot h00
    refine ⟨a.block, a.off, congrArg some hsp, fun i hil => ?_⟩
    obtain ⟨cs, hc, ht'⟩ := hi i (by omega)
    obtain ⟨-, hcl, hat⟩ := World.cells?_some hc
    refine ⟨cs, n', _, hcl, fun j hj => ?_, ht'⟩
    rw [← hat j hj, hsp, addr_add, addr_add]
end

set_option maxRecDepth 100000 in
/-- Parts that are read. -/
theorem parts_within {H : Type} {enc : TypeId × Value → H} {W : World} {n : Nat} {v : Value} {x : DataW H × List MemPlace} (hf : DataW.trod enc Tryz.prog W 0 (fun _ => true) true n 24 [v] = some x) :
    ∃ (l : List PartT) (ao : Option Addr) (cap : Nat), v = .slice ao l.length cap ∧ l.length ≤ 9223372036854775807 ∧ PartsIn W ao l ∧ ∀ p ∈ l, PartOk p := by
  have hC : Tryz.prog.cellsOf 143 = 3 := by kernel_rfl
  obtain ⟨fs, hs, h1, h6, hty⟩ := part_hone
  obtain ⟨ao, len, cap, hv, hl, hel⟩ := slice_within Tryz.underlying24 (Nat.lt_of_lt_of_eq (by decide : 0 < 3) hC.symm) hf
  by_cases h0 : 0 < len
  · obtain ⟨b, off, rfl, hi⟩ := hel h0
    rw [hC] at hi
    have : Inhabited PartT := ⟨⟨0, 0, []⟩⟩
    obtain ⟨C, hX⟩ := choose_lt (α := PartT) (p := fun i z => (W.cell? ⟨b, off + i * 3, none⟩ = some (.int .u8 (z.kind : Nat)) ∧ W.cell? ⟨b, off + i * 3 + 1, none⟩ = some (.int .u16 (z.n : Nat)) ∧ W.cell? ⟨b, off + i * 3 + 2, none⟩ = some (.string ⟨z.s.toArray⟩)) ∧ PartOk z) (n := len) (fun i hil => by
      obtain ⟨cs, n, x, hcl, hcells, ht⟩ := hi i hil
      have fld : ∀ (j : Nat) (t : TypeId), (#[5, 23, 9] : Array TypeId)[j]? = some t → ∃ (v : Value) (m : Nat) (y : DataW H × List MemPlace), cs[j]? = some v ∧ DataW.trod enc Tryz.prog W 0 (fun _ => true) true m t [v] = some y := by
        intro j t hj
        rw [← hty, Array.getElem?_map] at hj
        obtain ⟨f, hf, rfl⟩ := Option.map_eq_some_iff.1 hj
        exact struct_field hs h1 (hC.trans h6.symm) ht hf
      obtain ⟨v0, m0, y0, c0, t0⟩ := fld 0 _ rfl
      obtain ⟨v1, m1, y1, c1, t1⟩ := fld 1 _ rfl
      obtain ⟨v2, m2, y2, c2, t2⟩ := fld 2 _ rfl
      obtain ⟨K, rfl, hK⟩ := cell_u8 Tryz.underlying5 t0
      obtain ⟨N, rfl, hN⟩ := cell_u16 Tryz.underlying23 t1
      obtain ⟨s, rfl, hs5⟩ := cell_string Tryz.underlying9 t2
      refine ⟨⟨K, N, s.data.toList⟩, ⟨?_, ?_, ?_⟩, hK, hN, hs5⟩
      · have := hcells 0 (by omega); rw [Nat.add_zero] at this; exact this.trans c0
      · exact (hcells 1 (by omega)).trans c1
      · exact (hcells 2 (by omega)).trans c2)
    refine ⟨(List.range len).map C, _, cap, by rw [hv]; simp, by simp; omega, fun _ => ⟨b, off, rfl, fun i hil => ?_⟩, fun z hz => ?_⟩
    · have hil' : i < len := by simpa using hil
      simp only [List.getElem_map, List.getElem_range]
      exact (hX i hil').1
    · simp only [List.mem_map, List.mem_range] at hz
      obtain ⟨i, hi', rfl⟩ := hz
      exact (hX i hi').2
  · refine ⟨[], ao, cap, ?_, by simp, fun h => absurd h (by simp), fun v hv => by cases hv⟩
    rw [hv]
    have : len = 0 := by omega
    rw [this]
    rfl

/-- Lists of parts, as they lie in memory. -/
def ListsIn (w : World) (a : Option Addr) (l : List (List PartT)) : Prop :=
  0 < l.length → ∃ b off, a = some ⟨b, off, none⟩ ∧ ∀ i (h : i < l.length), ∃ ao cap, w.cell? ⟨b, off + i, none⟩ = some (.slice ao l[i].length cap) ∧ PartsIn w ao l[i] ∧ l[i].length ≤ 9223372036854775807 ∧ ∀ p ∈ l[i], PartOk p
def WordsIn (w : World) (a : Option Addr) (l : List Nat) : Prop :=
  0 < l.length → ∃ b off, a = some ⟨b, off, none⟩ ∧ ∀ i (h : i < l.length), w.cell? ⟨b, off + i, none⟩ = some (.int .u16 (l[i] : Nat)) ∧ l[i] < 65536
theorem ListsIn.mods {w w' : World} {a : Option Addr} {l : List (List PartT)} (h : ListsIn w a l) (hM : Mods [] w w') : ListsIn w' a l := fun h0 => by
  obtain ⟨b, off, e, hc⟩ := h h0
  refine ⟨b, off, e, fun i hi => ?_⟩
  obtain ⟨ao, cap, h1, h2, h3⟩ := hc i hi
  exact ⟨ao, cap, hM.cell h1 (by simp), h2.mods hM, h3⟩
theorem WordsIn.mods {w w' : World} {a : Option Addr} {l : List Nat} (h : WordsIn w a l) (hM : Mods [] w w') : WordsIn w' a l := fun h0 => by
  obtain ⟨b, off, e, hc⟩ := h h0
  exact ⟨b, off, e, fun i hi => ⟨hM.cell (hc i hi).1 (by simp), (hc i hi).2⟩⟩

theorem lists_within {H : Type} {enc : TypeId × Value → H} {W : World} {n : Nat} {v : Value} {x : DataW H × List MemPlace} (hf : DataW.trod enc Tryz.prog W 0 (fun _ => true) true n 22 [v] = some x) :
    ∃ (l : List (List PartT)) (ao : Option Addr) (cap : Nat), v = .slice ao l.length cap ∧ l.length ≤ 9223372036854775807 ∧ ListsIn W ao l := by
  have hC : Tryz.prog.cellsOf 24 = 1 := by kernel_rfl
  obtain ⟨ao, len, cap, hv, hl, hel⟩ := slice_within Tryz.underlying22 (Nat.lt_of_lt_of_eq (by decide : 0 < 1) hC.symm) hf
  by_cases h0 : 0 < len
  · obtain ⟨b, off, rfl, hi⟩ := hel h0
    rw [hC] at hi
    obtain ⟨C, hX⟩ := choose_lt (α := List PartT) (p := fun i l => ∃ ao cap, W.cell? ⟨b, off + i, none⟩ = some (.slice ao l.length cap) ∧ PartsIn W ao l ∧ l.length ≤ 9223372036854775807 ∧ ∀ p ∈ l, PartOk p) (n := len) (fun i hil => by
      obtain ⟨cs, n, x, hcl, hcells, htr⟩ := hi i hil
      have h1 := hcells 0 (by omega)
      obtain ⟨c, rfl⟩ : ∃ c, cs = [c] := by
        rcases cs with _ | ⟨c, _ | _⟩
        · simp at hcl
        · exact ⟨c, rfl⟩
        · simp at hcl
      obtain ⟨l, vo, vc, rfl, q0, q1, q2⟩ := parts_within htr
      rw [Nat.mul_one, Nat.add_zero] at h1
      exact ⟨l, vo, vc, h1, q1, q0, q2⟩)
    refine ⟨(List.range len).map C, _, cap, by rw [hv]; simp, by simp; omega, fun _ => ⟨b, off, rfl, fun i hil => ?_⟩⟩
    have hil' : i < len := by simpa using hil
    simp only [List.getElem_map, List.getElem_range]
    exact hX i hil'
  · refine ⟨[], ao, cap, ?_, by simp, fun h => absurd h (by simp)⟩
    rw [hv]
    have : len = 0 := by omega
    rw [this]
    rfl
theorem words_within {H : Type} {enc : TypeId × Value → H} {W : World} {n : Nat} {v : Value} {x : DataW H × List MemPlace} (hf : DataW.trod enc Tryz.prog W 0 (fun _ => true) true n 25 [v] = some x) :
    ∃ (l : List Nat) (ao : Option Addr) (cap : Nat), v = .slice ao l.length cap ∧ l.length ≤ 9223372036854775807 ∧ WordsIn W ao l := by
  have hC : Tryz.prog.cellsOf 23 = 1 := by kernel_rfl
  obtain ⟨ao, len, cap, hv, hl, hel⟩ := slice_within Tryz.underlying25 (Nat.lt_of_lt_of_eq (by decide : 0 < 1) hC.symm) hf
  by_cases h0 : 0 < len
  · obtain ⟨b, off, rfl, hi⟩ := hel h0
    rw [hC] at hi
    obtain ⟨C, hX⟩ := choose_lt (α := Nat) (p := fun i k => W.cell? ⟨b, off + i, none⟩ = some (.int .u16 (k : Nat)) ∧ k < 65536) (n := len) (fun i hil => by
      obtain ⟨cs, n, x, hcl, hcells, htr⟩ := hi i hil
      have h1 := hcells 0 (by omega)
      obtain ⟨c, rfl⟩ : ∃ c, cs = [c] := by
        rcases cs with _ | ⟨c, _ | _⟩
        · simp at hcl
        · exact ⟨c, rfl⟩
        · simp at hcl
      obtain ⟨k, rfl, hk⟩ := cell_u16 Tryz.underlying23 htr
      rw [Nat.mul_one, Nat.add_zero] at h1
      exact ⟨k, h1, hk⟩)
    refine ⟨(List.range len).map C, _, cap, by rw [hv]; simp, by simp; omega, fun _ => ⟨b, off, rfl, fun i hil => ?_⟩⟩
    have hil' : i < len := by simpa using hil
    simp only [List.getElem_map, List.getElem_range]
    exact hX i hil'
  · refine ⟨[], ao, cap, ?_, by simp, fun h => absurd h (by simp)⟩
    rw [hv]
    have : len = 0 := by omega
    rw [this]
    rfl

/-- A query by its parts. -/
structure AskT where
  items : List (List PartT)
  agg : Nat
  star : Bool
  join : Nat
  on : List PartT
  whr : List PartT
  hasWhere : Bool
  group : List Nat
  order : List Nat
  limit : Nat
  offset : Nat
/-- As it lies in memory. -/
def AskIn (w : World) (v : Value) (a : AskT) : Prop :=
  ∃ ia ic oa oc wa wc ga gc ra rc, v = .agg #[.slice ia a.items.length ic, .int .u16 (a.agg : Nat), .bool a.star, .int .u8 (a.join : Nat), .slice oa a.on.length oc, .slice wa a.whr.length wc, .bool a.hasWhere, .slice ga a.group.length gc, .slice ra a.order.length rc, .int .u8 (a.limit : Nat), .int .u8 (a.offset : Nat)] ∧
    ListsIn w ia a.items ∧ (PartsIn w oa a.on ∧ ∀ p ∈ a.on, PartOk p) ∧ (PartsIn w wa a.whr ∧ ∀ p ∈ a.whr, PartOk p) ∧ WordsIn w ga a.group ∧ WordsIn w ra a.order ∧
    (a.items.length ≤ 9223372036854775807 ∧ a.on.length ≤ 9223372036854775807 ∧ a.whr.length ≤ 9223372036854775807 ∧ a.group.length ≤ 9223372036854775807 ∧ a.order.length ≤ 9223372036854775807) ∧ a.agg < 65536 ∧ a.join < 256 ∧ a.limit < 256 ∧ a.offset < 256
theorem AskIn.later {w w' : World} {v : Value} {a : AskT} (h : AskIn w v a) (hM : Mods [] w w') : AskIn w' v a := by
  obtain ⟨ia, ic, oa, oc, wa, wc, ga, gc, ra, rc, h1, h2, h3, h4, h5, h6, h7⟩ := h
  exact ⟨ia, ic, oa, oc, wa, wc, ga, gc, ra, rc, h1, h2.mods hM, ⟨h3.1.mods hM, h3.2⟩, ⟨h4.1.mods hM, h4.2⟩, h5.mods hM, h6.mods hM, h7⟩

theorem ask_hone : ∃ fs : Array Field, Tryz.prog.underlying 27 = some (.struct fs) ∧ oneCellFields Tryz.prog fs = true ∧ fs.size = 11 ∧ fs.map (·.type) = #[22, 23, 4, 5, 24, 24, 4, 25, 25, 5, 5] :=
  ⟨_, Tryz.underlying27, by kernel_rfl, by kernel_rfl, by kernel_rfl⟩

set_option maxRecDepth 100000 in
theorem ask_arg {H : Type} {enc : TypeId × Value → H} {W : World} {v : Value} {d : DataW H} {p : List MemPlace} (hval : Value.okWide Tryz.prog W .any 0 27 v) (h : DataW.Trod enc Tryz.prog W 0 (fun _ => true) true 27 v d p) :
    ∃ a : AskT, AskIn W v a := by
  obtain ⟨fs, hs, h1, h6, hty⟩ := ask_hone
  have hC : Tryz.prog.cellsOf 27 = 11 := by kernel_rfl
  obtain ⟨cs, rfl, hcs⟩ := okWide_struct hs hval
  rw [hC] at hcs
  obtain ⟨fuel, hf⟩ := h
  have fld : ∀ (j : Nat) (t : TypeId), (#[22, 23, 4, 5, 24, 24, 4, 25, 25, 5, 5] : Array TypeId)[j]? = some t → ∃ (v : Value) (m : Nat) (y : DataW H × List MemPlace), (Value.agg cs).cells.toList[j]? = some v ∧ DataW.trod enc Tryz.prog W 0 (fun _ => true) true m t [v] = some y := by
    intro j t hj
    rw [← hty, Array.getElem?_map] at hj
    obtain ⟨f, hf2, rfl⟩ := Option.map_eq_some_iff.1 hj
    exact struct_field hs h1 (hC.trans h6.symm) hf hf2
  obtain ⟨u0, m0, y0, c0, t0⟩ := fld 0 _ rfl
  obtain ⟨u1, m1, y1, c1, t1⟩ := fld 1 _ rfl
  obtain ⟨u2, m2, y2, c2, t2⟩ := fld 2 _ rfl
  obtain ⟨u3, m3, y3, c3, t3⟩ := fld 3 _ rfl
  obtain ⟨u4, m4, y4, c4, t4⟩ := fld 4 _ rfl
  obtain ⟨u5, m5, y5, c5, t5⟩ := fld 5 _ rfl
  obtain ⟨u6, m6, y6, c6, t6⟩ := fld 6 _ rfl
  obtain ⟨u7, m7, y7, c7, t7⟩ := fld 7 _ rfl
  obtain ⟨u8, m8, y8, c8, t8⟩ := fld 8 _ rfl
  obtain ⟨u9, m9, y9, c9, t9⟩ := fld 9 _ rfl
  obtain ⟨u10, m10, y10, c10, t10⟩ := fld 10 _ rfl
  obtain ⟨li, ia, ic, rfl, li1, li2⟩ := lists_within t0
  obtain ⟨ag, rfl, hag⟩ := cell_u16 Tryz.underlying23 t1
  obtain ⟨st, rfl⟩ := cell_bool Tryz.underlying4 t2
  obtain ⟨jo, rfl, hjo⟩ := cell_u8 Tryz.underlying5 t3
  obtain ⟨lo, oa, oc, rfl, lo1, lo2, lo3⟩ := parts_within t4
  obtain ⟨lw, wa, wc, rfl, lw1, lw2, lw3⟩ := parts_within t5
  obtain ⟨hw, rfl⟩ := cell_bool Tryz.underlying4 t6
  obtain ⟨lg, ga, gc, rfl, lg1, lg2⟩ := words_within t7
  obtain ⟨lr, ra, rc, rfl, lr1, lr2⟩ := words_within t8
  obtain ⟨lm, rfl, hlm⟩ := cell_u8 Tryz.underlying5 t9
  obtain ⟨lf, rfl, hlf⟩ := cell_u8 Tryz.underlying5 t10
  refine ⟨⟨li, ag, st, jo, lo, lw, hw, lg, lr, lm, lf⟩, ia, ic, oa, oc, wa, wc, ga, gc, ra, rc, ?_, li2, ⟨lo2, lo3⟩, ⟨lw2, lw3⟩, lg2, lr2, ⟨li1, lo1, lw1, lg1, lr1⟩, hag, hjo, hlm, hlf⟩
  congr 1
  apply Array.ext_getElem?
  intro i
  have hcl : cs.size = 11 := hcs
  rcases Nat.lt_or_ge i 11 with hi | hi
  · have h11 : i = 0 ∨ i = 1 ∨ i = 2 ∨ i = 3 ∨ i = 4 ∨ i = 5 ∨ i = 6 ∨ i = 7 ∨ i = 8 ∨ i = 9 ∨ i = 10 := by omega
    have key : ∀ j : Nat, cs[j]? = (Value.agg cs).cells.toList[j]? := fun j => by show cs[j]? = cs.toList[j]?; exact (Array.getElem?_toList).symm
    rw [key]
    rcases h11 with rfl | rfl | rfl | rfl | rfl | rfl | rfl | rfl | rfl | rfl | rfl
    · exact c0
    · exact c1
    · exact c2
    · exact c3
    · exact c4
    · exact c5
    · exact c6
    · exact c7
    · exact c8
    · exact c9
    · exact c10
  · rw [Array.getElem?_eq_none (by omega), Array.getElem?_eq_none (by simpa using hi)]
end Go.Proofs.YtpokbepenacnpaaGreatDoor
