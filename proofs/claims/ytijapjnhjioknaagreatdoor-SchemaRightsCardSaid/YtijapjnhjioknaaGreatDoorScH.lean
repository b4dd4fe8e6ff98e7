/-
  schema's plain law: which names were met, table by table; when tables are right. And how columns, tables, values and rows lie in memory. No condition.
-/
import Derived.Test.YtijapjnhjioknaaGreatDoorScG
namespace Go.Proofs.YtijapjnhjioknaaGreatDoor
open Go.RowKit
set_option linter.unusedVariables false

/-- A column: its name, its type's kind and scale, whether it may be nothing. -/
structure Col where
  name : ByteArray
  k : Int
  s : Int
  null : Bool
def Col.nm (c : Col) : List UInt8 := c.name.data.toList
def Col.good (c : Col) : Bool := nameL c.nm && tyRight c.k c.s
/-- A table: its name, its columns. -/
structure Tbl where
  name : ByteArray
  cols : List Col
def Tbl.nm (t : Tbl) : List UInt8 := t.name.data.toList

abbrev Met := List (Int × List UInt8)

/-- The places that were met when a table's columns are noted, if they may be. -/
def colsK (k : Int) : Met → List Col → Option Met
  | met, [] => some met
  | met, c :: cs => if (k, c.nm) ∈ met then none else if nameL c.nm = true then (if tyRight c.k c.s = true then colsK k ((k, c.nm) :: met) cs else none) else none
def tblK (k : Int) (met : Met) (t : Tbl) : Option Met :=
  match colsK k met t.cols with
  | none => none
  | some m => if (-1, t.nm) ∈ m then none else if nameL t.nm = true ∧ 1 ≤ t.cols.length ∧ t.cols.length ≤ 16 then some ((-1, t.nm) :: m) else none
def tblsK : Int → Met → List Tbl → Option Met
  | _, met, [] => some met
  | k, met, t :: ts => if 16 < t.cols.length then none else match tblK k met t with
    | none => none
    | some m => tblsK (k + 1) m ts

/-- May a table be? -/
def tblOK (t : Tbl) : Bool := nameL t.nm && (decide (1 ≤ t.cols.length) && (decide (t.cols.length ≤ 16) && (t.cols.all Col.good && decide (t.cols.map Col.nm).Nodup)))
/-- May tables be? -/
def tblsOK (l : List Tbl) : Bool := l.all tblOK && (decide (l.map Tbl.nm).Nodup && decide (l.length ≤ 16))

theorem colsK_some (k : Int) (cs : List Col) : ∀ (met m : Met), colsK k met cs = some m ↔ (∀ c ∈ cs, c.good = true) ∧ (cs.map Col.nm).Nodup ∧ (∀ c ∈ cs, (k, c.nm) ∉ met) ∧ m = (cs.map fun c => (k, c.nm)).reverse ++ met := by
  induction cs with
  | nil => intro met m; simp [colsK]; exact eq_comm
  | cons c cs ih =>
    intro met m
    unfold colsK
    by_cases h1 : (k, c.nm) ∈ met
    · rw [if_pos h1]
      constructor
      · intro h; cases h
      · intro h; exact absurd h1 (h.2.2.1 c List.mem_cons_self)
    rw [if_neg h1]
    by_cases h2 : nameL c.nm = true
    · rw [if_pos h2]
      by_cases h3 : tyRight c.k c.s = true
      · rw [if_pos h3, ih]
        have hg : c.good = true := by simp [Col.good, h2, h3]
        constructor
        · rintro ⟨a1, a2, a3, a4⟩
          refine ⟨fun x hx => ?_, ?_, fun x hx => ?_, ?_⟩
          · rcases List.mem_cons.1 hx with rfl | hx
            · exact hg
            · exact a1 x hx
          · rw [List.map_cons, List.nodup_cons]
            refine ⟨fun hm => ?_, a2⟩
            obtain ⟨x, hx, hxe⟩ := List.mem_map.1 hm
            exact a3 x hx (by rw [hxe]; exact List.mem_cons_self)
          · rcases List.mem_cons.1 hx with rfl | hx
            · exact h1
            · exact fun hm => a3 x hx (List.mem_cons_of_mem _ hm)
          · rw [a4]; simp
        · rintro ⟨a1, a2, a3, a4⟩
          rw [List.map_cons, List.nodup_cons] at a2
          refine ⟨fun x hx => a1 x (List.mem_cons_of_mem _ hx), a2.2, fun x hx hm => ?_, by rw [a4]; simp⟩
          rcases List.mem_cons.1 hm with h | h
          · have : x.nm = c.nm := by simpa using h
            exact a2.1 (List.mem_map.2 ⟨x, hx, this⟩)
          · exact a3 x (List.mem_cons_of_mem _ hx) h
      · rw [if_neg h3]
        constructor
        · intro h; cases h
        · intro h
          have := h.1 c List.mem_cons_self
          simp [Col.good, h3] at this
    · rw [if_neg h2]
      constructor
      · intro h; cases h
      · intro h
        have := h.1 c List.mem_cons_self
        simp [Col.good, h2] at this

theorem tblK_some {k : Int} (hk : 0 ≤ k) {met : Met} (hm : ∀ p ∈ met, p.1 < k) (t : Tbl) (m : Met) : tblK k met t = some m ↔ tblOK t = true ∧ (-1, t.nm) ∉ met ∧ m = (-1, t.nm) :: ((t.cols.map fun c => (k, c.nm)).reverse ++ met) := by
  unfold tblK
  cases hc : colsK k met t.cols with
  | none =>
    constructor
    · intro h; cases h
    · rintro ⟨h1, h2, h3⟩
      simp only [tblOK, Bool.and_eq_true, decide_eq_true_eq, List.all_eq_true] at h1
      have := (colsK_some k t.cols met _).2 ⟨h1.2.2.2.1, h1.2.2.2.2, fun c hc hx => by have := hm _ hx; simp at this, rfl⟩
      rw [hc] at this; cases this
  | some m0 =>
    obtain ⟨a1, a2, a3, a4⟩ := (colsK_some k t.cols met m0).1 hc
    have hmem : (-1, t.nm) ∈ m0 ↔ (-1, t.nm) ∈ met := by
      rw [a4, List.mem_append]
      constructor
      · rintro (h | h)
        · rw [List.mem_reverse, List.mem_map] at h
          obtain ⟨c, -, hc⟩ := h
          have := congrArg Prod.fst hc
          simp at this; omega
        · exact h
      · exact .inr
    have hok : tblOK t = true ↔ (nameL t.nm = true ∧ 1 ≤ t.cols.length ∧ t.cols.length ≤ 16) := by
      simp only [tblOK, Bool.and_eq_true, decide_eq_true_eq, List.all_eq_true]
      exact ⟨fun h => ⟨h.1, h.2.1, h.2.2.1⟩, fun h => ⟨h.1, h.2.1, h.2.2, a1, a2⟩⟩
    rw [hok]
    simp only
    by_cases h1 : (-1, t.nm) ∈ m0
    · rw [if_pos h1]
      constructor
      · intro h; cases h
      · intro h; exact absurd (hmem.1 h1) h.2.1
    · rw [if_neg h1]
      by_cases h2 : nameL t.nm = true ∧ 1 ≤ t.cols.length ∧ t.cols.length ≤ 16
      · rw [if_pos h2, Option.some.injEq]
        constructor
        · intro h
          exact ⟨h2, fun hx => h1 (hmem.2 hx), by rw [← h, a4]⟩
        · intro h
          rw [h.2.2, a4]
      · rw [if_neg h2]
        constructor
        · intro h; cases h
        · intro h; exact absurd h.1 h2

theorem tblsK_some (ts : List Tbl) : ∀ {k : Int} (hk : 0 ≤ k) {met : Met} (hm : ∀ p ∈ met, p.1 < k), (tblsK k met ts).isSome = true ↔ (∀ t ∈ ts, tblOK t = true) ∧ (ts.map Tbl.nm).Nodup ∧ (∀ t ∈ ts, (-1, t.nm) ∉ met) := by
  induction ts with
  | nil => intro k hk met hm; simp [tblsK]
  | cons t ts ih =>
    intro k hk met hm
    unfold tblsK
    by_cases h16 : 16 < t.cols.length
    · rw [if_pos h16]
      constructor
      · intro h; cases h
      · intro h
        have := h.1 t List.mem_cons_self
        simp only [tblOK, Bool.and_eq_true, decide_eq_true_eq, List.all_eq_true] at this
        omega
    rw [if_neg h16]
    cases ht : tblK k met t with
    | none =>
      simp only [Option.isSome_none]
      constructor
      · intro h; cases h
      · intro h
        have := (tblK_some hk hm t _).2 ⟨h.1 t List.mem_cons_self, h.2.2 t List.mem_cons_self, rfl⟩
        rw [ht] at this; cases this
    | some m =>
      obtain ⟨b1, b2, b3⟩ := (tblK_some hk hm t m).1 ht
      have hm' : ∀ p ∈ m, p.1 < k + 1 := by
        intro p hp
        rw [b3] at hp
        rcases List.mem_cons.1 hp with rfl | hp
        · simp; omega
        · rcases List.mem_append.1 hp with hp | hp
          · rw [List.mem_reverse, List.mem_map] at hp
            obtain ⟨c, -, rfl⟩ := hp
            simp; omega
          · have := hm p hp; omega
      have hmem : ∀ x : List UInt8, (-1, x) ∈ m ↔ x = t.nm ∨ (-1, x) ∈ met := by
        intro x
        rw [b3, List.mem_cons, List.mem_append]
        constructor
        · rintro (h | h | h)
          · left; simpa using h
          · rw [List.mem_reverse, List.mem_map] at h
            obtain ⟨c, -, hc⟩ := h
            have := congrArg Prod.fst hc
            simp at this; omega
          · exact .inr h
        · rintro (h | h)
          · left; rw [h]
          · exact .inr (.inr h)
      simp only
      rw [ih (by omega) hm']
      constructor
      · rintro ⟨a1, a2, a3⟩
        refine ⟨fun x hx => ?_, ?_, fun x hx => ?_⟩
        · rcases List.mem_cons.1 hx with rfl | hx
          · exact b1
          · exact a1 x hx
        · rw [List.map_cons, List.nodup_cons]
          refine ⟨fun hx => ?_, a2⟩
          obtain ⟨x, hx, hxe⟩ := List.mem_map.1 hx
          exact a3 x hx ((hmem x.nm).2 (.inl hxe))
        · rcases List.mem_cons.1 hx with rfl | hx
          · exact b2
          · exact fun h => a3 x hx ((hmem x.nm).2 (.inr h))
      · rintro ⟨a1, a2, a3⟩
        rw [List.map_cons, List.nodup_cons] at a2
        refine ⟨fun x hx => a1 x (List.mem_cons_of_mem _ hx), a2.2, fun x hx h => ?_⟩
        rcases (hmem x.nm).1 h with h | h
        · exact a2.1 (List.mem_map.2 ⟨x, hx, h⟩)
        · exact a3 x (List.mem_cons_of_mem _ hx) h

theorem tblsOK_eq (l : List Tbl) : tblsOK l = ((tblsK 0 [] l).isSome && decide (l.length ≤ 16)) := by
  have h := tblsK_some l (k := 0) (by omega) (met := []) (by simp)
  rw [Bool.eq_iff_iff]
  simp only [tblsOK, Bool.and_eq_true, decide_eq_true_eq, List.all_eq_true, h]
  constructor
  · rintro ⟨h1, h2, h3⟩; exact ⟨⟨h1, h2, by simp⟩, h3⟩
  · rintro ⟨⟨h1, h2, -⟩, h3⟩; exact ⟨h1, h2, h3⟩
theorem tblsOK_one (t : Tbl) : tblsOK [t] = tblOK t := by simp [tblsOK]

/-! ### Memory -/

def Col.ok (c : Col) : Prop := ((-9223372036854775808 ≤ c.k ∧ c.k ≤ 9223372036854775807) ∧ (-9223372036854775808 ≤ c.s ∧ c.s ≤ 9223372036854775807)) ∧ c.name.size ≤ 9223372036854775807
def Tbl.ok (t : Tbl) : Prop := t.name.size ≤ 9223372036854775807 ∧ t.cols.length ≤ 9223372036854775807 ∧ ∀ c ∈ t.cols, c.ok

def colC (c : Col) : List Value := [.string c.name, .int .i64 c.k, .int .i64 c.s, .bool c.null]
def ColsIn (w : World) (ao : Option Addr) (cs : List Col) (L : List Nat) : Prop :=
  cs ≠ [] → ∃ b off, ao = some ⟨b, off, none⟩ ∧ b ∉ L ∧ ∀ i (h : i < cs.length), w.cell? ⟨b, off + i * 4, none⟩ = some (.string cs[i].name) ∧ w.cell? ⟨b, off + i * 4 + 1, none⟩ = some (.int .i64 cs[i].k) ∧ w.cell? ⟨b, off + i * 4 + 2, none⟩ = some (.int .i64 cs[i].s) ∧ w.cell? ⟨b, off + i * 4 + 3, none⟩ = some (.bool cs[i].null)
def TblsIn (w : World) (ao : Option Addr) (ts : List Tbl) (L : List Nat) : Prop :=
  ts ≠ [] → ∃ b off, ao = some ⟨b, off, none⟩ ∧ b ∉ L ∧ ∀ i (h : i < ts.length), w.cell? ⟨b, off + i * 2, none⟩ = some (.string ts[i].name) ∧ ∃ co c, w.cell? ⟨b, off + i * 2 + 1, none⟩ = some (.slice co ts[i].cols.length c) ∧ ColsIn w co ts[i].cols L

theorem ColsIn.mods {w w' : World} {ao : Option Addr} {cs : List Col} {L : List Nat} (h : ColsIn w ao cs L) (hM : Mods L w w') : ColsIn w' ao cs L := by
  intro h0
  obtain ⟨tb, off, h1, h2, h3⟩ := h h0
  exact ⟨tb, off, h1, h2, fun i hi => ⟨hM.cell (h3 i hi).1 h2, hM.cell (h3 i hi).2.1 h2, hM.cell (h3 i hi).2.2.1 h2, hM.cell (h3 i hi).2.2.2 h2⟩⟩
theorem TblsIn.mods {w w' : World} {ao : Option Addr} {ts : List Tbl} {L : List Nat} (h : TblsIn w ao ts L) (hM : Mods L w w') : TblsIn w' ao ts L := by
  intro h0
  obtain ⟨tb, off, h1, h2, h3⟩ := h h0
  refine ⟨tb, off, h1, h2, fun i hi => ?_⟩
  obtain ⟨q1, co, c, q2, q3⟩ := h3 i hi
  exact ⟨hM.cell q1 h2, co, c, hM.cell q2 h2, q3.mods hM⟩
theorem ColsIn.apart {w : World} {ao : Option Addr} {cs : List Col} (h : ColsIn w ao cs []) {L : List Nat} (hL : ∀ k ∈ L, w.heap.size ≤ k) : ColsIn w ao cs L := by
  intro h0
  obtain ⟨tb, off, h1, h2, h3⟩ := h h0
  refine ⟨tb, off, h1, fun hm => ?_, h3⟩
  have h4 : tb < w.heap.size := lt_of_cell (h3 0 (List.length_pos_iff.2 h0)).1
  have := hL tb hm
  omega
theorem TblsIn.apart {w : World} {ao : Option Addr} {ts : List Tbl} (h : TblsIn w ao ts []) {L : List Nat} (hL : ∀ k ∈ L, w.heap.size ≤ k) : TblsIn w ao ts L := by
  intro h0
  obtain ⟨tb, off, h1, h2, h3⟩ := h h0
  refine ⟨tb, off, h1, fun hm => ?_, fun i hi => ?_⟩
  · have h4 : tb < w.heap.size := lt_of_cell (h3 0 (List.length_pos_iff.2 h0)).1
    have := hL tb hm
    omega
  · obtain ⟨q1, co, c, q2, q3⟩ := h3 i hi
    exact ⟨q1, co, c, q2, q3.apart hL⟩

/-- A value: whether it is nothing, its number, its text. -/
structure V where
  z : Bool
  n : Int
  s : ByteArray
def V.ok (v : V) : Prop := (-9223372036854775808 ≤ v.n ∧ v.n ≤ 9223372036854775807) ∧ v.s.size ≤ 9223372036854775807
def ValsIn (w : World) (ao : Option Addr) (vs : List V) (L : List Nat) : Prop :=
  vs ≠ [] → ∃ tb off, ao = some ⟨tb, off, none⟩ ∧ tb ∉ L ∧ ∀ i (h : i < vs.length), w.cell? ⟨tb, off + i * 3, none⟩ = some (.bool vs[i].z) ∧ w.cell? ⟨tb, off + i * 3 + 1, none⟩ = some (.int .i64 vs[i].n) ∧ w.cell? ⟨tb, off + i * 3 + 2, none⟩ = some (.string vs[i].s)
def RowsIn (w : World) (ao : Option Addr) (rs : List (List V)) (L : List Nat) : Prop :=
  rs ≠ [] → ∃ rb off, ao = some ⟨rb, off, none⟩ ∧ rb ∉ L ∧ ∀ i (h : i < rs.length), ∃ vo c, rs[i].length ≤ c ∧ w.cell? ⟨rb, off + i, none⟩ = some (.slice vo rs[i].length c) ∧ ValsIn w vo rs[i] L
theorem ValsIn.mods {w w' : World} {ao : Option Addr} {vs : List V} {L : List Nat} (h : ValsIn w ao vs L) (hM : Mods L w w') : ValsIn w' ao vs L := by
  intro h0
  obtain ⟨tb, off, h1, h2, h3⟩ := h h0
  exact ⟨tb, off, h1, h2, fun i hi => ⟨hM.cell (h3 i hi).1 h2, hM.cell (h3 i hi).2.1 h2, hM.cell (h3 i hi).2.2 h2⟩⟩
theorem RowsIn.mods {w w' : World} {ao : Option Addr} {rs : List (List V)} {L : List Nat} (h : RowsIn w ao rs L) (hM : Mods L w w') : RowsIn w' ao rs L := by
  intro h0
  obtain ⟨rb, off, h1, h2, h3⟩ := h h0
  refine ⟨rb, off, h1, h2, fun i hi => ?_⟩
  obtain ⟨vo, c, hl, q1, q2⟩ := h3 i hi
  exact ⟨vo, c, hl, hM.cell q1 h2, q2.mods hM⟩
theorem ValsIn.apart {w : World} {ao : Option Addr} {vs : List V} (h : ValsIn w ao vs []) {L : List Nat} (hL : ∀ k ∈ L, w.heap.size ≤ k) : ValsIn w ao vs L := by
  intro h0
  obtain ⟨tb, off, h1, h2, h3⟩ := h h0
  refine ⟨tb, off, h1, fun hm => ?_, h3⟩
  have h4 : tb < w.heap.size := lt_of_cell (h3 0 (List.length_pos_iff.2 h0)).1
  have := hL tb hm
  omega
end Go.Proofs.YtijapjnhjioknaaGreatDoor
