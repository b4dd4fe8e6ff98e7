/-
  page's writer.row: what a row's bytes are, and what putting it leaves; or that it does not fit. The state while a row is put, and how each call turns it.
-/
import Derived.Test.YtagpnalhilgcpaaPagC
namespace Go.Proofs.Ytagpnalhilgcpaa
open Go.RowKit
set_option linter.unusedVariables false

/-- A value: whether it is nothing, its number, its text. -/
structure V where
  z : Bool
  n : Int
  s : ByteArray

def V.ok (v : V) : Prop := (-9223372036854775808 ≤ v.n ∧ v.n ≤ 9223372036854775807) ∧ v.s.size ≤ 9223372036854775807

/-- The types of a slice, read; it lies in none of the blocks L. -/
def TysIn (w : World) (ao : Option Addr) (ts : List (Int × Int)) (L : List Nat) : Prop :=
  ts ≠ [] → ∃ tb off, ao = some ⟨tb, off, none⟩ ∧ tb ∉ L ∧ ∀ i (h : i < ts.length), w.cell? ⟨tb, off + i * 2, none⟩ = some (.int .i64 ts[i].1) ∧ w.cell? ⟨tb, off + i * 2 + 1, none⟩ = some (.int .i64 ts[i].2)

/-- The values of a row, read; it lies in none of the blocks L. -/
def ValsIn (w : World) (ao : Option Addr) (vs : List V) (L : List Nat) : Prop :=
  vs ≠ [] → ∃ tb off, ao = some ⟨tb, off, none⟩ ∧ tb ∉ L ∧ ∀ i (h : i < vs.length), w.cell? ⟨tb, off + i * 3, none⟩ = some (.bool vs[i].z) ∧ w.cell? ⟨tb, off + i * 3 + 1, none⟩ = some (.int .i64 vs[i].n) ∧ w.cell? ⟨tb, off + i * 3 + 2, none⟩ = some (.string vs[i].s)

theorem TysIn.mods {w w' : World} {ao : Option Addr} {ts : List (Int × Int)} {L : List Nat} (h : TysIn w ao ts L) (hM : Mods L w w') : TysIn w' ao ts L := by
  intro h0
  obtain ⟨tb, off, h1, h2, h3⟩ := h h0
  exact ⟨tb, off, h1, h2, fun i hi => ⟨hM.cell (h3 i hi).1 h2, hM.cell (h3 i hi).2 h2⟩⟩
theorem ValsIn.mods {w w' : World} {ao : Option Addr} {vs : List V} {L : List Nat} (h : ValsIn w ao vs L) (hM : Mods L w w') : ValsIn w' ao vs L := by
  intro h0
  obtain ⟨tb, off, h1, h2, h3⟩ := h h0
  exact ⟨tb, off, h1, h2, fun i hi => ⟨hM.cell (h3 i hi).1 h2, hM.cell (h3 i hi).2.1 h2, hM.cell (h3 i hi).2.2 h2⟩⟩

def eightB (v : Nat) : List UInt8 := (List.range 8).map fun j => byteOf v (0 + j)
theorem eightB_str (v : Nat) : strF (byteOf v) 0 8 = ⟨(eightB v).toArray⟩ := rfl
theorem eightB_len (v : Nat) : (eightB v).length = 8 := rfl

/-- The slots' bytes, and the texts, when one value more is put. -/
def stepS (fr : Nat) (st : List UInt8 × List UInt8) (v : V) : List UInt8 × List UInt8 := (st.1 ++ eightB (slotN (fr + st.2.length) v.n v.s), st.2 ++ v.s.data.toList)
def slotsS (fr : Nat) (H : List UInt8) (vs : List V) : List UInt8 × List UInt8 := vs.foldl (stepS fr) ([], H)

theorem slotsS_take (fr : Nat) (H : List UInt8) (vs : List V) (k : Nat) (hk : k < vs.length) : slotsS fr H (vs.take (k + 1)) = stepS fr (slotsS fr H (vs.take k)) vs[k] := by
  rw [List.take_succ_eq_append_getElem hk, slotsS, List.foldl_append]
  rfl

/-- The first k bits: which of the values are nothing. -/
def nullsF (vs : List V) : Nat → Nat
  | 0 => 0
  | k + 1 => nullsF vs k + (if (vs[k]?.map V.z).getD false = true then 2 ^ k else 0)
theorem nullsF_lt (vs : List V) (k : Nat) : nullsF vs k < 2 ^ k := by
  induction k with
  | zero => simp [nullsF]
  | succ k ih =>
    have : (2 : Nat) ^ (k + 1) = 2 ^ k * 2 := Nat.pow_succ ..
    simp only [nullsF]
    split <;> omega

/-- A row's bytes. -/
def rowB (fr : Nat) (H : List UInt8) (vs : List V) : List UInt8 := eightB (nullsF vs vs.length) ++ (slotsS fr H vs).1

/-- The state while a row is put: the writer (its texts Hk by now), and the slots' builder (in block sb; its bytes Sk by now). Lw: the writer's blocks when the row began, in the world w. -/
def RowSt (w : World) (b fr : Nat) (R Hk : List UInt8) (Lw : List Nat) (sb : Nat) (Sk : List UInt8) (wr : World) : Prop :=
  Mods Lw w wr ∧ ∃ Lr arr v, Wr wr b fr R Hk Lr ∧ (∀ k ∈ Lr, k ∈ Lw ∨ w.heap.size ≤ k) ∧ Bld wr sb 0 101 arr v Sk ∧ arr.size = 2 ∧ (w.heap.size ≤ sb ∧ sb ∉ Lr) ∧ ∀ g, v.ownBlock = some g → w.heap.size ≤ g ∧ g ∉ Lr

section
variable {w wr : World} {b fr : Nat} {R Hk : List UInt8} {Lw : List Nat} {sb : Nat} {Sk : List UInt8}

theorem RowSt.quiet (h : RowSt w b fr R Hk Lw sb Sk wr) {w' : World} (hM : Mods [] wr w') : RowSt w b fr R Hk Lw sb Sk w' := by
  obtain ⟨h0, Lr, arr, v, h1, h2, h3, h4, h5, h6⟩ := h
  exact ⟨h0.trans hM (by simp), Lr, arr, v, h1.mods hM (by simp), h2, h3.mods hM (by simp) (by simp), h4, h5, h6⟩

theorem RowSt.now (h : RowSt w b fr R Hk Lw sb Sk wr) : WrNow w b fr R Hk Lw wr := by
  obtain ⟨h0, Lr, arr, v, h1, h2, h3, h4, h5, h6⟩ := h
  exact ⟨h0, Lr, h1, h2⟩

/-- The slot of a value. -/
theorem rs_slot (h : RowSt w b fr R Hk Lw sb Sk wr) (v : V) (hs : v.s.size ≤ 200) (hlen : fr + Hk.length ≤ 72057594037927935) (hH : Hk.length ≤ 140737488350000) :
    Calls Try.prog 58 #[.pointer (some ⟨b, 0, none⟩), .agg #[.bool v.z, .int .i64 v.n, .string v.s]] wr fun e w' => e = .returned (.int .u64 ((slotN (fr + Hk.length) v.n v.s : Nat) : Int)) ∧ RowSt w b fr R (Hk ++ v.s.data.toList) Lw sb Sk w' := by
  obtain ⟨z, n, s⟩ := v
  by_cases h0 : s.size = 0
  · obtain rfl := str_empty h0
    obtain ⟨q0, Lr, arr, v, h1, h2, h3, h4, h5, h6⟩ := id h
    refine (slot_none h1 z n).mono ?_
    rintro e w' ⟨rfl, hM⟩
    refine ⟨rfl, ?_⟩
    have := h.quiet hM
    show RowSt w b fr R (Hk ++ []) Lw sb Sk w'
    rw [List.append_nil]
    exact this
  · obtain ⟨q0, Lr, arr, v, h1, h2, h3, h4, h5, h6⟩ := h
    refine (slot_some h1 z n s h0 hs hlen hH).mono ?_
    rintro e w' ⟨rfl, hM, L', h7, h8⟩
    have hlt := h3.lt
    have hsz := q0.size
    refine ⟨rfl, q0.trans hM h2, L', arr, v, h7, fun k hk => ?_, h3.mods hM h5.2 (fun g hg => (h6 g hg).2), h4, ⟨h5.1, fun hk => ?_⟩, fun g hg => ⟨(h6 g hg).1, fun hk => ?_⟩⟩
    · rcases h8 k hk with h9 | h9
      · exact h2 k h9
      · exact .inr (by omega)
    · rcases h8 _ hk with h9 | h9
      · exact h5.2 h9
      · omega
    · rcases h8 _ hk with h9 | h9
      · exact (h6 g hg).2 h9
      · have := ownsRow_lt h3.own g (by simp [hg])
        omega

theorem rs_number (h : RowSt w b fr R Hk Lw sb Sk wr) (n : Nat) (hn : n < 18446744073709551616) :
    Calls Try.prog 57 #[.int .u64 n] wr fun e w' => e = .returned (.string ⟨(eightB n).toArray⟩) ∧ RowSt w b fr R Hk Lw sb Sk w' := by
  refine (number_any n hn wr).mono ?_
  rintro e w' ⟨rfl, hM⟩
  exact ⟨rfl, h.quiet hM⟩

/-- Bytes are written to the slots. -/
theorem rs_write (h : RowSt w b fr R Hk Lw sb Sk wr) (l : List UInt8) (hlen : Sk.length + l.length ≤ 140737488355328) :
    Calls Try.prog 56 #[.pointer (some ⟨sb, 0, none⟩), .string ⟨l.toArray⟩] wr fun e w' => e = .returned (.tuple #[.int .i64 l.length, .nilIface]) ∧ RowSt w b fr R Hk Lw sb (Sk ++ l) w' := by
  obtain ⟨q0, Lr, arr, v, h1, h2, h3, h4, h5, h6⟩ := h
  refine (writeString_any lies_own h4 h3 ⟨l.toArray⟩ (by simpa [ByteArray.size] using hlen)).mono ?_
  rintro e w' ⟨rfl, hM, v', hB, hw⟩
  have hd : ∀ k ∈ Lr, k ∉ sb :: v.ownBlock.toList := by
    intro k hk hm
    rcases List.mem_cons.1 hm with rfl | hm
    · exact h5.2 hk
    · exact (h6 k (by simpa using hm)).2 hk
  have hlt := h1.lt
  have hsz := q0.size
  refine ⟨by simp [ByteArray.size], ?_, Lr, _, v', h1.mods hM hd, h2, by simpa using hB, by simpa using h4, h5, fun g hg => ?_⟩
  · refine q0.trans hM fun x hx => ?_
    rcases List.mem_cons.1 hx with rfl | hx
    · exact .inr h5.1
    · exact .inr (h6 x (by simpa using hx)).1
  · rcases hw g hg with h9 | h9
    · exact h6 g h9
    · exact ⟨by omega, fun hk => by have := hlt g hk; omega⟩

/-- The slots' bytes are read. -/
theorem rs_string (h : RowSt w b fr R Hk Lw sb Sk wr) :
    Calls Try.prog 47 #[.pointer (some ⟨sb, 0, none⟩)] wr fun e w' => e = .returned (.string ⟨Sk.toArray⟩) ∧ WrNow w b fr R Hk Lw w' := by
  obtain ⟨q0, Lr, arr, v, h1, h2, h3, h4, h5, h6⟩ := h
  refine (string_any h3).mono ?_
  rintro e w' ⟨rfl, hM⟩
  exact ⟨rfl, q0.trans hM (fun x hx => .inr (h6 x (by simpa using hx)).1), Lr, h1.mods hM (fun k hk hm => (h6 k (by simpa using hm)).2 hk), h2⟩

theorem WrNow.quiet (h : WrNow w b fr R Hk Lw wr) {w' : World} (hM : Mods [] wr w') : WrNow w b fr R Hk Lw w' := by
  obtain ⟨q0, Lr, h1, h2⟩ := h
  exact ⟨q0.trans hM (by simp), Lr, h1.mods hM (by simp), h2⟩

theorem rn_number (h : WrNow w b fr R Hk Lw wr) (n : Nat) (hn : n < 18446744073709551616) :
    Calls Try.prog 57 #[.int .u64 n] wr fun e w' => e = .returned (.string ⟨(eightB n).toArray⟩) ∧ WrNow w b fr R Hk Lw w' := by
  refine (number_any n hn wr).mono ?_
  rintro e w' ⟨rfl, hM⟩
  exact ⟨rfl, h.quiet hM⟩

/-- A row's bytes are written to the rows. -/
theorem rn_rows (h : WrNow w b fr R Hk Lw wr) (s : ByteArray) (hlen : R.length + s.size ≤ 140737488355328) :
    Calls Try.prog 56 #[.pointer (some ⟨b, 0, none⟩), .string s] wr fun e w' => e = .returned (.tuple #[.int .i64 s.size, .nilIface]) ∧ WrNow w b fr (R ++ s.data.toList) Hk Lw w' := by
  obtain ⟨q0, Lr, h1, h2⟩ := h
  refine (rows_write h1 s hlen).mono ?_
  rintro e w' ⟨rfl, hM, L', h7, h8⟩
  refine ⟨rfl, q0.trans hM h2, L', h7, fun k hk => ?_⟩
  rcases h8 k hk with h9 | h9
  · exact h2 k h9
  · have := q0.size
    exact .inr (by omega)

/-- A row is begun. -/
theorem RowSt.begin {L : List Nat} (h : Wr w b fr R Hk L) : RowSt w b fr R Hk L w.heap.size [] (w.alloc (.cells #[.pointer none, .slice none 0 0] 101)) := by
  have hM := (Mods.refl [] w).alloc (.cells #[.pointer none, .slice none 0 0] 101)
  refine ⟨hM.mono (by simp), L, _, .slice none 0 0, h.mods hM (by simp), fun k hk => .inl hk, ⟨heap_alloc_new w _, .inl rfl, rfl, World.ownsRow_nil _ _ _ _, fun _ => rfl⟩, rfl, ⟨Nat.le_refl _, fun hk => Nat.lt_irrefl _ (h.lt _ hk)⟩, fun g hg => by cases hg⟩
end
end Go.Proofs.Ytagpnalhilgcpaa
