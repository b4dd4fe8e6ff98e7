/-
  page.Put, walked: the bytes of rows, or the error's number.
-/
import Derived.Test.YtagpnalhilgcpaaPagE
namespace Go.Proofs.Ytagpnalhilgcpaa
open Go.RowKit
set_option linter.unusedVariables false

/-- The rows of a slice, read: each with its values; they lie in none of the blocks L. -/
def RowsIn (w : World) (ao : Option Addr) (rs : List (List V)) (L : List Nat) : Prop :=
  rs ≠ [] → ∃ rb off, ao = some ⟨rb, off, none⟩ ∧ rb ∉ L ∧ ∀ i (h : i < rs.length), ∃ vo c, w.cell? ⟨rb, off + i, none⟩ = some (.slice vo rs[i].length c) ∧ ValsIn w vo rs[i] L

theorem lt_of_cell {w : World} {p : Addr} {v : Value} (hv : w.cell? p = some v) : p.block < w.heap.size := by
  rcases Nat.lt_or_ge p.block w.heap.size with h1 | h1
  · exact h1
  · simp [World.cell?, Array.getElem?_eq_none h1] at hv

theorem TysIn.apart {w : World} {ao : Option Addr} {ts : List (Int × Int)} (h : TysIn w ao ts []) {L : List Nat} (hL : ∀ k ∈ L, w.heap.size ≤ k) : TysIn w ao ts L := by
  intro h0
  obtain ⟨tb, off, h1, h2, h3⟩ := h h0
  refine ⟨tb, off, h1, fun hm => ?_, h3⟩
  have hl : 0 < ts.length := List.length_pos_iff.2 h0
  have h4 : tb < w.heap.size := lt_of_cell (h3 0 hl).1
  have := hL tb hm
  omega
theorem ValsIn.apart {w : World} {ao : Option Addr} {vs : List V} (h : ValsIn w ao vs []) {L : List Nat} (hL : ∀ k ∈ L, w.heap.size ≤ k) : ValsIn w ao vs L := by
  intro h0
  obtain ⟨tb, off, h1, h2, h3⟩ := h h0
  refine ⟨tb, off, h1, fun hm => ?_, h3⟩
  have hl : 0 < vs.length := List.length_pos_iff.2 h0
  have h4 : tb < w.heap.size := lt_of_cell (h3 0 hl).1
  have := hL tb hm
  omega

/-- The rows' bytes, and the texts, when one row more is put. -/
def stepR (fr : Nat) (st : List UInt8 × List UInt8) (vs : List V) : List UInt8 × List UInt8 := (st.1 ++ rowB fr st.2 vs, (slotsS fr st.2 vs).2)
def putS (fr : Nat) (rs : List (List V)) : List UInt8 × List UInt8 := rs.foldl (stepR fr) ([], [])

theorem putS_take (fr : Nat) (rs : List (List V)) (k : Nat) (hk : k < rs.length) : putS fr (rs.take (k + 1)) = stepR fr (putS fr (rs.take k)) rs[k] := by
  rw [List.take_succ_eq_append_getElem hk, putS, List.foldl_append]
  rfl

theorem rowB_len {fr : Nat} {H : List UInt8} {vs : List V} : (rowB fr H vs).length ≤ 8 + 8 * vs.length := by
  have h := slotsS_len fr H vs vs.length
  rw [List.take_of_length_le (Nat.le_refl _)] at h
  unfold rowB
  rw [List.length_append, eightB_len]
  omega

theorem rowOK_fit {ts : List (Int × Int)} {vs : List V} (h : rowOK ts vs = true) : vs.length = ts.length ∧ ∀ i, i < ts.length → fitI ts vs i = true := by
  unfold rowOK at h
  simp only [Bool.and_eq_true, beq_iff_eq, List.all_eq_true, List.mem_range] at h
  exact h

theorem putS_len (fr : Nat) (ts : List (Int × Int)) (rs : List (List V)) (h64 : ts.length ≤ 64) (k : Nat) (hok : ∀ i (h : i < rs.length), i < k → rowOK ts rs[i] = true) : (putS fr (rs.take k)).1.length ≤ 520 * k ∧ (putS fr (rs.take k)).2.length ≤ 12800 * k := by
  induction k with
  | zero => simp [putS]
  | succ k ih =>
    have ih' := ih (fun i h hi => hok i h (by omega))
    by_cases hk : k < rs.length
    · obtain ⟨h1, h2⟩ := rowOK_fit (hok k hk (by omega))
      rw [putS_take _ _ _ hk]
      have h3 := @rowB_len fr (putS fr (rs.take k)).2 rs[k]
      have h4 := slotsS_heap fr (putS fr (rs.take k)).2 ts rs[k] rs[k].length (fun i hi => h2 i (by omega))
      rw [List.take_of_length_le (Nat.le_refl _)] at h4
      simp only [stepR, List.length_append]
      omega
    · rw [List.take_of_length_le (by omega)]
      rw [List.take_of_length_le (by omega)] at ih'
      omega

/-- The bytes of rows. -/
def putB (at_ nT : Nat) (rs : List (List V)) : List UInt8 := (putS (at_ + (8 * (nT + 1)) * rs.length) rs).1 ++ (putS (at_ + (8 * (nT + 1)) * rs.length) rs).2

/-- The error's number: 1: wrong; 12: no room; 0: none. -/
def putE (at_ : Int) (ts : List (Int × Int)) (rs : List (List V)) : Int :=
  if 64 < ts.length ∨ at_ < 0 ∨ 16777216 < at_ then 1
  else if rs.all (rowOK ts) = false then 1
  else if 16777216 - at_ < (putB at_.toNat ts.length rs).length then 12
  else 0

/-- Both of the writer's builders, read. -/
theorem both_rows {w : World} {b fr : Nat} {R H : List UInt8} {L : List Nat} (h : Wr w b fr R H L) :
    Calls Try.prog 47 #[.pointer (some ⟨b, 0, none⟩)] w fun e w' => e = .returned (.string ⟨R.toArray⟩) ∧ Mods L w w' ∧ ∃ arr v, Bld w' b 2 103 arr v H ∧ ∀ g, v.ownBlock = some g → g ∈ L := by
  obtain ⟨arr, v0, v1, q1, q2, h0, h1, q3, rfl⟩ := h
  refine (string_any h0).mono ?_
  rintro e w' ⟨rfl, hM⟩
  have hb : b ∉ v0.ownBlock.toList := fun hm => h0.ne lies_rows.ne (by simpa using hm)
  refine ⟨rfl, hM.mono (fun x hx => .inl (by simp at hx; simp [hx])), arr, v1, h1.mods hM hb (fun g hg hm => q3 g (by simpa using hm) hg), fun g hg => by simp [hg]⟩
end Go.Proofs.Ytagpnalhilgcpaa
