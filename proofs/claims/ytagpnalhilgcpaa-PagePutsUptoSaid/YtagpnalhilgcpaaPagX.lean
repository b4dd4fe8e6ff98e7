/-
  The law PageBack: its plain part: rows of the first table fit, and how long their bytes are.
-/
import Derived.Test.YtagpnalhilgcpaaPagW
import Derived.Test.YtagpnalhilgcpaaPagL
namespace Go.Proofs.Ytagpnalhilgcpaa
open Go.RowKit
set_option linter.unusedVariables false

def txts (vs : List V) : List UInt8 := vs.flatMap fun v => v.s.data.toList
theorem slots_txt (fr : Nat) (vs : List V) : ∀ st, (vs.foldl (stepS fr) st).2 = st.2 ++ txts vs := by
  induction vs with
  | nil => intro st; simp [txts]
  | cons v vs ih => intro st; rw [List.foldl_cons, ih]; simp [stepS, txts]
theorem put_txt (fr : Nat) (rs : List (List V)) : ∀ st, (rs.foldl (stepR fr) st).2 = st.2 ++ rs.flatMap txts := by
  induction rs with
  | nil => intro st; simp
  | cons r rs ih =>
    intro st
    rw [List.foldl_cons, ih]
    have : (stepR fr st r).2 = st.2 ++ txts r := slots_txt fr r ([], st.2)
    rw [this]
    simp
theorem putS_txt (fr : Nat) (rs : List (List V)) : (putS fr rs).2 = rs.flatMap txts := by
  have := put_txt fr rs ([], [])
  simpa [putS] using this
theorem putB_length (a n : Nat) (rs : List (List V)) (hn : ∀ i (h : i < rs.length), rs[i].length = n) : (putB a n rs).length = 8 * (n + 1) * rs.length + (rs.flatMap txts).length := by
  rw [putB_len a n rs hn, putS_txt]
theorem flat_len {α β : Type} (f : α → List β) (c : Nat) (l : List α) (h : ∀ x ∈ l, (f x).length ≤ c) : (l.flatMap f).length ≤ c * l.length := by
  induction l with
  | nil => simp
  | cons x l ih =>
    have h1 := h x (by simp)
    have h2 := ih (fun y hy => h y (by simp [hy]))
    simp only [List.flatMap_cons, List.length_append, List.length_cons, Nat.mul_add, Nat.mul_one]
    omega

def tbTs : List (Int × Int) := (List.range 4).map fun k => (colKind k, colScale k)
theorem rowVal_fits (C : Nat → Int × ByteArray × Bool) (i k : Nat) (hk : k < 4) : fitsV (colKind k) (colScale k) true (rowVal C i k).z (rowVal C i k).n (rowVal C i k).s = true ∧ (rowVal C i k).s.size ≤ 20 := by
  have h : k = 0 ∨ k = 1 ∨ k = 2 ∨ k = 3 := by omega
  obtain ⟨x, hx⟩ : ∃ x, C (4 * i + k) = x := ⟨_, rfl⟩
  obtain ⟨n, s, z⟩ := x
  have e : rowVal C i k = cellV (colKind k) (colNull k) n s z := by unfold rowVal; rw [hx]
  rw [e]
  clear e hx
  have hs : (s.extract 0 (if s.size ≤ 20 then s.size else 20)).size ≤ 20 := by rw [ByteArray.size_extract]; split <;> omega
  rcases h with rfl | rfl | rfl | rfl
  · have e : cellV (colKind 0) (colNull 0) n s z = ⟨false, n, ⟨#[]⟩⟩ := by unfold cellV; rw [if_neg (by simp [colNull]), if_neg (by decide), if_neg (by decide)]
    rw [e]; exact ⟨rfl, Nat.zero_le _⟩
  · cases z with
    | true => have e : cellV (colKind 1) (colNull 1) n s true = ⟨true, 0, ⟨#[]⟩⟩ := by unfold cellV; rw [if_pos ⟨rfl, rfl⟩]
              rw [e]; exact ⟨rfl, Nat.zero_le _⟩
    | false => have e : cellV (colKind 1) (colNull 1) n s false = ⟨false, n, ⟨#[]⟩⟩ := by unfold cellV; rw [if_neg (by simp), if_neg (by decide), if_neg (by decide)]
               rw [e]; exact ⟨rfl, Nat.zero_le _⟩
  · cases z with
    | true => have e : cellV (colKind 2) (colNull 2) n s true = ⟨true, 0, ⟨#[]⟩⟩ := by unfold cellV; rw [if_pos ⟨rfl, rfl⟩]
              rw [e]; exact ⟨rfl, Nat.zero_le _⟩
    | false => have e : cellV (colKind 2) (colNull 2) n s false = ⟨false, 0, s.extract 0 (if s.size ≤ 20 then s.size else 20)⟩ := by unfold cellV; rw [if_neg (by simp), if_pos (by decide)]
               rw [e]
               refine ⟨?_, hs⟩
               generalize s.extract 0 (if s.size ≤ 20 then s.size else 20) = t at *
               have h200 : t.size ≤ 200 := by omega
               show fitsV 3 0 true false 0 t = true
               simp [fitsV, tyRight, h200]
  · cases z with
    | true => have e : cellV (colKind 3) (colNull 3) n s true = ⟨true, 0, ⟨#[]⟩⟩ := by unfold cellV; rw [if_pos ⟨rfl, rfl⟩]
              rw [e]; exact ⟨rfl, Nat.zero_le _⟩
    | false => have e : cellV (colKind 3) (colNull 3) n s false = ⟨false, n % 2, ⟨#[]⟩⟩ := by unfold cellV; rw [if_neg (by simp), if_neg (by decide), if_pos (by decide)]
               rw [e]
               refine ⟨?_, Nat.zero_le _⟩
               show fitsV 4 0 true false (n % 2) ⟨#[]⟩ = true
               have h2 : n % 2 / 2 = 0 := by omega
               unfold fitsV
               rw [if_neg (by decide), if_neg (by decide), h2]
               rfl
theorem rowVal_ok (C : Nat → Int × ByteArray × Bool) (i k : Nat) (hC : -9223372036854775808 ≤ (C (4 * i + k)).1 ∧ (C (4 * i + k)).1 ≤ 9223372036854775807) (hk : k < 4) : (rowVal C i k).ok := by
  refine ⟨?_, Nat.le_trans (rowVal_fits C i k hk).2 (by decide)⟩
  unfold rowVal cellV
  split
  · exact ⟨by show (-9223372036854775808 : Int) ≤ 0; decide, by show (0 : Int) ≤ 9223372036854775807; decide⟩
  · split
    · exact ⟨by show (-9223372036854775808 : Int) ≤ 0; decide, by show (0 : Int) ≤ 9223372036854775807; decide⟩
    · split
      · constructor <;> dsimp only <;> omega
      · exact hC

theorem rowI_get (C : Nat → Int × ByteArray × Bool) (i k : Nat) (hk : k < 4) : (rowI C i)[k]? = some (rowVal C i k) := by simp [rowI, hk]
theorem tbTs_get (k : Nat) (hk : k < 4) : tbTs[k]? = some (colKind k, colScale k) := by simp [tbTs, hk]
theorem rowI_OK (C : Nat → Int × ByteArray × Bool) (i : Nat) : rowOK tbTs (rowI C i) = true := by
  refine rowOK_true rfl fun k hk => ?_
  have hk4 : k < 4 := hk
  unfold fitI
  rw [rowI_get C i k hk4, tbTs_get k hk4]
  exact (rowVal_fits C i k hk4).1
theorem rowsV_mem {C : Nat → Int × ByteArray × Bool} {n : Nat} {vs : List V} (h : vs ∈ rowsV C n) : ∃ i, i < n ∧ vs = rowI C i := by
  simp only [rowsV, List.mem_map, List.mem_range] at h
  obtain ⟨i, hi, rfl⟩ := h
  exact ⟨i, hi, rfl⟩
theorem rowI_mem {C : Nat → Int × ByteArray × Bool} {i : Nat} {v : V} (h : v ∈ rowI C i) : ∃ k, k < 4 ∧ v = rowVal C i k := by
  simp only [rowI, List.mem_map, List.mem_range] at h
  obtain ⟨k, hk, rfl⟩ := h
  exact ⟨k, hk, rfl⟩
theorem rowsV_get (C : Nat → Int × ByteArray × Bool) (n i : Nat) (h : i < n) : (rowsV C n)[i]'(by rw [rowsV_len]; exact h) = rowI C i := by simp [rowsV]

def bkLen (C : Nat → Int × ByteArray × Bool) (R : Nat) : Nat := 40 * R + ((rowsV C R).flatMap txts).length
theorem bk_len (C : Nat → Int × ByteArray × Bool) (R a : Nat) : (putB a 4 (rowsV C R)).length = bkLen C R := by
  rw [putB_length a 4 _ (fun i h => by rw [rowsV_len] at h; rw [rowsV_get C R i h]; exact rowTo_len C i 4), rowsV_len]
  rfl
theorem bk_le (C : Nat → Int × ByteArray × Bool) (R : Nat) : 40 * R ≤ bkLen C R ∧ bkLen C R ≤ 120 * R := by
  refine ⟨Nat.le_add_right _ _, ?_⟩
  have := flat_len txts 80 (rowsV C R) (fun vs h => by
    obtain ⟨i, -, rfl⟩ := rowsV_mem h
    have := flat_len (fun v : V => v.s.data.toList) 20 (rowI C i) (fun v hv => by
      obtain ⟨k, hk, rfl⟩ := rowI_mem hv
      rw [Array.length_toList]
      exact (rowVal_fits C i k hk).2)
    rw [show (rowI C i).length = 4 from rowTo_len C i 4] at this
    exact this)
  rw [rowsV_len] at this
  unfold bkLen
  omega
theorem bk_putE (C : Nat → Int × ByteArray × Bool) (R : Nat) (a : Int) (h0 : 0 ≤ a) : putE a tbTs (rowsV C R) = if 16777216 < a then 1 else if 16777216 - a < bkLen C R then 12 else 0 := by
  unfold putE
  have hl : tbTs.length = 4 := rfl
  have hall : (rowsV C R).all (rowOK tbTs) = true := by
    rw [List.all_eq_true]
    intro vs h
    obtain ⟨i, -, rfl⟩ := rowsV_mem h
    exact rowI_OK C i
  rw [hall, hl]
  by_cases h1 : 16777216 < a
  · rw [if_pos (by omega), if_pos h1]
  · rw [if_neg (by omega), if_neg (by decide), if_neg h1, bk_len]
end Go.Proofs.Ytagpnalhilgcpaa
