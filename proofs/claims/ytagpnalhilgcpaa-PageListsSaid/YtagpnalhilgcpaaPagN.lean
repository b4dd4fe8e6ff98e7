/-
  The law PageSizes, walked: rows stand as far apart as their size; what is nothing has its bit, and a slot of 0.
-/
import Derived.Test.YtagpnalhilgcpaaPagM
import Derived.Test.YtagpnalhilgcpaaIns
namespace Go.Proofs.Ytagpnalhilgcpaa
open Go.RowKit
set_option linter.unusedVariables false

/-! ### A row of values, and one of types, that are filled one by one -/

def VRow (w : World) (g n k : Nat) (F : Nat → V) : Prop :=
  ∃ arr, w.heap[g]? = some (.cells arr 77 (0, 0)) ∧ arr.size = n * 3 ∧ ∀ i, i < k → arr[i * 3]? = some (.bool (F i).z) ∧ arr[i * 3 + 1]? = some (.int .i64 (F i).n) ∧ arr[i * 3 + 2]? = some (.string (F i).s)
def TRow (w : World) (g n k : Nat) (F : Nat → Int × Int) : Prop :=
  ∃ arr, w.heap[g]? = some (.cells arr 60 (0, 0)) ∧ arr.size = n * 2 ∧ ∀ i, i < k → arr[i * 2]? = some (.int .i64 (F i).1) ∧ arr[i * 2 + 1]? = some (.int .i64 (F i).2)

theorem VRow.mods {w w' : World} {g n k : Nat} {F : Nat → V} {L : List Nat} (h : VRow w g n k F) (hM : Mods L w w') (hg : g ∉ L) : VRow w' g n k F := by
  obtain ⟨arr, h1, h2⟩ := h
  exact ⟨arr, hM.heap h1 hg, h2⟩
theorem TRow.mods {w w' : World} {g n k : Nat} {F : Nat → Int × Int} {L : List Nat} (h : TRow w g n k F) (hM : Mods L w w') (hg : g ∉ L) : TRow w' g n k F := by
  obtain ⟨arr, h1, h2⟩ := h
  exact ⟨arr, hM.heap h1 hg, h2⟩
theorem VRow.vals {w : World} {g n : Nat} {F : Nat → V} (h : VRow w g n n F) : ValsIn w (some ⟨g, 0, none⟩) ((List.range n).map F) [] := by
  obtain ⟨arr, h1, h2, h3⟩ := h
  intro _
  refine ⟨g, 0, rfl, by simp, fun i hi => ?_⟩
  have hi' : i < n := by simpa using hi
  obtain ⟨q1, q2, q3⟩ := h3 i hi'
  rw [cell_of_heap h1, cell_of_heap h1, cell_of_heap h1, Nat.zero_add]
  simp only [List.getElem_map, List.getElem_range]
  exact ⟨q1, q2, q3⟩
theorem TRow.tys {w : World} {g n : Nat} {F : Nat → Int × Int} (h : TRow w g n n F) : TysIn w (some ⟨g, 0, none⟩) ((List.range n).map F) [] := by
  obtain ⟨arr, h1, h2, h3⟩ := h
  intro _
  refine ⟨g, 0, rfl, by simp, fun i hi => ?_⟩
  have hi' : i < n := by simpa using hi
  obtain ⟨q1, q2⟩ := h3 i hi'
  rw [cell_of_heap h1, cell_of_heap h1, Nat.zero_add]
  simp only [List.getElem_map, List.getElem_range]
  exact ⟨q1, q2⟩
theorem VRow.there {w : World} {g n k : Nat} {F : Nat → V} (h : VRow w g n k F) {j : Nat} (hj : j < n) :
    ∃ x y z, w.cell? ⟨g, j * 3, none⟩ = some x ∧ w.cell? ⟨g, j * 3 + 1, none⟩ = some y ∧ w.cell? ⟨g, j * 3 + 2, none⟩ = some z ∧ w.frozen? ⟨g, j * 3, none⟩ = false ∧ w.frozen? ⟨g, j * 3 + 1, none⟩ = false ∧ w.frozen? ⟨g, j * 3 + 2, none⟩ = false := by
  obtain ⟨arr, h1, h2, h3⟩ := h
  refine ⟨arr[j * 3]'(by omega), arr[j * 3 + 1]'(by omega), arr[j * 3 + 2]'(by omega), ?_, ?_, ?_, frozen_of_heap h1 _, frozen_of_heap h1 _, frozen_of_heap h1 _⟩
  all_goals rw [cell_of_heap h1, Array.getElem?_eq_getElem]
theorem TRow.there {w : World} {g n k : Nat} {F : Nat → Int × Int} (h : TRow w g n k F) {j : Nat} (hj : j < n) :
    ∃ x y, w.cell? ⟨g, j * 2, none⟩ = some x ∧ w.cell? ⟨g, j * 2 + 1, none⟩ = some y ∧ w.frozen? ⟨g, j * 2, none⟩ = false ∧ w.frozen? ⟨g, j * 2 + 1, none⟩ = false := by
  obtain ⟨arr, h1, h2, h3⟩ := h
  refine ⟨arr[j * 2]'(by omega), arr[j * 2 + 1]'(by omega), ?_, ?_, frozen_of_heap h1 _, frozen_of_heap h1 _⟩
  all_goals rw [cell_of_heap h1, Array.getElem?_eq_getElem]
theorem VRow.set {w : World} {g n k : Nat} {F : Nat → V} (h : VRow w g n k F) {j : Nat} (hj : j < n) (v : V) (k' : Nat) (hk : ∀ i, i < k' → i ≠ j → i < k) :
    VRow (((w.setCell ⟨g, j * 3, none⟩ (.bool v.z)).setCell ⟨g, j * 3 + 1, none⟩ (.int .i64 v.n)).setCell ⟨g, j * 3 + 2, none⟩ (.string v.s)) g n k' (fun i => if i = j then v else F i) := by
  obtain ⟨arr, h1, h2, h3⟩ := h
  refine ⟨_, heap_setCell_same (heap_setCell_same (heap_setCell_same h1 _ _) _ _) _ _, by simp [h2], fun i hi => ?_⟩
  by_cases hij : i = j
  · subst hij
    simp only [if_pos]
    refine ⟨?_, ?_, ?_⟩ <;> simp [Array.getElem?_setIfInBounds, h2] <;> omega
  · obtain ⟨q1, q2, q3⟩ := h3 i (hk i hi hij)
    simp only [if_neg hij]
    refine ⟨?_, ?_, ?_⟩
    · rw [Array.getElem?_setIfInBounds_ne (by omega), Array.getElem?_setIfInBounds_ne (by omega), Array.getElem?_setIfInBounds_ne (by omega)]; exact q1
    · rw [Array.getElem?_setIfInBounds_ne (by omega), Array.getElem?_setIfInBounds_ne (by omega), Array.getElem?_setIfInBounds_ne (by omega)]; exact q2
    · rw [Array.getElem?_setIfInBounds_ne (by omega), Array.getElem?_setIfInBounds_ne (by omega), Array.getElem?_setIfInBounds_ne (by omega)]; exact q3
theorem TRow.set {w : World} {g n k : Nat} {F : Nat → Int × Int} (h : TRow w g n k F) {j : Nat} (hj : j < n) (v : Int × Int) (k' : Nat) (hk : ∀ i, i < k' → i ≠ j → i < k) :
    TRow ((w.setCell ⟨g, j * 2, none⟩ (.int .i64 v.1)).setCell ⟨g, j * 2 + 1, none⟩ (.int .i64 v.2)) g n k' (fun i => if i = j then v else F i) := by
  obtain ⟨arr, h1, h2, h3⟩ := h
  refine ⟨_, heap_setCell_same (heap_setCell_same h1 _ _) _ _, by simp [h2], fun i hi => ?_⟩
  by_cases hij : i = j
  · subst hij
    simp only [if_pos]
    refine ⟨?_, ?_⟩ <;> simp [Array.getElem?_setIfInBounds, h2] <;> omega
  · obtain ⟨q1, q2⟩ := h3 i (hk i hi hij)
    simp only [if_neg hij]
    refine ⟨?_, ?_⟩
    · rw [Array.getElem?_setIfInBounds_ne (by omega), Array.getElem?_setIfInBounds_ne (by omega)]; exact q1
    · rw [Array.getElem?_setIfInBounds_ne (by omega), Array.getElem?_setIfInBounds_ne (by omega)]; exact q2
theorem VRow.congr {w : World} {g n k : Nat} {F G : Nat → V} (h : VRow w g n k F) (e : ∀ i, i < k → F i = G i) : VRow w g n k G := by
  obtain ⟨arr, h1, h2, h3⟩ := h
  exact ⟨arr, h1, h2, fun i hi => by rw [← e i hi]; exact h3 i hi⟩
theorem TRow.congr {w : World} {g n k : Nat} {F G : Nat → Int × Int} (h : TRow w g n k F) (e : ∀ i, i < k → F i = G i) : TRow w g n k G := by
  obtain ⟨arr, h1, h2, h3⟩ := h
  exact ⟨arr, h1, h2, fun i hi => by rw [← e i hi]; exact h3 i hi⟩

/-! ### The values of the law -/

def szV (X : Nat → Int) (Y : Nat → Bool) (m i : Nat) : V := if i < m ∧ Y i = true then ⟨true, 0, ⟨#[]⟩⟩ else ⟨false, X i, ⟨#[]⟩⟩
def szVs (X : Nat → Int) (Y : Nat → Bool) (m n : Nat) : List V := (List.range n).map (szV X Y m)
def szTs (n : Nat) : List (Int × Int) := (List.range n).map fun _ => (1, 0)

theorem szV_s (X : Nat → Int) (Y : Nat → Bool) (m i : Nat) : (szV X Y m i).s = ⟨#[]⟩ := by unfold szV; split <;> rfl
theorem szVs_get (X : Nat → Int) (Y : Nat → Bool) (m n i : Nat) (h : i < n) : (szVs X Y m n)[i]? = some (szV X Y m i) := by simp [szVs, h]
theorem szVs_len (X : Nat → Int) (Y : Nat → Bool) (m n : Nat) : (szVs X Y m n).length = n := by simp [szVs]
theorem szTs_len (n : Nat) : (szTs n).length = n := by simp [szTs]

theorem sz_rowOK (X : Nat → Int) (Y : Nat → Bool) (m n : Nat) : rowOK (szTs n) (szVs X Y m n) = true := by
  refine rowOK_true (by rw [szVs_len, szTs_len]) fun i hi => ?_
  rw [szTs_len] at hi
  unfold fitI
  rw [szVs_get _ _ _ _ _ hi]
  have : (szTs n)[i]? = some (1, 0) := by simp [szTs, hi]
  rw [this]
  show fitsV 1 0 true (szV X Y m i).z (szV X Y m i).n (szV X Y m i).s = true
  unfold szV
  by_cases h : i < m ∧ Y i = true
  · rw [if_pos h]; rfl
  · rw [if_neg h]; rfl
theorem slotsS_noText (fr : Nat) (H : List UInt8) (vs : List V) (h : ∀ v ∈ vs, v.s = ⟨#[]⟩) : (slotsS fr H vs).2 = H := by
  have : ∀ k, (slotsS fr H (vs.take k)).2 = H := by
    intro k
    induction k with
    | zero => simp [slotsS]
    | succ k ih =>
      by_cases hk : k < vs.length
      · rw [slotsS_take _ _ _ _ hk]
        show (slotsS fr H (vs.take k)).2 ++ vs[k].s.data.toList = H
        rw [ih, h _ (List.getElem_mem hk)]
        simp
      · rw [List.take_of_length_le (by omega)]
        rwa [List.take_of_length_le (by omega)] at ih
  have := this vs.length
  rwa [List.take_of_length_le (Nat.le_refl _)] at this
theorem putS_noText (fr : Nat) (rs : List (List V)) (h : ∀ vs ∈ rs, ∀ v ∈ vs, v.s = ⟨#[]⟩) : (putS fr rs).2 = [] := by
  have : ∀ k, (putS fr (rs.take k)).2 = [] := by
    intro k
    induction k with
    | zero => simp [putS]
    | succ k ih =>
      by_cases hk : k < rs.length
      · rw [putS_take _ _ _ hk]
        show (slotsS fr (putS fr (rs.take k)).2 rs[k]).2 = []
        rw [slotsS_noText _ _ _ (h _ (List.getElem_mem hk)), ih]
      · rw [List.take_of_length_le (by omega)]
        rwa [List.take_of_length_le (by omega)] at ih
  have := this rs.length
  rwa [List.take_of_length_le (Nat.le_refl _)] at this
theorem szVs_s (X : Nat → Int) (Y : Nat → Bool) (m n : Nat) : ∀ v ∈ szVs X Y m n, v.s = ⟨#[]⟩ := by
  intro v hv
  simp only [szVs, List.mem_map] at hv
  obtain ⟨i, -, rfl⟩ := hv
  exact szV_s _ _ _ _
theorem szVs_ok (X : Nat → Int) (Y : Nat → Bool) (m n : Nat) (hX : ∀ i, i < n → -9223372036854775808 ≤ X i ∧ X i ≤ 9223372036854775807) : ∀ v ∈ szVs X Y m n, v.ok := by
  intro v hv
  simp only [szVs, List.mem_map, List.mem_range] at hv
  obtain ⟨i, hi, rfl⟩ := hv
  unfold szV
  split
  · exact ⟨by decide, by decide⟩
  · exact ⟨hX i hi, Nat.zero_le _⟩

theorem sz_len (X : Nat → Int) (Y : Nat → Bool) (m n : Nat) : (putB 0 n [szVs X Y m n, szVs X Y m n]).length = 2 * (8 * (n + 1)) := by
  rw [putB_len 0 n _ (by intro i hi; simp at hi; have h : i = 0 ∨ i = 1 := by omega
                         rcases h with rfl | rfl <;> exact szVs_len _ _ _ _), putS_noText _ _ (by intro vs hvs; simp at hvs; subst hvs; exact szVs_s _ _ _ _)]
  simp
  omega
theorem sz_putE (X : Nat → Int) (Y : Nat → Bool) (m n : Nat) (hn : n ≤ 20) : putE 0 (szTs n) [szVs X Y m n, szVs X Y m n] = 0 := by
  unfold putE
  rw [szTs_len, if_neg (by omega), if_neg (by simp [sz_rowOK]), if_neg]
  rw [show (0 : Int).toNat = 0 from rfl, sz_len]
  omega

/-- What stands in memory: each row's bits, and its slots. -/
theorem sz_read {f : Nat → UInt8} (X : Nat → Int) (Y : Nat → Bool) (m n : Nat) (hn : n ≤ 20) (hX : ∀ i, i < n → -9223372036854775808 ≤ X i ∧ X i ≤ 9223372036854775807) (h : Bys f 0 (putB 0 n [szVs X Y m n, szVs X Y m n])) (k : Nat) (hk : k < 2) :
    numAt f (8 * (n + 1) * k) = nullsF (szVs X Y m n) n ∧ ∀ i, i < n → numAt f (8 * (n + 1) * k + 8 + 8 * i) = ((szV X Y m i).n % 18446744073709551616).toNat := by
  have hl : ∀ i (h : i < [szVs X Y m n, szVs X Y m n].length), [szVs X Y m n, szVs X Y m n][i].length = n := by
    intro i hi
    simp at hi
    have h : i = 0 ∨ i = 1 := by omega
    rcases h with rfl | rfl <;> exact szVs_len _ _ _ _
  obtain ⟨H, h1, -, -⟩ := putB_bys hl h (i := k) (by simpa using hk)
  have e : [szVs X Y m n, szVs X Y m n][k]'(by simpa using hk) = szVs X Y m n := by
    have h : k = 0 ∨ k = 1 := by omega
    rcases h with rfl | rfl <;> rfl
  rw [e, Nat.zero_add] at h1
  unfold rowB at h1
  refine ⟨?_, fun i hi => ?_⟩
  · have := numAt_bys h1.left (Nat.lt_of_lt_of_le (nullsF_lt _ _) (Nat.le_trans (Nat.pow_le_pow_right (by decide) (show (szVs X Y m n).length ≤ 64 by rw [szVs_len]; omega)) (by decide)))
    rw [szVs_len] at this
    exact this
  · have h2 := bys_slot h1.right (k := i) (by rw [szVs_len]; exact hi)
    have e1 : (szVs X Y m n)[i]'(by rw [szVs_len]; exact hi) = szV X Y m i := by simp [szVs]
    rw [e1, szV_s, eightB_len] at h2
    have e2 : ∀ p x, slotN p x ⟨#[]⟩ = (x % 18446744073709551616).toNat := fun p x => rfl
    rw [e2] at h2
    exact numAt_bys h2 (by omega)
end Go.Proofs.Ytagpnalhilgcpaa
