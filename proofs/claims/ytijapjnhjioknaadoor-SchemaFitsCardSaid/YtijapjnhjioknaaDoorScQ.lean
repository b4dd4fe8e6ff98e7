/-
  The law SchemaFits: the plain law (which rows fit, and where not); rows in memory, one block each. No condition.
-/
import Derived.Test.YtijapjnhjioknaaDoorScP
import Derived.Test.YtijapjnhjioknaaDoorIns
namespace Go.Proofs.YtijapjnhjioknaaDoor
open Go.RowKit
open Go.Maps
set_option linter.unusedVariables false

def VRow (w : World) (g n k : Nat) (F : Nat → V) : Prop :=
  ∃ arr, w.heap[g]? = some (.cells arr 33 (0, 0)) ∧ arr.size = n * 3 ∧ ∀ i, i < k → arr[i * 3]? = some (.bool (F i).z) ∧ arr[i * 3 + 1]? = some (.int .i64 (F i).n) ∧ arr[i * 3 + 2]? = some (.string (F i).s)
theorem VRow.mods {w w' : World} {g n k : Nat} {F : Nat → V} {L : List Nat} (h : VRow w g n k F) (hM : Mods L w w') (hg : g ∉ L) : VRow w' g n k F := by
  obtain ⟨arr, h1, h2⟩ := h
  exact ⟨arr, hM.heap h1 hg, h2⟩
theorem VRow.vals {w : World} {g n : Nat} {F : Nat → V} (h : VRow w g n n F) : ValsIn w (some ⟨g, 0, none⟩) ((List.range n).map F) [] := by
  obtain ⟨arr, h1, h2, h3⟩ := h
  intro _
  refine ⟨g, 0, rfl, by simp, fun i hi => ?_⟩
  have hi' : i < n := by simpa using hi
  obtain ⟨q1, q2, q3⟩ := h3 i hi'
  rw [cell_of_heap h1, cell_of_heap h1, cell_of_heap h1, Nat.zero_add]
  simp only [List.getElem_map, List.getElem_range]
  exact ⟨q1, q2, q3⟩
theorem VRow.there {w : World} {g n k : Nat} {F : Nat → V} (h : VRow w g n k F) {j : Nat} (hj : j < n) :
    ∃ x y z, w.cell? ⟨g, j * 3, none⟩ = some x ∧ w.cell? ⟨g, j * 3 + 1, none⟩ = some y ∧ w.cell? ⟨g, j * 3 + 2, none⟩ = some z ∧ w.frozen? ⟨g, j * 3, none⟩ = false ∧ w.frozen? ⟨g, j * 3 + 1, none⟩ = false ∧ w.frozen? ⟨g, j * 3 + 2, none⟩ = false := by
  obtain ⟨arr, h1, h2, h3⟩ := h
  refine ⟨arr[j * 3]'(by omega), arr[j * 3 + 1]'(by omega), arr[j * 3 + 2]'(by omega), ?_, ?_, ?_, frozen_of_heap h1 _, frozen_of_heap h1 _, frozen_of_heap h1 _⟩
  all_goals rw [cell_of_heap h1, Array.getElem?_eq_getElem]
theorem VRow.set {w : World} {g n k : Nat} {F : Nat → V} (h : VRow w g n k F) {j : Nat} (hj : j < n) (v : V) (k' : Nat) (hk : ∀ i, i < k' → i ≠ j → i < k) :
    VRow (((w.setCell ⟨g, j * 3, none⟩ (.bool v.z)).setCell ⟨g, j * 3 + 1, none⟩ (.int .i64 v.n)).setCell ⟨g, j * 3 + 2, none⟩ (.string v.s)) g n k' (fun i => if i = j then v else F i) := by
  obtain ⟨arr, h1, h2, h3⟩ := h
  refine ⟨_, heap_setCell_same (heap_setCell_same (heap_setCell_same h1 _ _) _ _) _ _, by simp [h2], fun i hi => ?_⟩
  by_cases hij : i = j
  · subst hij
    simp only [if_pos]
    refine ⟨?_, ?_, ?_⟩ <;> simp [Array.getElem?_setIfInBounds, h2] <;> omega
  · obtain ⟨q1, q2, q3⟩ := h3 i (hk i hi hij)
    simp only [if_neg hij]
    refine ⟨?_, ?_, ?_⟩
    · rw [Array.getElem?_setIfInBounds_ne (by omega), Array.getElem?_setIfInBounds_ne (by omega), Array.getElem?_setIfInBounds_ne (by omega)]; exact q1
    · rw [Array.getElem?_setIfInBounds_ne (by omega), Array.getElem?_setIfInBounds_ne (by omega), Array.getElem?_setIfInBounds_ne (by omega)]; exact q2
    · rw [Array.getElem?_setIfInBounds_ne (by omega), Array.getElem?_setIfInBounds_ne (by omega), Array.getElem?_setIfInBounds_ne (by omega)]; exact q3
theorem VRow.congr {w : World} {g n k : Nat} {F G : Nat → V} (h : VRow w g n k F) (e : ∀ i, i < k → F i = G i) : VRow w g n k G := by
  obtain ⟨arr, h1, h2, h3⟩ := h
  exact ⟨arr, h1, h2, fun i hi => by rw [← e i hi]; exact h3 i hi⟩

theorem i64_and1 (n : Int) : bits .and .i64 n 1 = n % 2 := by
  have h127 : (BitVec.ofInt 64 1).toNat = 2 ^ 1 - 1 := by decide
  have key : (BitVec.ofInt 64 n &&& BitVec.ofInt 64 1).toNat = (n % ((2 ^ 64 : Nat) : Int)).toNat % 2 ^ 1 := by
    rw [BitVec.toNat_and, BitVec.toNat_ofInt, h127, Nat.and_two_pow_sub_one_eq_mod]
  show IntKind.i64.wrap ((BitVec.ofInt 64 n &&& BitVec.ofInt 64 1).toNat : Nat) = n % 2
  rw [key, IntKind.wrap_i64]
  omega

/-! ### The plain law -/

def fitTbl (b : Nat → Bool) : Tbl := ⟨⟨#[116]⟩, [⟨⟨#[97]⟩, 1, 0, b 0⟩, ⟨⟨#[98]⟩, 2, 2, b 1⟩, ⟨⟨#[99]⟩, 3, 0, b 2⟩, ⟨⟨#[100]⟩, 4, 0, b 3⟩]⟩
def fitF (S : ByteArray) (x : Int) (k : Nat) : V := if k = 0 then ⟨false, x, ⟨#[]⟩⟩ else if k = 1 then ⟨false, IntKind.i64.wrap (-x), ⟨#[]⟩⟩ else if k = 2 then ⟨false, 0, S⟩ else ⟨false, x % 2, ⟨#[]⟩⟩
def fitRow (S : ByteArray) (x : Int) : List V := (List.range 4).map (fitF S x)
def fitRows (S : ByteArray) (X : Nat → Int) (m : Nat) : List (List V) := (List.range m).map fun i => fitRow S (X i)
theorem fitRows_len (S : ByteArray) (X : Nat → Int) (m : Nat) : (fitRows S X m).length = m := by simp [fitRows]
theorem fitRows_get (S : ByteArray) (X : Nat → Int) (m i : Nat) (h : i < (fitRows S X m).length) : (fitRows S X m)[i] = fitRow S (X i) := by simp [fitRows]
theorem fit_tbl (b : Nat → Bool) : tblOK (fitTbl b) = true := by kernel_rfl
theorem fit_ok (b : Nat → Bool) : (fitTbl b).ok := tbl_ok (by decide) (by show 4 ≤ _; omega) (fun c hc => by
  simp at hc
  rcases hc with rfl | rfl | rfl | rfl <;> exact col_ok (by decide) (by omega) (by omega))
def nullV : V := ⟨true, 0, ⟨#[]⟩⟩
def xV : V := ⟨false, 5, ⟨#[120]⟩⟩
def zeroV : V := ⟨false, 0, ⟨#[]⟩⟩
/-- The row that is made wrong. -/
def fitBad (h c : Nat) (r : List V) : List V := if h = 0 then r.set c nullV else if h = 1 then r.set c xV else if h = 2 then r.take c else r ++ [zeroV]
def fitQ (h c : Nat) : Nat := if h = 3 then 4 else c

def goodRow (cs : List Col) (r : List V) : Prop := badAt cs r 0 = none ∧ r.length = cs.length
theorem rowsL_good (cs : List Col) : ∀ (rs : List (List V)) (i : Nat), (∀ r ∈ rs, goodRow cs r) → i + rs.length ≤ 10000 → rowsL cs i rs = (0, 0, 0) := by
  intro rs
  induction rs with
  | nil => intro i h hi; rfl
  | cons r rs ih =>
    intro i h hi
    simp only [List.length_cons] at hi
    obtain ⟨h1, h2⟩ := h r List.mem_cons_self
    rw [rowsL_cons, if_neg (by omega), h1]
    simp only
    rw [if_pos h2]
    exact ih (i + 1) (fun x hx => h x (List.mem_cons_of_mem _ hx)) (by omega)
theorem rowsL_skip (cs : List Col) : ∀ (k : Nat) (rs : List (List V)) (i : Nat), k ≤ rs.length → (∀ j (hj : j < rs.length), j < k → goodRow cs rs[j]) → i + k ≤ 10000 → rowsL cs i rs = rowsL cs (i + k) (rs.drop k) := by
  intro k
  induction k with
  | zero => intro rs i hk h hi; rfl
  | succ k ih =>
    intro rs i hk h hi
    cases rs with
    | nil => simp at hk
    | cons r rs =>
      obtain ⟨h1, h2⟩ := h 0 (by simp) (by omega)
      simp only [List.getElem_cons_zero] at h1 h2
      rw [rowsL_cons, if_neg (by omega), h1]
      simp only
      rw [if_pos h2, ih rs (i + 1) (by simpa using hk) (fun j hj hjk => by have := h (j + 1) (by simpa using hj) (by omega); rw [List.getElem_cons_succ] at this; exact this) (by omega), List.drop_succ_cons, show i + 1 + k = i + (k + 1) by omega]

theorem emp : (⟨#[]⟩ : ByteArray) = ByteArray.empty := rfl
theorem fit_good (b : Nat → Bool) (S : ByteArray) (hS : S.size ≤ 200) (x : Int) : goodRow (fitTbl b).cols (fitRow S x) := by
  refine ⟨?_, rfl⟩
  have h2 : (x % 2) / 2 = 0 := by omega
  simp [fitTbl, fitRow, fitF, List.range_succ, badAt, fitsV, tyRight, emp, hS, h2]
theorem fit_bad0 (b : Nat → Bool) (S : ByteArray) (hS : S.size ≤ 200) (x : Int) (c : Nat) (hc : c < 4) : badAt (fitTbl b).cols (fitBad 0 c (fitRow S x)) 0 = if b c = true then none else some c := by
  have h2 : (x % 2) / 2 = 0 := by omega
  have h : c = 0 ∨ c = 1 ∨ c = 2 ∨ c = 3 := by omega
  rcases h with rfl | rfl | rfl | rfl <;> simp [fitTbl, fitBad, nullV, fitRow, fitF, List.range_succ, badAt, fitsV, tyRight, emp, hS, h2]
theorem fit_bad1 (b : Nat → Bool) (S : ByteArray) (hS : S.size ≤ 200) (x : Int) (c : Nat) (hc : c < 4) : badAt (fitTbl b).cols (fitBad 1 c (fitRow S x)) 0 = some c := by
  have h2 : (x % 2) / 2 = 0 := by omega
  have h3 : (⟨#[120]⟩ : ByteArray).size = 1 := rfl
  have h : c = 0 ∨ c = 1 ∨ c = 2 ∨ c = 3 := by omega
  rcases h with rfl | rfl | rfl | rfl <;> simp [fitTbl, fitBad, xV, fitRow, fitF, List.range_succ, badAt, fitsV, tyRight, emp, hS, h2, h3]
theorem fit_bad2 (b : Nat → Bool) (S : ByteArray) (hS : S.size ≤ 200) (x : Int) (c : Nat) (hc : c < 4) : badAt (fitTbl b).cols (fitBad 2 c (fitRow S x)) 0 = none := by
  have h2 : (x % 2) / 2 = 0 := by omega
  have h : c = 0 ∨ c = 1 ∨ c = 2 ∨ c = 3 := by omega
  rcases h with rfl | rfl | rfl | rfl <;> simp [fitTbl, fitBad, fitRow, fitF, List.range_succ, badAt, fitsV, tyRight, emp, hS, h2]
theorem fit_bad3 (b : Nat → Bool) (S : ByteArray) (hS : S.size ≤ 200) (x : Int) (c : Nat) (hc : c < 4) : badAt (fitTbl b).cols (fitBad 3 c (fitRow S x)) 0 = none := by
  have h2 : (x % 2) / 2 = 0 := by omega
  simp [fitTbl, fitBad, fitRow, fitF, List.range_succ, badAt, fitsV, tyRight, emp, hS, h2]
theorem fitBad_len (h c : Nat) (hh : h < 4) (hc : c < 4) (S : ByteArray) (x : Int) : (fitBad h c (fitRow S x)).length = if h = 2 then c else if h = 3 then 5 else 4 := by
  have h : h = 0 ∨ h = 1 ∨ h = 2 ∨ h = 3 := by omega
  rcases h with rfl | rfl | rfl | rfl
  · simp [fitBad, fitRow]
  · simp [fitBad, fitRow]
  · simp [fitBad, fitRow]; omega
  · simp [fitBad, fitRow]

theorem fits_all (b : Nat → Bool) (S : ByteArray) (hS : S.size ≤ 200) (X : Nat → Int) (m : Nat) (hm : m ≤ 20) : rowsR (fitTbl b) (fitRows S X m) = (0, 0, 0) := by
  unfold rowsR
  rw [fit_tbl, if_pos rfl]
  refine rowsL_good _ _ _ (fun r hr => ?_) (by rw [fitRows_len]; omega)
  obtain ⟨i, -, rfl⟩ := List.mem_map.1 hr
  exact fit_good b S hS _
theorem fits_bad (b : Nat → Bool) (S : ByteArray) (hS : S.size ≤ 200) (X : Nat → Int) (m : Nat) (hm : m ≤ 20) (k : Nat) (hk : k < m) (h : Nat) (hh : h < 4) (c : Nat) (hc : c < 4) :
    rowsR (fitTbl b) ((fitRows S X m).set k (fitBad h c (fitRow S (X k)))) = if h = 0 ∧ b c = true then (0, 0, 0) else ((k : Int), ((fitQ h c : Nat) : Int), (10 : Int)) := by
  unfold rowsR
  rw [fit_tbl, if_pos rfl]
  have hl : ((fitRows S X m).set k (fitBad h c (fitRow S (X k)))).length = m := by rw [List.length_set, fitRows_len]
  rw [rowsL_skip _ k _ 0 (by rw [hl]; omega) (fun j hj hjk => by
    rw [List.getElem_set_ne (by omega), fitRows_get]
    exact fit_good b S hS _) (by omega), Nat.zero_add]
  rw [List.drop_eq_getElem_cons (by rw [hl]; exact hk), List.getElem_set_self, rowsL_cons, if_neg (by omega)]
  have hcl : (fitTbl b).cols.length = 4 := rfl
  have hbl := fitBad_len h c hh hc S (X k)
  have hrest : rowsL (fitTbl b).cols (k + 1) (List.drop (k + 1) ((fitRows S X m).set k (fitBad h c (fitRow S (X k))))) = (0, 0, 0) := by
    refine rowsL_good _ _ _ (fun r hr => ?_) (by rw [List.length_drop, hl]; omega)
    rw [List.drop_set_of_lt (by omega)] at hr
    obtain ⟨i, -, rfl⟩ := List.mem_map.1 (List.mem_of_mem_drop hr)
    exact fit_good b S hS _
  have h4 : h = 0 ∨ h = 1 ∨ h = 2 ∨ h = 3 := by omega
  rcases h4 with rfl | rfl | rfl | rfl
  · rw [fit_bad0 b S hS _ c hc]
    by_cases hb : b c = true
    · rw [if_pos hb]
      simp only
      rw [if_pos (show (fitBad 0 c (fitRow S (X k))).length = (fitTbl b).cols.length by rw [hbl]; rfl), hrest, if_pos (show True ∧ b c = true from ⟨trivial, hb⟩)]
    · rw [if_neg hb]
      simp only
      rw [if_neg (show ¬ (True ∧ b c = true) from fun h => hb h.2)]
      rfl
  · rw [fit_bad1 b S hS _ c hc]
    simp only
    rw [if_neg (show ¬ (1 = 0 ∧ b c = true) from fun h => absurd h.1 (by decide))]
    rfl
  · rw [fit_bad2 b S hS _ c hc]
    simp only
    rw [if_neg (show ¬ (2 = 0 ∧ b c = true) from fun h => absurd h.1 (by decide)), hbl, hcl, if_pos rfl, if_neg (show ¬ c = 4 by omega), show min c 4 = c by omega]
    rfl
  · rw [fit_bad3 b S hS _ c hc]
    simp only
    rw [if_neg (show ¬ (3 = 0 ∧ b c = true) from fun h => absurd h.1 (by decide)), hbl, hcl]
    rfl
end Go.Proofs.YtijapjnhjioknaaDoor
