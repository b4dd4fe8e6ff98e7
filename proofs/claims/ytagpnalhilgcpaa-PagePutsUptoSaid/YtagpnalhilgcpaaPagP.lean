/-
  The law PageTexts, walked: what is read is what stands there.
-/
import Derived.Test.YtagpnalhilgcpaaPagM
namespace Go.Proofs.Ytagpnalhilgcpaa
open Go.RowKit
set_option linter.unusedVariables false

/-! ### The row of the law: two texts, and a number -/

def txRow (a b : ByteArray) : List V := [⟨false, 0, a⟩, ⟨false, 0, b⟩, ⟨false, -5, ⟨#[]⟩⟩]
def txTs : List (Int × Int) := [(3, 0), (3, 0), (1, 0)]
def txHead (p q : Nat) : List UInt8 := eightB 0 ++ (eightB (1032 * 256 + p) ++ eightB ((1032 + p) * 256 + q) ++ eightB 18446744073709551611)

theorem slotN_none (p : Nat) (n : Int) : slotN p n ⟨#[]⟩ = (n % 18446744073709551616).toNat := rfl
theorem m5 : ((-5 : Int) % 18446744073709551616).toNat = 18446744073709551611 := by decide
theorem tx_slots (a b : ByteArray) (ha : a.size ≠ 0) (hb : b.size ≠ 0) : slotsS 1032 [] (txRow a b) = (eightB (1032 * 256 + a.size) ++ eightB ((1032 + a.size) * 256 + b.size) ++ eightB 18446744073709551611, a.data.toList ++ b.data.toList) := by
  have e1 : ∀ p, slotN p 0 a = p * 256 + a.size := fun p => by unfold slotN; rw [if_neg ha]
  have e2 : ∀ p, slotN p 0 b = p * 256 + b.size := fun p => by unfold slotN; rw [if_neg hb]
  have e4 : a.data.toList.length = a.size := Array.length_toList
  have h : slotsS 1032 [] (txRow a b) = ([] ++ eightB (slotN (1032 + 0) 0 a) ++ eightB (slotN (1032 + ([] ++ a.data.toList).length) 0 b) ++ eightB (slotN (1032 + ([] ++ a.data.toList ++ b.data.toList).length) (-5) ⟨#[]⟩), [] ++ a.data.toList ++ b.data.toList ++ []) := rfl
  rw [h, e1, e2, slotN_none, m5, List.nil_append, List.nil_append, List.append_nil, e4]
theorem tx_putB (a b : ByteArray) (ha : a.size ≠ 0) (hb : b.size ≠ 0) : putB 1000 3 [txRow a b] = txHead a.size b.size ++ (a.data.toList ++ b.data.toList) := by
  have e : 1000 + 8 * (3 + 1) * [txRow a b].length = 1032 := rfl
  have e2 : putS 1032 [txRow a b] = ([] ++ rowB 1032 [] (txRow a b), (slotsS 1032 [] (txRow a b)).2) := by simp only [putS, List.foldl, stepR]
  have e3 : rowB 1032 [] (txRow a b) = eightB (nullsF (txRow a b) 3) ++ (slotsS 1032 [] (txRow a b)).1 := by simp only [rowB]; congr 1
  have h : putB 1000 3 [txRow a b] = ([] ++ (eightB (nullsF (txRow a b) 3) ++ (slotsS 1032 [] (txRow a b)).1)) ++ (slotsS 1032 [] (txRow a b)).2 := by
    unfold putB
    rw [e, e2, e3]
  have h0 : nullsF (txRow a b) 3 = 0 := rfl
  rw [h, tx_slots a b ha hb, h0, List.nil_append]
  unfold txHead
  rfl
theorem tx_rowOK (a b : ByteArray) (ha : a.size ≤ 200) (hb : b.size ≤ 200) : rowOK txTs (txRow a b) = true := by
  refine rowOK_true rfl fun i hi => ?_
  have h : i = 0 ∨ i = 1 ∨ i = 2 := by
    have : txTs.length = 3 := rfl
    omega
  rcases h with rfl | rfl | rfl
  · show fitsV 3 0 true false 0 a = true
    simp [fitsV, tyRight, ha]
  · show fitsV 3 0 true false 0 b = true
    simp [fitsV, tyRight, hb]
  · rfl
theorem conv1 (w : World) (x : Nat) (hx : x < 256) : (convert 47 9 (.slice (some ⟨w.heap.size, 0, none⟩) 1 1)).run Try.prog (w.alloc (.cells #[.int .u8 x] 5)) = .ok (.string ⟨#[UInt8.ofNat x]⟩) (w.alloc (.cells #[.int .u8 x] 5)) := by
  have := run_convert_bytes_back (P := Try.prog) (w.alloc (.cells #[.int .u8 x] 5)) 47 9 5 ⟨w.heap.size, 0, none⟩ 1 [UInt8.ofNat x] Try.underlying47 Try.underlying5 Try.underlying9 (by
    intro j hj
    obtain rfl : j = 0 := by simpa using hj
    rw [addr_add, cell_of_heap (heap_alloc_new w _)]
    have : (UInt8.ofNat x).toNat = x := by simp; omega
    simp [this])
  exact this

/-- One byte of a text, turned. -/
def turnB (a : ByteArray) (k : Nat) (c : UInt8) : ByteArray := ⟨a.data.setIfInBounds k c⟩
theorem turnB_size (a : ByteArray) (k : Nat) (c : UInt8) : (turnB a k c).size = a.size := by
  show (a.data.setIfInBounds k c).size = a.data.size
  simp
theorem turnB_eq (a : ByteArray) (k : Nat) (c : UInt8) (hk : k < a.size) : a.extract 0 k ++ ⟨#[c]⟩ ++ a.extract (k + 1) a.size = turnB a k c := by
  have hs : a.data.size = a.size := rfl
  apply ByteArray.ext
  apply Array.ext'
  simp only [ByteArray.data_append, ByteArray.data_extract, turnB, Array.toList_append, Array.toList_extract, Array.toList_setIfInBounds]
  apply List.ext_getElem?
  intro i
  simp only [List.extract_eq_take_drop, Nat.sub_zero, List.drop_zero]
  have hl : (a.data.toList.take k).length = k := by simp; omega
  rcases Nat.lt_trichotomy i k with h | h | h
  · rw [List.append_assoc, List.getElem?_append_left (by omega), List.getElem?_take, if_pos h, List.getElem?_set_ne (by omega)]
  · subst h
    rw [List.append_assoc, List.getElem?_append_right (by omega), hl, Nat.sub_self]
    rw [List.getElem?_set_self (by simp; omega)]
    rfl
  · rw [List.append_assoc, List.getElem?_append_right (by omega), hl, List.getElem?_append_right (by simp; omega), List.getElem?_set_ne (by omega), List.getElem?_take]
    simp only [List.length_cons, List.length_nil, List.getElem?_drop]
    by_cases h2 : i < a.size
    · rw [if_pos (by omega)]
      congr 1
      omega
    · rw [if_neg (by omega), List.getElem?_eq_none (by simp; omega)]

/-- When a byte of the first text is turned in memory, the row reads with the byte turned. -/
theorem tx_turned {f : Nat → UInt8} (a b : ByteArray) (k : Nat) (c : UInt8) (ha : a.size ≠ 0) (hb : b.size ≠ 0) (hk : k < a.size) (h : Bys f 1000 (putB 1000 3 [txRow a b])) (s : Nat → UInt8) (hs : s 0 = c) :
    Bys (putF f (1032 + k) 1 s) 1000 (putB 1000 3 [txRow (turnB a k c) b]) := by
  rw [tx_putB a b ha hb] at h
  rw [tx_putB _ b (by rw [turnB_size]; exact ha) hb, turnB_size]
  have hl : (txHead a.size b.size).length = 32 := by simp [txHead, eightB_len]
  have ea : a.data.toList.length = a.size := Array.length_toList
  have eb : (turnB a k c).data.toList.length = a.size := (Array.length_toList).trans (turnB_size a k c)
  refine Bys.app (h.left.congr fun j hj => putF_out _ _ _ _ (by omega)) ?_
  have h2 := h.right
  rw [hl] at h2 ⊢
  refine Bys.app ?_ ?_
  · intro j hj
    have h3 := h2.left j (by omega)
    by_cases hjk : j = k
    · subst hjk
      rw [putF_in _ _ _ _ (by omega)]
      have e : 1000 + 32 + j - (1032 + j) = 0 := by omega
      rw [e, hs]
      simp [turnB]
    · rw [putF_out _ _ _ _ (by omega), h3]
      simp [turnB, Ne.symm hjk]
  · have h3 := h2.right
    rw [ea] at h3
    rw [eb]
    exact h3.congr fun j hj => putF_out _ _ _ _ (by omega)
end Go.Proofs.Ytagpnalhilgcpaa
