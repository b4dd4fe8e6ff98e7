/-
  Small words that the laws on tokens, and the document's chapter 11, share. No condition.
-/
import Derived.Test.YtpghimiecigakaaDoorLyB0
namespace Go.Proofs.YtpghimiecigakaaDoor
open Go.RowKit
set_option linter.unusedVariables false

theorem app_list (a b : ByteArray) : (a ++ b).data.toList = a.data.toList ++ b.data.toList := by simp
theorem size_list (a : ByteArray) : a.size = a.data.toList.length := rfl

def marksAll : List (List UInt8) := [[60, 62], [60, 61], [62, 61], [61], [60], [62], [43], [45], [42], [47], [40], [41], [44], [46]]
def markCells : Array Value := (marksAll.map fun l => Value.string ⟨l.toArray⟩).toArray

def wordCells : Array Value := (keyWords.map fun l => Value.string ⟨l.toArray⟩).toArray
theorem lexG_len : ∀ (f : Nat) (l : List UInt8) (p : Nat) (L : List Tok), l.length ≤ f → lexG l p = .good L → L.length ≤ l.length + 1 := by
  intro f
  induction f with
  | zero =>
    intro l p L hf h
    obtain rfl : l = [] := List.length_eq_zero_iff.1 (by omega)
    rw [lexG_nil] at h
    cases h
    simp
  | succ f ih =>
    intro l p L hf h
    cases l with
    | nil => rw [lexG_nil] at h; cases h; simp
    | cons c r =>
      cases hk : tokL (c :: r) with
      | none => rw [lexG_bad p (by simp) hk] at h; cases h
      | some x =>
        obtain ⟨u, n⟩ := x
        obtain ⟨h1, h2⟩ := tokL_le hk
        rw [lexG_good p hk] at h
        have h3 := len_split isBl ((c :: r).drop n)
        have h4 : ((c :: r).drop n).length = (c :: r).length - n := List.length_drop
        cases hg : lexG (((c :: r).drop n).dropWhile isBl) (p + n + (((c :: r).drop n).takeWhile isBl).length) with
        | bad q => rw [hg] at h; cases h
        | good L2 =>
          rw [hg] at h
          simp only [Lexed.pre] at h
          cases h
          have := ih _ _ _ (by omega) hg
          simp only [List.cons_append, List.nil_append, List.length_cons] at this ⊢
          simp only [List.length_cons] at h1 h2 h3 h4
          omega
theorem lexAll_len {l : List UInt8} {L : List Tok} (h : lexAll l = .good L) : L.length ≤ l.length + 1 := by
  unfold lexAll at h
  have := lexG_len _ _ _ _ (Nat.le_refl _) h
  have := len_split isBl l
  omega
end Go.Proofs.YtpghimiecigakaaDoor
