/-
  The plain law of chapter 11, part 4: what the library's ParseInt says of digits; capitals; where a quote stands. No program is in sight. No condition.
-/
import Derived.Test.YtpghimiecigakaaDoorLxC
import Derived.Lib.ParseIntB
import Derived.Lib.Case
import Derived.Lib.Bytealg
namespace Go.Proofs.YtpghimiecigakaaDoor

def foldN (a : Nat) (l : List UInt8) : Nat := l.foldl (fun a c => a * 10 + (c.toNat - 48)) a
theorem foldN_ge (l : List UInt8) : ∀ a, a ≤ foldN a l := by
  induction l with
  | nil => intro a; exact Nat.le_refl a
  | cons c r ih =>
    intro a
    have := ih (a * 10 + (c.toNat - 48))
    show a ≤ foldN (a * 10 + (c.toNat - 48)) r
    omega

theorem parseM (M : Nat) (hM : M = 18446744073709551615) (l : List UInt8) : ∀ a, a ≤ M → (∀ x ∈ l, isDig x = true) → Lib.parseUintM M a l = if M < foldN a l then .range else .ok (foldN a l) := by
  induction l with
  | nil => intro a ha _; unfold Lib.parseUintM; show _ = if M < a then _ else _; rw [if_neg (by omega)]; rfl
  | cons c r ih =>
    intro a ha hd
    have hc : 48 ≤ c.toNat ∧ c.toNat ≤ 57 := by simpa [isDig] using hd c (by simp)
    have hg := foldN_ge r (a * 10 + (c.toNat - 48))
    have e : foldN a (c :: r) = foldN (a * 10 + (c.toNat - 48)) r := rfl
    unfold Lib.parseUintM
    rw [if_pos hc, e]
    split
    · rw [if_pos (by omega)]
    · split
      · rw [if_pos (by omega)]
      · exact ih _ (by omega) (fun x hx => hd x (by simp [hx]))

theorem parse_digits (d : List UInt8) (h0 : d ≠ []) (hd : ∀ x ∈ d, isDig x = true) : Lib.parseIntB 64 d = if 9223372036854775807 < numVal d then .range else .ok (numVal d : Int) := by
  cases d with
  | nil => exact absurd rfl h0
  | cons c r =>
    have hc : 48 ≤ c.toNat ∧ c.toNat ≤ 57 := by simpa [isDig] using hd c (by simp)
    have hp := parseM (2 ^ 64 - 1) (by decide) (c :: r) 0 (by omega) hd
    have e : foldN 0 (c :: r) = numVal (c :: r) := rfl
    rw [e] at hp
    unfold Lib.parseIntB
    simp only
    rw [if_neg (show ¬ (c.toNat = 43 ∨ c.toNat = 45) by omega)]
    unfold Lib.parseUintB
    rw [if_neg (by simp), hp]
    generalize numVal (c :: r) = v
    have hneg : ¬ c.toNat = 45 := by omega
    by_cases h1 : 2 ^ 64 - 1 < v
    · rw [if_pos h1, if_pos (by omega)]
    · rw [if_neg h1]
      simp only [hneg, if_false, not_false_eq_true, true_and, false_and]
      by_cases h2 : 9223372036854775807 < v
      · rw [if_pos (show 2 ^ (64 - 1) ≤ v by omega), if_pos h2]
      · rw [if_neg (show ¬ 2 ^ (64 - 1) ≤ v by omega), if_neg h2]

theorem upperB_upc (c : UInt8) : Lib.upperB c = upc c := by
  have h : Lib.isLowerB c = decide (97 ≤ c.toNat ∧ c.toNat ≤ 122) := by
    rw [Bool.eq_iff_iff]
    simp [Lib.isLowerB, UInt8.le_iff_toNat_le]
  unfold Lib.upperB upc
  rw [h]
  by_cases h1 : 97 ≤ c.toNat ∧ c.toNat ≤ 122 <;> simp [h1]
theorem toUpperA_upc (l : List UInt8) : Lib.toUpperA l = l.map upc := by
  unfold Lib.toUpperA
  exact List.map_congr_left fun x _ => upperB_upc x
theorem LD_ascii {c : UInt8} (h : isLD c = true) : c.toNat < 128 := by
  have h' : (((97 ≤ c.toNat ∧ c.toNat ≤ 122) ∨ (65 ≤ c.toNat ∧ c.toNat ≤ 90)) ∨ c.toNat = 95) ∨ (48 ≤ c.toNat ∧ c.toNat ≤ 57) := by simpa [isLD, isLet, isDig] using h
  omega

/-- Behind the bytes ahead of the first quote stands a quote, or there is none. -/
theorem textL_quote (l : List UInt8) : (Lib.indexByte l 39 = -1 ∧ textL l = none) ∨ ∃ n : Nat, Lib.indexByte l 39 = n ∧ n < l.length ∧ l[n]? = some 39 ∧ textL l = (textL (l.drop n)).map (fun x => (l.take n ++ x.1, x.2 + n)) := by
  induction l with
  | nil => left; exact ⟨rfl, by unfold textL; rfl⟩
  | cons c r ih =>
    by_cases hc : c = 39
    · subst hc
      right
      refine ⟨0, by unfold Lib.indexByte; rfl, by simp, rfl, ?_⟩
      simp
    · have hcb : (c == 39) = false := by simpa using hc
      rcases ih with ⟨h1, h2⟩ | ⟨n, h1, h2, h3, h4⟩
      · left
        refine ⟨?_, by rw [textL_cons _ hc, h2]; rfl⟩
        unfold Lib.indexByte
        rw [hcb, h1]; rfl
      · right
        refine ⟨n + 1, ?_, by simp only [List.length_cons]; omega, by simpa using h3, ?_⟩
        · unfold Lib.indexByte
          rw [hcb, h1]
          have : ((n : Int) == -1) = false := by rw [beq_eq_false_iff_ne]; omega
          simp [this]
        · rw [textL_cons _ hc, h4]
          simp only [List.drop_succ_cons, List.take_succ_cons]
          cases textL (r.drop n) with
          | none => rfl
          | some x => simp; omega
end Go.Proofs.YtpghimiecigakaaDoor
