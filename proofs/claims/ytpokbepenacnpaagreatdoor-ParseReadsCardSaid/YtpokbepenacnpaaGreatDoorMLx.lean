/-
  The plain law of chapter 11 (lex): what the tokens of a text are, over lists of bytes; no program is in sight. No condition.
-/
import Derived.Lib.ParseIntB
import Derived.Lib.Case
import Derived.Lib.Bytealg
namespace Go.Proofs.YtpokbepenacnpaaGreatDoor

def isLet (c : UInt8) : Bool := (decide (97 ≤ c.toNat) && decide (c.toNat ≤ 122)) || (decide (65 ≤ c.toNat) && decide (c.toNat ≤ 90)) || decide (c.toNat = 95)
def isDig (c : UInt8) : Bool := decide (48 ≤ c.toNat) && decide (c.toNat ≤ 57)
def isLD (c : UInt8) : Bool := isLet c || isDig c
def isBl (c : UInt8) : Bool := decide (c.toNat = 32) || decide (c.toNat = 9) || decide (c.toNat = 10) || decide (c.toNat = 13)
def upc (c : UInt8) : UInt8 := if 97 ≤ c.toNat ∧ c.toNat ≤ 122 then c - 32 else c

/-- The words of chapter 11, as bytes. -/
def keyWords : List (List UInt8) := [[65, 78, 68], [65, 83], [65, 83, 67], [66, 89], [67, 79, 85, 78, 84], [68, 69, 83, 67], [70, 65, 76, 83, 69], [70, 82, 79, 77], [71, 82, 79, 85, 80], [73, 83], [74, 79, 73, 78], [76, 73, 77, 73, 84], [77, 65, 88], [77, 73, 78], [78, 79, 84], [78, 85, 76, 76], [79, 70, 70, 83, 69, 84], [79, 78], [79, 82], [79, 82, 68, 69, 82], [83, 69, 76, 69, 67, 84], [83, 85, 77], [84, 82, 85, 69], [87, 72, 69, 82, 69]]
def isKey (w : List UInt8) : Bool := keyWords.contains w

/-- A token without its place: its kind, its text, its number, its scale. -/
structure TokC where
  kind : Nat
  s : List UInt8
  n : Nat
  scale : Nat
deriving DecidableEq

/-- A token. -/
structure Tok where
  kind : Nat
  pos : Nat
  s : List UInt8
  n : Nat
  scale : Nat
deriving DecidableEq

def TokC.put (t : TokC) (pos : Nat) : Tok := ⟨t.kind, pos, t.s, t.n, t.scale⟩

def wordL (l : List UInt8) : Option (TokC × Nat) :=
  if isKey ((l.takeWhile isLD).map upc) = true then some (⟨1, (l.takeWhile isLD).map upc, 0, 0⟩, (l.takeWhile isLD).length)
  else if 40 < (l.takeWhile isLD).length then none
  else some (⟨2, l.takeWhile isLD, 0, 0⟩, (l.takeWhile isLD).length)

def numVal (l : List UInt8) : Nat := l.foldl (fun a c => a * 10 + (c.toNat - 48)) 0

/-- The digits behind a point. -/
def fracL (r : List UInt8) : List UInt8 := if r.head? = some 46 then (r.drop 1).takeWhile isDig else []
def numLen (l : List UInt8) : Nat := if fracL (l.dropWhile isDig) = [] then (l.takeWhile isDig).length else (l.takeWhile isDig).length + 1 + (fracL (l.dropWhile isDig)).length
def numDigits (l : List UInt8) : List UInt8 := l.takeWhile isDig ++ fracL (l.dropWhile isDig)
def headLet (l : List UInt8) : Bool := match l with | [] => false | c :: _ => isLet c

def numberL (l : List UInt8) : Option (TokC × Nat) :=
  if 9223372036854775807 < numVal (numDigits l) ∨ 9 < (fracL (l.dropWhile isDig)).length ∨ headLet (l.drop (numLen l)) = true then none
  else some (⟨3, [], numVal (numDigits l), (fracL (l.dropWhile isDig)).length⟩, numLen l)

/-- A text's bytes behind its first quote, and how many bytes they take with the last quote. -/
def textL : List UInt8 → Option (List UInt8 × Nat)
  | [] => none
  | c :: r => if c = 39 then (match r with
      | [] => some ([], 1)
      | d :: r' => if d = 39 then (textL r').map (fun x => (39 :: x.1, x.2 + 2)) else some ([], 1))
    else (textL r).map (fun x => (c :: x.1, x.2 + 1))

def textT (l : List UInt8) : Option (TokC × Nat) :=
  match textL (l.drop 1) with
  | none => none
  | some x => if 200 < x.1.length then none else some (⟨4, x.1, 0, 0⟩, x.2 + 1)

def marks2 : List (List UInt8) := [[60, 62], [60, 61], [62, 61]]
def marks1 : List UInt8 := [61, 60, 62, 43, 45, 42, 47, 40, 41, 44, 46]

def markL (l : List UInt8) : Option (TokC × Nat) :=
  if marks2.contains (l.take 2) = true then some (⟨5, l.take 2, 0, 0⟩, 2)
  else match l with
    | [] => none
    | c :: _ => if marks1.contains c = true then some (⟨5, [c], 0, 0⟩, 1) else none

/-- The token at the beginning of some bytes, and how many bytes it takes. -/
def tokL (l : List UInt8) : Option (TokC × Nat) :=
  match l with
  | [] => none
  | c :: _ => if isLet c = true then wordL l else if isDig c = true then numberL l else if c = 39 then textT l else markL l

/-- What is read: the tokens, or where it fails. -/
inductive Lexed where
  | good (l : List Tok)
  | bad (pos : Nat)
deriving DecidableEq

def Lexed.pre (ts : List Tok) : Lexed → Lexed
  | .good l => .good (ts ++ l)
  | .bad p => .bad p

theorem Lexed.pre_nil (x : Lexed) : x.pre [] = x := by cases x <;> rfl
theorem Lexed.pre_pre (a b : List Tok) (x : Lexed) : (x.pre b).pre a = x.pre (a ++ b) := by cases x <;> simp [Lexed.pre]

/-- The tokens of some bytes, which begin at a place at which no blank stands, or which are none. -/
def lexF : Nat → List UInt8 → Nat → Lexed
  | 0, _, p => .bad p
  | f + 1, l, p =>
    match l with
    | [] => .good [⟨0, p, [], 0, 0⟩]
    | c :: r => match tokL (c :: r) with
      | none => .bad p
      | some (t, n) => (lexF f (((c :: r).drop n).dropWhile isBl) (p + n + (((c :: r).drop n).takeWhile isBl).length)).pre [t.put p]

/-- From a place on at which no blank stands. -/
def lexG (l : List UInt8) (p : Nat) : Lexed := lexF (l.length + 1) l p

/-- The tokens of a text. -/
def lexAll (l : List UInt8) : Lexed := lexG (l.dropWhile isBl) (l.takeWhile isBl).length

theorem len_takeWhile_le {α : Type} (p : α → Bool) (l : List α) : (l.takeWhile p).length ≤ l.length := by
  induction l with
  | nil => simp
  | cons a l ih => simp only [List.takeWhile_cons]; split <;> simp <;> omega
theorem len_split {α : Type} (p : α → Bool) (l : List α) : (l.takeWhile p).length + (l.dropWhile p).length = l.length := by
  rw [← List.length_append, List.takeWhile_append_dropWhile]
theorem dropWhile_eq_drop {α : Type} (p : α → Bool) (l : List α) : l.dropWhile p = l.drop (l.takeWhile p).length := by
  induction l with
  | nil => rfl
  | cons a l ih => simp only [List.dropWhile_cons, List.takeWhile_cons]; split <;> simp_all

theorem fracL_le (r : List UInt8) : fracL r = [] ∨ (fracL r).length + 1 ≤ r.length := by
  unfold fracL
  split
  · rename_i h
    cases r with
    | nil => simp at h
    | cons c r => right; have := len_takeWhile_le isDig r; simp; omega
  · left; rfl

theorem numLen_le (l : List UInt8) : numLen l ≤ l.length := by
  unfold numLen
  have h1 := len_split isDig l
  rcases fracL_le (l.dropWhile isDig) with h | h
  · rw [if_pos h]; omega
  · split <;> omega

theorem textL_le : ∀ (k : Nat) (l : List UInt8), l.length ≤ k → ∀ x, textL l = some x → 0 < x.2 ∧ x.2 ≤ l.length ∧ x.1.length ≤ x.2 := by
  intro k
  induction k with
  | zero => intro l hl x h; cases l with
    | nil => simp [textL] at h
    | cons c r => simp at hl
  | succ k ih =>
    intro l hl x h
    cases l with
    | nil => simp [textL] at h
    | cons c r =>
      unfold textL at h
      split at h
      · cases r with
        | nil => simp at h; subst h; simp
        | cons d r' =>
          simp only at h
          split at h
          · obtain ⟨y, hy, rfl⟩ := Option.map_eq_some_iff.1 h
            have := ih r' (by simp at hl; omega) y hy
            simp; omega
          · simp at h; subst h; simp
      · obtain ⟨y, hy, rfl⟩ := Option.map_eq_some_iff.1 h
        have := ih r (by simp at hl; omega) y hy
        simp; omega

theorem tokL_le {l : List UInt8} {t : TokC} {n : Nat} (h : tokL l = some (t, n)) : 0 < n ∧ n ≤ l.length := by
  cases l with
  | nil => simp [tokL] at h
  | cons c r =>
    unfold tokL at h
    simp only at h
    split at h
    · rename_i hc
      have h1 : isLD c = true := by simp [isLD, hc]
      have h2 : 0 < ((c :: r).takeWhile isLD).length := by simp [h1]
      have h3 := len_takeWhile_le isLD (c :: r)
      unfold wordL at h
      split at h
      · simp at h; obtain ⟨-, rfl⟩ := h; exact ⟨h2, h3⟩
      · split at h
        · simp at h
        · simp at h; obtain ⟨-, rfl⟩ := h; exact ⟨h2, h3⟩
    · split at h
      · rename_i hc
        have h2 : 0 < ((c :: r).takeWhile isDig).length := by simp [hc]
        have h3 := numLen_le (c :: r)
        unfold numberL at h
        split at h
        · simp at h
        · simp only [Option.some.injEq, Prod.mk.injEq] at h; obtain ⟨-, rfl⟩ := h
          refine ⟨?_, h3⟩
          unfold numLen
          split <;> omega
      · split at h
        · unfold textT at h
          split at h
          · simp at h
          · rename_i x hx
            have := textL_le _ _ (Nat.le_refl _) x hx
            split at h
            · simp at h
            · simp at h; obtain ⟨-, rfl⟩ := h
              simp at this ⊢; omega
        · unfold markL at h
          split at h
          · rename_i hm
            simp at h; obtain ⟨-, rfl⟩ := h
            refine ⟨by omega, ?_⟩
            cases r with
            | nil => simp [marks2] at hm
            | cons d r => simp
          · simp only at h
            split at h
            · simp at h; obtain ⟨-, rfl⟩ := h; simp
            · simp at h

theorem lexF_fuel : ∀ (f g : Nat) (l : List UInt8) (p : Nat), l.length < f → l.length < g → lexF f l p = lexF g l p := by
  intro f
  induction f with
  | zero => intro g l p h; omega
  | succ f ih =>
    intro g l p hf hg
    cases g with
    | zero => omega
    | succ g =>
      cases l with
      | nil => rfl
      | cons c r =>
        simp only [lexF]
        cases ht : tokL (c :: r) with
        | none => rfl
        | some x =>
          obtain ⟨t, n⟩ := x
          obtain ⟨h1, h2⟩ := tokL_le ht
          simp only
          have h3 := len_split isBl ((c :: r).drop n)
          have h4 : ((c :: r).drop n).length = (c :: r).length - n := List.length_drop
          rw [ih g _ _ (by omega) (by omega)]

theorem lexG_nil (p : Nat) : lexG [] p = .good [⟨0, p, [], 0, 0⟩] := rfl
theorem lexG_bad {l : List UInt8} (p : Nat) (h0 : l ≠ []) (h : tokL l = none) : lexG l p = .bad p := by
  cases l with
  | nil => exact absurd rfl h0
  | cons c r => unfold lexG lexF; simp only; rw [h]
theorem lexG_good {l : List UInt8} (p : Nat) {t : TokC} {n : Nat} (h : tokL l = some (t, n)) :
    lexG l p = (lexG ((l.drop n).dropWhile isBl) (p + n + ((l.drop n).takeWhile isBl).length)).pre [t.put p] := by
  cases l with
  | nil => simp [tokL] at h
  | cons c r =>
    obtain ⟨h1, h2⟩ := tokL_le h
    have h3 := len_split isBl ((c :: r).drop n)
    have h4 : ((c :: r).drop n).length = (c :: r).length - n := List.length_drop
    unfold lexG
    rw [lexF, h]
    simp only
    rw [lexF_fuel _ ((((c :: r).drop n).dropWhile isBl).length + 1) _ _ (by omega) (by omega)]

end Go.Proofs.YtpokbepenacnpaaGreatDoor

namespace Go.Proofs.YtpokbepenacnpaaGreatDoor

theorem mem_tw {α : Type} {p : α → Bool} {l : List α} {x : α} (h : x ∈ l.takeWhile p) : p x = true := by
  induction l with
  | nil => simp at h
  | cons a l ih =>
    rw [List.takeWhile_cons] at h
    split at h
    · rename_i ha
      rcases List.mem_cons.1 h with rfl | h
      · exact ha
      · exact ih h
    · simp at h
theorem bl_cases {s : UInt8} (h : isBl s = true) : s = 32 ∨ s = 9 ∨ s = 10 ∨ s = 13 := by
  have h' : s.toNat = 32 ∨ s.toNat = 9 ∨ s.toNat = 10 ∨ s.toNat = 13 := by simpa [isBl, or_assoc] using h
  rcases h' with h | h | h | h
  · exact .inl (UInt8.toNat_inj.1 h)
  · exact .inr (.inl (UInt8.toNat_inj.1 h))
  · exact .inr (.inr (.inl (UInt8.toNat_inj.1 h)))
  · exact .inr (.inr (.inr (UInt8.toNat_inj.1 h)))
/-- The tokens of some bytes, from a place on at which blanks may stand. -/
def lexB (l : List UInt8) (p : Nat) : Lexed := lexG (l.dropWhile isBl) (p + (l.takeWhile isBl).length)

theorem lexB_zero (l : List UInt8) : lexB l 0 = lexAll l := by unfold lexB lexAll; rw [Nat.zero_add]
theorem lexG_next {l : List UInt8} (p : Nat) {t : TokC} {n : Nat} (h : tokL l = some (t, n)) : lexG l p = (lexB (l.drop n) (p + n)).pre [t.put p] := lexG_good p h

def Tok.shift (q k : Nat) (t : Tok) : Tok := if q ≤ t.pos then ⟨t.kind, t.pos + k, t.s, t.n, t.scale⟩ else t

end Go.Proofs.YtpokbepenacnpaaGreatDoor

namespace Go.Proofs.YtpokbepenacnpaaGreatDoor

/-! ### Texts -/

def dbl : List UInt8 → List UInt8
  | [] => []
  | c :: r => if c = 39 then 39 :: 39 :: dbl r else c :: dbl r

theorem textL_cons {c : UInt8} (r : List UInt8) (h : c ≠ 39) : textL (c :: r) = (textL r).map (fun x => (c :: x.1, x.2 + 1)) := by
  conv => lhs; unfold textL
  rw [if_neg h]
theorem textL_two (r : List UInt8) : textL (39 :: 39 :: r) = (textL r).map (fun x => (39 :: x.1, x.2 + 2)) := by
  conv => lhs; unfold textL
  rw [if_pos rfl]
  simp
theorem textL_end (c : UInt8) (r : List UInt8) (h : c ≠ 39) : textL (39 :: c :: r) = some ([], 1) := by
  unfold textL
  rw [if_pos rfl]
  simp [h]

/-! ### Numbers -/

theorem dig_let {c : UInt8} (h : isDig c = true) : isLet c = false ∧ isBl c = false := by
  have h' : 48 ≤ c.toNat ∧ c.toNat ≤ 57 := by simpa [isDig] using h
  simp only [isLet, isBl]
  constructor <;> simp <;> omega

theorem numVal_snoc (l : List UInt8) (c : UInt8) : numVal (l ++ [c]) = numVal l * 10 + (c.toNat - 48) := by
  simp [numVal]
theorem numVal_fold (l : List UInt8) : ∀ a : Nat, l.foldl (fun a c => a * 10 + (c.toNat - 48)) a = a * 10 ^ l.length + numVal l := by
  induction l with
  | nil => intro a; simp [numVal]
  | cons c r ih =>
    intro a
    show r.foldl _ (a * 10 + (c.toNat - 48)) = _
    rw [ih]
    have e : numVal (c :: r) = (c.toNat - 48) * 10 ^ r.length + numVal r := by
      show r.foldl _ (0 * 10 + (c.toNat - 48)) = _
      rw [ih]; simp
    rw [e, List.length_cons, Nat.pow_succ, Nat.add_mul, Nat.mul_assoc, Nat.mul_comm 10 (10 ^ r.length), Nat.add_assoc]
/-! ### Words -/

theorem let_bl {c : UInt8} (h : isLet c = true) : isBl c = false := by
  have h' : ((97 ≤ c.toNat ∧ c.toNat ≤ 122) ∨ (65 ≤ c.toNat ∧ c.toNat ≤ 90)) ∨ c.toNat = 95 := by simpa [isLet] using h
  simp only [isBl]
  simp; omega
end Go.Proofs.YtpokbepenacnpaaGreatDoor

namespace Go.Proofs.YtpokbepenacnpaaGreatDoor

def foldN (a : Nat) (l : List UInt8) : Nat := l.foldl (fun a c => a * 10 + (c.toNat - 48)) a
theorem foldN_ge (l : List UInt8) : ∀ a, a ≤ foldN a l := by
  induction l with
  | nil => intro a; exact Nat.le_refl a
  | cons c r ih =>
    intro a
    have := ih (a * 10 + (c.toNat - 48))
    show a ≤ foldN (a * 10 + (c.toNat - 48)) r
    omega

theorem parseM (M : Nat) (hM : M = 18446744073709551615) (l : List UInt8) : ∀ a, a ≤ M → (∀ x ∈ l, isDig x = true) → Lib.parseUintM M a l = if M < foldN a l then .range else .ok (foldN a l) := by
  induction l with
  | nil => intro a ha _; unfold Lib.parseUintM; show _ = if M < a then _ else _; rw [if_neg (by omega)]; rfl
  | cons c r ih =>
    intro a ha hd
    have hc : 48 ≤ c.toNat ∧ c.toNat ≤ 57 := by simpa [isDig] using hd c (by simp)
    have hg := foldN_ge r (a * 10 + (c.toNat - 48))
    have e : foldN a (c :: r) = foldN (a * 10 + (c.toNat - 48)) r := rfl
    unfold Lib.parseUintM
    rw [if_pos hc, e]
    split
    · rw [if_pos (by omega)]
    · split
      · rw [if_pos (by omega)]
      · exact ih _ (by omega) (fun x hx => hd x (by simp [hx]))

theorem parse_digits (d : List UInt8) (h0 : d ≠ []) (hd : ∀ x ∈ d, isDig x = true) : Lib.parseIntB 64 d = if 9223372036854775807 < numVal d then .range else .ok (numVal d : Int) := by
  cases d with
  | nil => exact absurd rfl h0
  | cons c r =>
    have hc : 48 ≤ c.toNat ∧ c.toNat ≤ 57 := by simpa [isDig] using hd c (by simp)
    have hp := parseM (2 ^ 64 - 1) (by decide) (c :: r) 0 (by omega) hd
    have e : foldN 0 (c :: r) = numVal (c :: r) := rfl
    rw [e] at hp
    unfold Lib.parseIntB
    simp only
    rw [if_neg (show ¬ (c.toNat = 43 ∨ c.toNat = 45) by omega)]
    unfold Lib.parseUintB
    rw [if_neg (by simp), hp]
    generalize numVal (c :: r) = v
    have hneg : ¬ c.toNat = 45 := by omega
    by_cases h1 : 2 ^ 64 - 1 < v
    · rw [if_pos h1, if_pos (by omega)]
    · rw [if_neg h1]
      simp only [hneg, if_false, not_false_eq_true, true_and, false_and]
      by_cases h2 : 9223372036854775807 < v
      · rw [if_pos (show 2 ^ (64 - 1) ≤ v by omega), if_pos h2]
      · rw [if_neg (show ¬ 2 ^ (64 - 1) ≤ v by omega), if_neg h2]

theorem upperB_upc (c : UInt8) : Lib.upperB c = upc c := by
  have h : Lib.isLowerB c = decide (97 ≤ c.toNat ∧ c.toNat ≤ 122) := by
    rw [Bool.eq_iff_iff]
    simp [Lib.isLowerB, UInt8.le_iff_toNat_le]
  unfold Lib.upperB upc
  rw [h]
  by_cases h1 : 97 ≤ c.toNat ∧ c.toNat ≤ 122 <;> simp [h1]
theorem toUpperA_upc (l : List UInt8) : Lib.toUpperA l = l.map upc := by
  unfold Lib.toUpperA
  exact List.map_congr_left fun x _ => upperB_upc x
theorem LD_ascii {c : UInt8} (h : isLD c = true) : c.toNat < 128 := by
  have h' : (((97 ≤ c.toNat ∧ c.toNat ≤ 122) ∨ (65 ≤ c.toNat ∧ c.toNat ≤ 90)) ∨ c.toNat = 95) ∨ (48 ≤ c.toNat ∧ c.toNat ≤ 57) := by simpa [isLD, isLet, isDig] using h
  omega

/-- Behind the bytes ahead of the first quote stands a quote, or there is none. -/
theorem textL_quote (l : List UInt8) : (Lib.indexByte l 39 = -1 ∧ textL l = none) ∨ ∃ n : Nat, Lib.indexByte l 39 = n ∧ n < l.length ∧ l[n]? = some 39 ∧ textL l = (textL (l.drop n)).map (fun x => (l.take n ++ x.1, x.2 + n)) := by
  induction l with
  | nil => left; exact ⟨rfl, by unfold textL; rfl⟩
  | cons c r ih =>
    by_cases hc : c = 39
    · subst hc
      right
      refine ⟨0, by unfold Lib.indexByte; rfl, by simp, rfl, ?_⟩
      simp
    · have hcb : (c == 39) = false := by simpa using hc
      rcases ih with ⟨h1, h2⟩ | ⟨n, h1, h2, h3, h4⟩
      · left
        refine ⟨?_, by rw [textL_cons _ hc, h2]; rfl⟩
        unfold Lib.indexByte
        rw [hcb, h1]; rfl
      · right
        refine ⟨n + 1, ?_, by simp only [List.length_cons]; omega, by simpa using h3, ?_⟩
        · unfold Lib.indexByte
          rw [hcb, h1]
          have : ((n : Int) == -1) = false := by rw [beq_eq_false_iff_ne]; omega
          simp [this]
        · rw [textL_cons _ hc, h4]
          simp only [List.drop_succ_cons, List.take_succ_cons]
          cases textL (r.drop n) with
          | none => rfl
          | some x => simp; omega
end Go.Proofs.YtpokbepenacnpaaGreatDoor
