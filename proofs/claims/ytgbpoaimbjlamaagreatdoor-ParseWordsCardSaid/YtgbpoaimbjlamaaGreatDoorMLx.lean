/-
  The plain law of chapter 11 (lex): what the tokens of a text are, over lists of bytes; no program is in sight. No condition.
-/
import Derived.Lib.ParseIntB
import Derived.Lib.Case
import Derived.Lib.Bytealg
namespace Go.Proofs.YtgbpoaimbjlamaaGreatDoor

def isLet (c : UInt8) : Bool := (decide (97 ≤ c.toNat) && decide (c.toNat ≤ 122)) || (decide (65 ≤ c.toNat) && decide (c.toNat ≤ 90)) || decide (c.toNat = 95)
def isDig (c : UInt8) : Bool := decide (48 ≤ c.toNat) && decide (c.toNat ≤ 57)
def isLD (c : UInt8) : Bool := isLet c || isDig c
def isBl (c : UInt8) : Bool := decide (c.toNat = 32) || decide (c.toNat = 9) || decide (c.toNat = 10) || decide (c.toNat = 13)
def upc (c : UInt8) : UInt8 := if 97 ≤ c.toNat ∧ c.toNat ≤ 122 then c - 32 else c

/-- The words of chapter 11, as bytes. -/
def keyWords : List (List UInt8) := [[65, 78, 68], [65, 83], [65, 83, 67], [66, 89], [67, 79, 85, 78, 84], [68, 69, 83, 67], [70, 65, 76, 83, 69], [70, 82, 79, 77], [71, 82, 79, 85, 80], [73, 83], [74, 79, 73, 78], [76, 73, 77, 73, 84], [77, 65, 88], [77, 73, 78], [78, 79, 84], [78, 85, 76, 76], [79, 70, 70, 83, 69, 84], [79, 78], [79, 82], [79, 82, 68, 69, 82], [83, 69, 76, 69, 67, 84], [83, 85, 77], [84, 82, 85, 69], [87, 72, 69, 82, 69]]
def isKey (w : List UInt8) : Bool := keyWords.contains w

/-- A token without its place: its kind, its text, its number, its scale. -/
structure TokC where
  kind : Nat
  s : List UInt8
  n : Nat
  scale : Nat
deriving DecidableEq

/-- A token. -/
structure Tok where
  kind : Nat
  pos : Nat
  s : List UInt8
  n : Nat
  scale : Nat
deriving DecidableEq

def TokC.put (t : TokC) (pos : Nat) : Tok := ⟨t.kind, pos, t.s, t.n, t.scale⟩

def wordL (l : List UInt8) : Option (TokC × Nat) :=
  if isKey ((l.takeWhile isLD).map upc) = true then some (⟨1, (l.takeWhile isLD).map upc, 0, 0⟩, (l.takeWhile isLD).length)
  else if 40 < (l.takeWhile isLD).length then none
  else some (⟨2, l.takeWhile isLD, 0, 0⟩, (l.takeWhile isLD).length)

def numVal (l : List UInt8) : Nat := l.foldl (fun a c => a * 10 + (c.toNat - 48)) 0

/-- The digits behind a point. -/
def fracL (r : List UInt8) : List UInt8 := if r.head? = some 46 then (r.drop 1).takeWhile isDig else []
def numLen (l : List UInt8) : Nat := if fracL (l.dropWhile isDig) = [] then (l.takeWhile isDig).length else (l.takeWhile isDig).length + 1 + (fracL (l.dropWhile isDig)).length
def numDigits (l : List UInt8) : List UInt8 := l.takeWhile isDig ++ fracL (l.dropWhile isDig)
def headLet (l : List UInt8) : Bool := match l with | [] => false | c :: _ => isLet c

def numberL (l : List UInt8) : Option (TokC × Nat) :=
  if 9223372036854775807 < numVal (numDigits l) ∨ 9 < (fracL (l.dropWhile isDig)).length ∨ headLet (l.drop (numLen l)) = true then none
  else some (⟨3, [], numVal (numDigits l), (fracL (l.dropWhile isDig)).length⟩, numLen l)

/-- A text's bytes behind its first quote, and how many bytes they take with the last quote. -/
def textL : List UInt8 → Option (List UInt8 × Nat)
  | [] => none
  | c :: r => if c = 39 then (match r with
      | [] => some ([], 1)
      | d :: r' => if d = 39 then (textL r').map (fun x => (39 :: x.1, x.2 + 2)) else some ([], 1))
    else (textL r).map (fun x => (c :: x.1, x.2 + 1))

def textT (l : List UInt8) : Option (TokC × Nat) :=
  match textL (l.drop 1) with
  | none => none
  | some x => if 200 < x.1.length then none else some (⟨4, x.1, 0, 0⟩, x.2 + 1)

def marks2 : List (List UInt8) := [[60, 62], [60, 61], [62, 61]]
def marks1 : List UInt8 := [61, 60, 62, 43, 45, 42, 47, 40, 41, 44, 46]

def markL (l : List UInt8) : Option (TokC × Nat) :=
  if marks2.contains (l.take 2) = true then some (⟨5, l.take 2, 0, 0⟩, 2)
  else match l with
    | [] => none
    | c :: _ => if marks1.contains c = true then some (⟨5, [c], 0, 0⟩, 1) else none

/-- The token at the beginning of some bytes, and how many bytes it takes. -/
def tokL (l : List UInt8) : Option (TokC × Nat) :=
  match l with
  | [] => none
  | c :: _ => if isLet c = true then wordL l else if isDig c = true then numberL l else if c = 39 then textT l else markL l

/-- What is read: the tokens, or where it fails. -/
inductive Lexed where
  | good (l : List Tok)
  | bad (pos : Nat)
deriving DecidableEq

def Lexed.pre (ts : List Tok) : Lexed → Lexed
  | .good l => .good (ts ++ l)
  | .bad p => .bad p

theorem Lexed.pre_nil (x : Lexed) : x.pre [] = x := by cases x <;> rfl
theorem Lexed.pre_pre (a b : List Tok) (x : Lexed) : (x.pre b).pre a = x.pre (a ++ b) := by cases x <;> simp [Lexed.pre]

/-- The tokens of some bytes, which begin at a place at which no blank stands, or which are none. -/
def lexF : Nat → List UInt8 → Nat → Lexed
  | 0, _, p => .bad p
  | f + 1, l, p =>
    match l with
    | [] => .good [⟨0, p, [], 0, 0⟩]
    | c :: r => match tokL (c :: r) with
      | none => .bad p
      | some (t, n) => (lexF f (((c :: r).drop n).dropWhile isBl) (p + n + (((c :: r).drop n).takeWhile isBl).length)).pre [t.put p]

/-- From a place on at which no blank stands. -/
def lexG (l : List UInt8) (p : Nat) : Lexed := lexF (l.length + 1) l p

/-- The tokens of a text. -/
def lexAll (l : List UInt8) : Lexed := lexG (l.dropWhile isBl) (l.takeWhile isBl).length

theorem len_takeWhile_le {α : Type} (p : α → Bool) (l : List α) : (l.takeWhile p).length ≤ l.length := by
  induction l with
  | nil => simp
  | cons a l ih => simp only [List.takeWhile_cons]; split <;> simp <;> omega
theorem len_split {α : Type} (p : α → Bool) (l : List α) : (l.takeWhile p).length + (l.dropWhile p).length = l.length := by
  rw [← List.length_append, List.takeWhile_append_dropWhile]
theorem dropWhile_eq_drop {α : Type} (p : α → Bool) (l : List α) : l.dropWhile p = l.drop (l.takeWhile p).length := by
  induction l with
  | nil => rfl
  | cons a l ih => simp only [List.dropWhile_cons, List.takeWhile_cons]; split <;> simp_all

theorem fracL_le (r : List UInt8) : fracL r = [] ∨ (fracL r).length + 1 ≤ r.length := by
  unfold fracL
  split
  · rename_i h
    cases r with
    | nil => simp at h
    | cons c r => right; have := len_takeWhile_le isDig r; simp; omega
  · left; rfl

theorem numLen_le (l : List UInt8) : numLen l ≤ l.length := by
  unfold numLen
  have h1 := len_split isDig l
  rcases fracL_le (l.dropWhile isDig) with h | h
  · rw [if_pos h]; omega
  · split <;> omega

theorem textL_le : ∀ (k : Nat) (l : List UInt8), l.length ≤ k → ∀ x, textL l = some x → 0 < x.2 ∧ x.2 ≤ l.length ∧ x.1.length ≤ x.2 := by
  intro k
  induction k with
  | zero => intro l hl x h; cases l with
    | nil => simp [textL] at h
    | cons c r => simp at hl
  | succ k ih =>
    intro l hl x h
    cases l with
    | nil => simp [textL] at h
    | cons c r =>
      unfold textL at h
      split at h
      · cases r with
        | nil => simp at h; subst h; simp
        | cons d r' =>
          simp only at h
          split at h
          · obtain ⟨y, hy, rfl⟩ := Option.map_eq_some_iff.1 h
            have := ih r' (by simp at hl; omega) y hy
            simp; omega
          · simp at h; subst h; simp
      · obtain ⟨y, hy, rfl⟩ := Option.map_eq_some_iff.1 h
        have := ih r (by simp at hl; omega) y hy
        simp; omega

theorem tokL_le {l : List UInt8} {t : TokC} {n : Nat} (h : tokL l = some (t, n)) : 0 < n ∧ n ≤ l.length := by
  cases l with
  | nil => simp [tokL] at h
  | cons c r =>
    unfold tokL at h
    simp only at h
    split at h
    · rename_i hc
      have h1 : isLD c = true := by simp [isLD, hc]
      have h2 : 0 < ((c :: r).takeWhile isLD).length := by simp [h1]
      have h3 := len_takeWhile_le isLD (c :: r)
      unfold wordL at h
      split at h
      · simp at h; obtain ⟨-, rfl⟩ := h; exact ⟨h2, h3⟩
      · split at h
        · simp at h
        · simp at h; obtain ⟨-, rfl⟩ := h; exact ⟨h2, h3⟩
    · split at h
      · rename_i hc
        have h2 : 0 < ((c :: r).takeWhile isDig).length := by simp [hc]
        have h3 := numLen_le (c :: r)
        unfold numberL at h
        split at h
        · simp at h
        · simp only [Option.some.injEq, Prod.mk.injEq] at h; obtain ⟨-, rfl⟩ := h
          refine ⟨?_, h3⟩
          unfold numLen
          split <;> omega
      · split at h
        · unfold textT at h
          split at h
          · simp at h
          · rename_i x hx
            have := textL_le _ _ (Nat.le_refl _) x hx
            split at h
            · simp at h
            · simp at h; obtain ⟨-, rfl⟩ := h
              simp at this ⊢; omega
        · unfold markL at h
          split at h
          · rename_i hm
            simp at h; obtain ⟨-, rfl⟩ := h
            refine ⟨by omega, ?_⟩
            cases r with
            | nil => simp [marks2] at hm
            | cons d r => simp
          · simp only at h
            split at h
            · simp at h; obtain ⟨-, rfl⟩ := h; simp
            · simp at h

theorem lexF_fuel : ∀ (f g : Nat) (l : List UInt8) (p : Nat), l.length < f → l.length < g → lexF f l p = lexF g l p := by
  intro f
  induction f with
  | zero => intro g l p h; omega
  | succ f ih =>
    intro g l p hf hg
    cases g with
    | zero => omega
    | succ g =>
      cases l with
      | nil => rfl
      | cons c r =>
        simp only [lexF]
        cases ht : tokL (c :: r) with
        | none => rfl
        | some x =>
          obtain ⟨t, n⟩ := x
          obtain ⟨h1, h2⟩ := tokL_le ht
          simp only
          have h3 := len_split isBl ((c :: r).drop n)
          have h4 : ((c :: r).drop n).length = (c :: r).length - n := List.length_drop
          rw [ih g _ _ (by omega) (by omega)]

theorem lexG_nil (p : Nat) : lexG [] p = .good [⟨0, p, [], 0, 0⟩] := rfl
theorem lexG_bad {l : List UInt8} (p : Nat) (h0 : l ≠ []) (h : tokL l = none) : lexG l p = .bad p := by
  cases l with
  | nil => exact absurd rfl h0
  | cons c r => unfold lexG lexF; simp only; rw [h]
theorem lexG_good {l : List UInt8} (p : Nat) {t : TokC} {n : Nat} (h : tokL l = some (t, n)) :
    lexG l p = (lexG ((l.drop n).dropWhile isBl) (p + n + ((l.drop n).takeWhile isBl).length)).pre [t.put p] := by
  cases l with
  | nil => simp [tokL] at h
  | cons c r =>
    obtain ⟨h1, h2⟩ := tokL_le h
    have h3 := len_split isBl ((c :: r).drop n)
    have h4 : ((c :: r).drop n).length = (c :: r).length - n := List.length_drop
    unfold lexG
    rw [lexF, h]
    simp only
    rw [lexF_fuel _ ((((c :: r).drop n).dropWhile isBl).length + 1) _ _ (by omega) (by omega)]

/-- Are the chapter's examples so? -/
theorem lex_ex1 : lexAll [97, 60, 61, 49, 46, 53, 48] = .good [⟨2, 0, [97], 0, 0⟩, ⟨5, 1, [60, 61], 0, 0⟩, ⟨3, 3, [], 150, 2⟩, ⟨0, 7, [], 0, 0⟩] := by decide
theorem lex_ex2 : lexAll [32, 32, 39, 120] = .bad 2 := by decide
end Go.Proofs.YtgbpoaimbjlamaaGreatDoor

namespace Go.Proofs.YtgbpoaimbjlamaaGreatDoor

theorem mem_tw {α : Type} {p : α → Bool} {l : List α} {x : α} (h : x ∈ l.takeWhile p) : p x = true := by
  induction l with
  | nil => simp at h
  | cons a l ih =>
    rw [List.takeWhile_cons] at h
    split at h
    · rename_i ha
      rcases List.mem_cons.1 h with rfl | h
      · exact ha
      · exact ih h
    · simp at h
theorem tw_le {α : Type} (p : α → Bool) (a b : List α) (h : ((a ++ b).takeWhile p).length ≤ a.length) : (a ++ b).takeWhile p = a.takeWhile p := by
  induction a with
  | nil => simp at h; simp [h]
  | cons x a ih =>
    simp only [List.cons_append, List.takeWhile_cons] at h ⊢
    split
    · rename_i hx
      simp only [hx, if_true, List.length_cons] at h
      rw [ih (by omega)]
    · rfl
theorem tw_stop {α : Type} (p : α → Bool) (a c : List α) (s : α) (h : p s = false) : (a ++ s :: c).takeWhile p = a.takeWhile p := by
  induction a with
  | nil => simp [h]
  | cons x a ih => simp only [List.cons_append, List.takeWhile_cons]; split <;> simp_all
theorem dw_le {α : Type} (p : α → Bool) (a b : List α) (h : ((a ++ b).takeWhile p).length ≤ a.length) : (a ++ b).dropWhile p = a.dropWhile p ++ b := by
  rw [dropWhile_eq_drop, dropWhile_eq_drop, tw_le p a b h, List.drop_append_of_le_length (len_takeWhile_le p a)]
theorem dw_stop {α : Type} (p : α → Bool) (a c : List α) (s : α) (h : p s = false) : (a ++ s :: c).dropWhile p = a.dropWhile p ++ s :: c := by
  rw [dropWhile_eq_drop, dropWhile_eq_drop, tw_stop p a c s h, List.drop_append_of_le_length (len_takeWhile_le p a)]

theorem bl_cases {s : UInt8} (h : isBl s = true) : s = 32 ∨ s = 9 ∨ s = 10 ∨ s = 13 := by
  have h' : s.toNat = 32 ∨ s.toNat = 9 ∨ s.toNat = 10 ∨ s.toNat = 13 := by simpa [isBl, or_assoc] using h
  rcases h' with h | h | h | h
  · exact .inl (UInt8.toNat_inj.1 h)
  · exact .inr (.inl (UInt8.toNat_inj.1 h))
  · exact .inr (.inr (.inl (UInt8.toNat_inj.1 h)))
  · exact .inr (.inr (.inr (UInt8.toNat_inj.1 h)))
theorem bl_LD {s : UInt8} (h : isBl s = true) : isLD s = false := by rcases bl_cases h with rfl | rfl | rfl | rfl <;> rfl
theorem bl_dig {s : UInt8} (h : isBl s = true) : isDig s = false := by rcases bl_cases h with rfl | rfl | rfl | rfl <;> rfl
theorem bl_let {s : UInt8} (h : isBl s = true) : isLet s = false := by rcases bl_cases h with rfl | rfl | rfl | rfl <;> rfl
theorem bl_46 {s : UInt8} (h : isBl s = true) : s ≠ 46 := by rcases bl_cases h with rfl | rfl | rfl | rfl <;> decide
theorem bl_39 {s : UInt8} (h : isBl s = true) : s ≠ 39 := by rcases bl_cases h with rfl | rfl | rfl | rfl <;> decide

theorem textL_local : ∀ (k : Nat) (a b c : List UInt8) (s : UInt8) (x : List UInt8 × Nat), a.length ≤ k → s ≠ 39 → textL (a ++ b) = some x → x.2 ≤ a.length → textL (a ++ s :: c) = some x := by
  intro k
  induction k with
  | zero =>
    intro a b c s x hk hs h hx
    have := (textL_le _ _ (Nat.le_refl _) x h).1
    omega
  | succ k ih =>
    intro a b c s x hk hs h hx
    cases a with
    | nil => have := (textL_le _ _ (Nat.le_refl _) x h).1; simp at hx; omega
    | cons y a =>
      rw [List.cons_append] at h ⊢
      unfold textL at h ⊢
      split
      · rename_i hy
        rw [if_pos hy] at h
        cases a with
        | nil =>
          simp only [List.nil_append, if_neg hs] at h ⊢
          cases b with
          | nil => exact h
          | cons d b =>
            simp only at h
            split at h
            · obtain ⟨z, hz, rfl⟩ := Option.map_eq_some_iff.1 h
              simp at hx
            · exact h
        | cons d a =>
          simp only [List.cons_append] at h ⊢
          split
          · rename_i hd
            rw [if_pos hd] at h
            obtain ⟨z, hz, rfl⟩ := Option.map_eq_some_iff.1 h
            rw [ih a b c s z (by simp at hk; omega) hs hz (by simp at hx; omega)]
            rfl
          · rename_i hd
            rw [if_neg hd] at h
            exact h
      · rename_i hy
        rw [if_neg hy] at h
        obtain ⟨z, hz, rfl⟩ := Option.map_eq_some_iff.1 h
        rw [ih a b c s z (by simp at hk; omega) hs hz (by simp at hx; omega)]
        rfl

theorem frac_local (r b c : List UInt8) (s : UInt8) (hs : isBl s = true) (h : (fracL (r ++ b)).length + 1 ≤ r.length ∨ fracL (r ++ b) = []) : fracL (r ++ s :: c) = fracL (r ++ b) := by
  cases r with
  | nil =>
    have h1 : fracL ([] ++ b) = [] := by rcases h with h | h; simp at h; exact h
    rw [h1]
    unfold fracL
    rw [if_neg (by simp [bl_46 hs])]
  | cons x r =>
    unfold fracL at h ⊢
    by_cases hx : x = 46
    · subst hx
      simp only [List.cons_append, List.head?_cons, if_true, List.drop_succ_cons, List.drop_zero] at h ⊢
      rw [tw_stop _ _ _ _ (bl_dig hs), tw_le]
      rcases h with h | h
      · simp at h; omega
      · rw [h]; simp
    · simp [hx]

theorem headLet_drop (a b c : List UInt8) (s : UInt8) (hs : isBl s = true) (n : Nat) (hn : n ≤ a.length) (h : headLet ((a ++ b).drop n) = false) : headLet ((a ++ s :: c).drop n) = false := by
  rw [List.drop_append_of_le_length hn] at h ⊢
  cases hd : a.drop n with
  | nil => simp [headLet, bl_let hs]
  | cons y l => rw [hd] at h; simpa [headLet] using h

theorem markL_cons (x : UInt8) (l : List UInt8) : markL (x :: l) = if marks2.contains (x :: l.take 1) = true then some (⟨5, x :: l.take 1, 0, 0⟩, 2) else if marks1.contains x = true then some (⟨5, [x], 0, 0⟩, 1) else none := rfl

/-- A token hangs on its own bytes, and on the one behind them, which may as well be a blank. -/
theorem tok_local {a b c : List UInt8} {s : UInt8} {t : TokC} {n : Nat} (hs : isBl s = true) (h : tokL (a ++ b) = some (t, n)) (hn : n ≤ a.length) : tokL (a ++ s :: c) = some (t, n) := by
  have h0 := (tokL_le h).1
  cases a with
  | nil => simp at hn; omega
  | cons x a =>
    generalize ha : x :: a = A at *
    have hA : ∀ d, A ++ d = x :: (a ++ d) := fun d => by rw [← ha]; rfl
    have e1 : tokL (A ++ b) = if isLet x = true then wordL (A ++ b) else if isDig x = true then numberL (A ++ b) else if x = 39 then textT (A ++ b) else markL (A ++ b) := by rw [hA]; rfl
    have e2 : tokL (A ++ s :: c) = if isLet x = true then wordL (A ++ s :: c) else if isDig x = true then numberL (A ++ s :: c) else if x = 39 then textT (A ++ s :: c) else markL (A ++ s :: c) := by rw [hA]; rfl
    rw [e1] at h
    rw [e2]
    split
    · rename_i hx
      rw [if_pos hx] at h
      have hw : ((A ++ b).takeWhile isLD).length = n := by
        unfold wordL at h
        split at h
        · simp at h; exact h.2
        · split at h
          · simp at h
          · simp at h; exact h.2
      unfold wordL at h ⊢
      rw [tw_le _ _ _ (by omega)] at h
      rw [tw_stop _ _ _ _ (bl_LD hs)]
      exact h
    · rename_i hx
      rw [if_neg hx] at h
      split
      · rename_i hd
        rw [if_pos hd] at h
        unfold numberL at h
        split at h
        · simp at h
        · rename_i hc
          simp only [Option.some.injEq, Prod.mk.injEq] at h
          obtain ⟨rfl, hnl⟩ := h
          have hlen : ((A ++ b).takeWhile isDig).length ≤ A.length := by
            unfold numLen at hnl; split at hnl <;> omega
          have t1 := tw_le isDig A b hlen
          have t2 := tw_stop isDig A c s (bl_dig hs)
          have d1 := dw_le isDig A b hlen
          have d2 := dw_stop isDig A c s (bl_dig hs)
          have hf : fracL ((A ++ s :: c).dropWhile isDig) = fracL ((A ++ b).dropWhile isDig) := by
            rw [d1, d2]
            refine frac_local _ _ _ _ hs ?_
            rw [← d1]
            by_cases he : fracL ((A ++ b).dropWhile isDig) = []
            · exact .inr he
            · left
              unfold numLen at hnl
              rw [if_neg he, t1] at hnl
              have := len_split isDig A
              omega
          have hl : numLen (A ++ s :: c) = numLen (A ++ b) := by unfold numLen; rw [hf, t1, t2]
          have hdg : numDigits (A ++ s :: c) = numDigits (A ++ b) := by unfold numDigits; rw [hf, t1, t2]
          unfold numberL
          rw [hl, hdg, hf, if_neg]
          · rw [hnl]
          · intro hh
            rcases hh with hh | hh | hh
            · exact hc (.inl hh)
            · exact hc (.inr (.inl hh))
            · have h3 : headLet ((A ++ b).drop (numLen (A ++ b))) = false := by
                cases h4 : headLet ((A ++ b).drop (numLen (A ++ b))) with
                | false => rfl
                | true => exact absurd (.inr (.inr h4)) hc
              rw [headLet_drop A b c s hs _ (by omega) h3] at hh
              cases hh
      · rename_i hd
        rw [if_neg hd] at h
        split
        · rename_i hq
          rw [if_pos hq] at h
          unfold textT at h ⊢
          rw [hA] at h ⊢
          simp only [List.drop_succ_cons, List.drop_zero] at h ⊢
          cases ht : textL (a ++ b) with
          | none => rw [ht] at h; simp at h
          | some y =>
            rw [ht] at h
            simp only at h
            have hy : y.2 + 1 = n := by
              split at h
              · simp at h
              · simp at h; exact h.2
            rw [textL_local _ a b c s y (Nat.le_refl _) (bl_39 hs) ht (by rw [← ha] at hn; simp at hn; omega)]
            exact h
        · rename_i hq
          rw [if_neg hq] at h
          have m2 : ∀ y : UInt8, marks2.contains [y, s] = false := by
            intro y
            rcases bl_cases hs with rfl | rfl | rfl | rfl <;> simp [marks2]
          rw [hA, markL_cons] at h ⊢
          cases a with
          | nil =>
            have hn1 : n = 1 := by rw [← ha] at hn; simp at hn; omega
            subst hn1
            rw [List.nil_append] at h ⊢
            have m3 : ¬ marks2.contains (x :: (s :: c).take 1) = true := by
              show ¬ marks2.contains [x, s] = true
              rw [m2]; decide
            rw [if_neg m3]
            by_cases hm : marks2.contains (x :: b.take 1) = true
            · rw [if_pos hm] at h; simp at h
            · rw [if_neg hm] at h; exact h
          | cons y a => exact h

/-- The tokens of some bytes, from a place on at which blanks may stand. -/
def lexB (l : List UInt8) (p : Nat) : Lexed := lexG (l.dropWhile isBl) (p + (l.takeWhile isBl).length)

theorem lexB_zero (l : List UInt8) : lexB l 0 = lexAll l := by unfold lexB lexAll; rw [Nat.zero_add]
theorem lexG_next {l : List UInt8} (p : Nat) {t : TokC} {n : Nat} (h : tokL l = some (t, n)) : lexG l p = (lexB (l.drop n) (p + n)).pre [t.put p] := lexG_good p h

def Tok.shift (q k : Nat) (t : Tok) : Tok := if q ≤ t.pos then ⟨t.kind, t.pos + k, t.s, t.n, t.scale⟩ else t

theorem lexG_pos : ∀ (f : Nat) (l : List UInt8) (p : Nat) (L : List Tok), l.length ≤ f → lexG l p = .good L → ∀ t ∈ L, p ≤ t.pos ∧ t.pos ≤ p + l.length := by
  intro f
  induction f with
  | zero =>
    intro l p L hf h t ht
    obtain rfl : l = [] := List.length_eq_zero_iff.1 (by omega)
    rw [lexG_nil] at h
    cases h
    simp at ht; subst ht; simp
  | succ f ih =>
    intro l p L hf h t ht
    cases l with
    | nil => rw [lexG_nil] at h; cases h; simp at ht; subst ht; simp
    | cons c r =>
      cases hk : tokL (c :: r) with
      | none => rw [lexG_bad p (by simp) hk] at h; cases h
      | some x =>
        obtain ⟨u, n⟩ := x
        obtain ⟨h1, h2⟩ := tokL_le hk
        rw [lexG_good p hk] at h
        have h3 := len_split isBl ((c :: r).drop n)
        have h4 : ((c :: r).drop n).length = (c :: r).length - n := List.length_drop
        cases hg : lexG (((c :: r).drop n).dropWhile isBl) (p + n + (((c :: r).drop n).takeWhile isBl).length) with
        | bad q => rw [hg] at h; cases h
        | good L2 =>
          rw [hg] at h
          simp only [Lexed.pre] at h
          cases h
          simp only [List.cons_append, List.nil_append, List.mem_cons] at ht
          rcases ht with rfl | ht
          · simp [TokC.put]
          · have := ih _ _ _ (by omega) hg t ht
            omega
theorem lexB_pos {l : List UInt8} {p : Nat} {L : List Tok} (h : lexB l p = .good L) {t : Tok} (ht : t ∈ L) : p + (l.takeWhile isBl).length ≤ t.pos ∧ t.pos ≤ p + l.length := by
  have := lexG_pos _ _ _ _ (Nat.le_refl _) h t ht
  have := len_split isBl l
  omega

theorem lexG_move : ∀ (f : Nat) (l : List UInt8) (p k : Nat) (L : List Tok), l.length ≤ f → lexG l p = .good L → lexG l (p + k) = .good (L.map fun t => ⟨t.kind, t.pos + k, t.s, t.n, t.scale⟩) := by
  intro f
  induction f with
  | zero =>
    intro l p k L hf h
    obtain rfl : l = [] := List.length_eq_zero_iff.1 (by omega)
    rw [lexG_nil] at h ⊢
    cases h
    rfl
  | succ f ih =>
    intro l p k L hf h
    cases l with
    | nil => rw [lexG_nil] at h ⊢; cases h; rfl
    | cons c r =>
      cases hk : tokL (c :: r) with
      | none => rw [lexG_bad p (by simp) hk] at h; cases h
      | some x =>
        obtain ⟨u, n⟩ := x
        obtain ⟨h1, h2⟩ := tokL_le hk
        rw [lexG_good p hk] at h
        rw [lexG_good (p + k) hk]
        have h3 := len_split isBl ((c :: r).drop n)
        have h4 : ((c :: r).drop n).length = (c :: r).length - n := List.length_drop
        cases hg : lexG (((c :: r).drop n).dropWhile isBl) (p + n + (((c :: r).drop n).takeWhile isBl).length) with
        | bad q => rw [hg] at h; cases h
        | good L2 =>
          rw [hg] at h
          cases h
          have := ih _ _ k _ (by omega) hg
          rw [show p + k + n + (((c :: r).drop n).takeWhile isBl).length = p + n + (((c :: r).drop n).takeWhile isBl).length + k by omega, this]
          simp [Lexed.pre, TokC.put]

theorem tw_blanks (a b : List UInt8) (ha : ∀ x ∈ a, isBl x = true) : (a ++ b).takeWhile isBl = a ++ b.takeWhile isBl := by
  induction a with
  | nil => rfl
  | cons x a ih => simp [ha x (by simp), ih (fun y hy => ha y (by simp [hy]))]
theorem dw_blanks (a b : List UInt8) (ha : ∀ x ∈ a, isBl x = true) : (a ++ b).dropWhile isBl = b.dropWhile isBl := by
  induction a with
  | nil => rfl
  | cons x a ih => simp [ha x (by simp), ih (fun y hy => ha y (by simp [hy]))]

/-- Blanks more ahead of a token turn nothing but places. -/
theorem lex_spaces (m : List UInt8) (hm : ∀ x ∈ m, isBl x = true) : ∀ (f : Nat) (a b : List UInt8) (p : Nat) (L : List Tok), a.length ≤ f → lexB (a ++ b) p = .good L → (∃ t ∈ L, t.pos = p + a.length) → lexB (a ++ (m ++ b)) p = .good (L.map (Tok.shift (p + a.length) m.length)) := by
  intro f
  induction f with
  | zero =>
    intro a b p L hf h hq
    obtain rfl : a = [] := List.length_eq_zero_iff.1 (by omega)
    obtain ⟨t, ht, htp⟩ := hq
    have hb := (lexB_pos h ht).1
    simp only [List.nil_append, List.length_nil, Nat.add_zero] at h hb htp ⊢
    have hb0 : (b.takeWhile isBl).length = 0 := by omega
    have hbd : b.dropWhile isBl = b := by rw [dropWhile_eq_drop, hb0, List.drop_zero]
    have hbt : b.takeWhile isBl = [] := List.length_eq_zero_iff.1 hb0
    unfold lexB at h ⊢
    rw [hbd, hb0, Nat.add_zero] at h
    rw [dw_blanks m b hm, tw_blanks m b hm, hbd, hbt, List.append_nil, lexG_move _ _ _ _ _ (Nat.le_refl _) h]
    congr 1
    refine List.map_congr_left fun u hu => ?_
    unfold Tok.shift
    rw [if_pos (lexG_pos _ _ _ _ (Nat.le_refl _) h u hu).1]
  | succ f ih =>
    intro a b p L hf h hq
    obtain ⟨t, ht, htp⟩ := hq
    have hb := (lexB_pos h ht).1
    have hsp : ((a ++ b).takeWhile isBl).length ≤ a.length := by omega
    have t1 := tw_le isBl a b hsp
    have d1 := dw_le isBl a b hsp
    cases hA : a.dropWhile isBl with
    | nil =>
      have h1 : a.takeWhile isBl = a := by have := List.takeWhile_append_dropWhile (p := isBl) (l := a); rwa [hA, List.append_nil] at this
      have hall : ∀ x ∈ a, isBl x = true := fun x hx => by rw [← h1] at hx; exact mem_tw hx
      have h2 := tw_blanks a b hall
      have hb0 : (b.takeWhile isBl).length = 0 := by
        have := congrArg List.length h2
        rw [t1, h1, List.length_append] at this
        omega
      have hbd : b.dropWhile isBl = b := by rw [dropWhile_eq_drop, hb0, List.drop_zero]
      have hbt : b.takeWhile isBl = [] := List.length_eq_zero_iff.1 hb0
      unfold lexB at h ⊢
      rw [d1, hA, List.nil_append, t1, h1] at h
      rw [dw_blanks a _ hall, tw_blanks a _ hall, dw_blanks m b hm, tw_blanks m b hm, hbd, hbt, List.append_nil, List.length_append, ← Nat.add_assoc, lexG_move _ _ _ _ _ (Nat.le_refl _) h]
      congr 1
      refine List.map_congr_left fun u hu => ?_
      unfold Tok.shift
      rw [if_pos (lexG_pos _ _ _ _ (Nat.le_refl _) h u hu).1]
    | cons x a2 =>
      have hxb : isBl x = false := by
        have := List.head_dropWhile_not isBl (l := a) (by rw [hA]; simp)
        simpa [hA] using this
      have hsplit := len_split isBl a
      rw [hA] at hsplit
      have dm : (a ++ (m ++ b)).dropWhile isBl = (x :: a2) ++ (m ++ b) ∧ (a ++ (m ++ b)).takeWhile isBl = a.takeWhile isBl := by
        have e : a = a.takeWhile isBl ++ x :: a2 := by rw [← hA, List.takeWhile_append_dropWhile]
        have e2 : a ++ (m ++ b) = (a.takeWhile isBl) ++ x :: (a2 ++ (m ++ b)) := (congrArg (· ++ (m ++ b)) e).trans (by simp)
        have hal : ∀ y ∈ a.takeWhile isBl, isBl y = true := fun y hy => mem_tw hy
        refine ⟨?_, ?_⟩
        · rw [e2, dw_blanks _ _ hal]; simp [hxb]
        · rw [e2, tw_blanks _ _ hal]; simp [hxb]
      have e0 : lexB (a ++ b) p = lexG ((x :: a2) ++ b) (p + (a.takeWhile isBl).length) := by unfold lexB; rw [d1, hA, t1]
      have e1 : lexB (a ++ (m ++ b)) p = lexG ((x :: a2) ++ (m ++ b)) (p + (a.takeWhile isBl).length) := by unfold lexB; rw [dm.1, dm.2]
      rw [e0] at h
      rw [e1]
      cases hk : tokL ((x :: a2) ++ b) with
      | none => rw [lexG_bad _ (by simp) hk] at h; cases h
      | some y =>
        obtain ⟨u, n⟩ := y
        have hn0 := (tokL_le hk).1
        rw [lexG_next _ hk] at h
        cases hg : lexB (((x :: a2) ++ b).drop n) (p + (a.takeWhile isBl).length + n) with
        | bad q => rw [hg] at h; cases h
        | good L2 =>
          rw [hg] at h
          simp only [Lexed.pre] at h
          cases h
          have ht2 : t ∈ L2 := by
            simp only [List.cons_append, List.nil_append, List.mem_cons] at ht
            rcases ht with rfl | ht
            · simp [TokC.put] at htp; simp at hsplit; omega
            · exact ht
          have hp2 := (lexB_pos hg ht2).1
          have hn : n ≤ (x :: a2).length := by simp at hsplit ⊢; omega
          have hk2 : tokL ((x :: a2) ++ (m ++ b)) = some (u, n) := by
            cases m with
            | nil => exact hk
            | cons s m => exact tok_local (hm s (by simp)) hk hn
          rw [lexG_next _ hk2, List.drop_append_of_le_length hn]
          rw [List.drop_append_of_le_length hn] at hg
          have hlen : ((x :: a2).drop n).length = (x :: a2).length - n := List.length_drop
          have hq : p + (a.takeWhile isBl).length + n + ((x :: a2).drop n).length = p + a.length := by simp at hsplit hlen hn ⊢; omega
          have hih := ih ((x :: a2).drop n) b (p + (a.takeWhile isBl).length + n) L2 (by simp at hsplit hlen ⊢; omega) hg ⟨t, ht2, by rw [hq]; exact htp⟩
          rw [hih, hq]
          have : ¬ p + a.length ≤ p + (a.takeWhile isBl).length := by simp at hsplit; omega
          simp [Lexed.pre, TokC.put, Tok.shift, this]
end Go.Proofs.YtgbpoaimbjlamaaGreatDoor

namespace Go.Proofs.YtgbpoaimbjlamaaGreatDoor

theorem lexAll_bad {c : UInt8} {l : List UInt8} (hb : isBl c = false) (h : tokL (c :: l) = none) : lexAll (c :: l) = .bad 0 := by
  unfold lexAll
  rw [List.dropWhile_cons, List.takeWhile_cons, hb]
  exact lexG_bad 0 (by simp) h

/-- A text that is one token. -/
theorem lexAll_one {c : UInt8} {l : List UInt8} {t : TokC} (hb : isBl c = false) (h : tokL (c :: l) = some (t, (c :: l).length)) : lexAll (c :: l) = .good [t.put 0, ⟨0, (c :: l).length, [], 0, 0⟩] := by
  unfold lexAll
  rw [List.dropWhile_cons, List.takeWhile_cons, hb]
  rw [if_neg (by decide), if_neg (by decide), lexG_good _ h, List.drop_length]
  simp [lexG_nil, Lexed.pre]

/-! ### Texts -/

def dbl : List UInt8 → List UInt8
  | [] => []
  | c :: r => if c = 39 then 39 :: 39 :: dbl r else c :: dbl r

theorem textL_cons {c : UInt8} (r : List UInt8) (h : c ≠ 39) : textL (c :: r) = (textL r).map (fun x => (c :: x.1, x.2 + 1)) := by
  conv => lhs; unfold textL
  rw [if_neg h]
theorem textL_two (r : List UInt8) : textL (39 :: 39 :: r) = (textL r).map (fun x => (39 :: x.1, x.2 + 2)) := by
  conv => lhs; unfold textL
  rw [if_pos rfl]
  simp
theorem textL_end (c : UInt8) (r : List UInt8) (h : c ≠ 39) : textL (39 :: c :: r) = some ([], 1) := by
  unfold textL
  rw [if_pos rfl]
  simp [h]

theorem textL_dbl (s : List UInt8) : textL (dbl s ++ [39]) = some (s, (dbl s).length + 1) := by
  induction s with
  | nil => simp [dbl, textL]
  | cons c r ih =>
    unfold dbl
    split
    · rename_i h
      rw [List.cons_append, List.cons_append, textL_two, ih]
      simp [h]
    · rename_i h
      rw [List.cons_append, textL_cons _ h, ih]
      simp
theorem textL_open (s : List UInt8) : textL (dbl s) = none := by
  induction s with
  | nil => simp [dbl, textL]
  | cons c r ih =>
    unfold dbl
    split
    · rw [textL_two, ih]; rfl
    · rename_i h
      rw [textL_cons _ h, ih]; rfl
theorem tokL_quote (l : List UInt8) : tokL (39 :: l) = textT (39 :: l) := rfl
theorem lex_text (s : List UInt8) : lexAll (39 :: (dbl s ++ [39])) = if 200 < s.length then .bad 0 else .good [⟨4, 0, s, 0, 0⟩, ⟨0, (dbl s).length + 2, [], 0, 0⟩] := by
  have h : tokL (39 :: (dbl s ++ [39])) = if 200 < s.length then none else some (⟨4, s, 0, 0⟩, (dbl s).length + 2) := by
    rw [tokL_quote, textT]
    simp only [List.drop_succ_cons, List.drop_zero, textL_dbl]
  split
  · rename_i hl
    exact lexAll_bad rfl (by rw [h, if_pos hl])
  · rename_i hl
    rw [lexAll_one (t := ⟨4, s, 0, 0⟩) rfl (by rw [h, if_neg hl]; simp)]
    simp [TokC.put]
theorem lex_open (s : List UInt8) : lexAll (39 :: dbl s) = .bad 0 :=
  lexAll_bad rfl (by rw [tokL_quote, textT]; simp only [List.drop_succ_cons, List.drop_zero, textL_open])
theorem dbl_append (a b : List UInt8) : dbl (a ++ b) = dbl a ++ dbl b := by
  induction a with
  | nil => rfl
  | cons c r ih => rw [List.cons_append, dbl, dbl, ih]; split <;> rfl
theorem dbl_len (a : List UInt8) : (dbl a).length ≤ 2 * a.length := by
  induction a with
  | nil => simp [dbl]
  | cons c r ih => rw [dbl]; split <;> simp <;> omega

/-! ### Numbers -/

theorem tw_all {α : Type} (p : α → Bool) (a : List α) (h : ∀ x ∈ a, p x = true) : a.takeWhile p = a := by
  induction a with
  | nil => rfl
  | cons x a ih => rw [List.takeWhile_cons, if_pos (h x (by simp)), ih (fun y hy => h y (by simp [hy]))]
theorem dw_all {α : Type} (p : α → Bool) (a : List α) (h : ∀ x ∈ a, p x = true) : a.dropWhile p = [] := by
  rw [dropWhile_eq_drop, tw_all p a h, List.drop_length]
theorem dig_let {c : UInt8} (h : isDig c = true) : isLet c = false ∧ isBl c = false := by
  have h' : 48 ≤ c.toNat ∧ c.toNat ≤ 57 := by simpa [isDig] using h
  simp only [isLet, isBl]
  constructor <;> simp <;> omega

theorem lex_digits (d : List UInt8) (h0 : d ≠ []) (hd : ∀ x ∈ d, isDig x = true) : lexAll d = if 9223372036854775807 < numVal d then .bad 0 else .good [⟨3, 0, [], numVal d, 0⟩, ⟨0, d.length, [], 0, 0⟩] := by
  cases d with
  | nil => exact absurd rfl h0
  | cons c r =>
    have hc := hd c (by simp)
    obtain ⟨h1, h2⟩ := dig_let hc
    have e : tokL (c :: r) = if 9223372036854775807 < numVal (c :: r) then none else some (⟨3, [], numVal (c :: r), 0⟩, (c :: r).length) := by
      show (if isLet c = true then wordL (c :: r) else if isDig c = true then numberL (c :: r) else if c = 39 then textT (c :: r) else markL (c :: r)) = _
      rw [if_neg (by rw [h1]; decide), if_pos hc]
      have ht := tw_all isDig _ hd
      have hw := dw_all isDig _ hd
      have hf : fracL ((c :: r).dropWhile isDig) = [] := by rw [hw]; rfl
      have hl : numLen (c :: r) = (c :: r).length := by unfold numLen; rw [hf, if_pos rfl, ht]
      have hg : numDigits (c :: r) = c :: r := by unfold numDigits; rw [hf, ht, List.append_nil]
      unfold numberL
      rw [hl, hg, hf, List.drop_length]
      simp [headLet]
    split
    · rename_i hn
      exact lexAll_bad h2 (by rw [e, if_pos hn])
    · rename_i hn
      rw [lexAll_one (t := ⟨3, [], numVal (c :: r), 0⟩) h2 (by rw [e, if_neg hn])]
      rfl

theorem lex_point (a b : List UInt8) (h0 : a ≠ []) (hb0 : b ≠ []) (ha : ∀ x ∈ a, isDig x = true) (hb : ∀ x ∈ b, isDig x = true) : lexAll (a ++ 46 :: b) = if 9223372036854775807 < numVal (a ++ b) ∨ 9 < b.length then .bad 0 else .good [⟨3, 0, [], numVal (a ++ b), b.length⟩, ⟨0, a.length + 1 + b.length, [], 0, 0⟩] := by
  cases a with
  | nil => exact absurd rfl h0
  | cons c r =>
    have hc := ha c (by simp)
    obtain ⟨h1, h2⟩ := dig_let hc
    rw [List.cons_append]
    have e : tokL (c :: (r ++ 46 :: b)) = if 9223372036854775807 < numVal ((c :: r) ++ b) ∨ 9 < b.length then none else some (⟨3, [], numVal ((c :: r) ++ b), b.length⟩, (c :: r).length + 1 + b.length) := by
      show (if isLet c = true then wordL (c :: (r ++ 46 :: b)) else if isDig c = true then numberL (c :: (r ++ 46 :: b)) else if c = 39 then textT (c :: (r ++ 46 :: b)) else markL (c :: (r ++ 46 :: b))) = _
      rw [if_neg (by rw [h1]; decide), if_pos hc, ← List.cons_append]
      have ht : ((c :: r) ++ 46 :: b).takeWhile isDig = c :: r := by rw [tw_stop isDig _ b 46 rfl, tw_all isDig _ ha]
      have hw : ((c :: r) ++ 46 :: b).dropWhile isDig = 46 :: b := by rw [dw_stop isDig _ b 46 rfl, dw_all isDig _ ha]; rfl
      have hf : fracL (((c :: r) ++ 46 :: b).dropWhile isDig) = b := by rw [hw]; unfold fracL; rw [List.head?_cons, if_pos rfl]; exact tw_all isDig _ hb
      have hl : numLen ((c :: r) ++ 46 :: b) = (c :: r).length + 1 + b.length := by unfold numLen; rw [hf, if_neg hb0, ht]
      have hg : numDigits ((c :: r) ++ 46 :: b) = (c :: r) ++ b := by unfold numDigits; rw [hf, ht]
      unfold numberL
      rw [hl, hg, hf, List.drop_eq_nil_of_le (by simp; omega)]
      simp [headLet]
    split
    · rename_i hn
      exact lexAll_bad h2 (by rw [e, if_pos hn])
    · rename_i hn
      have hlen : (c :: (r ++ 46 :: b)).length = (c :: r).length + 1 + b.length := by simp; omega
      rw [lexAll_one (t := ⟨3, [], numVal ((c :: r) ++ b), b.length⟩) h2 (by rw [e, if_neg hn, hlen]), hlen]
      rfl

theorem numVal_snoc (l : List UInt8) (c : UInt8) : numVal (l ++ [c]) = numVal l * 10 + (c.toNat - 48) := by
  simp [numVal]
theorem numVal_fold (l : List UInt8) : ∀ a : Nat, l.foldl (fun a c => a * 10 + (c.toNat - 48)) a = a * 10 ^ l.length + numVal l := by
  induction l with
  | nil => intro a; simp [numVal]
  | cons c r ih =>
    intro a
    show r.foldl _ (a * 10 + (c.toNat - 48)) = _
    rw [ih]
    have e : numVal (c :: r) = (c.toNat - 48) * 10 ^ r.length + numVal r := by
      show r.foldl _ (0 * 10 + (c.toNat - 48)) = _
      rw [ih]; simp
    rw [e, List.length_cons, Nat.pow_succ, Nat.add_mul, Nat.mul_assoc, Nat.mul_comm 10 (10 ^ r.length), Nat.add_assoc]
theorem numVal_cons (c : UInt8) (l : List UInt8) : numVal (c :: l) = (c.toNat - 48) * 10 ^ l.length + numVal l := by
  show l.foldl _ (0 * 10 + (c.toNat - 48)) = _
  rw [numVal_fold]; simp

/-! ### Words -/

theorem let_bl {c : UInt8} (h : isLet c = true) : isBl c = false := by
  have h' : ((97 ≤ c.toNat ∧ c.toNat ≤ 122) ∨ (65 ≤ c.toNat ∧ c.toNat ≤ 90)) ∨ c.toNat = 95 := by simpa [isLet] using h
  simp only [isBl]
  simp; omega
theorem let_LD {c : UInt8} (h : isLet c = true) : isLD c = true := by simp [isLD, h]

theorem lex_word (b : List UInt8) (h0 : b ≠ []) (hb : ∀ x ∈ b, isLet x = true) (hk : isKey (b.map upc) = true) : lexAll b = .good [⟨1, 0, b.map upc, 0, 0⟩, ⟨0, b.length, [], 0, 0⟩] := by
  cases b with
  | nil => exact absurd rfl h0
  | cons c r =>
    have hc := hb c (by simp)
    have ht := tw_all isLD _ (fun x hx => let_LD (hb x hx))
    have e : tokL (c :: r) = some (⟨1, (c :: r).map upc, 0, 0⟩, (c :: r).length) := by
      show (if isLet c = true then wordL (c :: r) else _) = _
      rw [if_pos hc, wordL, ht, if_pos hk]
    rw [lexAll_one (let_bl hc) e]
    rfl
theorem lex_name (b : List UInt8) (h0 : b ≠ []) (hb : isLet (b.head h0) = true) (hl : ∀ x ∈ b, isLD x = true) (hk : isKey (b.map upc) = false) (h40 : b.length ≤ 40) : lexAll b = .good [⟨2, 0, b, 0, 0⟩, ⟨0, b.length, [], 0, 0⟩] := by
  cases b with
  | nil => exact absurd rfl h0
  | cons c r =>
    have hc : isLet c = true := hb
    have ht := tw_all isLD _ hl
    have e : tokL (c :: r) = some (⟨2, c :: r, 0, 0⟩, (c :: r).length) := by
      show (if isLet c = true then wordL (c :: r) else _) = _
      rw [if_pos hc, wordL, ht, if_neg (by rw [hk]; decide), if_neg (by omega)]
    rw [lexAll_one (let_bl hc) e]
    rfl
theorem key_caps {w : List UInt8} (h : isKey w = true) : ∀ x ∈ w, 65 ≤ x.toNat ∧ x.toNat ≤ 90 := by
  have h1 : w ∈ keyWords := by simpa [isKey] using h
  have h2 : (keyWords.all fun w => w.all fun x => decide (65 ≤ x.toNat ∧ x.toNat ≤ 90)) = true := by decide
  intro x hx
  have h3 := List.all_eq_true.1 h2 w h1
  have h4 := List.all_eq_true.1 h3 x hx
  simpa using h4
theorem key_same {b : List UInt8} (h : isKey b = true) : b.map upc = b := by
  have h1 := key_caps h
  have : b.map upc = b.map id := List.map_congr_left fun x hx => by
    have := h1 x hx
    unfold upc
    rw [if_neg (by omega)]; rfl
  rw [this, List.map_id]
theorem key_under {b : List UInt8} (h : 95 ∈ b) : isKey (b.map upc) = false := by
  cases hk : isKey (b.map upc) with
  | false => rfl
  | true =>
    have := key_caps hk 95 (List.mem_map.2 ⟨95, h, rfl⟩)
    revert this; decide
end Go.Proofs.YtgbpoaimbjlamaaGreatDoor

namespace Go.Proofs.YtgbpoaimbjlamaaGreatDoor

def foldN (a : Nat) (l : List UInt8) : Nat := l.foldl (fun a c => a * 10 + (c.toNat - 48)) a
theorem foldN_ge (l : List UInt8) : ∀ a, a ≤ foldN a l := by
  induction l with
  | nil => intro a; exact Nat.le_refl a
  | cons c r ih =>
    intro a
    have := ih (a * 10 + (c.toNat - 48))
    show a ≤ foldN (a * 10 + (c.toNat - 48)) r
    omega

theorem parseM (M : Nat) (hM : M = 18446744073709551615) (l : List UInt8) : ∀ a, a ≤ M → (∀ x ∈ l, isDig x = true) → Lib.parseUintM M a l = if M < foldN a l then .range else .ok (foldN a l) := by
  induction l with
  | nil => intro a ha _; unfold Lib.parseUintM; show _ = if M < a then _ else _; rw [if_neg (by omega)]; rfl
  | cons c r ih =>
    intro a ha hd
    have hc : 48 ≤ c.toNat ∧ c.toNat ≤ 57 := by simpa [isDig] using hd c (by simp)
    have hg := foldN_ge r (a * 10 + (c.toNat - 48))
    have e : foldN a (c :: r) = foldN (a * 10 + (c.toNat - 48)) r := rfl
    unfold Lib.parseUintM
    rw [if_pos hc, e]
    split
    · rw [if_pos (by omega)]
    · split
      · rw [if_pos (by omega)]
      · exact ih _ (by omega) (fun x hx => hd x (by simp [hx]))

theorem parse_digits (d : List UInt8) (h0 : d ≠ []) (hd : ∀ x ∈ d, isDig x = true) : Lib.parseIntB 64 d = if 9223372036854775807 < numVal d then .range else .ok (numVal d : Int) := by
  cases d with
  | nil => exact absurd rfl h0
  | cons c r =>
    have hc : 48 ≤ c.toNat ∧ c.toNat ≤ 57 := by simpa [isDig] using hd c (by simp)
    have hp := parseM (2 ^ 64 - 1) (by decide) (c :: r) 0 (by omega) hd
    have e : foldN 0 (c :: r) = numVal (c :: r) := rfl
    rw [e] at hp
    unfold Lib.parseIntB
    simp only
    rw [if_neg (show ¬ (c.toNat = 43 ∨ c.toNat = 45) by omega)]
    unfold Lib.parseUintB
    rw [if_neg (by simp), hp]
    generalize numVal (c :: r) = v
    have hneg : ¬ c.toNat = 45 := by omega
    by_cases h1 : 2 ^ 64 - 1 < v
    · rw [if_pos h1, if_pos (by omega)]
    · rw [if_neg h1]
      simp only [hneg, if_false, not_false_eq_true, true_and, false_and]
      by_cases h2 : 9223372036854775807 < v
      · rw [if_pos (show 2 ^ (64 - 1) ≤ v by omega), if_pos h2]
      · rw [if_neg (show ¬ 2 ^ (64 - 1) ≤ v by omega), if_neg h2]

theorem upperB_upc (c : UInt8) : Lib.upperB c = upc c := by
  have h : Lib.isLowerB c = decide (97 ≤ c.toNat ∧ c.toNat ≤ 122) := by
    rw [Bool.eq_iff_iff]
    simp [Lib.isLowerB, UInt8.le_iff_toNat_le]
  unfold Lib.upperB upc
  rw [h]
  by_cases h1 : 97 ≤ c.toNat ∧ c.toNat ≤ 122 <;> simp [h1]
theorem toUpperA_upc (l : List UInt8) : Lib.toUpperA l = l.map upc := by
  unfold Lib.toUpperA
  exact List.map_congr_left fun x _ => upperB_upc x
theorem LD_ascii {c : UInt8} (h : isLD c = true) : c.toNat < 128 := by
  have h' : (((97 ≤ c.toNat ∧ c.toNat ≤ 122) ∨ (65 ≤ c.toNat ∧ c.toNat ≤ 90)) ∨ c.toNat = 95) ∨ (48 ≤ c.toNat ∧ c.toNat ≤ 57) := by simpa [isLD, isLet, isDig] using h
  omega

/-- Behind the bytes ahead of the first quote stands a quote, or there is none. -/
theorem textL_quote (l : List UInt8) : (Lib.indexByte l 39 = -1 ∧ textL l = none) ∨ ∃ n : Nat, Lib.indexByte l 39 = n ∧ n < l.length ∧ l[n]? = some 39 ∧ textL l = (textL (l.drop n)).map (fun x => (l.take n ++ x.1, x.2 + n)) := by
  induction l with
  | nil => left; exact ⟨rfl, by unfold textL; rfl⟩
  | cons c r ih =>
    by_cases hc : c = 39
    · subst hc
      right
      refine ⟨0, by unfold Lib.indexByte; rfl, by simp, rfl, ?_⟩
      simp
    · have hcb : (c == 39) = false := by simpa using hc
      rcases ih with ⟨h1, h2⟩ | ⟨n, h1, h2, h3, h4⟩
      · left
        refine ⟨?_, by rw [textL_cons _ hc, h2]; rfl⟩
        unfold Lib.indexByte
        rw [hcb, h1]; rfl
      · right
        refine ⟨n + 1, ?_, by simp only [List.length_cons]; omega, by simpa using h3, ?_⟩
        · unfold Lib.indexByte
          rw [hcb, h1]
          have : ((n : Int) == -1) = false := by rw [beq_eq_false_iff_ne]; omega
          simp [this]
        · rw [textL_cons _ hc, h4]
          simp only [List.drop_succ_cons, List.take_succ_cons]
          cases textL (r.drop n) with
          | none => rfl
          | some x => simp; omega
end Go.Proofs.YtgbpoaimbjlamaaGreatDoor
