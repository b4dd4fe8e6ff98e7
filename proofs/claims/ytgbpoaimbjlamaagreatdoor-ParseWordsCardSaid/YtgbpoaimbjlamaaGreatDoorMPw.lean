/-
  The texts of numbers, texts, operators and brackets, as tokens, as exprs, and cut. Plain; it speaks of no program; no condition.
-/
import Derived.Test.YtgbpoaimbjlamaaGreatDoorMPv
namespace Go.Proofs.YtgbpoaimbjlamaaGreatDoor
open Go.RowKit
set_option linter.unusedVariables false

/-! ### A prefix has no FROM -/
def isFrom (t : TokC) : Bool := isC t [wFrom]
def NF (X : List TokC) : Prop := X.all (fun t => !isFrom t) = true
theorem nf_ne {t : TokC} (h : t.s ≠ wFrom) : NF [t] := by
  unfold NF isFrom isC
  simp only [List.all_cons, List.all_nil, Bool.and_true, List.contains_cons, List.contains_nil, Bool.or_false]
  have h2 : (t.s == wFrom) = false := by simpa using h
  rw [h2, Bool.and_false]; rfl
theorem nf_len {t : TokC} (h : t.s.length ≤ 3) : NF [t] := nf_ne fun h2 => by rw [h2] at h; exact absurd h (by decide)
theorem nf_kind {t : TokC} {k : Nat} (h0 : t.kind = k) (h : k ≠ 1 ∧ k ≠ 5) : NF [t] := by
  unfold NF isFrom isC
  rw [List.all_cons, h0, decide_eq_false h.1, decide_eq_false h.2]; rfl
theorem NF.app {X Y : List TokC} (h : NF X) (k : NF Y) : NF (X ++ Y) := by unfold NF at *; rw [List.all_append, h, k]; rfl
def NoFrom (x : Lexed) : Prop := ∀ ts, x = .good ts → NF (ts.map Tok.strip)
def Cut (a : Bs) : Prop := ∀ k p, k < a.length → NoFrom (lexB (a.take k) p)
theorem noFrom_nil (p : Nat) : NoFrom (lexB [] p) := by
  intro ts h
  have h2 : lexB [] p = .good [⟨0, p, [], 0, 0⟩] := rfl
  rw [h2] at h; cases h; rfl
theorem NoFrom.pre {x : Lexed} (h : NoFrom x) {us : List Tok} (hu : NF (us.map Tok.strip)) : NoFrom (x.pre us) := by
  intro ts ht
  cases x with
  | bad p => cases ht
  | good l => cases ht; rw [List.map_append]; exact hu.app (h l rfl)
theorem Stop.take {b : Bs} (h : Stop b) (m : Nat) : Stop (b.take m) := by
  rcases h with rfl | ⟨c, q, rfl, hc⟩
  · left; simp
  · cases m with
    | zero => left; rfl
    | succ m => right; exact ⟨c, q.take m, by rw [List.take_succ_cons], hc⟩
theorem cut_app {a b : Bs} (ha : Cut a) (h : ∀ m p, m < b.length → NoFrom (lexB (a ++ b.take m) p)) : Cut (a ++ b) := by
  intro k p hk
  by_cases h1 : k < a.length
  · rw [List.take_append_of_le_length (by omega)]
    exact ha k p h1
  · have e : (a ++ b).take k = a ++ b.take (k - a.length) := by
      rw [List.take_append, List.take_of_length_le (by omega)]
    rw [e]
    exact h _ p (by rw [List.length_append] at hk; omega)
theorem Cut.app {a b : Bs} {X : List TokC} (ha : Cut a) (hl : LexAny a X) (hn : NF X) (hb : Cut b) : Cut (a ++ b) :=
  cut_app ha fun m p hm => by
    obtain ⟨us, h1, -, h3⟩ := hl (b.take m) p
    rw [h3]
    exact (hb m _ hm).pre (by rw [h1]; exact hn)
theorem Cut.appS {a b : Bs} {X : List TokC} (ha : Cut a) (hl : LexStop a X) (hn : NF X) (hb : Cut b) (hs : Stop b) : Cut (a ++ b) :=
  cut_app ha fun m p hm => by
    obtain ⟨us, h1, -, h3⟩ := hl (b.take m) p (hs.take m)
    rw [h3]
    exact (hb m _ hm).pre (by rw [h1]; exact hn)
theorem cut_one (c : UInt8) : Cut [c] := by
  intro k p hk
  obtain rfl : k = 0 := by simp at hk; exact hk
  exact noFrom_nil p
theorem noFrom_stop {a : Bs} {X : List TokC} (h : LexStop a X) (hn : NF X) (p : Nat) : NoFrom (lexB a p) := by
  obtain ⟨us, h1, -, h3⟩ := h [] p (.inl rfl)
  rw [List.append_nil] at h3
  rw [h3]
  exact (noFrom_nil _).pre (by rw [h1]; exact hn)
/-- What is a word, or a name, whatever it is. -/
theorem wd_any {a : Bs} (h0 : a ≠ []) (hc : isLet (a.headD 0) = true) (hl : ∀ x ∈ a, isLD x = true) (h40 : a.length ≤ 40) : LexStop a (if isKey (a.map upc) = true then [⟨1, a.map upc, 0, 0⟩] else [⟨2, a, 0, 0⟩]) := by
  cases a with
  | nil => exact absurd rfl h0
  | cons c q =>
    by_cases hk : isKey ((c :: q).map upc) = true
    · rw [if_pos hk]; exact lexS_word hc hl hk
    · rw [if_neg hk]; exact lexS_name hc hl (by simpa using hk) h40
theorem cut_word {a : Bs} (hc : isLet (a.headD 0) = true) (hl : ∀ x ∈ a, isLD x = true) (h40 : a.length ≤ 40) (hf : ∀ k, k < a.length → (a.take k).map upc ≠ wFrom) : Cut a := by
  intro k p hk
  cases k with
  | zero => exact noFrom_nil p
  | succ k =>
    cases a with
    | nil => simp at hk
    | cons c q =>
      have := hf (k + 1) hk
      have ht : ∀ x ∈ (c :: q).take (k + 1), isLD x = true := fun x hx => hl x (List.mem_of_mem_take hx)
      have hlt : ((c :: q).take (k + 1)).length ≤ 40 := by rw [List.length_take]; omega
      refine noFrom_stop (wd_any (a := (c :: q).take (k + 1)) (by simp) hc ht hlt) ?_ p
      split
      · exact nf_ne this
      · exact nf_kind (k := 2) rfl (by decide)

/-! ### Numbers -/
theorem stop_tail {r : Bs} (hr : Stop r ∨ r = [46]) : fracL r = [] ∧ headLet r = false ∧ r.takeWhile isDig = [] ∧ r.dropWhile isDig = r := by
  rcases hr with (rfl | ⟨c, q, rfl, hc⟩) | rfl
  · exact ⟨rfl, rfl, rfl, rfl⟩
  · have hd := stop_dig c hc
    have hl := stop_LD c hc
    simp only [isLD, Bool.or_eq_false_iff] at hl
    refine ⟨?_, hl.1, ?_, ?_⟩
    · unfold fracL
      rw [List.head?_cons, if_neg]
      intro h
      injection h with h
      subst h
      revert hc; decide
    · rw [List.takeWhile_cons, if_neg (by rw [hd]; decide)]
    · rw [List.dropWhile_cons, if_neg (by rw [hd]; decide)]
  · exact ⟨rfl, rfl, rfl, rfl⟩
theorem tw_dig {d r : Bs} (hd : ∀ x ∈ d, isDig x = true) (hr : r.takeWhile isDig = [] ∧ r.dropWhile isDig = r) : (d ++ r).takeWhile isDig = d ∧ (d ++ r).dropWhile isDig = r := by
  induction d with
  | nil => exact hr
  | cons x d ih =>
    have hx := hd x List.mem_cons_self
    have := ih (fun y hy => hd y (List.mem_cons_of_mem _ hy))
    simp [hx, this.1, this.2]
theorem tok_dig {c : UInt8} {r q : Bs} (hd : ∀ x ∈ (c :: q), isDig x = true) (hv : numVal (c :: q) ≤ 9223372036854775807) (hr : Stop r ∨ r = [46]) : tokL ((c :: q) ++ r) = some (⟨3, [], numVal (c :: q), 0⟩, (c :: q).length) := by
  have hc := hd c (by simp)
  obtain ⟨h1, h2⟩ := dig_let hc
  show (if isLet c = true then wordL ((c :: q) ++ r) else if isDig c = true then numberL ((c :: q) ++ r) else if c = 39 then textT ((c :: q) ++ r) else markL ((c :: q) ++ r)) = _
  rw [if_neg (by rw [h1]; decide), if_pos hc]
  obtain ⟨g1, g2, g3, g4⟩ := stop_tail hr
  obtain ⟨ht, hw⟩ := tw_dig hd ⟨g3, g4⟩
  have hf : fracL (((c :: q) ++ r).dropWhile isDig) = [] := by rw [hw]; exact g1
  have hl : numLen ((c :: q) ++ r) = (c :: q).length := by unfold numLen; rw [hf, if_pos rfl, ht]
  have hg : numDigits ((c :: q) ++ r) = c :: q := by unfold numDigits; rw [hf, ht, List.append_nil]
  unfold numberL
  rw [hl, hg, hf, List.drop_left, if_neg (by rw [g2]; simp; omega)]
  rfl
theorem lexS_dig {d : Bs} (h0 : d ≠ []) (hd : ∀ x ∈ d, isDig x = true) (hv : numVal d ≤ 9223372036854775807) : LexStop d [⟨3, [], numVal d, 0⟩] := by
  cases d with
  | nil => exact absurd rfl h0
  | cons c q => exact fun r p hr => lex_tok (dig_let (hd c (by simp))).2 (tok_dig hd hv (.inl hr))
theorem lexS_point {a b : Bs} (h0 : a ≠ []) (hb0 : b ≠ []) (ha : ∀ x ∈ a, isDig x = true) (hb : ∀ x ∈ b, isDig x = true) (hv : numVal (a ++ b) ≤ 9223372036854775807) (h9 : b.length ≤ 9) : LexStop (a ++ 46 :: b) [⟨3, [], numVal (a ++ b), b.length⟩] := by
  cases a with
  | nil => exact absurd rfl h0
  | cons c q =>
    intro r p hr
    have hc := ha c (by simp)
    obtain ⟨h1, h2⟩ := dig_let hc
    refine lex_tok (q := q ++ 46 :: b) h2 ?_
    show (if isLet c = true then wordL ((c :: (q ++ 46 :: b)) ++ r) else if isDig c = true then numberL ((c :: (q ++ 46 :: b)) ++ r) else if c = 39 then textT ((c :: (q ++ 46 :: b)) ++ r) else markL ((c :: (q ++ 46 :: b)) ++ r)) = _
    rw [if_neg (by rw [h1]; decide), if_pos hc]
    have e : (c :: (q ++ 46 :: b)) ++ r = (c :: q) ++ (46 :: (b ++ r)) := by simp
    rw [e]
    obtain ⟨g1, g2, g3, g4⟩ := stop_tail (.inl hr)
    obtain ⟨ht, hw⟩ := tw_dig (r := 46 :: (b ++ r)) ha ⟨rfl, rfl⟩
    obtain ⟨ht2, hw2⟩ := tw_dig hb ⟨g3, g4⟩
    have hf : fracL (((c :: q) ++ (46 :: (b ++ r))).dropWhile isDig) = b := by rw [hw]; unfold fracL; rw [List.head?_cons, if_pos rfl]; exact ht2
    have hl : numLen ((c :: q) ++ (46 :: (b ++ r))) = (c :: q).length + 1 + b.length := by unfold numLen; rw [hf, if_neg hb0, ht]
    have hg : numDigits ((c :: q) ++ (46 :: (b ++ r))) = (c :: q) ++ b := by unfold numDigits; rw [hf, ht]
    have hd : ((c :: q) ++ (46 :: (b ++ r))).drop ((c :: q).length + 1 + b.length) = r := by
      have e2 : (c :: q) ++ (46 :: (b ++ r)) = ((c :: q) ++ 46 :: b) ++ r := by simp
      rw [e2, show (c :: q).length + 1 + b.length = ((c :: q) ++ 46 :: b).length by simp; omega, List.drop_left]
    unfold numberL
    rw [hl, hg, hf, hd, if_neg (by rw [g2]; simp; simp at hv; omega)]
    have e3 : (c :: q).length + 1 + b.length = (c :: (q ++ 46 :: b)).length := by simp; omega
    rw [e3]
theorem numVal_lt (d : Bs) (hd : ∀ x ∈ d, isDig x = true) : numVal d < 10 ^ d.length := by
  have h : ∀ (l : Bs) (a : Nat), (∀ x ∈ l, isDig x = true) → l.foldl (fun a c => a * 10 + (c.toNat - 48)) a < (a + 1) * 10 ^ l.length := by
    intro l
    induction l with
    | nil => intro a _; simp
    | cons c l ih =>
      intro a hl
      have hc : 48 ≤ c.toNat ∧ c.toNat ≤ 57 := by simpa [isDig] using hl c (by simp)
      have := ih (a * 10 + (c.toNat - 48)) (fun x hx => hl x (by simp [hx]))
      refine Nat.lt_of_lt_of_le this ?_
      rw [List.length_cons, Nat.pow_succ, Nat.mul_comm (10 ^ l.length) 10, ← Nat.mul_assoc]
      exact Nat.mul_le_mul_right _ (by omega)
  have := h d 0 hd
  simpa [numVal] using this
theorem numVal_small {d : Bs} (hd : ∀ x ∈ d, isDig x = true) (hl : d.length ≤ 14) : numVal d ≤ 9223372036854775807 := by
  have h1 := numVal_lt d hd
  have h2 : 10 ^ d.length ≤ 10 ^ 14 := Nat.pow_le_pow_right (by decide) hl
  omega
theorem cut_dig {d : Bs} (hd : ∀ x ∈ d, isDig x = true) (hl : d.length ≤ 14) : Cut d := by
  intro k p hk
  cases k with
  | zero => exact noFrom_nil p
  | succ k =>
    have ht : ∀ x ∈ d.take (k + 1), isDig x = true := fun x hx => hd x (List.mem_of_mem_take hx)
    refine noFrom_stop (lexS_dig ?_ ht (numVal_small ht (by rw [List.length_take]; omega))) rfl p
    cases d with
    | nil => simp at hk
    | cons c q => simp
theorem lex_pt : LexAny [46] [⟨5, [46], 0, 0⟩] := lex_mark (by decide) (by decide) (by decide) (by decide) (by decide) (by intro d; simp [marks2])
theorem cut_point {a b : Bs} (h0 : a ≠ []) (ha : ∀ x ∈ a, isDig x = true) (hb : ∀ x ∈ b, isDig x = true) (hla : a.length ≤ 7) (hlb : b.length ≤ 7) : Cut (a ++ 46 :: b) := by
  refine cut_app (cut_dig ha (by omega)) fun m p hm => ?_
  cases m with
  | zero =>
    rw [List.take_zero, List.append_nil]
    exact noFrom_stop (lexS_dig h0 ha (numVal_small ha (by omega))) rfl p
  | succ m =>
    rw [List.take_succ_cons]
    cases m with
    | zero =>
      rw [List.take_zero]
      cases a with
      | nil => exact absurd rfl h0
      | cons c q =>
        obtain ⟨us, h1, -, h3⟩ := lex_tok (p := p) (dig_let (ha c (by simp))).2 (tok_dig ha (numVal_small ha (by omega)) (.inr rfl))
        rw [h3]
        exact (noFrom_stop lex_pt.stop rfl _).pre (by rw [h1]; rfl)
    | succ m =>
      cases b with
      | nil => simp at hm
      | cons c b =>
        have ht : ∀ x ∈ (c :: b).take (m + 1), isDig x = true := fun x hx => hb x (List.mem_of_mem_take hx)
        refine noFrom_stop (lexS_point h0 (by simp) ha ht (numVal_small ?_ (by rw [List.length_append, List.length_take]; omega)) (by rw [List.length_take]; omega)) rfl p
        intro x hx
        rcases List.mem_append.1 hx with h | h
        · exact ha x h
        · exact ht x h

/-! ### Texts -/
theorem textL_in {s r : Bs} (hs : ∀ x ∈ s, x ≠ 39) (hr : Stop r) : textL (s ++ (39 :: r)) = some (s, s.length + 1) := by
  induction s with
  | nil =>
    rcases hr with rfl | ⟨c, q, rfl, hc⟩
    · rfl
    · refine textL_end c q ?_
      rintro rfl
      revert hc; decide
  | cons c s ih =>
    rw [List.cons_append, textL_cons _ (hs c (by simp)), ih (fun x hx => hs x (by simp [hx]))]
    rfl
theorem textL_un {s : Bs} (hs : ∀ x ∈ s, x ≠ 39) : textL s = none := by
  induction s with
  | nil => rfl
  | cons c s ih => rw [textL_cons _ (hs c (by simp)), ih (fun x hx => hs x (by simp [hx]))]; rfl
theorem lexS_text {s : Bs} (hs : ∀ x ∈ s, x ≠ 39) (hl : s.length ≤ 200) : LexStop (39 :: (s ++ [39])) [⟨4, s, 0, 0⟩] := fun r p hr => by
  refine lex_tok (by decide) ?_
  have e : (39 :: (s ++ [39])) ++ r = 39 :: (s ++ 39 :: r) := by simp
  rw [e, tokL_quote]
  unfold textT
  rw [List.drop_succ_cons, List.drop_zero, textL_in hs hr]
  simp only
  rw [if_neg (by omega)]
  simp
theorem lexB_bad {c : UInt8} {l : Bs} (p : Nat) (hb : isBl c = false) (h : tokL (c :: l) = none) : lexB (c :: l) p = .bad p := by
  unfold lexB
  rw [List.dropWhile_cons, List.takeWhile_cons, hb]
  exact lexG_bad _ (by simp) h
theorem cut_text {s : Bs} (hs : ∀ x ∈ s, x ≠ 39) : Cut (39 :: (s ++ [39])) := by
  intro k p hk
  cases k with
  | zero => exact noFrom_nil p
  | succ k =>
    rw [List.take_succ_cons]
    have h1 : ∀ x ∈ (s ++ [39]).take k, x ≠ 39 := by
      rw [List.take_append_of_le_length (by simp at hk; omega)]
      exact fun x hx => hs x (List.mem_of_mem_take hx)
    have h2 : tokL (39 :: (s ++ [39]).take k) = none := by
      rw [tokL_quote]
      unfold textT
      rw [List.drop_succ_cons, List.drop_zero, textL_un h1]
    rw [lexB_bad p (by decide) h2]
    intro ts h; cases h
/-- A mark of two signs. -/
theorem lex_mark2 {c d : UInt8} (h : marks2.contains [c, d] = true) : LexAny [c, d] [⟨5, [c, d], 0, 0⟩] := fun r p => by
  have h2 : (c = 60 ∧ d = 62) ∨ (c = 60 ∧ d = 61) ∨ (c = 62 ∧ d = 61) := by simpa [marks2] using h
  rcases h2 with ⟨rfl, rfl⟩ | ⟨rfl, rfl⟩ | ⟨rfl, rfl⟩ <;> exact lex_tok (by decide) rfl
theorem cut_two {c d : UInt8} (h : c = 60 ∨ c = 62) : Cut [c, d] := by
  intro k p hk
  have h2 : k = 0 ∨ k = 1 := by simp at hk; omega
  rcases h2 with rfl | rfl
  · exact noFrom_nil p
  · exact noFrom_stop (lexS_mark1 (c := c) (by rcases h with rfl | rfl <;> simp)) (nf_len (Nat.le_of_ble_eq_true rfl)) p
theorem name_dot {a : UInt8} (ha : isLet a = true) (ka : isKey [upc a] = false) (r : Bs) (p : Nat) : ∃ us : List Tok, us.map Tok.strip = [⟨2, [a], 0, 0⟩] ∧ (∀ t ∈ us, p ≤ t.pos ∧ t.pos < p + [a].length) ∧ lexB ([a] ++ (46 :: r)) p = (lexB (46 :: r) (p + [a].length)).pre us := by
  refine lex_tok (q := []) (let_bl ha) ?_
  have hl := let_LD ha
  have e : ((a :: ([] ++ 46 :: r)) : Bs).takeWhile isLD = [a] := by
    rw [List.takeWhile_cons, if_pos hl]
    show a :: List.takeWhile isLD (46 :: r) = [a]
    rw [List.takeWhile_cons, if_neg (by decide)]
  show (if isLet a = true then wordL (a :: ([] ++ 46 :: r)) else _) = _
  rw [if_pos ha]
  unfold wordL
  rw [e]
  rw [if_neg (by show ¬ isKey [upc a] = true; rw [ka]; decide), if_neg (by simp)]
theorem cut_wd {i : Nat} (h : i < 14) : Cut (wdL i) := by
  rcases wd_cases h with ⟨c, h1, h2, e⟩ | e | ⟨a, b, h1, h2, h3, h4, e⟩
  · rw [e]; exact cut_one c
  · rw [e]; exact cut_word (by decide) (by decide) (by decide) (by decide)
  · rw [e]
    intro k p hk
    have hk3 : k = 0 ∨ k = 1 ∨ k = 2 := by simp at hk; omega
    rcases hk3 with rfl | rfl | rfl
    · exact noFrom_nil p
    · exact noFrom_stop (lexS_name (c := a) (q := []) h1 (fun x hx => by simp at hx; rw [hx]; exact let_LD h1) h3 (by simp)) rfl p
    · obtain ⟨us, g1, -, g3⟩ := name_dot h1 h3 [] p
      have : ([a, 46, b] : Bs).take 2 = [a] ++ (46 :: []) := rfl
      rw [this, g3]
      exact (noFrom_stop lex_pt.stop rfl _).pre (by rw [g1]; rfl)
theorem nf_wd {i : Nat} (h : i < 14) : NF (wdT (wdL i)) := by
  rcases wd_cases h with ⟨c, h1, h2, e⟩ | e | ⟨a, b, h1, h2, h3, h4, e⟩ <;> rw [e] <;> rfl
end Go.Proofs.YtgbpoaimbjlamaaGreatDoor

namespace Go.Proofs.YtgbpoaimbjlamaaGreatDoor
open Go.RowKit
set_option linter.unusedVariables false

structure PartT where
  kind : Nat
  n : Nat
  s : Bs
def dg (n : Nat) : Bs := [UInt8.ofNat (48 + n % 10)]
def digF : Nat → Nat → Bs → Bs
  | 0, _, s => s
  | f + 1, n, s => if 9 < n then digF f (n / 10) (dg (n / 10) ++ s) else s
def digV (n : Nat) : Bs := digF 5 n (dg n)
def letV (s : Bs) : Bs := (s.take 20).filter (fun c => decide (c ≠ 39))
def constV (n : Nat) : Bs := ([[84, 82, 85, 69], [102, 97, 108, 115, 101], [78, 85, 76, 76]] : List Bs).getD n []
def atomP (p : PartT) : Bs :=
  if p.kind / 8 % 8 = 0 then digV p.n
  else if p.kind / 8 % 8 = 1 then digV p.n ++ [46] ++ digV (p.n % 1000)
  else if p.kind / 8 % 8 = 2 then [39] ++ letV p.s ++ [39]
  else if p.kind / 8 % 8 = 3 then constV (p.n % 3)
  else wdL (p.n % 14)
def opS (j : Nat) : Bs := ([[32, 43, 32], [32, 45, 32], [32, 42, 32], [32, 47, 32], [32, 61, 32], [32, 60, 32], [32, 65, 78, 68, 32], [32, 79, 82, 32], [32, 60, 62, 32], [32, 62, 61, 32], [32, 60, 61, 32], [32, 62, 32]] : List Bs).getD j []
def brk (s : Bs) : Bs := [40] ++ s ++ [41]
def stepV (s : Bs) (p : PartT) : Bs :=
  if p.kind % 8 = 0 then brk s ++ opS (p.n % 12) ++ atomP p
  else if p.kind % 8 = 1 then atomP p ++ opS (p.n % 12) ++ brk s
  else if p.kind % 8 = 2 then [78, 79, 84, 32] ++ brk s
  else if p.kind % 8 = 3 then [45, 32] ++ brk s
  else if p.kind % 8 = 4 then brk s ++ [32, 73, 83, 32, 78, 85, 76, 76]
  else if p.kind % 8 = 5 then brk s ++ [32, 105, 115, 32, 110, 111, 116, 32, 110, 117, 108, 108]
  else brk s ++ opS (p.n % 4) ++ atomP p
def exprN (l : List PartT) : Nat → Bs
  | 0 => match l with | [] => [49] | p :: _ => atomP p
  | i + 1 => match l[i + 1]? with | none => exprN l i | some p => stepV (exprN l i) p
def exprV (l : List PartT) : Bs := exprN l 11

/-! ### What may stand where an atom may -/
def bH : List Bs := [wMinus, wNot, wStar]
structure Pr (d : Nat) (a : Bs) (X : List TokC) (T : Tree) : Prop where
  lex : LexStop a X
  par : ∀ f, d ≤ f → Par (primaryF (subOf f)) bP X T
  head : hdB bH X
  ne : a ≠ []
  shw : showT T ≠ []
  nf : NF X
  cut : Cut a
structure Ex (d : Nat) (a : Bs) (X : List TokC) (T : Tree) : Prop where
  lex : LexStop a X
  par : ∀ f, d ≤ f → Par (exprF (subOf f)) bE X T
  head : hdB [wStar] X
  ne : a ≠ []
  shw : showT T ≠ []
  nf : NF X
  cut : Cut a
theorem hdB.sub {bs bs' : List Bs} {X : List TokC} (h : hdB bs X) (hs : ∀ x ∈ bs', x ∈ bs) : hdB bs' X := by
  obtain ⟨x, X', rfl, hx⟩ := h
  refine ⟨x, X', rfl, ?_⟩
  unfold isC at *
  rw [Bool.and_eq_false_iff] at *
  rcases hx with h | h
  · exact .inl h
  · right
    rw [Bool.eq_false_iff] at *
    intro h2
    exact h (List.contains_iff_mem.2 (hs _ (List.contains_iff_mem.1 h2)))
theorem nodeS_ne {h : Hd} (xs : List Bs) (h1 : h.op ≠ oNumber) (h2 : h.op ≠ oBool) (h3 : h.op ≠ oColumn) : nodeS h xs ≠ [] := by
  unfold nodeS
  rw [if_neg h1]
  by_cases h4 : h.op = oText
  · rw [if_pos h4]; simp
  rw [if_neg h4, if_neg h2]
  by_cases h5 : h.op = oNull
  · rw [if_pos h5]; simp
  rw [if_neg h5, if_neg h3]
  simp
theorem nodeS_neo {h : Hd} {o : Bs} (xs : List Bs) (ho : h.op = o) (h1 : o ≠ oNumber ∧ o ≠ oBool ∧ o ≠ oColumn) : nodeS h xs ≠ [] := nodeS_ne xs (by rw [ho]; exact h1.1) (by rw [ho]; exact h1.2.1) (by rw [ho]; exact h1.2.2)
theorem Pr.lv {d f j : Nat} {a : Bs} {X : List TokC} {T : Tree} (h : Pr d a X T) (hf : d ≤ f) (hj : j ≤ 5) : Lv (subOf f) j X T := by
  have h5 : Lv (subOf f) 5 X T := up_minus (h.par f hf) (h.head.sub (by decide))
  exact Lv.to (h.head.sub (by decide)) (n := 5 - j) (by omega) (by rw [show j + (5 - j) = 5 by omega]; exact h5)
theorem Pr.ex {d : Nat} {a : Bs} {X : List TokC} {T : Tree} (h : Pr d a X T) : Ex d a X T :=
  ⟨h.lex, fun f hf => h.lv hf (j := 0) (by omega), h.head.sub (by decide), h.ne, h.shw, h.nf, h.cut⟩
theorem Pr.mono {d d' : Nat} {a : Bs} {X : List TokC} {T : Tree} (h : Pr d a X T) (hd : d ≤ d') : Pr d' a X T := { h with par := fun f hf => h.par f (by omega) }
theorem Ex.mono {d d' : Nat} {a : Bs} {X : List TokC} {T : Tree} (h : Ex d a X T) (hd : d ≤ d') : Ex d' a X T := { h with par := fun f hf => h.par f (by omega) }
theorem lex_open1 : LexAny [40] [⟨5, wOpen, 0, 0⟩] := lex_mark (by decide) (by decide) (by decide) (by decide) (by decide) (by intro d; simp [marks2])
theorem lex_shut1 : LexAny [41] [⟨5, wShut, 0, 0⟩] := lex_mark (by decide) (by decide) (by decide) (by decide) (by decide) (by intro d; simp [marks2])
theorem stop_shut (r : Bs) : Stop (41 :: r) := .inr ⟨41, r, rfl, .inr (.inl rfl)⟩
theorem Ex.brk {d : Nat} {a : Bs} {X : List TokC} {T : Tree} (h : Ex d a X T) : Pr (d + 1) (brk a) ([⟨5, wOpen, 0, 0⟩] ++ X ++ [⟨5, wShut, 0, 0⟩]) T where
  lex := ((lex_open1.appS h.lex).app lex_shut1 (stop_shut _) (by simp)).stop
  par := fun f hf => by
    obtain ⟨g, rfl⟩ : ∃ g, f = g + 1 := ⟨f - 1, by omega⟩
    exact par_brk (L := lvl g) (by rw [lvl_eq]; exact h.par g (by omega))
  head := ⟨_, _, rfl, rfl⟩
  ne := by simp [Go.Proofs.YtgbpoaimbjlamaaGreatDoor.brk]
  shw := h.shw
  nf := (NF.app (X := [⟨5, wOpen, 0, 0⟩]) rfl h.nf).app rfl
  cut := by
    have h1 : Cut ([40] ++ a) := (cut_one 40).app lex_open1 rfl h.cut
    exact h1.appS (lex_open1.appS h.lex) (NF.app (X := [⟨5, wOpen, 0, 0⟩]) rfl h.nf) (cut_one 41) (stop_shut _)

/-! ### Operators -/
def opN (j : Nat) : TokC := ([⟨5, [43], 0, 0⟩, ⟨5, [45], 0, 0⟩, ⟨5, [42], 0, 0⟩, ⟨5, [47], 0, 0⟩, ⟨5, [61], 0, 0⟩, ⟨5, [60], 0, 0⟩, ⟨1, [65, 78, 68], 0, 0⟩, ⟨1, [79, 82], 0, 0⟩, ⟨5, [60, 62], 0, 0⟩, ⟨5, [62, 61], 0, 0⟩, ⟨5, [60, 61], 0, 0⟩, ⟨5, [62], 0, 0⟩] : List TokC).getD j ⟨0, [], 0, 0⟩
theorem op12 {j : Nat} (h : j < 12) : j = 0 ∨ j = 1 ∨ j = 2 ∨ j = 3 ∨ j = 4 ∨ j = 5 ∨ j = 6 ∨ j = 7 ∨ j = 8 ∨ j = 9 ∨ j = 10 ∨ j = 11 := by omega
theorem sp_lex {a : Bs} {X : List TokC} (h : LexStop a X) : LexAny ([32] ++ (a ++ [32])) X := by
  have := lex_sp.app (h.app lex_sp (.inr ⟨32, [], rfl, .inl (by decide)⟩) (by simp))
  simpa using this
theorem sp_cut {a : Bs} {X : List TokC} (h : LexStop a X) (hn : NF X) (hc : Cut a) : Cut ([32] ++ (a ++ [32])) :=
  (cut_one 32).app lex_sp rfl (hc.appS h hn (cut_one 32) (.inr ⟨32, [], rfl, .inl (by decide)⟩))
theorem opS_lex {j : Nat} (h : j < 12) : LexAny (opS j) [opN j] ∧ Cut (opS j) ∧ NF [opN j] := by
  have hw : ∀ {c : UInt8} {q : Bs}, isLet c = true → (∀ x ∈ (c :: q), isLD x = true) → isKey ((c :: q).map upc) = true → (c :: q).length ≤ 3 → NF [⟨1, (c :: q).map upc, 0, 0⟩] → LexAny ([32] ++ ((c :: q) ++ [32])) [⟨1, (c :: q).map upc, 0, 0⟩] ∧ Cut ([32] ++ ((c :: q) ++ [32])) ∧ NF [⟨1, (c :: q).map upc, 0, 0⟩] := fun {c q} h1 h2 h3 h4 h5 =>
    ⟨sp_lex (lexS_word h1 h2 h3), sp_cut (lexS_word h1 h2 h3) h5 (cut_word (a := c :: q) h1 h2 (by omega) (fun k hk he => by
      have := congrArg List.length he
      rw [List.length_map, List.length_take] at this
      have h6 : wFrom.length = 4 := rfl
      omega)), h5⟩
  have h1 : ∀ {c : UInt8}, (c = 61 ∨ c = 60 ∨ c = 62 ∨ c = 43 ∨ c = 45 ∨ c = 42 ∨ c = 47) → LexAny ([32] ++ ([c] ++ [32])) [⟨5, [c], 0, 0⟩] ∧ Cut ([32] ++ ([c] ++ [32])) ∧ NF [⟨5, [c], 0, 0⟩] := fun {c} h =>
    ⟨sp_lex (lexS_mark1 h), sp_cut (lexS_mark1 h) (nf_len (Nat.le_of_ble_eq_true rfl)) (cut_one c), nf_len (Nat.le_of_ble_eq_true rfl)⟩
  have h2 : ∀ {c d : UInt8}, (c = 60 ∨ c = 62) → marks2.contains [c, d] = true → LexAny ([32] ++ ([c, d] ++ [32])) [⟨5, [c, d], 0, 0⟩] ∧ Cut ([32] ++ ([c, d] ++ [32])) ∧ NF [⟨5, [c, d], 0, 0⟩] := fun {c d} h k =>
    ⟨sp_lex (lex_mark2 k).stop, sp_cut (lex_mark2 k).stop (nf_len (Nat.le_of_ble_eq_true rfl)) (cut_two h), nf_len (Nat.le_of_ble_eq_true rfl)⟩
  rcases op12 h with rfl | rfl | rfl | rfl | rfl | rfl | rfl | rfl | rfl | rfl | rfl | rfl
  · exact h1 (by simp)
  · exact h1 (by simp)
  · exact h1 (by simp)
  · exact h1 (by simp)
  · exact h1 (by simp)
  · exact h1 (by simp)
  · exact hw (c := 65) (q := [78, 68]) (by decide) (by decide) (by decide) (by decide) rfl
  · exact hw (c := 79) (q := [82]) (by decide) (by decide) (by decide) (by decide) rfl
  · exact h2 (by simp) (by decide)
  · exact h2 (by simp) (by decide)
  · exact h2 (by simp) (by decide)
  · exact h1 (by simp)
theorem opS_stop {j : Nat} (h : j < 12) (r : Bs) : Stop (opS j ++ r) ∧ opS j ≠ [] ∧ (opS j).length ≤ 5 := by
  rcases op12 h with rfl | rfl | rfl | rfl | rfl | rfl | rfl | rfl | rfl | rfl | rfl | rfl
  all_goals exact ⟨.inr ⟨32, _, rfl, .inl (by decide)⟩, by decide, by decide⟩
theorem op_par {f j : Nat} (h : j < 12) {d : Nat} {a b : Bs} {X Z : List TokC} {T U : Tree} (ha : Pr d a X T) (hb : Pr d b Z U) (hf : d ≤ f) : Par (exprF (subOf f)) bE (X ++ [opN j] ++ Z) (.bin { op := (opN j).s.map lowc, pos := 0 } T U) := by
  have hh : hdB [wNot] (X ++ [opN j] ++ Z) := hd_app (hd_app (ha.head.sub (by decide)))
  have hX : ∀ {i}, i ≤ 5 → Lv (subOf f) i X T := fun hi => ha.lv hf hi
  have hZ : ∀ {i}, i ≤ 5 → Lv (subOf f) i Z U := fun hi => hb.lv hf hi
  have hrel : isC (opN j) relWords = true → isC (opN j) bS = false → (opN j).s.map lowc = (opN j).s → Lv (subOf f) 0 (X ++ [opN j] ++ Z) (.bin { op := (opN j).s.map lowc, pos := 0 } T U) := fun h1 h2 h3 => by
    rw [h3]
    exact Lv.to (j := 0) hh (n := 2) (by omega) (before_no ((test_rel (hX (i := 3) (by omega)) (hZ (i := 3) (by omega)) h1 h2).sub (by decide)) hh)
  rcases op12 h with rfl | rfl | rfl | rfl | rfl | rfl | rfl | rfl | rfl | rfl | rfl | rfl
  · exact Lv.to (j := 0) hh (n := 3) (by omega) (join_two (part := termF (subOf f)) (hX (i := 4) (by omega)) (hZ (i := 4) (by omega)) (by decide) (by decide) (by decide) (by decide))
  · exact Lv.to (j := 0) hh (n := 3) (by omega) (join_two (part := termF (subOf f)) (hX (i := 4) (by omega)) (hZ (i := 4) (by omega)) (by decide) (by decide) (by decide) (by decide))
  · exact Lv.to (j := 0) hh (n := 4) (by omega) (join_two (part := minusF (subOf f)) (hX (i := 5) (by omega)) (hZ (i := 5) (by omega)) (by decide) (by decide) (by decide) (by decide))
  · exact Lv.to (j := 0) hh (n := 4) (by omega) (join_two (part := minusF (subOf f)) (hX (i := 5) (by omega)) (hZ (i := 5) (by omega)) (by decide) (by decide) (by decide) (by decide))
  · exact hrel (by decide) (by decide) (by decide)
  · exact hrel (by decide) (by decide) (by decide)
  · exact Lv.to (j := 0) hh (n := 1) (by omega) (join_two (part := notF (subOf f)) (hX (i := 2) (by omega)) (hZ (i := 2) (by omega)) (by decide) (by decide) (by decide) (by decide))
  · exact join_two (part := andF (subOf f)) (hX (i := 1) (by omega)) (hZ (i := 1) (by omega)) (by decide) (by decide) (by decide) (by decide)
  · exact hrel (by decide) (by decide) (by decide)
  · exact hrel (by decide) (by decide) (by decide)
  · exact hrel (by decide) (by decide) (by decide)
  · exact hrel (by decide) (by decide) (by decide)
theorem op_ne {j : Nat} (h : j < 12) (T U : Tree) : showT (.bin { op := (opN j).s.map lowc, pos := 0 } T U) ≠ [] := by
  refine nodeS_ne _ ?_ ?_ ?_ <;> rcases op12 h with rfl | rfl | rfl | rfl | rfl | rfl | rfl | rfl | rfl | rfl | rfl | rfl <;> decide
theorem Pr.op {d j : Nat} (h : j < 12) {a b : Bs} {X Z : List TokC} {T U : Tree} (ha : Pr d a X T) (hb : Pr d b Z U) : Ex d (a ++ opS j ++ b) (X ++ [opN j] ++ Z) (.bin { op := (opN j).s.map lowc, pos := 0 } T U) where
  lex := (ha.lex.app (opS_lex h).1 (by have := (opS_stop h []).1; rwa [List.append_nil] at this) (opS_stop h []).2.1).appS hb.lex
  par := fun f hf => op_par h ha hb hf
  head := hd_app (hd_app (ha.head.sub (by decide)))
  ne := by simp [ha.ne]
  shw := op_ne h T U
  nf := (ha.nf.app (opS_lex h).2.2).app hb.nf
  cut := by
    have hs : Stop (opS j) := by have := (opS_stop h []).1; rwa [List.append_nil] at this
    exact (ha.cut.appS ha.lex ha.nf (opS_lex h).2.1 hs).app (ha.lex.app (opS_lex h).1 hs (opS_stop h []).2.1) (ha.nf.app (opS_lex h).2.2) hb.cut

theorem word_sp {c : UInt8} {q : Bs} (h1 : isLet c = true) (h2 : ∀ x ∈ (c :: q), isLD x = true) (h3 : isKey ((c :: q).map upc) = true) (h4 : (c :: q).length ≤ 40) (h5 : NF [⟨1, (c :: q).map upc, 0, 0⟩]) (hf : ∀ k, k < (c :: q).length → ((c :: q).take k).map upc ≠ wFrom) :
    LexAny ((c :: q) ++ [32]) [⟨1, (c :: q).map upc, 0, 0⟩] ∧ Cut ((c :: q) ++ [32]) := by
  have hl := lexS_word h1 h2 h3
  refine ⟨?_, (cut_word (a := c :: q) h1 h2 h4 hf).appS hl h5 (cut_one 32) (.inr ⟨32, [], rfl, .inl (by decide)⟩)⟩
  have := hl.app lex_sp (.inr ⟨32, [], rfl, .inl (by decide)⟩) (by simp)
  simpa using this
theorem Pr.notx {d : Nat} {a : Bs} {X : List TokC} {T : Tree} (ha : Pr d a X T) : Ex (d + 1) ([78, 79, 84, 32] ++ a) ([⟨1, wNot, 0, 0⟩] ++ X) (.un { op := oNot, pos := 0 } T) := by
  have hw := word_sp (c := 78) (q := [79, 84]) (by decide) (by decide) (by decide) (by decide) rfl (by decide)
  refine ⟨hw.1.appS ha.lex, fun f hf => ?_, ⟨_, _, rfl, rfl⟩, by simp, nodeS_ne _ (by decide) (by decide) (by decide), NF.app (X := [⟨1, wNot, 0, 0⟩]) rfl ha.nf, hw.2.app hw.1 rfl ha.cut⟩
  obtain ⟨g, rfl⟩ : ∃ g, f = g + 1 := ⟨f - 1, by omega⟩
  have h1 : Par (notF (some (lvl g))) bR ([⟨1, wNot, 0, 0⟩] ++ X) (.un { op := oNot, pos := 0 } T) :=
    before_yes (L := lvl g) (own := Lvl.not) (by decide) (by rw [lvl_eq]; exact ha.lv (j := 2) (by omega) (by omega))
  exact up_expr (up_and h1)
theorem Pr.negx {d : Nat} {a : Bs} {X : List TokC} {T : Tree} (ha : Pr d a X T) : Ex (d + 1) ([45, 32] ++ a) ([⟨5, wMinus, 0, 0⟩] ++ X) (.un { op := oNeg, pos := 0 } T) := by
  have hl : LexAny ([45] ++ [32]) [⟨5, wMinus, 0, 0⟩] := by
    have := (lexS_mark1 (c := 45) (by simp)).app lex_sp (.inr ⟨32, [], rfl, .inl (by decide)⟩) (by simp)
    rw [List.append_nil] at this
    exact this
  have hc : Cut ([45] ++ [32]) := (cut_one 45).appS (lexS_mark1 (c := 45) (by simp)) rfl (cut_one 32) (.inr ⟨32, [], rfl, .inl (by decide)⟩)
  refine ⟨hl.appS ha.lex, fun f hf => ?_, ⟨_, _, rfl, rfl⟩, by simp, nodeS_ne _ (by decide) (by decide) (by decide), NF.app (X := [⟨5, wMinus, 0, 0⟩]) rfl ha.nf, hc.app hl rfl ha.cut⟩
  obtain ⟨g, rfl⟩ : ∃ g, f = g + 1 := ⟨f - 1, by omega⟩
  have h1 : Par (minusF (some (lvl g))) bP ([⟨5, wMinus, 0, 0⟩] ++ X) (.un { op := oNeg, pos := 0 } T) :=
    before_yes (L := lvl g) (own := Lvl.minus) (by decide) (by rw [lvl_eq]; exact ha.lv (j := 5) (by omega) (by omega))
  exact Lv.to (sub := some (lvl g)) (j := 0) ⟨_, _, rfl, rfl⟩ (n := 5) (by omega) h1
theorem Pr.post {d : Nat} {a b : Bs} {X Z : List TokC} {T U : Tree} (ha : Pr d a X T) (hl : LexStop b Z) (hs : Stop b) (hb : b ≠ []) (hc : Cut b) (hn : NF Z) (hU : showT U ≠ []) (hp : ∀ f, d ≤ f → Par (testF (subOf f)) bR (X ++ Z) U) : Ex d (a ++ b) (X ++ Z) U where
  lex := ha.lex.appS hl hs hb
  par := fun f hf => up_expr (up_and (up_not (hp f hf) (hd_app (ha.head.sub (by decide)))))
  head := hd_app (ha.head.sub (by decide))
  ne := by simp [ha.ne]
  shw := hU
  nf := ha.nf.app hn
  cut := ha.cut.appS ha.lex ha.nf hc hs
theorem Pr.isnull {d : Nat} {a : Bs} {X : List TokC} {T : Tree} (ha : Pr d a X T) : Ex d (a ++ [32, 73, 83, 32, 78, 85, 76, 76]) (X ++ [⟨1, wIs, 0, 0⟩, ⟨1, wNull, 0, 0⟩]) (.un { op := oIs, pos := 0 } T) := by
  have h1 := word_sp (c := 73) (q := [83]) (by decide) (by decide) (by decide) (by decide) rfl (by decide)
  have h2 : LexStop [78, 85, 76, 76] [⟨1, wNull, 0, 0⟩] := lexS_word (by decide) (by decide) (by decide)
  have h2c : Cut [78, 85, 76, 76] := cut_word (by decide) (by decide) (by decide) (by decide)
  exact ha.post (lex_sp.appS (h1.1.appS h2)) (.inr ⟨32, _, rfl, .inl (by decide)⟩) (by simp) ((cut_one 32).app lex_sp rfl (h1.2.app h1.1 rfl h2c)) rfl (nodeS_ne _ (by decide) (by decide) (by decide))
    (fun f hf => test_null (ha.lv hf (j := 3) (by omega)))
theorem Pr.notnull {d : Nat} {a : Bs} {X : List TokC} {T : Tree} (ha : Pr d a X T) : Ex d (a ++ [32, 105, 115, 32, 110, 111, 116, 32, 110, 117, 108, 108]) (X ++ [⟨1, wIs, 0, 0⟩, ⟨1, wNot, 0, 0⟩, ⟨1, wNull, 0, 0⟩]) (.un { op := oIsNot, pos := 0 } T) := by
  have h1 := word_sp (c := 105) (q := [115]) (by decide) (by decide) (by decide) (by decide) rfl (by decide)
  have h2 := word_sp (c := 110) (q := [111, 116]) (by decide) (by decide) (by decide) (by decide) rfl (by decide)
  have h3 : LexStop [110, 117, 108, 108] [⟨1, wNull, 0, 0⟩] := lexS_word (by decide) (by decide) (by decide)
  have h3c : Cut [110, 117, 108, 108] := cut_word (by decide) (by decide) (by decide) (by decide)
  exact ha.post (lex_sp.appS (h1.1.appS (h2.1.appS h3))) (.inr ⟨32, _, rfl, .inl (by decide)⟩) (by simp) ((cut_one 32).app lex_sp rfl (h1.2.app h1.1 rfl (h2.2.app h2.1 rfl h3c))) rfl (nodeS_ne _ (by decide) (by decide) (by decide))
    (fun f hf => test_notnull (ha.lv hf (j := 3) (by omega)))

/-! ### Atoms -/
theorem dg_ok (n : Nat) : ∀ x ∈ dg n, isDig x = true := by
  intro x hx
  simp only [dg, List.mem_singleton] at hx
  subst hx
  have h : (UInt8.ofNat (48 + n % 10)).toNat = 48 + n % 10 := by
    rw [UInt8.toNat_ofNat']
    omega
  simp [isDig]
  omega
theorem digF_ok : ∀ (f n : Nat) (s : Bs), s ≠ [] → (∀ x ∈ s, isDig x = true) → digF f n s ≠ [] ∧ (∀ x ∈ digF f n s, isDig x = true) ∧ (digF f n s).length ≤ s.length + f := by
  intro f
  induction f with
  | zero => intro n s h0 h; exact ⟨h0, h, Nat.le_refl _⟩
  | succ f ih =>
    intro n s h0 h
    unfold digF
    split
    · have := ih (n / 10) (dg (n / 10) ++ s) (by simp [h0]) (fun x hx => by
        rcases List.mem_append.1 hx with hx | hx
        · exact dg_ok _ x hx
        · exact h x hx)
      refine ⟨this.1, this.2.1, ?_⟩
      have h2 := this.2.2
      have h3 : (dg (n / 10) ++ s).length = s.length + 1 := by simp [dg]
      omega
    · exact ⟨h0, h, by omega⟩
theorem digV_ok (n : Nat) : digV n ≠ [] ∧ (∀ x ∈ digV n, isDig x = true) ∧ (digV n).length ≤ 6 := by
  have := digF_ok 5 n (dg n) (by simp [dg]) (dg_ok n)
  exact ⟨this.1, this.2.1, by have h := this.2.2; have h2 : (dg n).length = 1 := rfl; unfold digV; omega⟩
theorem letV_ok (s : Bs) : (∀ x ∈ letV s, x ≠ 39) ∧ (letV s).length ≤ 20 := by
  constructor
  · intro x hx
    have := (List.mem_filter.1 hx).2
    simpa using this
  · have h1 : (letV s).length ≤ (s.take 20).length := List.length_filter_le _ _
    rw [List.length_take] at h1
    omega
theorem numS_ne {n sc : Nat} (hn : n ≤ 9223372036854775807) (hs : sc ≤ 9) : numS n sc ≠ [] := by
  have h := numD_len n sc hn hs
  unfold numS
  split
  · simp
  · intro h2; rw [h2] at h; simp at h
theorem num_node {n sc : Nat} (hn : n ≤ 9223372036854775807) (hs : sc ≤ 9) : showT (.leaf { op := oNumber, pos := 0, n := n, scale := sc }) ≠ [] := by
  show nodeS _ [] ≠ []
  unfold nodeS
  rw [if_pos rfl]
  exact numS_ne hn hs
theorem atom_dig (n : Nat) : ∃ X T, Pr 0 (digV n) X T := by
  have h := digV_ok n
  have hv := numVal_small h.2.1 (by omega)
  exact ⟨_, _, ⟨lexS_dig h.1 h.2.1 hv, fun f _ => par_num _ _ _, ⟨_, _, rfl, rfl⟩, h.1, num_node hv (by omega), rfl, cut_dig h.2.1 (by omega)⟩⟩
theorem atom_point (n m : Nat) : ∃ X T, Pr 0 (digV n ++ [46] ++ digV m) X T := by
  have h := digV_ok n
  have k := digV_ok m
  have hd : ∀ x ∈ digV n ++ digV m, isDig x = true := fun x hx => by
    rcases List.mem_append.1 hx with hx | hx
    · exact h.2.1 x hx
    · exact k.2.1 x hx
  have hv := numVal_small hd (by rw [List.length_append]; omega)
  have e : digV n ++ [46] ++ digV m = digV n ++ 46 :: digV m := by simp
  rw [e]
  exact ⟨_, _, ⟨lexS_point h.1 k.1 h.2.1 k.2.1 hv (by omega), fun f _ => par_num _ _ _, ⟨_, _, rfl, rfl⟩, by simp, num_node hv (by omega), rfl, cut_point h.1 h.2.1 k.2.1 (by omega) (by omega)⟩⟩
theorem atom_text (s : Bs) : ∃ X T, Pr 0 ([39] ++ letV s ++ [39]) X T := by
  have h := letV_ok s
  have e : [39] ++ letV s ++ [39] = 39 :: (letV s ++ [39]) := by simp
  rw [e]
  exact ⟨_, _, ⟨lexS_text h.1 (by omega), fun f _ => par_text _ _, ⟨_, _, rfl, rfl⟩, by simp, nodeS_neo (o := oText) _ rfl (by decide), rfl, cut_text h.1⟩⟩
theorem atom_const {i : Nat} (h : i < 3) : ∃ X T, Pr 0 (constV i) X T := by
  have h3 : i = 0 ∨ i = 1 ∨ i = 2 := by omega
  rcases h3 with rfl | rfl | rfl
  · exact ⟨_, _, ⟨lexS_word (c := 84) (q := [82, 85, 69]) (by decide) (by decide) (by decide), fun f _ => par_true _, ⟨_, _, rfl, rfl⟩, by decide, by decide +kernel, rfl, cut_word (by decide) (by decide) (by decide) (by decide)⟩⟩
  · exact ⟨_, _, ⟨lexS_word (c := 102) (q := [97, 108, 115, 101]) (by decide) (by decide) (by decide), fun f _ => par_false _, ⟨_, _, rfl, rfl⟩, by decide, by decide +kernel, rfl, cut_word (by decide) (by decide) (by decide) (by decide)⟩⟩
  · exact ⟨_, _, ⟨lexS_word (c := 78) (q := [85, 76, 76]) (by decide) (by decide) (by decide), fun f _ => par_null _, ⟨_, _, rfl, rfl⟩, by decide, nodeS_ne _ (by decide) (by decide) (by decide), rfl, cut_word (by decide) (by decide) (by decide) (by decide)⟩⟩
theorem atom_wd {i : Nat} (h : i < 14) : ∃ X T, Pr 0 (wdL i) X T :=
  ⟨_, _, ⟨wd_lex h, fun f _ => wd_par h _, wd_head h _, (wd_small h).2, by rw [wd_show h]; exact (wd_small h).2, nf_wd h, cut_wd h⟩⟩
theorem atom_pr (p : PartT) : ∃ X T, Pr 0 (atomP p) X T := by
  unfold atomP
  split
  · exact atom_dig _
  split
  · exact atom_point _ _
  split
  · exact atom_text _
  split
  · exact atom_const (Nat.mod_lt _ (by decide))
  · exact atom_wd (Nat.mod_lt _ (by decide))
theorem atomP_small (p : PartT) : (atomP p).length ≤ 22 := by
  unfold atomP
  split
  · have := (digV_ok p.n).2.2; omega
  split
  · have h1 := (digV_ok p.n).2.2
    have h2 := (digV_ok (p.n % 1000)).2.2
    simp only [List.length_append, List.length_cons, List.length_nil]; omega
  split
  · have := (letV_ok p.s).2
    simp only [List.length_append, List.length_cons, List.length_nil]; omega
  split
  · have h3 : p.n % 3 = 0 ∨ p.n % 3 = 1 ∨ p.n % 3 = 2 := by omega
    rcases h3 with h | h | h <;> rw [h] <;> decide
  · have := (wd_small (i := p.n % 14) (Nat.mod_lt _ (by decide))).1; omega
theorem stepV_ex {d : Nat} {s : Bs} {p : PartT} (h : ∃ X T, Ex d s X T) : ∃ X T, Ex (d + 2) (stepV s p) X T := by
  obtain ⟨X, T, h⟩ := h
  obtain ⟨Z, U, ha⟩ := atom_pr p
  have hb := h.brk
  unfold stepV
  split
  · exact ⟨_, _, (Pr.op (Nat.mod_lt _ (by decide)) hb (ha.mono (by omega))).mono (by omega)⟩
  split
  · exact ⟨_, _, (Pr.op (Nat.mod_lt _ (by decide)) (ha.mono (by omega)) hb).mono (by omega)⟩
  split
  · exact ⟨_, _, hb.notx⟩
  split
  · exact ⟨_, _, hb.negx⟩
  split
  · exact ⟨_, _, hb.isnull.mono (by omega)⟩
  split
  · exact ⟨_, _, hb.notnull.mono (by omega)⟩
  · exact ⟨_, _, (Pr.op (j := p.n % 4) (by omega) hb (ha.mono (by omega))).mono (by omega)⟩
theorem stepV_small (s : Bs) (p : PartT) : (stepV s p).length ≤ s.length + 30 := by
  have ha := atomP_small p
  have h12 := (opS_stop (j := p.n % 12) (Nat.mod_lt _ (by decide)) []).2.2
  have h4 := (opS_stop (j := p.n % 4) (by omega) []).2.2
  unfold stepV brk
  split
  · simp only [List.length_append, List.length_cons, List.length_nil]; omega
  split
  · simp only [List.length_append, List.length_cons, List.length_nil]; omega
  split
  · simp only [List.length_append, List.length_cons, List.length_nil]; omega
  split
  · simp only [List.length_append, List.length_cons, List.length_nil]; omega
  split
  · simp only [List.length_append, List.length_cons, List.length_nil]; omega
  split
  · simp only [List.length_append, List.length_cons, List.length_nil]; omega
  · simp only [List.length_append, List.length_cons, List.length_nil]; omega
theorem exprN_ex (l : List PartT) : ∀ i, (∃ X T, Ex (2 * i) (exprN l i) X T) ∧ (exprN l i).length ≤ 22 + 30 * i := by
  intro i
  induction i with
  | zero =>
    unfold exprN
    cases l with
    | nil =>
      have := atom_dig 1
      obtain ⟨X, T, h⟩ := this
      exact ⟨⟨X, T, h.ex⟩, by decide⟩
    | cons p l =>
      obtain ⟨X, T, h⟩ := atom_pr p
      exact ⟨⟨X, T, h.ex⟩, atomP_small p⟩
  | succ i ih =>
    unfold exprN
    split
    · obtain ⟨⟨X, T, h⟩, h2⟩ := ih
      exact ⟨⟨X, T, h.mono (by omega)⟩, by omega⟩
    · rename_i p _
      refine ⟨stepV_ex ih.1, ?_⟩
      have := stepV_small (exprN l i) p
      omega
theorem exprV_ex (l : List PartT) : ∃ X T, Ex 22 (exprV l) X T := (exprN_ex l 11).1
theorem exprV_small (l : List PartT) : (exprV l).length ≤ 352 := (exprN_ex l 11).2
end Go.Proofs.YtgbpoaimbjlamaaGreatDoor
