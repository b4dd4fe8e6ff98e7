/-
  Texts that are put together token by token, and what their tokens are. Plain; no condition.
-/
import Derived.Test.YtgbpoaimbjlamaaGreatDoorPsA
namespace Go.Proofs.YtgbpoaimbjlamaaGreatDoor
open Go.RowKit
set_option linter.unusedVariables false

/-- Nothing, or a blank, or a shutting bracket, or a comma: what ends a word and a number. -/
def Stop (r : Bs) : Prop := r = [] ∨ ∃ c q, r = c :: q ∧ (isBl c = true ∨ c = 41 ∨ c = 44)
/-- The tokens without their places. -/
def Tok.strip (t : Tok) : TokC := ⟨t.kind, t.s, t.n, t.scale⟩
/-- A text a has these tokens, whatever follows. -/
def LexAny (a : Bs) (ts : List TokC) : Prop := ∀ (r : Bs) (p : Nat), ∃ us : List Tok, us.map Tok.strip = ts ∧ (∀ t ∈ us, p ≤ t.pos ∧ t.pos < p + a.length) ∧ lexB (a ++ r) p = (lexB r (p + a.length)).pre us
/-- A text a has these tokens, if what follows ends a word. -/
def LexStop (a : Bs) (ts : List TokC) : Prop := ∀ (r : Bs) (p : Nat), Stop r → ∃ us : List Tok, us.map Tok.strip = ts ∧ (∀ t ∈ us, p ≤ t.pos ∧ t.pos < p + a.length) ∧ lexB (a ++ r) p = (lexB r (p + a.length)).pre us

theorem LexAny.stop {a : Bs} {ts : List TokC} (h : LexAny a ts) : LexStop a ts := fun r p _ => h r p
theorem LexAny.nil : LexAny [] [] := fun r p => ⟨[], rfl, by simp, by simp [Lexed.pre_nil]⟩
theorem lex_two {a b : Bs} {ts us : List TokC} {r : Bs} {p : Nat} (h1 : ∃ xs : List Tok, xs.map Tok.strip = ts ∧ (∀ t ∈ xs, p ≤ t.pos ∧ t.pos < p + a.length) ∧ lexB (a ++ (b ++ r)) p = (lexB (b ++ r) (p + a.length)).pre xs)
    (h2 : ∃ xs : List Tok, xs.map Tok.strip = us ∧ (∀ t ∈ xs, p + a.length ≤ t.pos ∧ t.pos < p + a.length + b.length) ∧ lexB (b ++ r) (p + a.length) = (lexB r (p + a.length + b.length)).pre xs) :
    ∃ xs : List Tok, xs.map Tok.strip = ts ++ us ∧ (∀ t ∈ xs, p ≤ t.pos ∧ t.pos < p + (a ++ b).length) ∧ lexB (a ++ b ++ r) p = (lexB r (p + (a ++ b).length)).pre xs := by
  obtain ⟨xs, e1, p1, l1⟩ := h1
  obtain ⟨ys, e2, p2, l2⟩ := h2
  refine ⟨xs ++ ys, by rw [List.map_append, e1, e2], fun t ht => ?_, ?_⟩
  · rw [List.length_append]
    rcases List.mem_append.1 ht with h | h
    · have := p1 t h; omega
    · have := p2 t h; omega
  · rw [List.append_assoc, l1, l2, Lexed.pre_pre, List.length_append, Nat.add_assoc]
theorem LexAny.app {a b : Bs} {ts us : List TokC} (h : LexAny a ts) (k : LexAny b us) : LexAny (a ++ b) (ts ++ us) := fun r p => lex_two (h _ _) (k _ _)
theorem LexAny.appS {a b : Bs} {ts us : List TokC} (h : LexAny a ts) (k : LexStop b us) : LexStop (a ++ b) (ts ++ us) := fun r p hr => lex_two (h _ _) (k _ _ hr)
theorem Stop.app {b r : Bs} (h : Stop b) (hb : b ≠ []) : Stop (b ++ r) := by
  rcases h with h | ⟨c, q, rfl, hc⟩
  · exact absurd h hb
  · exact .inr ⟨c, q ++ r, rfl, hc⟩
theorem LexStop.app {a b : Bs} {ts us : List TokC} (h : LexStop a ts) (k : LexAny b us) (hs : Stop b) (hb : b ≠ []) : LexAny (a ++ b) (ts ++ us) := fun r p => lex_two (h _ _ (hs.app hb)) (k _ _)
theorem LexStop.appS {a b : Bs} {ts us : List TokC} (h : LexStop a ts) (k : LexStop b us) (hs : Stop b) (hb : b ≠ []) : LexStop (a ++ b) (ts ++ us) := fun r p hr => lex_two (h _ _ (hs.app hb)) (k _ _ hr)

/-- One token. -/
theorem lex_tok {c : UInt8} {q r : Bs} {p : Nat} {t : TokC} (hb : isBl c = false) (h : tokL ((c :: q) ++ r) = some (t, (c :: q).length)) :
    ∃ us : List Tok, us.map Tok.strip = [t] ∧ (∀ u ∈ us, p ≤ u.pos ∧ u.pos < p + (c :: q).length) ∧ lexB ((c :: q) ++ r) p = (lexB r (p + (c :: q).length)).pre us := by
  refine ⟨[t.put p], rfl, fun u hu => ?_, ?_⟩
  · simp at hu; subst hu; simp [TokC.put]
  · have e : lexB ((c :: q) ++ r) p = lexG ((c :: q) ++ r) p := by
      unfold lexB
      rw [List.cons_append, List.dropWhile_cons, List.takeWhile_cons, hb]
      simp
    rw [e, lexG_next p h]
    simp
/-- A blank. -/
theorem lex_blank {c : UInt8} (hb : isBl c = true) : LexAny [c] [] := fun r p => ⟨[], rfl, by simp, by
  unfold lexB
  rw [Lexed.pre_nil, List.cons_append, List.nil_append, List.dropWhile_cons, List.takeWhile_cons, if_pos hb, if_pos hb]
  simp only [List.length_cons, List.length_nil]
  congr 1
  omega⟩
/-- A mark of one sign, that begins no longer one. -/
theorem lex_mark {c : UInt8} (h1 : isLet c = false) (h2 : isDig c = false) (h3 : c ≠ 39) (hb : isBl c = false) (hm : marks1.contains c = true) (hl : ∀ d, marks2.contains [c, d] = false) : LexAny [c] [⟨5, [c], 0, 0⟩] := fun r p => by
  refine lex_tok (q := []) hb ?_
  show (if isLet c = true then _ else if isDig c = true then _ else if c = 39 then _ else markL (c :: ([] ++ r))) = _
  rw [if_neg (by rw [h1]; decide), if_neg (by rw [h2]; decide), if_neg h3]
  unfold markL
  have h0 : marks2.contains ((c :: ([] ++ r)).take 2) = false := by
    cases r with
    | nil =>
      simp [marks2]
    | cons d r => exact hl d
  rw [if_neg (by rw [h0]; decide)]
  simp only
  rw [if_pos hm]
  rfl
theorem tw_end {P : UInt8 → Bool} (hP : ∀ c, isBl c = true ∨ c = 41 ∨ c = 44 → P c = false) {b r : Bs} (hb : ∀ x ∈ b, P x = true) (hr : Stop r) : (b ++ r).takeWhile P = b ∧ (b ++ r).dropWhile P = r := by
  induction b with
  | nil =>
    rcases hr with rfl | ⟨c, q, rfl, hc⟩
    · exact ⟨rfl, rfl⟩
    · have := hP c hc
      simp [this]
  | cons x b ih =>
    have hx := hb x List.mem_cons_self
    have := ih (fun y hy => hb y (List.mem_cons_of_mem _ hy))
    simp [hx, this.1, this.2]
theorem stop_LD (c : UInt8) (h : isBl c = true ∨ c = 41 ∨ c = 44) : isLD c = false := by
  rcases h with h | h | h
  · have hb : ¬ isLD c = true := by
      intro h2
      simp only [isLD, isLet, isDig, isBl, Bool.or_eq_true, Bool.and_eq_true, decide_eq_true_eq] at h h2
      omega
    simpa using hb
  · subst h; decide
  · subst h; decide
theorem stop_dig (c : UInt8) (h : isBl c = true ∨ c = 41 ∨ c = 44) : isDig c = false := by
  have := stop_LD c h
  simp only [isLD, Bool.or_eq_false_iff] at this
  exact this.2
/-- A name. -/
theorem lexS_name {c : UInt8} {q : Bs} (hc : isLet c = true) (hl : ∀ x ∈ (c :: q), isLD x = true) (hk : isKey ((c :: q).map upc) = false) (h40 : (c :: q).length ≤ 40) : LexStop (c :: q) [⟨2, c :: q, 0, 0⟩] := fun r p hr => by
  refine lex_tok (let_bl hc) ?_
  show (if isLet c = true then wordL ((c :: q) ++ r) else _) = _
  rw [if_pos hc, wordL, (tw_end stop_LD hl hr).1, if_neg (by rw [hk]; decide), if_neg (by omega)]
/-- A word. -/
theorem lexS_word {c : UInt8} {q : Bs} (hc : isLet c = true) (hl : ∀ x ∈ (c :: q), isLD x = true) (hk : isKey ((c :: q).map upc) = true) : LexStop (c :: q) [⟨1, (c :: q).map upc, 0, 0⟩] := fun r p hr => by
  refine lex_tok (let_bl hc) ?_
  show (if isLet c = true then wordL ((c :: q) ++ r) else _) = _
  rw [if_pos hc, wordL, (tw_end stop_LD hl hr).1, if_pos hk]
end Go.Proofs.YtgbpoaimbjlamaaGreatDoor
