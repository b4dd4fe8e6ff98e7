/-
  The plain law of chapter 11, part 3: texts in quotes, numbers, words, marks. No program is in sight. No condition.
-/
import Derived.Test.YtpghimiecigakaaDoorLxB
namespace Go.Proofs.YtpghimiecigakaaDoor

theorem lexAll_bad {c : UInt8} {l : List UInt8} (hb : isBl c = false) (h : tokL (c :: l) = none) : lexAll (c :: l) = .bad 0 := by
  unfold lexAll
  rw [List.dropWhile_cons, List.takeWhile_cons, hb]
  exact lexG_bad 0 (by simp) h

/-- A text that is one token. -/
theorem lexAll_one {c : UInt8} {l : List UInt8} {t : TokC} (hb : isBl c = false) (h : tokL (c :: l) = some (t, (c :: l).length)) : lexAll (c :: l) = .good [t.put 0, ⟨0, (c :: l).length, [], 0, 0⟩] := by
  unfold lexAll
  rw [List.dropWhile_cons, List.takeWhile_cons, hb]
  rw [if_neg (by decide), if_neg (by decide), lexG_good _ h, List.drop_length]
  simp [lexG_nil, Lexed.pre]

/-! ### Texts -/

def dbl : List UInt8 → List UInt8
  | [] => []
  | c :: r => if c = 39 then 39 :: 39 :: dbl r else c :: dbl r

theorem textL_cons {c : UInt8} (r : List UInt8) (h : c ≠ 39) : textL (c :: r) = (textL r).map (fun x => (c :: x.1, x.2 + 1)) := by
  conv => lhs; unfold textL
  rw [if_neg h]
theorem textL_two (r : List UInt8) : textL (39 :: 39 :: r) = (textL r).map (fun x => (39 :: x.1, x.2 + 2)) := by
  conv => lhs; unfold textL
  rw [if_pos rfl]
  simp
theorem textL_end (c : UInt8) (r : List UInt8) (h : c ≠ 39) : textL (39 :: c :: r) = some ([], 1) := by
  unfold textL
  rw [if_pos rfl]
  simp [h]

theorem textL_dbl (s : List UInt8) : textL (dbl s ++ [39]) = some (s, (dbl s).length + 1) := by
  induction s with
  | nil => simp [dbl, textL]
  | cons c r ih =>
    unfold dbl
    split
    · rename_i h
      rw [List.cons_append, List.cons_append, textL_two, ih]
      simp [h]
    · rename_i h
      rw [List.cons_append, textL_cons _ h, ih]
      simp
theorem textL_open (s : List UInt8) : textL (dbl s) = none := by
  induction s with
  | nil => simp [dbl, textL]
  | cons c r ih =>
    unfold dbl
    split
    · rw [textL_two, ih]; rfl
    · rename_i h
      rw [textL_cons _ h, ih]; rfl
theorem tokL_quote (l : List UInt8) : tokL (39 :: l) = textT (39 :: l) := rfl
theorem lex_text (s : List UInt8) : lexAll (39 :: (dbl s ++ [39])) = if 200 < s.length then .bad 0 else .good [⟨4, 0, s, 0, 0⟩, ⟨0, (dbl s).length + 2, [], 0, 0⟩] := by
  have h : tokL (39 :: (dbl s ++ [39])) = if 200 < s.length then none else some (⟨4, s, 0, 0⟩, (dbl s).length + 2) := by
    rw [tokL_quote, textT]
    simp only [List.drop_succ_cons, List.drop_zero, textL_dbl]
  split
  · rename_i hl
    exact lexAll_bad rfl (by rw [h, if_pos hl])
  · rename_i hl
    rw [lexAll_one (t := ⟨4, s, 0, 0⟩) rfl (by rw [h, if_neg hl]; simp)]
    simp [TokC.put]
theorem lex_open (s : List UInt8) : lexAll (39 :: dbl s) = .bad 0 :=
  lexAll_bad rfl (by rw [tokL_quote, textT]; simp only [List.drop_succ_cons, List.drop_zero, textL_open])
theorem dbl_append (a b : List UInt8) : dbl (a ++ b) = dbl a ++ dbl b := by
  induction a with
  | nil => rfl
  | cons c r ih => rw [List.cons_append, dbl, dbl, ih]; split <;> rfl
theorem dbl_len (a : List UInt8) : (dbl a).length ≤ 2 * a.length := by
  induction a with
  | nil => simp [dbl]
  | cons c r ih => rw [dbl]; split <;> simp <;> omega

/-! ### Numbers -/

theorem tw_all {α : Type} (p : α → Bool) (a : List α) (h : ∀ x ∈ a, p x = true) : a.takeWhile p = a := by
  induction a with
  | nil => rfl
  | cons x a ih => rw [List.takeWhile_cons, if_pos (h x (by simp)), ih (fun y hy => h y (by simp [hy]))]
theorem dw_all {α : Type} (p : α → Bool) (a : List α) (h : ∀ x ∈ a, p x = true) : a.dropWhile p = [] := by
  rw [dropWhile_eq_drop, tw_all p a h, List.drop_length]
theorem dig_let {c : UInt8} (h : isDig c = true) : isLet c = false ∧ isBl c = false := by
  have h' : 48 ≤ c.toNat ∧ c.toNat ≤ 57 := by simpa [isDig] using h
  simp only [isLet, isBl]
  constructor <;> simp <;> omega

theorem lex_digits (d : List UInt8) (h0 : d ≠ []) (hd : ∀ x ∈ d, isDig x = true) : lexAll d = if 9223372036854775807 < numVal d then .bad 0 else .good [⟨3, 0, [], numVal d, 0⟩, ⟨0, d.length, [], 0, 0⟩] := by
  cases d with
  | nil => exact absurd rfl h0
  | cons c r =>
    have hc := hd c (by simp)
    obtain ⟨h1, h2⟩ := dig_let hc
    have e : tokL (c :: r) = if 9223372036854775807 < numVal (c :: r) then none else some (⟨3, [], numVal (c :: r), 0⟩, (c :: r).length) := by
      show (if isLet c = true then wordL (c :: r) else if isDig c = true then numberL (c :: r) else if c = 39 then textT (c :: r) else markL (c :: r)) = _
      rw [if_neg (by rw [h1]; decide), if_pos hc]
      have ht := tw_all isDig _ hd
      have hw := dw_all isDig _ hd
      have hf : fracL ((c :: r).dropWhile isDig) = [] := by rw [hw]; rfl
      have hl : numLen (c :: r) = (c :: r).length := by unfold numLen; rw [hf, if_pos rfl, ht]
      have hg : numDigits (c :: r) = c :: r := by unfold numDigits; rw [hf, ht, List.append_nil]
      unfold numberL
      rw [hl, hg, hf, List.drop_length]
      simp [headLet]
    split
    · rename_i hn
      exact lexAll_bad h2 (by rw [e, if_pos hn])
    · rename_i hn
      rw [lexAll_one (t := ⟨3, [], numVal (c :: r), 0⟩) h2 (by rw [e, if_neg hn])]
      rfl

theorem lex_point (a b : List UInt8) (h0 : a ≠ []) (hb0 : b ≠ []) (ha : ∀ x ∈ a, isDig x = true) (hb : ∀ x ∈ b, isDig x = true) : lexAll (a ++ 46 :: b) = if 9223372036854775807 < numVal (a ++ b) ∨ 9 < b.length then .bad 0 else .good [⟨3, 0, [], numVal (a ++ b), b.length⟩, ⟨0, a.length + 1 + b.length, [], 0, 0⟩] := by
  cases a with
  | nil => exact absurd rfl h0
  | cons c r =>
    have hc := ha c (by simp)
    obtain ⟨h1, h2⟩ := dig_let hc
    rw [List.cons_append]
    have e : tokL (c :: (r ++ 46 :: b)) = if 9223372036854775807 < numVal ((c :: r) ++ b) ∨ 9 < b.length then none else some (⟨3, [], numVal ((c :: r) ++ b), b.length⟩, (c :: r).length + 1 + b.length) := by
      show (if isLet c = true then wordL (c :: (r ++ 46 :: b)) else if isDig c = true then numberL (c :: (r ++ 46 :: b)) else if c = 39 then textT (c :: (r ++ 46 :: b)) else markL (c :: (r ++ 46 :: b))) = _
      rw [if_neg (by rw [h1]; decide), if_pos hc, ← List.cons_append]
      have ht : ((c :: r) ++ 46 :: b).takeWhile isDig = c :: r := by rw [tw_stop isDig _ b 46 rfl, tw_all isDig _ ha]
      have hw : ((c :: r) ++ 46 :: b).dropWhile isDig = 46 :: b := by rw [dw_stop isDig _ b 46 rfl, dw_all isDig _ ha]; rfl
      have hf : fracL (((c :: r) ++ 46 :: b).dropWhile isDig) = b := by rw [hw]; unfold fracL; rw [List.head?_cons, if_pos rfl]; exact tw_all isDig _ hb
      have hl : numLen ((c :: r) ++ 46 :: b) = (c :: r).length + 1 + b.length := by unfold numLen; rw [hf, if_neg hb0, ht]
      have hg : numDigits ((c :: r) ++ 46 :: b) = (c :: r) ++ b := by unfold numDigits; rw [hf, ht]
      unfold numberL
      rw [hl, hg, hf, List.drop_eq_nil_of_le (by simp; omega)]
      simp [headLet]
    split
    · rename_i hn
      exact lexAll_bad h2 (by rw [e, if_pos hn])
    · rename_i hn
      have hlen : (c :: (r ++ 46 :: b)).length = (c :: r).length + 1 + b.length := by simp; omega
      rw [lexAll_one (t := ⟨3, [], numVal ((c :: r) ++ b), b.length⟩) h2 (by rw [e, if_neg hn, hlen]), hlen]
      rfl

theorem numVal_snoc (l : List UInt8) (c : UInt8) : numVal (l ++ [c]) = numVal l * 10 + (c.toNat - 48) := by
  simp [numVal]
theorem numVal_fold (l : List UInt8) : ∀ a : Nat, l.foldl (fun a c => a * 10 + (c.toNat - 48)) a = a * 10 ^ l.length + numVal l := by
  induction l with
  | nil => intro a; simp [numVal]
  | cons c r ih =>
    intro a
    show r.foldl _ (a * 10 + (c.toNat - 48)) = _
    rw [ih]
    have e : numVal (c :: r) = (c.toNat - 48) * 10 ^ r.length + numVal r := by
      show r.foldl _ (0 * 10 + (c.toNat - 48)) = _
      rw [ih]; simp
    rw [e, List.length_cons, Nat.pow_succ, Nat.add_mul, Nat.mul_assoc, Nat.mul_comm 10 (10 ^ r.length), Nat.add_assoc]
theorem numVal_cons (c : UInt8) (l : List UInt8) : numVal (c :: l) = (c.toNat - 48) * 10 ^ l.length + numVal l := by
  show l.foldl _ (0 * 10 + (c.toNat - 48)) = _
  rw [numVal_fold]; simp

/-! ### Words -/

theorem let_bl {c : UInt8} (h : isLet c = true) : isBl c = false := by
  have h' : ((97 ≤ c.toNat ∧ c.toNat ≤ 122) ∨ (65 ≤ c.toNat ∧ c.toNat ≤ 90)) ∨ c.toNat = 95 := by simpa [isLet] using h
  simp only [isBl]
  simp; omega
theorem let_LD {c : UInt8} (h : isLet c = true) : isLD c = true := by simp [isLD, h]

theorem lex_word (b : List UInt8) (h0 : b ≠ []) (hb : ∀ x ∈ b, isLet x = true) (hk : isKey (b.map upc) = true) : lexAll b = .good [⟨1, 0, b.map upc, 0, 0⟩, ⟨0, b.length, [], 0, 0⟩] := by
  cases b with
  | nil => exact absurd rfl h0
  | cons c r =>
    have hc := hb c (by simp)
    have ht := tw_all isLD _ (fun x hx => let_LD (hb x hx))
    have e : tokL (c :: r) = some (⟨1, (c :: r).map upc, 0, 0⟩, (c :: r).length) := by
      show (if isLet c = true then wordL (c :: r) else _) = _
      rw [if_pos hc, wordL, ht, if_pos hk]
    rw [lexAll_one (let_bl hc) e]
    rfl
theorem lex_name (b : List UInt8) (h0 : b ≠ []) (hb : isLet (b.head h0) = true) (hl : ∀ x ∈ b, isLD x = true) (hk : isKey (b.map upc) = false) (h40 : b.length ≤ 40) : lexAll b = .good [⟨2, 0, b, 0, 0⟩, ⟨0, b.length, [], 0, 0⟩] := by
  cases b with
  | nil => exact absurd rfl h0
  | cons c r =>
    have hc : isLet c = true := hb
    have ht := tw_all isLD _ hl
    have e : tokL (c :: r) = some (⟨2, c :: r, 0, 0⟩, (c :: r).length) := by
      show (if isLet c = true then wordL (c :: r) else _) = _
      rw [if_pos hc, wordL, ht, if_neg (by rw [hk]; decide), if_neg (by omega)]
    rw [lexAll_one (let_bl hc) e]
    rfl
theorem key_caps {w : List UInt8} (h : isKey w = true) : ∀ x ∈ w, 65 ≤ x.toNat ∧ x.toNat ≤ 90 := by
  have h1 : w ∈ keyWords := by simpa [isKey] using h
  have h2 : (keyWords.all fun w => w.all fun x => decide (65 ≤ x.toNat ∧ x.toNat ≤ 90)) = true := by decide
  intro x hx
  have h3 := List.all_eq_true.1 h2 w h1
  have h4 := List.all_eq_true.1 h3 x hx
  simpa using h4
theorem key_same {b : List UInt8} (h : isKey b = true) : b.map upc = b := by
  have h1 := key_caps h
  have : b.map upc = b.map id := List.map_congr_left fun x hx => by
    have := h1 x hx
    unfold upc
    rw [if_neg (by omega)]; rfl
  rw [this, List.map_id]
theorem key_under {b : List UInt8} (h : 95 ∈ b) : isKey (b.map upc) = false := by
  cases hk : isKey (b.map upc) with
  | false => rfl
  | true =>
    have := key_caps hk 95 (List.mem_map.2 ⟨95, h, rfl⟩)
    revert this; decide
end Go.Proofs.YtpghimiecigakaaDoor
