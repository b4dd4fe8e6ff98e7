/-
  The plain law of chapter 11, part 2: a token hangs on its own bytes and on the one behind it; blanks more ahead of a token turn nothing but places. No program is in sight. No condition.
-/
import Derived.Test.YtpghimiecigakaaDoorLxA
namespace Go.Proofs.YtpghimiecigakaaDoor

theorem mem_tw {α : Type} {p : α → Bool} {l : List α} {x : α} (h : x ∈ l.takeWhile p) : p x = true := by
  induction l with
  | nil => simp at h
  | cons a l ih =>
    rw [List.takeWhile_cons] at h
    split at h
    · rename_i ha
      rcases List.mem_cons.1 h with rfl | h
      · exact ha
      · exact ih h
    · simp at h
theorem tw_le {α : Type} (p : α → Bool) (a b : List α) (h : ((a ++ b).takeWhile p).length ≤ a.length) : (a ++ b).takeWhile p = a.takeWhile p := by
  induction a with
  | nil => simp at h; simp [h]
  | cons x a ih =>
    simp only [List.cons_append, List.takeWhile_cons] at h ⊢
    split
    · rename_i hx
      simp only [hx, if_true, List.length_cons] at h
      rw [ih (by omega)]
    · rfl
theorem tw_stop {α : Type} (p : α → Bool) (a c : List α) (s : α) (h : p s = false) : (a ++ s :: c).takeWhile p = a.takeWhile p := by
  induction a with
  | nil => simp [h]
  | cons x a ih => simp only [List.cons_append, List.takeWhile_cons]; split <;> simp_all
theorem dw_le {α : Type} (p : α → Bool) (a b : List α) (h : ((a ++ b).takeWhile p).length ≤ a.length) : (a ++ b).dropWhile p = a.dropWhile p ++ b := by
  rw [dropWhile_eq_drop, dropWhile_eq_drop, tw_le p a b h, List.drop_append_of_le_length (len_takeWhile_le p a)]
theorem dw_stop {α : Type} (p : α → Bool) (a c : List α) (s : α) (h : p s = false) : (a ++ s :: c).dropWhile p = a.dropWhile p ++ s :: c := by
  rw [dropWhile_eq_drop, dropWhile_eq_drop, tw_stop p a c s h, List.drop_append_of_le_length (len_takeWhile_le p a)]

theorem bl_cases {s : UInt8} (h : isBl s = true) : s = 32 ∨ s = 9 ∨ s = 10 ∨ s = 13 := by
  have h' : s.toNat = 32 ∨ s.toNat = 9 ∨ s.toNat = 10 ∨ s.toNat = 13 := by simpa [isBl, or_assoc] using h
  rcases h' with h | h | h | h
  · exact .inl (UInt8.toNat_inj.1 h)
  · exact .inr (.inl (UInt8.toNat_inj.1 h))
  · exact .inr (.inr (.inl (UInt8.toNat_inj.1 h)))
  · exact .inr (.inr (.inr (UInt8.toNat_inj.1 h)))
theorem bl_LD {s : UInt8} (h : isBl s = true) : isLD s = false := by rcases bl_cases h with rfl | rfl | rfl | rfl <;> rfl
theorem bl_dig {s : UInt8} (h : isBl s = true) : isDig s = false := by rcases bl_cases h with rfl | rfl | rfl | rfl <;> rfl
theorem bl_let {s : UInt8} (h : isBl s = true) : isLet s = false := by rcases bl_cases h with rfl | rfl | rfl | rfl <;> rfl
theorem bl_46 {s : UInt8} (h : isBl s = true) : s ≠ 46 := by rcases bl_cases h with rfl | rfl | rfl | rfl <;> decide
theorem bl_39 {s : UInt8} (h : isBl s = true) : s ≠ 39 := by rcases bl_cases h with rfl | rfl | rfl | rfl <;> decide

theorem textL_local : ∀ (k : Nat) (a b c : List UInt8) (s : UInt8) (x : List UInt8 × Nat), a.length ≤ k → s ≠ 39 → textL (a ++ b) = some x → x.2 ≤ a.length → textL (a ++ s :: c) = some x := by
  intro k
  induction k with
  | zero =>
    intro a b c s x hk hs h hx
    have := (textL_le _ _ (Nat.le_refl _) x h).1
    omega
  | succ k ih =>
    intro a b c s x hk hs h hx
    cases a with
    | nil => have := (textL_le _ _ (Nat.le_refl _) x h).1; simp at hx; omega
    | cons y a =>
      rw [List.cons_append] at h ⊢
      unfold textL at h ⊢
      split
      · rename_i hy
        rw [if_pos hy] at h
        cases a with
        | nil =>
          simp only [List.nil_append, if_neg hs] at h ⊢
          cases b with
          | nil => exact h
          | cons d b =>
            simp only at h
            split at h
            · obtain ⟨z, hz, rfl⟩ := Option.map_eq_some_iff.1 h
              simp at hx
            · exact h
        | cons d a =>
          simp only [List.cons_append] at h ⊢
          split
          · rename_i hd
            rw [if_pos hd] at h
            obtain ⟨z, hz, rfl⟩ := Option.map_eq_some_iff.1 h
            rw [ih a b c s z (by simp at hk; omega) hs hz (by simp at hx; omega)]
            rfl
          · rename_i hd
            rw [if_neg hd] at h
            exact h
      · rename_i hy
        rw [if_neg hy] at h
        obtain ⟨z, hz, rfl⟩ := Option.map_eq_some_iff.1 h
        rw [ih a b c s z (by simp at hk; omega) hs hz (by simp at hx; omega)]
        rfl

theorem frac_local (r b c : List UInt8) (s : UInt8) (hs : isBl s = true) (h : (fracL (r ++ b)).length + 1 ≤ r.length ∨ fracL (r ++ b) = []) : fracL (r ++ s :: c) = fracL (r ++ b) := by
  cases r with
  | nil =>
    have h1 : fracL ([] ++ b) = [] := by rcases h with h | h; simp at h; exact h
    rw [h1]
    unfold fracL
    rw [if_neg (by simp [bl_46 hs])]
  | cons x r =>
    unfold fracL at h ⊢
    by_cases hx : x = 46
    · subst hx
      simp only [List.cons_append, List.head?_cons, if_true, List.drop_succ_cons, List.drop_zero] at h ⊢
      rw [tw_stop _ _ _ _ (bl_dig hs), tw_le]
      rcases h with h | h
      · simp at h; omega
      · rw [h]; simp
    · simp [hx]

theorem headLet_drop (a b c : List UInt8) (s : UInt8) (hs : isBl s = true) (n : Nat) (hn : n ≤ a.length) (h : headLet ((a ++ b).drop n) = false) : headLet ((a ++ s :: c).drop n) = false := by
  rw [List.drop_append_of_le_length hn] at h ⊢
  cases hd : a.drop n with
  | nil => simp [headLet, bl_let hs]
  | cons y l => rw [hd] at h; simpa [headLet] using h

theorem markL_cons (x : UInt8) (l : List UInt8) : markL (x :: l) = if marks2.contains (x :: l.take 1) = true then some (⟨5, x :: l.take 1, 0, 0⟩, 2) else if marks1.contains x = true then some (⟨5, [x], 0, 0⟩, 1) else none := rfl

/-- A token hangs on its own bytes, and on the one behind them, which may as well be a blank. -/
theorem tok_local {a b c : List UInt8} {s : UInt8} {t : TokC} {n : Nat} (hs : isBl s = true) (h : tokL (a ++ b) = some (t, n)) (hn : n ≤ a.length) : tokL (a ++ s :: c) = some (t, n) := by
  have h0 := (tokL_le h).1
  cases a with
  | nil => simp at hn; omega
  | cons x a =>
    generalize ha : x :: a = A at *
    have hA : ∀ d, A ++ d = x :: (a ++ d) := fun d => by rw [← ha]; rfl
    have e1 : tokL (A ++ b) = if isLet x = true then wordL (A ++ b) else if isDig x = true then numberL (A ++ b) else if x = 39 then textT (A ++ b) else markL (A ++ b) := by rw [hA]; rfl
    have e2 : tokL (A ++ s :: c) = if isLet x = true then wordL (A ++ s :: c) else if isDig x = true then numberL (A ++ s :: c) else if x = 39 then textT (A ++ s :: c) else markL (A ++ s :: c) := by rw [hA]; rfl
    rw [e1] at h
    rw [e2]
    split
    · rename_i hx
      rw [if_pos hx] at h
      have hw : ((A ++ b).takeWhile isLD).length = n := by
        unfold wordL at h
        split at h
        · simp at h; exact h.2
        · split at h
          · simp at h
          · simp at h; exact h.2
      unfold wordL at h ⊢
      rw [tw_le _ _ _ (by omega)] at h
      rw [tw_stop _ _ _ _ (bl_LD hs)]
      exact h
    · rename_i hx
      rw [if_neg hx] at h
      split
      · rename_i hd
        rw [if_pos hd] at h
        unfold numberL at h
        split at h
        · simp at h
        · rename_i hc
          simp only [Option.some.injEq, Prod.mk.injEq] at h
          obtain ⟨rfl, hnl⟩ := h
          have hlen : ((A ++ b).takeWhile isDig).length ≤ A.length := by
            unfold numLen at hnl; split at hnl <;> omega
          have t1 := tw_le isDig A b hlen
          have t2 := tw_stop isDig A c s (bl_dig hs)
          have d1 := dw_le isDig A b hlen
          have d2 := dw_stop isDig A c s (bl_dig hs)
          have hf : fracL ((A ++ s :: c).dropWhile isDig) = fracL ((A ++ b).dropWhile isDig) := by
            rw [d1, d2]
            refine frac_local _ _ _ _ hs ?_
            rw [← d1]
            by_cases he : fracL ((A ++ b).dropWhile isDig) = []
            · exact .inr he
            · left
              unfold numLen at hnl
              rw [if_neg he, t1] at hnl
              have := len_split isDig A
              omega
          have hl : numLen (A ++ s :: c) = numLen (A ++ b) := by unfold numLen; rw [hf, t1, t2]
          have hdg : numDigits (A ++ s :: c) = numDigits (A ++ b) := by unfold numDigits; rw [hf, t1, t2]
          unfold numberL
          rw [hl, hdg, hf, if_neg]
          · rw [hnl]
          · intro hh
            rcases hh with hh | hh | hh
            · exact hc (.inl hh)
            · exact hc (.inr (.inl hh))
            · have h3 : headLet ((A ++ b).drop (numLen (A ++ b))) = false := by
                cases h4 : headLet ((A ++ b).drop (numLen (A ++ b))) with
                | false => rfl
                | true => exact absurd (.inr (.inr h4)) hc
              rw [headLet_drop A b c s hs _ (by omega) h3] at hh
              cases hh
      · rename_i hd
        rw [if_neg hd] at h
        split
        · rename_i hq
          rw [if_pos hq] at h
          unfold textT at h ⊢
          rw [hA] at h ⊢
          simp only [List.drop_succ_cons, List.drop_zero] at h ⊢
          cases ht : textL (a ++ b) with
          | none => rw [ht] at h; simp at h
          | some y =>
            rw [ht] at h
            simp only at h
            have hy : y.2 + 1 = n := by
              split at h
              · simp at h
              · simp at h; exact h.2
            rw [textL_local _ a b c s y (Nat.le_refl _) (bl_39 hs) ht (by rw [← ha] at hn; simp at hn; omega)]
            exact h
        · rename_i hq
          rw [if_neg hq] at h
          have m2 : ∀ y : UInt8, marks2.contains [y, s] = false := by
            intro y
            rcases bl_cases hs with rfl | rfl | rfl | rfl <;> simp [marks2]
          rw [hA, markL_cons] at h ⊢
          cases a with
          | nil =>
            have hn1 : n = 1 := by rw [← ha] at hn; simp at hn; omega
            subst hn1
            rw [List.nil_append] at h ⊢
            have m3 : ¬ marks2.contains (x :: (s :: c).take 1) = true := by
              show ¬ marks2.contains [x, s] = true
              rw [m2]; decide
            rw [if_neg m3]
            by_cases hm : marks2.contains (x :: b.take 1) = true
            · rw [if_pos hm] at h; simp at h
            · rw [if_neg hm] at h; exact h
          | cons y a => exact h

/-- The tokens of some bytes, from a place on at which blanks may stand. -/
def lexB (l : List UInt8) (p : Nat) : Lexed := lexG (l.dropWhile isBl) (p + (l.takeWhile isBl).length)

theorem lexB_zero (l : List UInt8) : lexB l 0 = lexAll l := by unfold lexB lexAll; rw [Nat.zero_add]
theorem lexG_next {l : List UInt8} (p : Nat) {t : TokC} {n : Nat} (h : tokL l = some (t, n)) : lexG l p = (lexB (l.drop n) (p + n)).pre [t.put p] := lexG_good p h

def Tok.shift (q k : Nat) (t : Tok) : Tok := if q ≤ t.pos then ⟨t.kind, t.pos + k, t.s, t.n, t.scale⟩ else t

theorem lexG_pos : ∀ (f : Nat) (l : List UInt8) (p : Nat) (L : List Tok), l.length ≤ f → lexG l p = .good L → ∀ t ∈ L, p ≤ t.pos ∧ t.pos ≤ p + l.length := by
  intro f
  induction f with
  | zero =>
    intro l p L hf h t ht
    obtain rfl : l = [] := List.length_eq_zero_iff.1 (by omega)
    rw [lexG_nil] at h
    cases h
    simp at ht; subst ht; simp
  | succ f ih =>
    intro l p L hf h t ht
    cases l with
    | nil => rw [lexG_nil] at h; cases h; simp at ht; subst ht; simp
    | cons c r =>
      cases hk : tokL (c :: r) with
      | none => rw [lexG_bad p (by simp) hk] at h; cases h
      | some x =>
        obtain ⟨u, n⟩ := x
        obtain ⟨h1, h2⟩ := tokL_le hk
        rw [lexG_good p hk] at h
        have h3 := len_split isBl ((c :: r).drop n)
        have h4 : ((c :: r).drop n).length = (c :: r).length - n := List.length_drop
        cases hg : lexG (((c :: r).drop n).dropWhile isBl) (p + n + (((c :: r).drop n).takeWhile isBl).length) with
        | bad q => rw [hg] at h; cases h
        | good L2 =>
          rw [hg] at h
          simp only [Lexed.pre] at h
          cases h
          simp only [List.cons_append, List.nil_append, List.mem_cons] at ht
          rcases ht with rfl | ht
          · simp [TokC.put]
          · have := ih _ _ _ (by omega) hg t ht
            omega
theorem lexB_pos {l : List UInt8} {p : Nat} {L : List Tok} (h : lexB l p = .good L) {t : Tok} (ht : t ∈ L) : p + (l.takeWhile isBl).length ≤ t.pos ∧ t.pos ≤ p + l.length := by
  have := lexG_pos _ _ _ _ (Nat.le_refl _) h t ht
  have := len_split isBl l
  omega

theorem lexG_move : ∀ (f : Nat) (l : List UInt8) (p k : Nat) (L : List Tok), l.length ≤ f → lexG l p = .good L → lexG l (p + k) = .good (L.map fun t => ⟨t.kind, t.pos + k, t.s, t.n, t.scale⟩) := by
  intro f
  induction f with
  | zero =>
    intro l p k L hf h
    obtain rfl : l = [] := List.length_eq_zero_iff.1 (by omega)
    rw [lexG_nil] at h ⊢
    cases h
    rfl
  | succ f ih =>
    intro l p k L hf h
    cases l with
    | nil => rw [lexG_nil] at h ⊢; cases h; rfl
    | cons c r =>
      cases hk : tokL (c :: r) with
      | none => rw [lexG_bad p (by simp) hk] at h; cases h
      | some x =>
        obtain ⟨u, n⟩ := x
        obtain ⟨h1, h2⟩ := tokL_le hk
        rw [lexG_good p hk] at h
        rw [lexG_good (p + k) hk]
        have h3 := len_split isBl ((c :: r).drop n)
        have h4 : ((c :: r).drop n).length = (c :: r).length - n := List.length_drop
        cases hg : lexG (((c :: r).drop n).dropWhile isBl) (p + n + (((c :: r).drop n).takeWhile isBl).length) with
        | bad q => rw [hg] at h; cases h
        | good L2 =>
          rw [hg] at h
          cases h
          have := ih _ _ k _ (by omega) hg
          rw [show p + k + n + (((c :: r).drop n).takeWhile isBl).length = p + n + (((c :: r).drop n).takeWhile isBl).length + k by omega, this]
          simp [Lexed.pre, TokC.put]

theorem tw_blanks (a b : List UInt8) (ha : ∀ x ∈ a, isBl x = true) : (a ++ b).takeWhile isBl = a ++ b.takeWhile isBl := by
  induction a with
  | nil => rfl
  | cons x a ih => simp [ha x (by simp), ih (fun y hy => ha y (by simp [hy]))]
theorem dw_blanks (a b : List UInt8) (ha : ∀ x ∈ a, isBl x = true) : (a ++ b).dropWhile isBl = b.dropWhile isBl := by
  induction a with
  | nil => rfl
  | cons x a ih => simp [ha x (by simp), ih (fun y hy => ha y (by simp [hy]))]

/-- Blanks more ahead of a token turn nothing but places. -/
theorem lex_spaces (m : List UInt8) (hm : ∀ x ∈ m, isBl x = true) : ∀ (f : Nat) (a b : List UInt8) (p : Nat) (L : List Tok), a.length ≤ f → lexB (a ++ b) p = .good L → (∃ t ∈ L, t.pos = p + a.length) → lexB (a ++ (m ++ b)) p = .good (L.map (Tok.shift (p + a.length) m.length)) := by
  intro f
  induction f with
  | zero =>
    intro a b p L hf h hq
    obtain rfl : a = [] := List.length_eq_zero_iff.1 (by omega)
    obtain ⟨t, ht, htp⟩ := hq
    have hb := (lexB_pos h ht).1
    simp only [List.nil_append, List.length_nil, Nat.add_zero] at h hb htp ⊢
    have hb0 : (b.takeWhile isBl).length = 0 := by omega
    have hbd : b.dropWhile isBl = b := by rw [dropWhile_eq_drop, hb0, List.drop_zero]
    have hbt : b.takeWhile isBl = [] := List.length_eq_zero_iff.1 hb0
    unfold lexB at h ⊢
    rw [hbd, hb0, Nat.add_zero] at h
    rw [dw_blanks m b hm, tw_blanks m b hm, hbd, hbt, List.append_nil, lexG_move _ _ _ _ _ (Nat.le_refl _) h]
    congr 1
    refine List.map_congr_left fun u hu => ?_
    unfold Tok.shift
    rw [if_pos (lexG_pos _ _ _ _ (Nat.le_refl _) h u hu).1]
  | succ f ih =>
    intro a b p L hf h hq
    obtain ⟨t, ht, htp⟩ := hq
    have hb := (lexB_pos h ht).1
    have hsp : ((a ++ b).takeWhile isBl).length ≤ a.length := by omega
    have t1 := tw_le isBl a b hsp
    have d1 := dw_le isBl a b hsp
    cases hA : a.dropWhile isBl with
    | nil =>
      have h1 : a.takeWhile isBl = a := by have := List.takeWhile_append_dropWhile (p := isBl) (l := a); rwa [hA, List.append_nil] at this
      have hall : ∀ x ∈ a, isBl x = true := fun x hx => by rw [← h1] at hx; exact mem_tw hx
      have h2 := tw_blanks a b hall
      have hb0 : (b.takeWhile isBl).length = 0 := by
        have := congrArg List.length h2
        rw [t1, h1, List.length_append] at this
        omega
      have hbd : b.dropWhile isBl = b := by rw [dropWhile_eq_drop, hb0, List.drop_zero]
      have hbt : b.takeWhile isBl = [] := List.length_eq_zero_iff.1 hb0
      unfold lexB at h ⊢
      rw [d1, hA, List.nil_append, t1, h1] at h
      rw [dw_blanks a _ hall, tw_blanks a _ hall, dw_blanks m b hm, tw_blanks m b hm, hbd, hbt, List.append_nil, List.length_append, ← Nat.add_assoc, lexG_move _ _ _ _ _ (Nat.le_refl _) h]
      congr 1
      refine List.map_congr_left fun u hu => ?_
      unfold Tok.shift
      rw [if_pos (lexG_pos _ _ _ _ (Nat.le_refl _) h u hu).1]
    | cons x a2 =>
      have hxb : isBl x = false := by
        have := List.head_dropWhile_not isBl (l := a) (by rw [hA]; simp)
        simpa [hA] using this
      have hsplit := len_split isBl a
      rw [hA] at hsplit
      have dm : (a ++ (m ++ b)).dropWhile isBl = (x :: a2) ++ (m ++ b) ∧ (a ++ (m ++ b)).takeWhile isBl = a.takeWhile isBl := by
        have e : a = a.takeWhile isBl ++ x :: a2 := by rw [← hA, List.takeWhile_append_dropWhile]
        have e2 : a ++ (m ++ b) = (a.takeWhile isBl) ++ x :: (a2 ++ (m ++ b)) := (congrArg (· ++ (m ++ b)) e).trans (by simp)
        have hal : ∀ y ∈ a.takeWhile isBl, isBl y = true := fun y hy => mem_tw hy
        refine ⟨?_, ?_⟩
        · rw [e2, dw_blanks _ _ hal]; simp [hxb]
        · rw [e2, tw_blanks _ _ hal]; simp [hxb]
      have e0 : lexB (a ++ b) p = lexG ((x :: a2) ++ b) (p + (a.takeWhile isBl).length) := by unfold lexB; rw [d1, hA, t1]
      have e1 : lexB (a ++ (m ++ b)) p = lexG ((x :: a2) ++ (m ++ b)) (p + (a.takeWhile isBl).length) := by unfold lexB; rw [dm.1, dm.2]
      rw [e0] at h
      rw [e1]
      cases hk : tokL ((x :: a2) ++ b) with
      | none => rw [lexG_bad _ (by simp) hk] at h; cases h
      | some y =>
        obtain ⟨u, n⟩ := y
        have hn0 := (tokL_le hk).1
        rw [lexG_next _ hk] at h
        cases hg : lexB (((x :: a2) ++ b).drop n) (p + (a.takeWhile isBl).length + n) with
        | bad q => rw [hg] at h; cases h
        | good L2 =>
          rw [hg] at h
          simp only [Lexed.pre] at h
          cases h
          have ht2 : t ∈ L2 := by
            simp only [List.cons_append, List.nil_append, List.mem_cons] at ht
            rcases ht with rfl | ht
            · simp [TokC.put] at htp; simp at hsplit; omega
            · exact ht
          have hp2 := (lexB_pos hg ht2).1
          have hn : n ≤ (x :: a2).length := by simp at hsplit ⊢; omega
          have hk2 : tokL ((x :: a2) ++ (m ++ b)) = some (u, n) := by
            cases m with
            | nil => exact hk
            | cons s m => exact tok_local (hm s (by simp)) hk hn
          rw [lexG_next _ hk2, List.drop_append_of_le_length hn]
          rw [List.drop_append_of_le_length hn] at hg
          have hlen : ((x :: a2).drop n).length = (x :: a2).length - n := List.length_drop
          have hq : p + (a.takeWhile isBl).length + n + ((x :: a2).drop n).length = p + a.length := by simp at hsplit hlen hn ⊢; omega
          have hih := ih ((x :: a2).drop n) b (p + (a.takeWhile isBl).length + n) L2 (by simp at hsplit hlen ⊢; omega) hg ⟨t, ht2, by rw [hq]; exact htp⟩
          rw [hih, hq]
          have : ¬ p + a.length ≤ p + (a.takeWhile isBl).length := by simp at hsplit; omega
          simp [Lexed.pre, TokC.put, Tok.shift, this]
end Go.Proofs.YtpghimiecigakaaDoor
