/-
  What ParseLevels asks, in plain words. It speaks of no program; no condition.
-/
import Derived.Test.YtgbpoaimbjlamaaGreatDoorPtG
namespace Go.Proofs.YtgbpoaimbjlamaaGreatDoor
open Go.RowKit
set_option linter.unusedVariables false

/-- Some tokens are read as this tree at a level, from 5 (what a minus may stand ahead of) to 0 (an expr). -/
def Lv (sub : Option Lvl) (j : Nat) (X : List TokC) (T : Tree) : Prop :=
  match j with
  | 5 => Par (minusF sub) bP X T
  | 4 => Par (termF sub) bT X T
  | 3 => Par (sumF sub) bS X T
  | 2 => Par (notF sub) bR X T
  | 1 => Par (andF sub) bA X T
  | _ => Par (exprF sub) bE X T
theorem Lv.step {sub : Option Lvl} {X : List TokC} {T : Tree} (hh : hdB [wNot] X) : ∀ {j : Nat}, j ≤ 4 → Lv sub (j + 1) X T → Lv sub j X T := by
  intro j hj h
  have h5 : j = 0 ∨ j = 1 ∨ j = 2 ∨ j = 3 ∨ j = 4 := by omega
  rcases h5 with rfl | rfl | rfl | rfl | rfl
  · exact up_expr h
  · exact up_and h
  · exact up_not (up_test h) hh
  · exact up_sum h
  · exact up_term h
theorem Lv.to {sub : Option Lvl} {X : List TokC} {T : Tree} (hh : hdB [wNot] X) : ∀ {n j : Nat}, j + n ≤ 5 → Lv sub (j + n) X T → Lv sub j X T := by
  intro n
  induction n with
  | zero => intro j _ h; exact h
  | succ n ih =>
    intro j hj h
    exact Lv.step hh (by omega) (ih (j := j + 1) (by omega) (by rw [show j + 1 + n = j + (n + 1) by omega]; exact h))
/-- The operators, as tokens, their levels, and what they are printed as. -/
def opT (i : Nat) : TokC := ([⟨1, [79, 82], 0, 0⟩, ⟨1, [65, 78, 68], 0, 0⟩, ⟨5, [61], 0, 0⟩, ⟨5, [60], 0, 0⟩, ⟨5, [43], 0, 0⟩, ⟨5, [45], 0, 0⟩, ⟨5, [42], 0, 0⟩, ⟨5, [47], 0, 0⟩] : List TokC).getD i ⟨0, [], 0, 0⟩
def opL (i : Nat) : Bs := ([[111, 114], [97, 110, 100], [61], [60], [43], [45], [42], [47]] : List Bs).getD i []
def opV (i : Nat) : Nat := ([0, 1, 2, 2, 3, 3, 4, 4] : List Nat).getD i 0
theorem op_cases {i : Nat} (h : i < 8) : i = 0 ∨ i = 1 ∨ i = 2 ∨ i = 3 ∨ i = 4 ∨ i = 5 ∨ i = 6 ∨ i = 7 := by omega
theorem op_lex {i : Nat} (h : i < 8) : LexStop (opL i) [opT i] := by
  rcases op_cases h with rfl | rfl | rfl | rfl | rfl | rfl | rfl | rfl
  · exact lexS_word (c := 111) (q := [114]) (by decide) (by decide) (by decide)
  · exact lexS_word (c := 97) (q := [110, 100]) (by decide) (by decide) (by decide)
  · exact lexS_mark1 (by decide)
  · exact lexS_mark1 (by decide)
  · exact lexS_mark1 (by decide)
  · exact lexS_mark1 (by decide)
  · exact lexS_mark1 (by decide)
  · exact lexS_mark1 (by decide)
theorem op_low {i : Nat} (h : i < 8) : (opT i).s.map lowc = opL i := by
  rcases op_cases h with rfl | rfl | rfl | rfl | rfl | rfl | rfl | rfl <;> decide
theorem op_small {i : Nat} (h : i < 8) : (opL i).length ≤ 3 ∧ opL i ≠ [] := by
  rcases op_cases h with rfl | rfl | rfl | rfl | rfl | rfl | rfl | rfl <;> decide
theorem op_two {sub : Option Lvl} {i : Nat} (h : i < 8) {X Z : List TokC} {T U : Tree} (hX : Lv sub (opV i + 1) X T) (hZ : Lv sub (opV i + 1) Z U) (hh : hdB [wNot] X) : Lv sub (opV i) (X ++ [opT i] ++ Z) (.bin { op := opL i, pos := 0 } T U) := by
  have hh2 : hdB [wNot] (X ++ [opT i] ++ Z) := by
    obtain ⟨x, X', rfl, hx⟩ := hh
    exact ⟨x, X' ++ [opT i] ++ Z, by simp, hx⟩
  rw [← op_low h]
  rcases op_cases h with rfl | rfl | rfl | rfl | rfl | rfl | rfl | rfl
  · exact join_two (part := andF sub) hX hZ (by decide) (by decide) (by decide) (by decide)
  · exact join_two (part := notF sub) hX hZ (by decide) (by decide) (by decide) (by decide)
  · exact before_no ((test_rel (sub := sub) hX hZ (o := opT 2) (by decide) (by decide)).sub (by decide)) hh2
  · exact before_no ((test_rel (sub := sub) hX hZ (o := opT 3) (by decide) (by decide)).sub (by decide)) hh2
  · exact join_two (part := termF sub) hX hZ (by decide) (by decide) (by decide) (by decide)
  · exact join_two (part := termF sub) hX hZ (by decide) (by decide) (by decide) (by decide)
  · exact join_two (part := minusF sub) hX hZ (by decide) (by decide) (by decide) (by decide)
  · exact join_two (part := minusF sub) hX hZ (by decide) (by decide) (by decide) (by decide)
theorem op_three {sub : Option Lvl} {i k : Nat} (h : i < 8) (hk : k < 8) (hik : opV i = opV k) (h2 : opV i ≠ 2) {X Z V : List TokC} {T U W : Tree} (hX : Lv sub (opV i + 1) X T) (hZ : Lv sub (opV i + 1) Z U) (hV : Lv sub (opV i + 1) V W) :
    Lv sub (opV i) (X ++ [opT i] ++ Z ++ [opT k] ++ V) (.bin { op := opL k, pos := 0 } (.bin { op := opL i, pos := 0 } T U) W) := by
  rw [← op_low h, ← op_low hk]
  rcases op_cases h with rfl | rfl | rfl | rfl | rfl | rfl | rfl | rfl <;> rcases op_cases hk with rfl | rfl | rfl | rfl | rfl | rfl | rfl | rfl
  all_goals first
    | exact absurd hik (by decide)
    | exact absurd rfl h2
    | exact join_three (part := andF sub) hX hZ hV (by decide) (by decide) (by decide) (by decide) (by decide) (by decide)
    | exact join_three (part := notF sub) hX hZ hV (by decide) (by decide) (by decide) (by decide) (by decide) (by decide)
    | exact join_three (part := termF sub) hX hZ hV (by decide) (by decide) (by decide) (by decide) (by decide) (by decide)
    | exact join_three (part := minusF sub) hX hZ hV (by decide) (by decide) (by decide) (by decide) (by decide) (by decide)
theorem opV_le {i : Nat} (h : i < 8) : opV i ≤ 4 := by
  rcases op_cases h with rfl | rfl | rfl | rfl | rfl | rfl | rfl | rfl <;> decide

/-- The law's text, and its tokens. -/
def lvX (a i b k c : Nat) : Bs := wdL a ++ ([32] ++ (opL i ++ ([32] ++ (wdL b ++ ([32] ++ (opL k ++ ([32] ++ wdL c)))))))
def lvT (a i b k c : Nat) : List TokC := wdT (wdL a) ++ [opT i] ++ wdT (wdL b) ++ [opT k] ++ wdT (wdL c)
theorem sp_stop (r : Bs) : Stop ([32] ++ r) := .inr ⟨32, r, rfl, .inl (by decide)⟩
theorem lv_lex {a i b k c : Nat} (ha : a < 14) (hi : i < 8) (hb : b < 14) (hk : k < 8) (hc : c < 14) : LexStop (lvX a i b k c) (lvT a i b k c) := by
  have h1 := lex_sp.appS (wd_lex hc)
  have h2 := (op_lex hk).appS h1 (sp_stop _) (by simp)
  have h3 := lex_sp.appS h2
  have h4 := (wd_lex hb).appS h3 (sp_stop _) (by simp)
  have h5 := lex_sp.appS h4
  have h6 := (op_lex hi).appS h5 (sp_stop _) (by simp)
  have h7 := lex_sp.appS h6
  have h8 := (wd_lex ha).appS h7 (sp_stop _) (by simp)
  have e : lvT a i b k c = wdT (wdL a) ++ ([] ++ ([opT i] ++ ([] ++ (wdT (wdL b) ++ ([] ++ ([opT k] ++ ([] ++ wdT (wdL c)))))))) := by simp [lvT]
  rw [e]
  exact h8
def lvLeft (a i b k c : Nat) : Tree := .bin { op := opL k, pos := 0 } (.bin { op := opL i, pos := 0 } (wdE (wdL a)) (wdE (wdL b))) (wdE (wdL c))
def lvRight (a i b k c : Nat) : Tree := .bin { op := opL i, pos := 0 } (wdE (wdL a)) (.bin { op := opL k, pos := 0 } (wdE (wdL b)) (wdE (wdL c)))
theorem wd_lv {a : Nat} (ha : a < 14) (sub : Option Lvl) {j : Nat} (hj : j ≤ 5) : Lv sub j (wdT (wdL a)) (wdE (wdL a)) := by
  have h5 : Lv sub 5 (wdT (wdL a)) (wdE (wdL a)) := up_minus (wd_par ha sub) (wd_head ha _)
  exact Lv.to (wd_head ha _) (n := 5 - j) (by omega) (by rw [show j + (5 - j) = 5 by omega]; exact h5)
theorem hd_app {bs : List Bs} {X Z : List TokC} (h : hdB bs X) : hdB bs (X ++ Z) := by
  obtain ⟨x, X', rfl, hx⟩ := h
  exact ⟨x, X' ++ Z, by simp, hx⟩
theorem lv_left {a i b k c : Nat} (ha : a < 14) (hi : i < 8) (hb : b < 14) (hk : k < 8) (hc : c < 14) (h : opV k ≤ opV i) (h2 : ¬ (opV i = 2 ∧ opV k = 2)) (sub : Option Lvl) : Par (exprF sub) bE (lvT a i b k c) (lvLeft a i b k c) := by
  have li := opV_le hi
  have lk := opV_le hk
  have h0 : Lv sub (opV k) (lvT a i b k c) (lvLeft a i b k c) := by
    rcases Nat.lt_or_eq_of_le h with hlt | heq
    · have h1 := op_two hi (wd_lv ha sub (by omega)) (wd_lv hb sub (by omega)) (wd_head ha _)
      have h1' : Lv sub (opV k + 1) (wdT (wdL a) ++ [opT i] ++ wdT (wdL b)) (.bin { op := opL i, pos := 0 } (wdE (wdL a)) (wdE (wdL b))) := Lv.to (hd_app (hd_app (wd_head ha _))) (n := opV i - (opV k + 1)) (by omega) (by rw [show opV k + 1 + (opV i - (opV k + 1)) = opV i by omega]; exact h1)
      exact op_two hk h1' (wd_lv hc sub (by omega)) (hd_app (hd_app (wd_head ha _)))
    · have := op_three (sub := sub) hi hk heq.symm (fun h => h2 ⟨h, by omega⟩) (wd_lv ha sub (by omega)) (wd_lv hb sub (by omega)) (wd_lv hc sub (by omega))
      rw [← heq] at this
      exact this
  exact Lv.to (j := 0) (hd_app (hd_app (hd_app (hd_app (wd_head ha _))))) (n := opV k) (by omega) (by rw [Nat.zero_add]; exact h0)
theorem lv_right {a i b k c : Nat} (ha : a < 14) (hi : i < 8) (hb : b < 14) (hk : k < 8) (hc : c < 14) (h : opV i < opV k) (sub : Option Lvl) : Par (exprF sub) bE (lvT a i b k c) (lvRight a i b k c) := by
  have li := opV_le hi
  have lk := opV_le hk
  have h0 : Lv sub (opV i) (lvT a i b k c) (lvRight a i b k c) := by
    have h1 := op_two hk (wd_lv hb sub (by omega)) (wd_lv hc sub (by omega)) (wd_head hb _)
    have h1' : Lv sub (opV i + 1) (wdT (wdL b) ++ [opT k] ++ wdT (wdL c)) (.bin { op := opL k, pos := 0 } (wdE (wdL b)) (wdE (wdL c))) := Lv.to (hd_app (hd_app (wd_head hb _))) (n := opV k - (opV i + 1)) (by omega) (by rw [show opV i + 1 + (opV k - (opV i + 1)) = opV k by omega]; exact h1)
    have h2 := op_two hi (wd_lv ha sub (by omega)) h1' (wd_head ha _)
    have e : lvT a i b k c = wdT (wdL a) ++ [opT i] ++ (wdT (wdL b) ++ [opT k] ++ wdT (wdL c)) := by simp [lvT]
    rw [e]
    exact h2
  exact Lv.to (j := 0) (hd_app (hd_app (hd_app (hd_app (wd_head ha _))))) (n := opV i) (by omega) (by rw [Nat.zero_add]; exact h0)
end Go.Proofs.YtgbpoaimbjlamaaGreatDoor
