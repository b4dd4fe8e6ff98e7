/-
  What ParseWords asks, in plain words: a query is the same in whatever letters its words are written. It speaks of no program; no condition.
-/
import Derived.Test.YtgbpoaimbjlamaaGreatDoorMPw
import Derived.Test.YtgbpoaimbjlamaaGreatDoorMPu
namespace Go.Proofs.YtgbpoaimbjlamaaGreatDoor
open Go.RowKit
set_option linter.unusedVariables false

/-- Parts with a space between each. -/
def spJ : List (Bs × List TokC) → Bs × List TokC
  | [] => ([], [])
  | [p] => p
  | p :: q :: r => (p.1 ++ [32] ++ (spJ (q :: r)).1, p.2 ++ (spJ (q :: r)).2)
theorem spJ_lex : ∀ (l : List (Bs × List TokC)), l ≠ [] → (∀ p ∈ l, LexStop p.1 p.2) → LexStop (spJ l).1 (spJ l).2 := by
  intro l
  induction l with
  | nil => intro h; exact absurd rfl h
  | cons p l ih =>
    intro _ h
    cases l with
    | nil => exact h p (by simp)
    | cons q r =>
      have h1 := h p (by simp)
      have h2 := ih (by simp) (fun x hx => h x (by simp [hx]))
      have h3 := h1.appS (lex_sp.appS h2) (.inr ⟨32, _, rfl, .inl (by decide)⟩) (by simp)
      show LexStop (p.1 ++ [32] ++ (spJ (q :: r)).1) (p.2 ++ (spJ (q :: r)).2)
      have e : p.1 ++ [32] ++ (spJ (q :: r)).1 = p.1 ++ ([32] ++ (spJ (q :: r)).1) := by simp
      rw [e]
      simpa using h3
def wwU (i : Nat) : Bs := ([[83, 69, 76, 69, 67, 84], [70, 82, 79, 77], [87, 72, 69, 82, 69], [71, 82, 79, 85, 80], [66, 89], [79, 82, 68, 69, 82], [76, 73, 77, 73, 84], [79, 70, 70, 83, 69, 84]] : List Bs).getD i []
def wwV (small i : Nat) : Bs := if small / 2 ^ i % 2 = 1 then (wwU i).map (fun c => c + 32) else wwU i
theorem ww_cases {i : Nat} (h : i < 8) : i = 0 ∨ i = 1 ∨ i = 2 ∨ i = 3 ∨ i = 4 ∨ i = 5 ∨ i = 6 ∨ i = 7 := by omega
theorem lex_any_word {a w : Bs} (h0 : a ≠ []) (hc : isLet (a.headD 0) = true) (hl : ∀ x ∈ a, isLD x = true) (h40 : a.length ≤ 40) (hw : a.map upc = w) (hk : isKey w = true) : LexStop a [⟨1, w, 0, 0⟩] := by
  have := wd_any h0 hc hl h40
  rw [hw, if_pos hk] at this
  exact this
theorem wwU_lex {i : Nat} (h : i < 8) : LexStop (wwU i) [⟨1, wwU i, 0, 0⟩] := by
  rcases ww_cases h with rfl | rfl | rfl | rfl | rfl | rfl | rfl | rfl <;> exact lex_any_word (by decide) (by decide) (by decide) (by decide) (by decide) (by decide)
theorem wwS_lex {i : Nat} (h : i < 8) : LexStop ((wwU i).map (fun c => c + 32)) [⟨1, wwU i, 0, 0⟩] := by
  rcases ww_cases h with rfl | rfl | rfl | rfl | rfl | rfl | rfl | rfl <;> exact lex_any_word (by decide) (by decide) (by decide) (by decide) (by decide) (by decide)
theorem wwV_lex (small : Nat) {i : Nat} (h : i < 8) : LexStop (wwV small i) [⟨1, wwU i, 0, 0⟩] := by
  unfold wwV
  split
  · exact wwS_lex h
  · exact wwU_lex h
theorem wwV_len (small : Nat) {i : Nat} (h : i < 8) : (wwV small i).length = (wwU i).length := by
  unfold wwV
  split
  · simp
  · rfl
theorem wwU_len {i : Nat} (h : i < 8) : 1 ≤ (wwU i).length ∧ (wwU i).length ≤ 6 := by
  rcases ww_cases h with rfl | rfl | rfl | rfl | rfl | rfl | rfl | rfl <;> decide
def wsL (small : Nat) (e : Bs) (X : List TokC) : List (Bs × List TokC) :=
  [(wwV small 0, [⟨1, wwU 0, 0, 0⟩]), ([97], [⟨2, [97], 0, 0⟩]), (wwV small 1, [⟨1, wwU 1, 0, 0⟩]), ([116], [⟨2, [116], 0, 0⟩]), (wwV small 2, [⟨1, wwU 2, 0, 0⟩]), (e, X), (wwV small 3, [⟨1, wwU 3, 0, 0⟩]), (wwV small 4, [⟨1, wwU 4, 0, 0⟩]), ([97], [⟨2, [97], 0, 0⟩]),
   (wwV small 5, [⟨1, wwU 5, 0, 0⟩]), (wwV small 4, [⟨1, wwU 4, 0, 0⟩]), ([49], [⟨3, [], 1, 0⟩]), (wwV small 6, [⟨1, wwU 6, 0, 0⟩]), ([53], [⟨3, [], 5, 0⟩]), (wwV small 7, [⟨1, wwU 7, 0, 0⟩]), ([54], [⟨3, [], 6, 0⟩])]
def wsT (X : List TokC) : List TokC :=
  [⟨1, wSelect, 0, 0⟩, ⟨2, [97], 0, 0⟩, ⟨1, wFrom, 0, 0⟩, ⟨2, [116], 0, 0⟩, ⟨1, wWhere, 0, 0⟩] ++ X ++ [⟨1, wGroup, 0, 0⟩, ⟨1, wBy, 0, 0⟩, ⟨2, [97], 0, 0⟩, ⟨1, wOrder, 0, 0⟩, ⟨1, wBy, 0, 0⟩, ⟨3, [], 1, 0⟩, ⟨1, wLimit, 0, 0⟩, ⟨3, [], 5, 0⟩, ⟨1, wOffset, 0, 0⟩, ⟨3, [], 6, 0⟩]
/-- The law's text. -/
def wsS (small : Nat) (e : Bs) : Bs := wwV small 0 ++ [32, 97, 32] ++ wwV small 1 ++ [32, 116, 32] ++ wwV small 2 ++ [32] ++ e ++ [32] ++ wwV small 3 ++ [32] ++ wwV small 4 ++ [32, 97, 32] ++ wwV small 5 ++ [32] ++ wwV small 4 ++ [32, 49, 32] ++ wwV small 6 ++ [32, 53, 32] ++ wwV small 7 ++ [32, 54]
theorem ws_lex (small : Nat) {e : Bs} {X : List TokC} (h : LexStop e X) : LexStop (wsS small e) (wsT X) := by
  have hn : ∀ {c : UInt8}, isLet c = true → isKey [upc c] = false → LexStop [c] [⟨2, [c], 0, 0⟩] := fun {c} h1 h2 => lexS_name h1 (fun x hx => by simp at hx; rw [hx]; exact let_LD h1) h2 (by simp)
  have hd : ∀ {c : UInt8} {n : Nat}, isDig c = true → numVal [c] = n → n ≤ 100 → LexStop [c] [⟨3, [], n, 0⟩] := fun {c n} h1 h2 h3 => by
    have := lexS_dig (d := [c]) (by simp) (fun x hx => by simp at hx; rw [hx]; exact h1) (by omega)
    rw [h2] at this; exact this
  have h1 := spJ_lex (wsL small e X) (by simp [wsL]) (by
    intro p hp
    simp only [wsL, List.mem_cons, List.not_mem_nil, or_false] at hp
    rcases hp with rfl | rfl | rfl | rfl | rfl | rfl | rfl | rfl | rfl | rfl | rfl | rfl | rfl | rfl | rfl | rfl
    · exact wwV_lex small (by decide)
    · exact hn (by decide) (by decide)
    · exact wwV_lex small (by decide)
    · exact hn (by decide) (by decide)
    · exact wwV_lex small (by decide)
    · exact h
    · exact wwV_lex small (by decide)
    · exact wwV_lex small (by decide)
    · exact hn (by decide) (by decide)
    · exact wwV_lex small (by decide)
    · exact wwV_lex small (by decide)
    · exact hd (by decide) (by decide) (by decide)
    · exact wwV_lex small (by decide)
    · exact hd (by decide) (by decide) (by decide)
    · exact wwV_lex small (by decide)
    · exact hd (by decide) (by decide) (by decide))
  have e1 : (spJ (wsL small e X)).1 = wsS small e := by
    unfold wsL wsS
    generalize wwV small 0 = w0, wwV small 1 = w1, wwV small 2 = w2, wwV small 3 = w3, wwV small 4 = w4, wwV small 5 = w5, wwV small 6 = w6, wwV small 7 = w7
    simp only [spJ, List.append_assoc, List.cons_append, List.nil_append]
  have e2 : (spJ (wsL small e X)).2 = wsT X := by
    unfold wsL wsT
    simp only [spJ, List.append_assoc, List.cons_append, List.nil_append]
    rfl
  rw [e1, e2] at h1
  exact h1
theorem wsS_small (small : Nat) (e : Bs) : (wsS small e).length ≤ e.length + 100 := by
  have h : ∀ i, i < 8 → (wwV small i).length ≤ 6 := fun i hi => by have := wwV_len small hi; have := wwU_len hi; omega
  have h0 := h 0 (by decide)
  have h1 := h 1 (by decide)
  have h2 := h 2 (by decide)
  have h3 := h 3 (by decide)
  have h4 := h 4 (by decide)
  have h5 := h 5 (by decide)
  have h6 := h 6 (by decide)
  have h7 := h 7 (by decide)
  unfold wsS
  clear h
  generalize wwV small 0 = w0 at *
  generalize wwV small 1 = w1 at *
  generalize wwV small 2 = w2 at *
  generalize wwV small 3 = w3 at *
  generalize wwV small 4 = w4 at *
  generalize wwV small 5 = w5 at *
  generalize wwV small 6 = w6 at *
  generalize wwV small 7 = w7 at *
  simp only [List.length_append, List.length_cons, List.length_nil]
  omega

def colA (p : Nat) : Tree := .leaf { op := oColumn, pos := p, name := [97] }
theorem one_item (E : PF) {x : TokC} {X' : List Tok} {t : Tree} {b c : Nat} {R : List Tok} (e1 : E ⟨x.put b :: X', 0, 0⟩ = (t, ⟨(⟨1, wFrom, 0, 0⟩ : TokC).put c :: R, 0, 0⟩)) : listF (itemF E) ⟨x.put b :: X', 0, 0⟩ = ([⟨t, []⟩], ⟨(⟨1, wFrom, 0, 0⟩ : TokC).put c :: R, 0, 0⟩) := by
  have hit : itemF E ⟨x.put b :: X', 0, 0⟩ = (⟨t, []⟩, ⟨(⟨1, wFrom, 0, 0⟩ : TokC).put c :: R, 0, 0⟩) := by
    unfold itemF
    rw [e1]
    rfl
  unfold listF
  rw [hit]
  rfl
theorem ws1 (E : PF) {t : Tree} {a b c : Nat} {R : List Tok} (e1 : E ⟨(⟨2, [97], 0, 0⟩ : TokC).put b :: (⟨1, wFrom, 0, 0⟩ : TokC).put c :: R, 0, 0⟩ = (t, ⟨(⟨1, wFrom, 0, 0⟩ : TokC).put c :: R, 0, 0⟩)) :
    q1 E ⟨(⟨1, wSelect, 0, 0⟩ : TokC).put a :: (⟨2, [97], 0, 0⟩ : TokC).put b :: (⟨1, wFrom, 0, 0⟩ : TokC).put c :: R, 0, 0⟩ = ({ items := [⟨t, []⟩] }, ⟨(⟨1, wFrom, 0, 0⟩ : TokC).put c :: R, 0, 0⟩) := by
  have hli := one_item E e1
  have ht : (⟨(⟨2, [97], 0, 0⟩ : TokC).put b :: (⟨1, wFrom, 0, 0⟩ : TokC).put c :: R, 0, 0⟩ : PS).takes wStar = (false, ⟨(⟨2, [97], 0, 0⟩ : TokC).put b :: (⟨1, wFrom, 0, 0⟩ : TokC).put c :: R, 0, 0⟩) := takes_ok rfl
  unfold q1
  rw [wants_put (by decide)]
  simp only [ht, hli]
  rfl
theorem ws2 (Q : QueryT) {c d : Nat} {R : List Tok} : q2 (Q, ⟨(⟨1, wFrom, 0, 0⟩ : TokC).put c :: (⟨2, [116], 0, 0⟩ : TokC).put d :: R, 0, 0⟩) = ({ Q with src := [116], srcAt := d }, ⟨R, 0, 0⟩) := by
  unfold q2
  simp only
  rw [wants_put (by decide), name_put]
  rfl
theorem ws3 (E : PF) (Q : QueryT) {w : Nat} {R : List Tok} : q3 E (Q, ⟨(⟨1, wWhere, 0, 0⟩ : TokC).put w :: R, 0, 0⟩) = (Q, ⟨(⟨1, wWhere, 0, 0⟩ : TokC).put w :: R, 0, 0⟩) := by
  have hk : (⟨(⟨1, wWhere, 0, 0⟩ : TokC).put w :: R, 0, 0⟩ : PS).takes wJoin = (false, ⟨(⟨1, wWhere, 0, 0⟩ : TokC).put w :: R, 0, 0⟩) := takes_ok rfl
  unfold q3
  simp only [hk]
  rfl
theorem ws4 (E : PF) (Q : QueryT) {w : Nat} {R : List Tok} : q4 E (Q, ⟨(⟨1, wWhere, 0, 0⟩ : TokC).put w :: R, 0, 0⟩) = ({ Q with whr := some (E ⟨R, 0, 0⟩).1 }, (E ⟨R, 0, 0⟩).2) := by
  have hk : (⟨(⟨1, wWhere, 0, 0⟩ : TokC).put w :: R, 0, 0⟩ : PS).takes wWhere = (true, ⟨R, 0, 0⟩) := takes_put (by decide)
  unfold q4
  simp only [hk]
  rfl
theorem ws5 (Q : QueryT) {g1 g2 g3 o1 : Nat} {R : List Tok} : q5 (Q, ⟨(⟨1, wGroup, 0, 0⟩ : TokC).put g1 :: (⟨1, wBy, 0, 0⟩ : TokC).put g2 :: (⟨2, [97], 0, 0⟩ : TokC).put g3 :: (⟨1, wOrder, 0, 0⟩ : TokC).put o1 :: R, 0, 0⟩) = ({ Q with group := [colA g3] }, ⟨(⟨1, wOrder, 0, 0⟩ : TokC).put o1 :: R, 0, 0⟩) := by
  have hk : (⟨(⟨1, wGroup, 0, 0⟩ : TokC).put g1 :: (⟨1, wBy, 0, 0⟩ : TokC).put g2 :: (⟨2, [97], 0, 0⟩ : TokC).put g3 :: (⟨1, wOrder, 0, 0⟩ : TokC).put o1 :: R, 0, 0⟩ : PS).takes wGroup = (true, ⟨(⟨1, wBy, 0, 0⟩ : TokC).put g2 :: (⟨2, [97], 0, 0⟩ : TokC).put g3 :: (⟨1, wOrder, 0, 0⟩ : TokC).put o1 :: R, 0, 0⟩) := takes_put (by decide)
  have hc : columnF ⟨(⟨2, [97], 0, 0⟩ : TokC).put g3 :: (⟨1, wOrder, 0, 0⟩ : TokC).put o1 :: R, 0, 0⟩ = (colA g3, ⟨(⟨1, wOrder, 0, 0⟩ : TokC).put o1 :: R, 0, 0⟩) := by
    have ht : (⟨(⟨1, wOrder, 0, 0⟩ : TokC).put o1 :: R, 0, 0⟩ : PS).takes wPoint = (false, ⟨(⟨1, wOrder, 0, 0⟩ : TokC).put o1 :: R, 0, 0⟩) := takes_ok rfl
    unfold columnF
    simp only [name_put]
    refine (if_neg (by rw [ht]; simp)).trans ?_
    rw [ht]
    rfl
  have hl : listF columnF ⟨(⟨2, [97], 0, 0⟩ : TokC).put g3 :: (⟨1, wOrder, 0, 0⟩ : TokC).put o1 :: R, 0, 0⟩ = ([colA g3], ⟨(⟨1, wOrder, 0, 0⟩ : TokC).put o1 :: R, 0, 0⟩) := by
    have ht : (⟨(⟨1, wOrder, 0, 0⟩ : TokC).put o1 :: R, 0, 0⟩ : PS).takes wComma = (false, ⟨(⟨1, wOrder, 0, 0⟩ : TokC).put o1 :: R, 0, 0⟩) := takes_ok rfl
    unfold listF
    rw [hc]
    show listG columnF (R.length + 1) _ _ = _
    unfold listG
    simp only [ht]
    rfl
  unfold q5
  simp only [hk]
  rw [wants_put (by decide), hl]
  rfl
theorem count_put (n p q : Nat) (r : List Tok) : (⟨(⟨3, [], n, 0⟩ : TokC).put q :: r, p, 0⟩ : PS).count = ((n : Int), ⟨r, p, 0⟩) := rfl
theorem ws6 (Q : QueryT) {o1 o2 o3 l1 : Nat} {R : List Tok} : q6 (Q, ⟨(⟨1, wOrder, 0, 0⟩ : TokC).put o1 :: (⟨1, wBy, 0, 0⟩ : TokC).put o2 :: (⟨3, [], 1, 0⟩ : TokC).put o3 :: (⟨1, wLimit, 0, 0⟩ : TokC).put l1 :: R, 0, 0⟩) = ({ Q with order := [⟨o3, 1, [], false⟩] }, ⟨(⟨1, wLimit, 0, 0⟩ : TokC).put l1 :: R, 0, 0⟩) := by
  have hk : (⟨(⟨1, wOrder, 0, 0⟩ : TokC).put o1 :: (⟨1, wBy, 0, 0⟩ : TokC).put o2 :: (⟨3, [], 1, 0⟩ : TokC).put o3 :: (⟨1, wLimit, 0, 0⟩ : TokC).put l1 :: R, 0, 0⟩ : PS).takes wOrder = (true, ⟨(⟨1, wBy, 0, 0⟩ : TokC).put o2 :: (⟨3, [], 1, 0⟩ : TokC).put o3 :: (⟨1, wLimit, 0, 0⟩ : TokC).put l1 :: R, 0, 0⟩) := takes_put (by decide)
  have hno : ∀ w, (w = wDesc ∨ w = wAsc ∨ w = wComma) → (⟨(⟨1, wLimit, 0, 0⟩ : TokC).put l1 :: R, 0, 0⟩ : PS).takes w = (false, ⟨(⟨1, wLimit, 0, 0⟩ : TokC).put l1 :: R, 0, 0⟩) := fun w hw => by
    rcases hw with rfl | rfl | rfl <;> exact takes_ok rfl
  have hh : keyHead ⟨(⟨3, [], 1, 0⟩ : TokC).put o3 :: (⟨1, wLimit, 0, 0⟩ : TokC).put l1 :: R, 0, 0⟩ = ((1, []), ⟨(⟨1, wLimit, 0, 0⟩ : TokC).put l1 :: R, 0, 0⟩) := by
    unfold keyHead
    refine (if_neg (show ¬ (3 : Nat) = 2 by decide)).trans ?_
    rw [count_put]
    rfl
  have hc : keyF ⟨(⟨3, [], 1, 0⟩ : TokC).put o3 :: (⟨1, wLimit, 0, 0⟩ : TokC).put l1 :: R, 0, 0⟩ = (⟨o3, 1, [], false⟩, ⟨(⟨1, wLimit, 0, 0⟩ : TokC).put l1 :: R, 0, 0⟩) := by
    unfold keyF
    simp only [hh, hno wDesc (.inl rfl), hno wAsc (.inr (.inl rfl))]
    rfl
  have hl : listF keyF ⟨(⟨3, [], 1, 0⟩ : TokC).put o3 :: (⟨1, wLimit, 0, 0⟩ : TokC).put l1 :: R, 0, 0⟩ = ([⟨o3, 1, [], false⟩], ⟨(⟨1, wLimit, 0, 0⟩ : TokC).put l1 :: R, 0, 0⟩) := by
    unfold listF
    rw [hc]
    show listG keyF (R.length + 1) _ _ = _
    unfold listG
    simp only [hno wComma (.inr (.inr rfl))]
    rfl
  unfold q6
  simp only [hk]
  rw [wants_put (by decide), hl]
  rfl
theorem ws7 (Q : QueryT) {l1 l2 n : Nat} {R : List Tok} : q7 (Q, ⟨(⟨1, wLimit, 0, 0⟩ : TokC).put l1 :: (⟨3, [], n, 0⟩ : TokC).put l2 :: R, 0, 0⟩) = ({ Q with limit := n }, ⟨R, 0, 0⟩) := by
  have hk : (⟨(⟨1, wLimit, 0, 0⟩ : TokC).put l1 :: (⟨3, [], n, 0⟩ : TokC).put l2 :: R, 0, 0⟩ : PS).takes wLimit = (true, ⟨(⟨3, [], n, 0⟩ : TokC).put l2 :: R, 0, 0⟩) := takes_put (by decide)
  unfold q7
  simp only [hk, count_put]
  rfl
theorem ws8 (Q : QueryT) {l1 l2 n : Nat} {R : List Tok} : q8 (Q, ⟨(⟨1, wOffset, 0, 0⟩ : TokC).put l1 :: (⟨3, [], n, 0⟩ : TokC).put l2 :: R, 0, 0⟩) = ({ Q with offset := n }, ⟨R, 0, 0⟩) := by
  have hk : (⟨(⟨1, wOffset, 0, 0⟩ : TokC).put l1 :: (⟨3, [], n, 0⟩ : TokC).put l2 :: R, 0, 0⟩ : PS).takes wOffset = (true, ⟨(⟨3, [], n, 0⟩ : TokC).put l2 :: R, 0, 0⟩) := takes_put (by decide)
  unfold q8
  simp only [hk, count_put]
  rfl
/-- What the query's stages make of these tokens. -/
theorem ws_query (E : PF) {t u : Tree} {a b c d w g1 g2 g3 o1 o2 o3 l1 l2 f1 f2 : Nat} {Y R : List Tok}
    (e1 : E ⟨(⟨2, [97], 0, 0⟩ : TokC).put b :: (⟨1, wFrom, 0, 0⟩ : TokC).put c :: (⟨2, [116], 0, 0⟩ : TokC).put d :: (⟨1, wWhere, 0, 0⟩ : TokC).put w :: Y, 0, 0⟩ = (t, ⟨(⟨1, wFrom, 0, 0⟩ : TokC).put c :: (⟨2, [116], 0, 0⟩ : TokC).put d :: (⟨1, wWhere, 0, 0⟩ : TokC).put w :: Y, 0, 0⟩))
    (e2 : E ⟨Y, 0, 0⟩ = (u, ⟨(⟨1, wGroup, 0, 0⟩ : TokC).put g1 :: (⟨1, wBy, 0, 0⟩ : TokC).put g2 :: (⟨2, [97], 0, 0⟩ : TokC).put g3 :: (⟨1, wOrder, 0, 0⟩ : TokC).put o1 :: (⟨1, wBy, 0, 0⟩ : TokC).put o2 :: (⟨3, [], 1, 0⟩ : TokC).put o3 :: (⟨1, wLimit, 0, 0⟩ : TokC).put l1 :: (⟨3, [], 5, 0⟩ : TokC).put l2 :: (⟨1, wOffset, 0, 0⟩ : TokC).put f1 :: (⟨3, [], 6, 0⟩ : TokC).put f2 :: R, 0, 0⟩)) :
    queryF E ⟨(⟨1, wSelect, 0, 0⟩ : TokC).put a :: (⟨2, [97], 0, 0⟩ : TokC).put b :: (⟨1, wFrom, 0, 0⟩ : TokC).put c :: (⟨2, [116], 0, 0⟩ : TokC).put d :: (⟨1, wWhere, 0, 0⟩ : TokC).put w :: Y, 0, 0⟩ =
      ({ items := [⟨t, []⟩], src := [116], srcAt := d, whr := some u, group := [colA g3], order := [⟨o3, 1, [], false⟩], limit := 5, offset := 6 }, ⟨R, 0, 0⟩) := by
  rw [queryF_split, ws1 E e1, ws2, ws3, ws4, e2, ws5, ws6, ws7, ws8]
  rfl
def wsQ (T : Tree) : QueryT := { items := [⟨colA 0, []⟩], src := [116], whr := some T, group := [colA 0], order := [⟨0, 1, [], false⟩], limit := 5, offset := 6 }
theorem ws_parse (small : Nat) {e : Bs} {X : List TokC} {T : Tree} (h : LexStop e X) (hp : Par (exprF (subOf 64)) bE X T) (hl : e.length ≤ 3000) : ∃ q, parseV (wsS small e) = .good q ∧ queryS q = queryS (wsQ T) ∧ q.limit = 5 ∧ q.offset = 6 := by
  obtain ⟨Y0, z, h1, h2⟩ := lex_all (ws_lex small h)
  obtain ⟨Y1, Y2, rfl, h3, h4⟩ := put_app h2
  obtain ⟨Ya, Yb, rfl, h5, h6⟩ := put_app h3
  obtain ⟨a, Yc1, rfl, h5a⟩ := put_cons h5
  obtain ⟨b, Yc2, rfl, h5b⟩ := put_cons h5a
  obtain ⟨c, Yc3, rfl, h5c⟩ := put_cons h5b
  obtain ⟨d, Yc4, rfl, h5d⟩ := put_cons h5c
  obtain ⟨w, Yc5, rfl, h5e⟩ := put_cons h5d
  obtain rfl := put_nil h5e
  obtain ⟨g1, Yd0, rfl, h40⟩ := put_cons h4
  obtain ⟨g2, Yd1, rfl, h41⟩ := put_cons h40
  obtain ⟨g3, Yd2, rfl, h42⟩ := put_cons h41
  obtain ⟨o1, Yd3, rfl, h43⟩ := put_cons h42
  obtain ⟨o2, Yd4, rfl, h44⟩ := put_cons h43
  obtain ⟨o3, Yd5, rfl, h45⟩ := put_cons h44
  obtain ⟨l1, Yd6, rfl, h46⟩ := put_cons h45
  obtain ⟨l2, Yd7, rfl, h47⟩ := put_cons h46
  obtain ⟨f1, Yd8, rfl, h48⟩ := put_cons h47
  obtain ⟨f2, Yd9, rfl, h49⟩ := put_cons h48
  obtain rfl := put_nil h49
  obtain ⟨G, hG⟩ : ∃ G, (⟨1, wGroup, 0, 0⟩ : TokC).put g1 :: (⟨1, wBy, 0, 0⟩ : TokC).put g2 :: (⟨2, [97], 0, 0⟩ : TokC).put g3 :: (⟨1, wOrder, 0, 0⟩ : TokC).put o1 :: (⟨1, wBy, 0, 0⟩ : TokC).put o2 :: (⟨3, [], 1, 0⟩ : TokC).put o3 :: (⟨1, wLimit, 0, 0⟩ : TokC).put l1 :: (⟨3, [], 5, 0⟩ : TokC).put l2 :: (⟨1, wOffset, 0, 0⟩ : TokC).put f1 :: (⟨3, [], 6, 0⟩ : TokC).put f2 :: (⟨0, z, [], 0, 0⟩ : Tok) :: [(⟨0, z, [], 0, 0⟩ : Tok)] = G := ⟨_, rfl⟩
  obtain ⟨Z, hZ⟩ : ∃ Z, ([(⟨1, wSelect, 0, 0⟩ : TokC).put a, (⟨2, [97], 0, 0⟩ : TokC).put b, (⟨1, wFrom, 0, 0⟩ : TokC).put c, (⟨2, [116], 0, 0⟩ : TokC).put d, (⟨1, wWhere, 0, 0⟩ : TokC).put w] ++ Yb ++ [(⟨1, wGroup, 0, 0⟩ : TokC).put g1, (⟨1, wBy, 0, 0⟩ : TokC).put g2, (⟨2, [97], 0, 0⟩ : TokC).put g3, (⟨1, wOrder, 0, 0⟩ : TokC).put o1, (⟨1, wBy, 0, 0⟩ : TokC).put o2, (⟨3, [], 1, 0⟩ : TokC).put o3, (⟨1, wLimit, 0, 0⟩ : TokC).put l1, (⟨3, [], 5, 0⟩ : TokC).put l2, (⟨1, wOffset, 0, 0⟩ : TokC).put f1, (⟨3, [], 6, 0⟩ : TokC).put f2] ++ [(⟨0, z, [], 0, 0⟩ : Tok)]) = Z := ⟨_, rfl⟩
  have hrest : Z ++ Z.drop (Z.length - 1) = (⟨1, wSelect, 0, 0⟩ : TokC).put a :: (⟨2, [97], 0, 0⟩ : TokC).put b :: (⟨1, wFrom, 0, 0⟩ : TokC).put c :: (⟨2, [116], 0, 0⟩ : TokC).put d :: (⟨1, wWhere, 0, 0⟩ : TokC).put w :: (Yb ++ G) := by
    have hd : ∀ (A : List Tok) (b : Tok), (A ++ [b]).drop ((A ++ [b]).length - 1) = [b] := fun A b => by simp
    rw [← hZ, hd, ← hG]
    simp
  have hE : exprF (subOf 64) = (lvl 64).expr := by rw [lvl_eq]; rfl
  obtain ⟨u, e1, e2⟩ := hp Yb G 0 h6 (by rw [← hG]; rfl)
  rw [hE] at e1
  have hcol : Par (exprF (subOf 64)) bE [⟨2, [97], 0, 0⟩] (colA 0) := wd_lv (a := 0) (by decide) (subOf 64) (j := 0) (by omega)
  obtain ⟨t, e3, e4⟩ := hcol [(⟨2, [97], 0, 0⟩ : TokC).put b] ((⟨1, wFrom, 0, 0⟩ : TokC).put c :: (⟨2, [116], 0, 0⟩ : TokC).put d :: (⟨1, wWhere, 0, 0⟩ : TokC).put w :: (Yb ++ G)) 0 rfl rfl
  rw [hE] at e3
  obtain ⟨q, s9, a1, a2, a3⟩ := parseT_split Z
  rw [hrest] at a1 a2
  rw [← hG] at e1
  have hqf := ws_query (lvl 64).expr (a := a) (Y := Yb ++ G) e3 (by rw [← hG]; exact e1)
  rw [hqf] at a1 a2
  have hs9 : s9 = ⟨[(⟨0, z, [], 0, 0⟩ : Tok)], 0, 0⟩ := a2.symm
  have hsz : ¬ 4096 < (wsS small e).length := by have := wsS_small small e; omega
  refine ⟨q, ?_, ?_, by rw [← a1], by rw [← a1]⟩
  · unfold parseV
    rw [if_neg hsz]
    unfold parseAll
    rw [h1]
    simp only
    rw [hZ, a3, hs9]
    rfl
  · rw [← a1]
    have s1 : showT t = showT (colA 0) := by rw [← showT_strip t, e4]
    have s2 : showT u = showT T := by rw [← showT_strip u, e2]
    unfold queryS t7 t6 t5 t4 t3 t2 t1 itemsL starL wsQ itemS
    simp only [List.map_cons, List.map_nil, s1, s2]
    rfl
def exC : Bs := [83, 69, 76, 69, 67, 84, 32, 65, 32, 70, 82, 79, 77, 32, 116]
theorem ex_c : (parseV exC).text = some [65, 32, 102, 114, 111, 109, 32, 116] := by decide +kernel
/-- ParseWords, in plain words. -/
theorem words_law (l : List PartT) (small : Nat) : ∃ p q, parseV (wsS small (exprV l)) = .good p ∧ parseV (wsS 0 (exprV l)) = .good q ∧ queryS p = queryS q ∧ p.limit = 5 ∧ p.offset = 6 := by
  obtain ⟨X, T, h⟩ := exprV_ex l
  have hs := exprV_small l
  obtain ⟨p, p1, p2, p3, p4⟩ := ws_parse small h.lex (h.par 64 (by omega)) (by omega)
  obtain ⟨q, q1, q2, -, -⟩ := ws_parse 0 h.lex (h.par 64 (by omega)) (by omega)
  exact ⟨p, q, p1, q1, by rw [p2, q2], p3, p4⟩
end Go.Proofs.YtgbpoaimbjlamaaGreatDoor
