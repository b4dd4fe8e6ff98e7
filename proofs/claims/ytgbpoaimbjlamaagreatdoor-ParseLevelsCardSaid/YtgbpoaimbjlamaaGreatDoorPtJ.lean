/-
  What ParseLevels' text is printed as, in plain words. It speaks of no program; no condition.
-/
import Derived.Test.YtgbpoaimbjlamaaGreatDoorPtH
namespace Go.Proofs.YtgbpoaimbjlamaaGreatDoor
open Go.RowKit
set_option linter.unusedVariables false

def showItems (l : List ItemT) : Bs := match l with | [i] => showT i.e | _ => []
/-- What the law's show answers of a text. -/
def showV (l : Bs) : Bs := match parseV (selT ++ l ++ fromT) with
  | .bad _ _ => []
  | .good q => showItems q.items
theorem showV_good {l : Bs} {X : List TokC} {T : Tree} (h : LexStop l X) (hp : Par (exprF (subOf 64)) bE X T) (hh : hdB [wStar] X) (hl : l.length ≤ 4000) : showV l = showT T := by
  obtain ⟨q, t, n, h1, h2, h3⟩ := select_parse h hp hh hl
  unfold showV
  rw [h1]
  simp only
  rw [h2]
  show showT t = _
  rw [← h3, showT_strip]
theorem wants_bad {r : List Tok} {p : Nat} {w : Bs} (h : okB [w] r) : ((⟨r, p, 0⟩ : PS).wants [w]).e = 8 := by
  show ((⟨r, p, 0⟩ : PS).want w).e = 8
  unfold PS.want
  rw [is_ok h]
  rfl
theorem queryF_split (E : PF) (s : PS) : queryF E s = q8 (q7 (q6 (q5 (q4 E (q3 E (q2 (q1 E s))))))) := rfl
/-- An error that stands behind FROM stays. -/
theorem tail_err {E : PF} (hE : Goes E) {x : QS} (h : x.2.e ≠ 0) : (q8 (q7 (q6 (q5 (q4 E (q3 E x)))))).2.e ≠ 0 := by
  have h3 : (q3 E x).2.e ≠ 0 := by rw [(aft_q3 hE x).err h]; exact h
  generalize q3 E x = y at *
  have h4 : (q4 E y).2.e ≠ 0 := by rw [(aft_q4 hE y).err h3]; exact h3
  generalize q4 E y = z at *
  have h5 : (q5 z).2.e ≠ 0 := by rw [(aft_q5 z).err h4]; exact h4
  generalize q5 z = u at *
  have h6 : (q6 u).2.e ≠ 0 := by rw [(aft_q6 u).err h5]; exact h5
  generalize q6 u = v at *
  have h7 : (q7 v).2.e ≠ 0 := by rw [(aft_q7 v).err h6]; exact h6
  generalize q7 v = o at *
  rw [(aft_q8 o).err h7]
  exact h7
/-- Where what is read ends at a token that may not stand there it is no query. -/
theorem select_bad (E : PF) (hE : Goes E) {x : TokC} {X' r : List Tok} {t : Tree} {a b : Nat} (hx : isC x [wStar] = false) (e1 : E ⟨x.put b :: X', 0, 0⟩ = (t, ⟨r, 0, 0⟩)) (hr : okB [wAs, wComma, wFrom] r) :
    (queryF E ⟨(⟨1, wSelect, 0, 0⟩ : TokC).put a :: x.put b :: X', 0, 0⟩).2.e ≠ 0 := by
  have hit : itemF E ⟨x.put b :: X', 0, 0⟩ = (⟨t, []⟩, ⟨r, 0, 0⟩) := by
    unfold itemF
    rw [e1]
    simp only [takes_ok (show okB [wAs] r from hr.sub (by decide))]
    rfl
  have hli : listF (itemF E) ⟨x.put b :: X', 0, 0⟩ = ([⟨t, []⟩], ⟨r, 0, 0⟩) := by
    unfold listF
    rw [hit]
    simp only
    cases r with
    | nil => rfl
    | cons y r =>
      show listG (itemF E) (r.length + 1) _ _ = _
      unfold listG
      simp only [takes_ok (show okB [wComma] (y :: r) from hr.sub (by decide))]
      rfl
  have hq1 : (q1 E ⟨(⟨1, wSelect, 0, 0⟩ : TokC).put a :: x.put b :: X', 0, 0⟩).2 = ⟨r, 0, 0⟩ := by
    have ht : (⟨x.put b :: X', 0, 0⟩ : PS).takes wStar = (false, ⟨x.put b :: X', 0, 0⟩) := takes_ok (show okB [wStar] (x.put b :: X') from hx)
    unfold q1
    rw [wants_put (by decide)]
    simp only [ht, hli]
    rfl
  have hq2 : (q2 (q1 E ⟨(⟨1, wSelect, 0, 0⟩ : TokC).put a :: x.put b :: X', 0, 0⟩)).2.e ≠ 0 := by
    unfold q2
    rw [hq1]
    simp only
    obtain ⟨y, hy⟩ : ∃ y, (⟨r, 0, 0⟩ : PS).wants [wFrom] = y := ⟨_, rfl⟩
    have h8 : ((⟨r, 0, 0⟩ : PS).wants [wFrom]).e ≠ 0 := by rw [wants_bad (show okB [wFrom] r from hr.sub (by decide))]; decide
    rw [hy] at h8 ⊢
    rw [(Aft.name y).err h8]
    exact h8
  rw [queryF_split]
  exact tail_err hE hq2
theorem of_err {s : PS} {k : Nat} (h : s.e ≠ 0) : (s.of k).2.2.e ≠ 0 := by
  unfold PS.of
  rw [if_neg (fun h2 => h h2.1)]
  unfold PS.fail
  rw [if_neg h]
  exact h
theorem select_none {l : Bs} {A B : List TokC} {o : TokC} {T : Tree} {bs : List Bs} (h : LexStop l (A ++ o :: B)) (hp : Par (exprF (subOf 64)) bs A T) (hh : hdB [wStar] A) (ho : isC o bs = false) (ho2 : isC o [wAs, wComma, wFrom] = false) (hl : l.length ≤ 4000) : showV l = [] := by
  obtain ⟨Y0, z, h1, h2⟩ := lex_all (select_lex h)
  obtain ⟨Y1, Y2, rfl, h3, h4⟩ := put_app h2
  obtain ⟨Ya, Yb, rfl, h5, h6⟩ := put_app h3
  obtain ⟨q1', Yc, rfl, h7⟩ := put_cons h5
  obtain rfl := put_nil h7
  obtain ⟨YA, YB, rfl, h8, h9⟩ := put_app h6
  obtain ⟨q2', YC, rfl, h10⟩ := put_cons h9
  have hsz : ¬ 4096 < (selT ++ l ++ fromT).length := by
    have e : (selT ++ l ++ fromT).length = 14 + l.length := by simp [selT, fromT]; omega
    omega
  obtain ⟨x, X', rfl, hx⟩ := hh
  obtain ⟨q4', Yf, rfl, h11⟩ := put_cons h8
  obtain ⟨Z, hZ⟩ : ∃ Z, ([(⟨1, wSelect, 0, 0⟩ : TokC).put q1'] ++ (x.put q4' :: Yf ++ o.put q2' :: YC) ++ Y2 ++ [(⟨0, z, [], 0, 0⟩ : Tok)]) = Z := ⟨_, rfl⟩
  obtain ⟨r, hr⟩ : ∃ r, o.put q2' :: (YC ++ Y2 ++ [(⟨0, z, [], 0, 0⟩ : Tok)] ++ [(⟨0, z, [], 0, 0⟩ : Tok)]) = r := ⟨_, rfl⟩
  have hrest : Z ++ Z.drop (Z.length - 1) = (⟨1, wSelect, 0, 0⟩ : TokC).put q1' :: x.put q4' :: (Yf ++ r) := by
    have hd : ∀ (A : List Tok) (b : Tok), (A ++ [b]).drop ((A ++ [b]).length - 1) = [b] := fun A b => by simp
    rw [← hZ, hd, ← hr]
    simp
  have hro : okB bs r := by rw [← hr]; exact ho
  have hro2 : okB [wAs, wComma, wFrom] r := by rw [← hr]; exact ho2
  obtain ⟨t, e1, e2⟩ := hp (x.put q4' :: Yf) r 0 h8 hro
  have hE : exprF (subOf 64) = (lvl 64).expr := by rw [lvl_eq]; rfl
  rw [hE] at e1
  obtain ⟨q, s9, a1, a2, a3⟩ := parseT_split Z
  rw [hrest] at a2
  have hb : (queryF (lvl 64).expr ⟨(⟨1, wSelect, 0, 0⟩ : TokC).put q1' :: x.put q4' :: (Yf ++ r), 0, 0⟩).2.e ≠ 0 := by
    have hg := (goes_lvl 64).expr
    clear hE a1 a2 a3 hrest hZ
    revert e1 hg
    generalize (lvl 64).expr = E
    intro e1 hg
    exact select_bad E hg (a := q1') hx e1 hro2
  generalize queryF (lvl 64).expr ⟨(⟨1, wSelect, 0, 0⟩ : TokC).put q1' :: x.put q4' :: (Yf ++ r), 0, 0⟩ = y at a2 hb
  have h9 : s9.e ≠ 0 := by rw [← a2]; exact of_err hb
  have hps : parseV (selT ++ l ++ fromT) = .bad s9.pos s9.e := by
    unfold parseV
    rw [if_neg hsz]
    unfold parseAll
    rw [h1]
    simp only
    rw [hZ, a3, if_neg h9]
  unfold showV
  rw [hps]

theorem bad_ne {l : Bs} {p k : Nat} (h : parseV l = .bad p k) : k ≠ 0 := by
  unfold parseV at h
  split at h
  · cases h; decide
  · unfold parseAll at h
    split at h
    · cases h; decide
    · rename_i ts hts
      obtain ⟨q, s9, -, -, h3⟩ := parseT_split ts
      rw [h3] at h
      split at h
      · cases h
      · rename_i he
        cases h
        exact he

/-! ### ParseLevels -/
theorem op_node {i : Nat} (h : i < 8) (a b : Tree) : showT (.bin { op := opL i, pos := 0 } a b) = [40] ++ (opL i ++ ([32] ++ (showT a ++ ([32] ++ (showT b ++ [41]))))) := by
  show nodeS _ [showT a, showT b] = _
  have hn : opL i ≠ oNumber ∧ opL i ≠ oText ∧ opL i ≠ oBool ∧ opL i ≠ oNull ∧ opL i ≠ oColumn := by
    rcases op_cases h with rfl | rfl | rfl | rfl | rfl | rfl | rfl | rfl <;> decide
  unfold nodeS
  rw [if_neg hn.1, if_neg hn.2.1, if_neg hn.2.2.1, if_neg hn.2.2.2.1, if_neg hn.2.2.2.2]
  simp [Lib.join]
theorem lvX_small {a i b k c : Nat} (ha : a < 14) (hi : i < 8) (hb : b < 14) (hk : k < 8) (hc : c < 14) : (lvX a i b k c).length ≤ 22 := by
  have h1 := wd_small ha
  have h2 := wd_small hb
  have h3 := wd_small hc
  have h4 := op_small hi
  have h5 := op_small hk
  simp only [lvX, List.length_append, List.length_cons, List.length_nil]
  omega
def leftS (a i b k c : Nat) : Bs := [40] ++ opL k ++ [32, 40] ++ opL i ++ [32] ++ wdL a ++ [32] ++ wdL b ++ [41, 32] ++ wdL c ++ [41]
def rightS (a i b k c : Nat) : Bs := [40] ++ opL i ++ [32] ++ wdL a ++ [32, 40] ++ opL k ++ [32] ++ wdL b ++ [32] ++ wdL c ++ [41, 41]
theorem left_show {a i b k c : Nat} (ha : a < 14) (hi : i < 8) (hb : b < 14) (hk : k < 8) (hc : c < 14) : showT (lvLeft a i b k c) = leftS a i b k c := by
  unfold lvLeft
  rw [op_node hk, op_node hi, wd_show ha, wd_show hb, wd_show hc]
  simp [leftS]
theorem right_show {a i b k c : Nat} (ha : a < 14) (hi : i < 8) (hb : b < 14) (hk : k < 8) (hc : c < 14) : showT (lvRight a i b k c) = rightS a i b k c := by
  unfold lvRight
  rw [op_node hi, op_node hk, wd_show ha, wd_show hb, wd_show hc]
  simp [rightS]
theorem rel_two {i : Nat} (h : i < 8) (h2 : opV i = 2) : isC (opT i) relWords = true ∧ isC (opT i) bS = false ∧ isC (opT i) (bS ++ [[65, 78, 68], [79, 82]]) = false ∧ isC (opT i) [wAs, wComma, wFrom] = false := by
  rcases op_cases h with rfl | rfl | rfl | rfl | rfl | rfl | rfl | rfl
  all_goals first | (revert h2; decide) | decide
theorem lv_none {a i b k c : Nat} (ha : a < 14) (hi : i < 8) (hb : b < 14) (hk : k < 8) (hc : c < 14) (h1 : opV i = 2) (h2 : opV k = 2) : showV (lvX a i b k c) = [] := by
  have r1 := rel_two hi h1
  have r2 := rel_two hk h2
  have p1 := test_rel (sub := subOf 64) (o := opT i) (wd_lv ha _ (j := 3) (by omega)) (wd_lv hb _ (j := 3) (by omega)) r1.1 r1.2.1
  have p2 : Par (notF (subOf 64)) bS _ _ := before_no p1 (hd_app (hd_app (wd_head ha _)))
  have p3 : Par (andF (subOf 64)) (bS ++ [[65, 78, 68]]) _ _ := join_one p2 (by decide) (by decide)
  have p4 : Par (exprF (subOf 64)) (bS ++ [[65, 78, 68], [79, 82]]) _ _ := join_one p3 (by decide) (by decide)
  have hl := lv_lex ha hi hb hk hc
  have e : lvT a i b k c = (wdT (wdL a) ++ [opT i] ++ wdT (wdL b)) ++ opT k :: wdT (wdL c) := by simp [lvT]
  rw [e] at hl
  exact select_none hl p4 (hd_app (hd_app (wd_head ha _))) r2.2.2.1 r2.2.2.2 (by have := lvX_small ha hi hb hk hc; omega)
/-- What the law's show answers of this text. -/
theorem lv_show {a i b k c : Nat} (ha : a < 14) (hi : i < 8) (hb : b < 14) (hk : k < 8) (hc : c < 14) :
    showV (lvX a i b k c) = if opV i = 2 ∧ opV k = 2 then [] else if opV k ≤ opV i then leftS a i b k c else rightS a i b k c := by
  have hs : (lvX a i b k c).length ≤ 4000 := by have := lvX_small ha hi hb hk hc; omega
  have hh : hdB [wStar] (lvT a i b k c) := hd_app (hd_app (hd_app (hd_app (wd_head ha _))))
  by_cases h2 : opV i = 2 ∧ opV k = 2
  · rw [if_pos h2]
    exact lv_none ha hi hb hk hc h2.1 h2.2
  rw [if_neg h2]
  by_cases h : opV k ≤ opV i
  · rw [if_pos h, showV_good (lv_lex ha hi hb hk hc) (lv_left ha hi hb hk hc h h2 _) hh hs, left_show ha hi hb hk hc]
  · rw [if_neg h, showV_good (lv_lex ha hi hb hk hc) (lv_right ha hi hb hk hc (by omega) _) hh hs, right_show ha hi hb hk hc]
end Go.Proofs.YtgbpoaimbjlamaaGreatDoor
