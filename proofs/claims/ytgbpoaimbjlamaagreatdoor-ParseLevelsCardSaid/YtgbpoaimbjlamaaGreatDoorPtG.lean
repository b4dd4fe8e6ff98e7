/-
  The texts of names and operators, and of SELECT .. FROM t, as tokens and as queries. Plain; it speaks of no program; no condition.
-/
import Derived.Test.YtgbpoaimbjlamaaGreatDoorPtF
import Derived.Test.YtgbpoaimbjlamaaGreatDoorPsXp
namespace Go.Proofs.YtgbpoaimbjlamaaGreatDoor
open Go.RowKit
set_option linter.unusedVariables false

/-- A mark of one sign that stands ahead of a blank. -/
theorem lexS_mark {c : UInt8} (h1 : isLet c = false) (h2 : isDig c = false) (h3 : c ≠ 39) (hb : isBl c = false) (hm : marks1.contains c = true) (hl : ∀ d, isBl d = true ∨ d = 41 ∨ d = 44 → marks2.contains [c, d] = false) : LexStop [c] [⟨5, [c], 0, 0⟩] := fun r p hr => by
  refine lex_tok (q := []) hb ?_
  show (if isLet c = true then _ else if isDig c = true then _ else if c = 39 then _ else markL (c :: ([] ++ r))) = _
  rw [if_neg (by rw [h1]; decide), if_neg (by rw [h2]; decide), if_neg h3]
  unfold markL
  have h0 : marks2.contains ((c :: ([] ++ r)).take 2) = false := by
    rcases hr with rfl | ⟨d, q, rfl, hd⟩
    · simp [marks2]
    · exact hl d hd
  rw [if_neg (by rw [h0]; decide)]
  simp only
  rw [if_pos hm]
  rfl
theorem stop_cases {d : UInt8} (h : isBl d = true ∨ d = 41 ∨ d = 44) : d = 32 ∨ d = 9 ∨ d = 10 ∨ d = 13 ∨ d = 41 ∨ d = 44 := by
  rcases h with h | h | h
  · simp only [isBl, Bool.or_eq_true, decide_eq_true_eq] at h
    rcases h with ((h | h) | h) | h
    · exact .inl (UInt8.toNat_inj.1 h)
    · exact .inr (.inl (UInt8.toNat_inj.1 h))
    · exact .inr (.inr (.inl (UInt8.toNat_inj.1 h)))
    · exact .inr (.inr (.inr (.inl (UInt8.toNat_inj.1 h))))
  · exact .inr (.inr (.inr (.inr (.inl h))))
  · exact .inr (.inr (.inr (.inr (.inr h))))
theorem lexS_mark1 {c : UInt8} (h : c = 61 ∨ c = 60 ∨ c = 62 ∨ c = 43 ∨ c = 45 ∨ c = 42 ∨ c = 47) : LexStop [c] [⟨5, [c], 0, 0⟩] := by
  rcases h with rfl | rfl | rfl | rfl | rfl | rfl | rfl
  all_goals
    refine lexS_mark (by decide) (by decide) (by decide) (by decide) (by decide) fun d hd => ?_
    rcases stop_cases hd with rfl | rfl | rfl | rfl | rfl | rfl <;> decide
/-- Two names with a point between. -/
theorem lexS_dot {a b : UInt8} (ha : isLet a = true) (hb : isLet b = true) (ka : isKey [upc a] = false) (kb : isKey [upc b] = false) : LexStop [a, 46, b] [⟨2, [a], 0, 0⟩, ⟨5, [46], 0, 0⟩, ⟨2, [b], 0, 0⟩] := by
  have h1 : ∀ (r : Bs) (p : Nat), ∃ us : List Tok, us.map Tok.strip = [⟨2, [a], 0, 0⟩] ∧ (∀ t ∈ us, p ≤ t.pos ∧ t.pos < p + [a].length) ∧ lexB ([a] ++ (46 :: r)) p = (lexB (46 :: r) (p + [a].length)).pre us := fun r p => by
    refine lex_tok (q := []) (let_bl ha) ?_
    have hl := let_LD ha
    have e : ((a :: ([] ++ 46 :: r)) : Bs).takeWhile isLD = [a] := by
      rw [List.takeWhile_cons, if_pos hl]
      show a :: List.takeWhile isLD (46 :: r) = [a]
      rw [List.takeWhile_cons, if_neg (by decide)]
    show (if isLet a = true then wordL (a :: ([] ++ 46 :: r)) else _) = _
    rw [if_pos ha]
    unfold wordL
    rw [e]
    rw [if_neg (by show ¬ isKey [upc a] = true; rw [ka]; decide), if_neg (by simp)]
  have h2 : LexAny [46] [⟨5, [46], 0, 0⟩] := lex_mark (by decide) (by decide) (by decide) (by decide) (by decide) (by intro d; simp [marks2])
  have h3 : LexStop [b] [⟨2, [b], 0, 0⟩] := lexS_name hb (fun x hx => by simp at hx; rw [hx]; exact let_LD hb) kb (by simp)
  have h23 := h2.appS h3
  intro r p hr
  have := lex_two (a := [a]) (b := [46] ++ [b]) (r := r) (p := p) (h1 _ p) (h23 r _ hr)
  exact this

/-- The names of the law's word, what tokens they are, and what tree. -/
def wdL (i : Nat) : Bs := ([[97], [98], [99], [100], [120], [121], [116, 46, 97], [116, 46, 98], [117, 46, 120], [117, 46, 121], [116, 46, 99], [117, 46, 122], [110, 111, 110, 101], [117, 46, 97]] : List Bs).getD i []
def wdT (l : Bs) : List TokC := if l.length = 3 then [⟨2, l.take 1, 0, 0⟩, ⟨5, wPoint, 0, 0⟩, ⟨2, l.drop 2, 0, 0⟩] else [⟨2, l, 0, 0⟩]
def wdE (l : Bs) : Tree := if l.length = 3 then .leaf { op := oColumn, pos := 0, table := l.take 1, name := l.drop 2 } else .leaf { op := oColumn, pos := 0, name := l }
theorem wd_cases {i : Nat} (h : i < 14) : (∃ c, isLet c = true ∧ isKey [upc c] = false ∧ wdL i = [c]) ∨ wdL i = [110, 111, 110, 101] ∨ ∃ a b, isLet a = true ∧ isLet b = true ∧ isKey [upc a] = false ∧ isKey [upc b] = false ∧ wdL i = [a, 46, b] := by
  have h2 : i = 0 ∨ i = 1 ∨ i = 2 ∨ i = 3 ∨ i = 4 ∨ i = 5 ∨ i = 6 ∨ i = 7 ∨ i = 8 ∨ i = 9 ∨ i = 10 ∨ i = 11 ∨ i = 12 ∨ i = 13 := by omega
  rcases h2 with rfl | rfl | rfl | rfl | rfl | rfl | rfl | rfl | rfl | rfl | rfl | rfl | rfl | rfl
  all_goals first
    | exact .inl ⟨_, by decide, by decide, rfl⟩
    | exact .inr (.inl rfl)
    | exact .inr (.inr ⟨_, _, by decide, by decide, by decide, by decide, rfl⟩)
theorem wd_lex {i : Nat} (h : i < 14) : LexStop (wdL i) (wdT (wdL i)) := by
  rcases wd_cases h with ⟨c, h1, h2, e⟩ | e | ⟨a, b, h1, h2, h3, h4, e⟩
  · rw [e]
    exact lexS_name h1 (fun x hx => by simp at hx; rw [hx]; exact let_LD h1) h2 (by simp)
  · rw [e]
    exact lexS_name (by decide) (by decide) (by decide) (by decide)
  · rw [e]
    exact lexS_dot h1 h2 h3 h4
theorem wd_par {i : Nat} (h : i < 14) (sub : Option Lvl) : Par (primaryF sub) bP (wdT (wdL i)) (wdE (wdL i)) := by
  rcases wd_cases h with ⟨c, h1, h2, e⟩ | e | ⟨a, b, h1, h2, h3, h4, e⟩
  · rw [e]; exact par_col1 sub [c]
  · rw [e]; exact par_col1 sub _
  · rw [e]; exact par_col2 sub [a] [b]
theorem wd_head {i : Nat} (h : i < 14) (bs : List Bs) : hdB bs (wdT (wdL i)) := by
  rcases wd_cases h with ⟨c, h1, h2, e⟩ | e | ⟨a, b, h1, h2, h3, h4, e⟩
  · rw [e]; exact ⟨_, _, rfl, rfl⟩
  · rw [e]; exact ⟨_, _, rfl, rfl⟩
  · rw [e]; exact ⟨_, _, rfl, rfl⟩
theorem wd_show {i : Nat} (h : i < 14) : showT (wdE (wdL i)) = wdL i := by
  rcases wd_cases h with ⟨c, h1, h2, e⟩ | e | ⟨a, b, h1, h2, h3, h4, e⟩
  · rw [e]; rfl
  · rw [e]; rfl
  · rw [e]; rfl
theorem wd_small {i : Nat} (h : i < 14) : (wdL i).length ≤ 4 ∧ wdL i ≠ [] := by
  rcases wd_cases h with ⟨c, h1, h2, e⟩ | e | ⟨a, b, h1, h2, h3, h4, e⟩
  · rw [e]; simp
  · rw [e]; simp
  · rw [e]; simp

/-! ### SELECT .. FROM t -/
def selT : Bs := [83, 69, 76, 69, 67, 84, 32]
def fromT : Bs := [32, 70, 82, 79, 77, 32, 116]
def selX (X : List TokC) : List TokC := [⟨1, wSelect, 0, 0⟩] ++ X ++ [⟨1, wFrom, 0, 0⟩, ⟨2, [116], 0, 0⟩]
theorem lex_sp : LexAny [32] [] := lex_blank (by decide)
theorem select_lex {l : Bs} {X : List TokC} (h : LexStop l X) : LexStop (selT ++ l ++ fromT) (selX X) := by
  have h1 : LexStop [83, 69, 76, 69, 67, 84] [⟨1, wSelect, 0, 0⟩] := lexS_word (by decide) (by decide) (by decide)
  have h2 : LexAny ([83, 69, 76, 69, 67, 84] ++ [32]) ([⟨1, wSelect, 0, 0⟩] ++ []) := h1.app lex_sp (.inr ⟨32, [], rfl, .inl (by decide)⟩) (by decide)
  have h3 : LexStop [70, 82, 79, 77] [⟨1, wFrom, 0, 0⟩] := lexS_word (by decide) (by decide) (by decide)
  have h4 : LexStop [116] [⟨2, [116], 0, 0⟩] := lexS_name (by decide) (by decide) (by decide) (by decide)
  have h5 := lex_sp.app (h3.app lex_sp (.inr ⟨32, [], rfl, .inl (by decide)⟩) (by decide))
  have h6 := h5.appS h4
  have h7 := (h2.appS h).appS h6 (.inr ⟨32, _, rfl, .inl (by decide)⟩) (by decide)
  have e1 : selT ++ l ++ fromT = [83, 69, 76, 69, 67, 84] ++ [32] ++ l ++ ([32] ++ ([70, 82, 79, 77] ++ [32]) ++ [116]) := rfl
  have e2 : selX X = [⟨1, wSelect, 0, 0⟩] ++ [] ++ X ++ ([] ++ ([⟨1, wFrom, 0, 0⟩] ++ []) ++ [⟨2, [116], 0, 0⟩]) := by simp [selX]
  rw [e1, e2]
  exact h7
/-- A whole text's tokens. -/
theorem lex_all {l : Bs} {X : List TokC} (h : LexStop l X) : ∃ Y q, lexAll l = .good (Y ++ [⟨0, q, [], 0, 0⟩]) ∧ Y.map Tok.strip = X := by
  obtain ⟨us, h1, -, h3⟩ := h [] 0 (.inl rfl)
  rw [List.append_nil] at h3
  refine ⟨us, 0 + l.length, ?_, h1⟩
  rw [← lexB_zero, h3]
  rfl
theorem end_ok {q : Nat} {r : List Tok} {bs : List Bs} : okB bs ((⟨0, q, [], 0, 0⟩ : Tok) :: r) := rfl
theorem select_query (E : PF) {x : TokC} {X' : List Tok} {t : Tree} {a b c d z : Nat} (hx : isC x [wStar] = false) (e1 : E ⟨x.put b :: X', 0, 0⟩ = (t, ⟨[(⟨1, wFrom, 0, 0⟩ : TokC).put c, (⟨2, [116], 0, 0⟩ : TokC).put d, (⟨0, z, [], 0, 0⟩ : Tok), (⟨0, z, [], 0, 0⟩ : Tok)], 0, 0⟩)) :
    queryF E ⟨(⟨1, wSelect, 0, 0⟩ : TokC).put a :: x.put b :: X', 0, 0⟩ = ({ items := [⟨t, []⟩], src := [116], srcAt := d }, ⟨[(⟨0, z, [], 0, 0⟩ : Tok), (⟨0, z, [], 0, 0⟩ : Tok)], 0, 0⟩) := by
  have hit : itemF E ⟨x.put b :: X', 0, 0⟩ = (⟨t, []⟩, ⟨[(⟨1, wFrom, 0, 0⟩ : TokC).put c, (⟨2, [116], 0, 0⟩ : TokC).put d, (⟨0, z, [], 0, 0⟩ : Tok), (⟨0, z, [], 0, 0⟩ : Tok)], 0, 0⟩) := by
    unfold itemF
    rw [e1]
    rfl
  have hli : listF (itemF E) ⟨x.put b :: X', 0, 0⟩ = ([⟨t, []⟩], ⟨[(⟨1, wFrom, 0, 0⟩ : TokC).put c, (⟨2, [116], 0, 0⟩ : TokC).put d, (⟨0, z, [], 0, 0⟩ : Tok), (⟨0, z, [], 0, 0⟩ : Tok)], 0, 0⟩) := by
    unfold listF
    rw [hit]
    rfl
  have hq1 : q1 E ⟨(⟨1, wSelect, 0, 0⟩ : TokC).put a :: x.put b :: X', 0, 0⟩ = ({ items := [⟨t, []⟩] }, ⟨[(⟨1, wFrom, 0, 0⟩ : TokC).put c, (⟨2, [116], 0, 0⟩ : TokC).put d, (⟨0, z, [], 0, 0⟩ : Tok), (⟨0, z, [], 0, 0⟩ : Tok)], 0, 0⟩) := by
    have ht : (⟨x.put b :: X', 0, 0⟩ : PS).takes wStar = (false, ⟨x.put b :: X', 0, 0⟩) := takes_ok (show okB [wStar] (x.put b :: X') from hx)
    unfold q1
    rw [wants_put (by decide)]
    simp only [ht, hli]
    rfl
  show q8 (q7 (q6 (q5 (q4 E (q3 E (q2 (q1 E _))))))) = _
  rw [hq1]
  obtain ⟨Z, hZ⟩ : ∃ Z : List Tok, [(⟨0, z, [], 0, 0⟩ : Tok), (⟨0, z, [], 0, 0⟩ : Tok)] = Z := ⟨_, rfl⟩
  have hk : ∀ w, (⟨Z, 0, 0⟩ : PS).takes w = (false, ⟨Z, 0, 0⟩) := fun w => takes_ok (by rw [← hZ]; rfl)
  have h2 : q2 ({ items := [⟨t, []⟩] }, ⟨[(⟨1, wFrom, 0, 0⟩ : TokC).put c, (⟨2, [116], 0, 0⟩ : TokC).put d, (⟨0, z, [], 0, 0⟩ : Tok), (⟨0, z, [], 0, 0⟩ : Tok)], 0, 0⟩) = ({ items := [⟨t, []⟩], src := [116], srcAt := d }, ⟨Z, 0, 0⟩) := by
    unfold q2
    simp only
    rw [wants_put (by decide), name_put, hZ]
    rfl
  rw [h2, hZ]
  generalize ({ items := [⟨t, []⟩], src := [116], srcAt := d } : QueryT) = Q
  have h3 : q3 E (Q, ⟨Z, 0, 0⟩) = (Q, ⟨Z, 0, 0⟩) := by unfold q3; simp only [hk]; rfl
  have h4 : q4 E (Q, ⟨Z, 0, 0⟩) = (Q, ⟨Z, 0, 0⟩) := by unfold q4; simp only [hk]; rfl
  have h5 : q5 (Q, ⟨Z, 0, 0⟩) = (Q, ⟨Z, 0, 0⟩) := by unfold q5; simp only [hk]; rfl
  have h6 : q6 (Q, ⟨Z, 0, 0⟩) = (Q, ⟨Z, 0, 0⟩) := by unfold q6; simp only [hk]; rfl
  have h7 : q7 (Q, ⟨Z, 0, 0⟩) = (Q, ⟨Z, 0, 0⟩) := by unfold q7; simp only [hk]; rfl
  have h8 : q8 (Q, ⟨Z, 0, 0⟩) = (Q, ⟨Z, 0, 0⟩) := by unfold q8; simp only [hk]; rfl
  rw [h3, h4, h5, h6, h7, h8]
/-- What the text SELECT .. FROM t is. -/
theorem select_parse {l : Bs} {X : List TokC} {T : Tree} (h : LexStop l X) (hp : Par (exprF (subOf 64)) bE X T) (hh : hdB [wStar] X) (hl : l.length ≤ 4000) : ∃ q t n, parseV (selT ++ l ++ fromT) = .good q ∧ q.items = [⟨t, n⟩] ∧ stripT t = T := by
  obtain ⟨Y0, z, h1, h2⟩ := lex_all (select_lex h)
  obtain ⟨Y1, Y2, rfl, h3, h4⟩ := put_app h2
  obtain ⟨Ya, Yb, rfl, h5, h6⟩ := put_app h3
  obtain ⟨q1', Yc, rfl, h7⟩ := put_cons h5
  obtain rfl := put_nil h7
  obtain ⟨q2', Yd, rfl, h8⟩ := put_cons h4
  obtain ⟨q3', Ye, rfl, h9⟩ := put_cons h8
  obtain rfl := put_nil h9
  obtain ⟨t, e1, e2⟩ := hp Yb ((⟨1, wFrom, 0, 0⟩ : TokC).put q2' :: (⟨2, [116], 0, 0⟩ : TokC).put q3' :: (⟨0, z, [], 0, 0⟩ : Tok) :: [(⟨0, z, [], 0, 0⟩ : Tok)]) 0 h6 rfl
  have hE : exprF (subOf 64) = (lvl 64).expr := by rw [lvl_eq]; rfl
  rw [hE] at e1
  have hsz : ¬ 4096 < (selT ++ l ++ fromT).length := by
    have e : (selT ++ l ++ fromT).length = 14 + l.length := by simp [selT, fromT]; omega
    omega
  have hps : parseV (selT ++ l ++ fromT) = parseT ([(⟨1, wSelect, 0, 0⟩ : TokC).put q1'] ++ Yb ++ [(⟨1, wFrom, 0, 0⟩ : TokC).put q2', (⟨2, [116], 0, 0⟩ : TokC).put q3'] ++ [(⟨0, z, [], 0, 0⟩ : Tok)]) := by
    unfold parseV
    rw [if_neg hsz]
    unfold parseAll
    rw [h1]
  obtain ⟨x, X', rfl, hx⟩ := hh
  obtain ⟨q4', Yf, rfl, h10⟩ := put_cons h6
  obtain ⟨q, s9, a1, a2, a3⟩ := parseT_split ([(⟨1, wSelect, 0, 0⟩ : TokC).put q1'] ++ (x.put q4' :: Yf) ++ [(⟨1, wFrom, 0, 0⟩ : TokC).put q2', (⟨2, [116], 0, 0⟩ : TokC).put q3'] ++ [(⟨0, z, [], 0, 0⟩ : Tok)])
  have hrest : ([(⟨1, wSelect, 0, 0⟩ : TokC).put q1'] ++ (x.put q4' :: Yf) ++ [(⟨1, wFrom, 0, 0⟩ : TokC).put q2', (⟨2, [116], 0, 0⟩ : TokC).put q3'] ++ [(⟨0, z, [], 0, 0⟩ : Tok)]) ++ ([(⟨1, wSelect, 0, 0⟩ : TokC).put q1'] ++ (x.put q4' :: Yf) ++ [(⟨1, wFrom, 0, 0⟩ : TokC).put q2', (⟨2, [116], 0, 0⟩ : TokC).put q3'] ++ [(⟨0, z, [], 0, 0⟩ : Tok)]).drop (([(⟨1, wSelect, 0, 0⟩ : TokC).put q1'] ++ (x.put q4' :: Yf) ++ [(⟨1, wFrom, 0, 0⟩ : TokC).put q2', (⟨2, [116], 0, 0⟩ : TokC).put q3'] ++ [(⟨0, z, [], 0, 0⟩ : Tok)]).length - 1) = (⟨1, wSelect, 0, 0⟩ : TokC).put q1' :: x.put q4' :: (Yf ++ (⟨1, wFrom, 0, 0⟩ : TokC).put q2' :: (⟨2, [116], 0, 0⟩ : TokC).put q3' :: (⟨0, z, [], 0, 0⟩ : Tok) :: [(⟨0, z, [], 0, 0⟩ : Tok)]) := by
    have hd : ∀ (A : List Tok) (b : Tok), (A ++ [b]).drop ((A ++ [b]).length - 1) = [b] := fun A b => by simp
    rw [hd]
    simp
  rw [hrest] at a1 a2
  have e1' : (lvl 64).expr ⟨x.put q4' :: (Yf ++ (⟨1, wFrom, 0, 0⟩ : TokC).put q2' :: (⟨2, [116], 0, 0⟩ : TokC).put q3' :: (⟨0, z, [], 0, 0⟩ : Tok) :: [(⟨0, z, [], 0, 0⟩ : Tok)]), 0, 0⟩ = _ := e1
  have hqf := select_query (lvl 64).expr (a := q1') hx e1'
  rw [hqf] at a1 a2
  have hs9 : s9 = ⟨[(⟨0, z, [], 0, 0⟩ : Tok)], 0, 0⟩ := a2.symm
  refine ⟨q, t, [], ?_, by rw [← a1], e2⟩
  rw [hps, a3, hs9]
  rfl
end Go.Proofs.YtgbpoaimbjlamaaGreatDoor
