/-
  How tokens are read as an expr, whatever their places. Plain; it speaks of no program; no condition.
-/
import Derived.Test.YtgbpoaimbjlamaaGreatDoorPtA
import Derived.Test.YtgbpoaimbjlamaaGreatDoorMPq
namespace Go.Proofs.YtgbpoaimbjlamaaGreatDoor
open Go.RowKit
set_option linter.unusedVariables false

/-- A tree without its places. -/
def stripT : Tree → Tree
  | .leaf h => .leaf { h with pos := 0 }
  | .un h a => .un { h with pos := 0 } (stripT a)
  | .bin h a b => .bin { h with pos := 0 } (stripT a) (stripT b)
theorem nodeS_strip (h : Hd) (xs : List Bs) : nodeS { h with pos := 0 } xs = nodeS h xs := rfl
theorem showT_strip : ∀ t : Tree, showT (stripT t) = showT t := by
  intro t
  induction t with
  | leaf h => rfl
  | un h a ih => show nodeS _ [showT (stripT a)] = nodeS h [showT a]; rw [ih]; rfl
  | bin h a b iha ihb => show nodeS _ [showT (stripT a), showT (stripT b)] = nodeS h [showT a, showT b]; rw [iha, ihb]; rfl

def isC (t : TokC) (l : List Bs) : Bool := (decide (t.kind = 1) || decide (t.kind = 5)) && l.contains t.s
/-- The token that stands there is none of these. -/
def okB (bs : List Bs) (r : List Tok) : Prop := isC (r.headD zTok).strip bs = false
theorem okB.sub {bs bs' : List Bs} {r : List Tok} (h : okB bs r) (hs : ∀ x ∈ bs', x ∈ bs) : okB bs' r := by
  unfold okB isC at *
  rw [Bool.and_eq_false_iff] at *
  rcases h with h | h
  · exact .inl h
  · right
    rw [Bool.eq_false_iff] at *
    intro h2
    exact h (List.contains_iff_mem.2 (hs _ (List.contains_iff_mem.1 h2)))
theorem is_ok {r : List Tok} {p : Nat} {bs : List Bs} (h : okB bs r) : (⟨r, p, 0⟩ : PS).is bs = false := by
  unfold PS.is PS.now
  exact (Bool.and_eq_false_iff.2 (.inr h))
theorem is_put {t : TokC} {q p : Nat} {r : List Tok} {ws : List Bs} : (⟨t.put q :: r, p, 0⟩ : PS).is ws = isC t ws := by
  unfold PS.is PS.now isTok isC
  simp [TokC.put]
theorem takes_put {t : TokC} {q p : Nat} {r : List Tok} {w : Bs} (h : isC t [w] = true) : (⟨t.put q :: r, p, 0⟩ : PS).takes w = (true, ⟨r, p, 0⟩) := by
  unfold PS.takes
  rw [is_put, if_pos h]
  rfl
theorem takes_ok {r : List Tok} {p : Nat} {w : Bs} (h : okB [w] r) : (⟨r, p, 0⟩ : PS).takes w = (false, ⟨r, p, 0⟩) := by
  unfold PS.takes
  rw [is_ok h]
  rfl
theorem wants_put {t : TokC} {q p : Nat} {r : List Tok} {w : Bs} (h : isC t [w] = true) : (⟨t.put q :: r, p, 0⟩ : PS).wants [w] = ⟨r, p, 0⟩ := by
  show (⟨t.put q :: r, p, 0⟩ : PS).want w = _
  unfold PS.want
  rw [is_put, if_pos h]
  rfl
theorem put_cons {Y : List Tok} {x : TokC} {X : List TokC} (h : Y.map Tok.strip = x :: X) : ∃ q Y', Y = x.put q :: Y' ∧ Y'.map Tok.strip = X := by
  cases Y with
  | nil => cases h
  | cons y Y =>
    rw [List.map_cons] at h
    injection h with h1 h2
    exact ⟨y.pos, Y, by rw [← h1]; rfl, h2⟩
theorem put_nil {Y : List Tok} (h : Y.map Tok.strip = []) : Y = [] := List.map_eq_nil_iff.1 h
theorem put_app {Y : List Tok} {A B : List TokC} (h : Y.map Tok.strip = A ++ B) : ∃ Y1 Y2, Y = Y1 ++ Y2 ∧ Y1.map Tok.strip = A ∧ Y2.map Tok.strip = B := by
  obtain ⟨Y1, Y2, h1, h2, h3⟩ := List.map_eq_append_iff.1 h
  exact ⟨Y1, Y2, h1, h2, h3⟩

/-- Some tokens are read as this tree, if what follows does not go on with it. -/
def Par (F : PF) (bs : List Bs) (X : List TokC) (T : Tree) : Prop := ∀ (Y r : List Tok) (p : Nat), Y.map Tok.strip = X → okB bs r → ∃ t, F ⟨Y ++ r, p, 0⟩ = (t, ⟨r, p, 0⟩) ∧ stripT t = T
theorem Par.sub {F : PF} {bs bs' : List Bs} {X : List TokC} {T : Tree} (h : Par F bs X T) (hs : ∀ x ∈ bs, x ∈ bs') : Par F bs' X T := fun Y r p h1 h2 => h Y r p h1 (h2.sub hs)

def bP : List Bs := [wPoint]
def bT : List Bs := [wPoint, wStar, [47]]
def bS : List Bs := [wPoint, wStar, [47], [43], wMinus]
def bR : List Bs := [wPoint, wStar, [47], [43], wMinus, [61], [60, 62], [60], [60, 61], [62], [62, 61], wIs]
def bA : List Bs := [wPoint, wStar, [47], [43], wMinus, [61], [60, 62], [60], [60, 61], [62], [62, 61], wIs, [65, 78, 68]]
def bE : List Bs := [wPoint, wStar, [47], [43], wMinus, [61], [60, 62], [60], [60, 61], [62], [62, 61], wIs, [65, 78, 68], [79, 82]]

theorem par_num (sub : Option Lvl) (n sc : Nat) : Par (primaryF sub) bP [⟨3, [], n, sc⟩] (.leaf { op := oNumber, pos := 0, n := n, scale := sc }) := by
  intro Y r p h _
  obtain ⟨q, Y', rfl, h0⟩ := put_cons h
  obtain rfl := put_nil h0
  exact ⟨_, rfl, rfl⟩
theorem par_text (sub : Option Lvl) (s : Bs) : Par (primaryF sub) bP [⟨4, s, 0, 0⟩] (.leaf { op := oText, pos := 0, s := s }) := by
  intro Y r p h _
  obtain ⟨q, Y', rfl, h0⟩ := put_cons h
  obtain rfl := put_nil h0
  exact ⟨_, rfl, rfl⟩
theorem par_true (sub : Option Lvl) : Par (primaryF sub) bP [⟨1, wTrue, 0, 0⟩] (.leaf { op := oBool, pos := 0, n := 1 }) := by
  intro Y r p h _
  obtain ⟨q, Y', rfl, h0⟩ := put_cons h
  obtain rfl := put_nil h0
  exact ⟨_, rfl, rfl⟩
theorem par_false (sub : Option Lvl) : Par (primaryF sub) bP [⟨1, wFalse, 0, 0⟩] (.leaf { op := oBool, pos := 0 }) := by
  intro Y r p h _
  obtain ⟨q, Y', rfl, h0⟩ := put_cons h
  obtain rfl := put_nil h0
  exact ⟨_, rfl, rfl⟩
theorem par_null (sub : Option Lvl) : Par (primaryF sub) bP [⟨1, wNull, 0, 0⟩] (.leaf { op := oNull, pos := 0 }) := by
  intro Y r p h _
  obtain ⟨q, Y', rfl, h0⟩ := put_cons h
  obtain rfl := put_nil h0
  exact ⟨_, rfl, rfl⟩
theorem prim_colm (sub : Option Lvl) (a : Bs) (q p : Nat) (r : List Tok) : primaryF sub ⟨(⟨2, a, 0, 0⟩ : TokC).put q :: r, p, 0⟩ = columnF ⟨(⟨2, a, 0, 0⟩ : TokC).put q :: r, p, 0⟩ := rfl
theorem name_put (a : Bs) (q p : Nat) (r : List Tok) : (⟨(⟨2, a, 0, 0⟩ : TokC).put q :: r, p, 0⟩ : PS).name = (a, ⟨r, p, 0⟩) := rfl
theorem par_col1 (sub : Option Lvl) (a : Bs) : Par (primaryF sub) bP [⟨2, a, 0, 0⟩] (.leaf { op := oColumn, pos := 0, name := a }) := by
  intro Y r p h hb
  obtain ⟨q, Y', rfl, h0⟩ := put_cons h
  obtain rfl := put_nil h0
  refine ⟨.leaf { op := oColumn, pos := q, name := a }, ?_, rfl⟩
  show primaryF sub ⟨(⟨2, a, 0, 0⟩ : TokC).put q :: r, p, 0⟩ = _
  rw [prim_colm]
  unfold columnF
  simp only [name_put]
  have ht : (⟨r, p, 0⟩ : PS).takes wPoint = (false, ⟨r, p, 0⟩) := takes_ok hb
  refine (if_neg (by rw [ht]; simp)).trans ?_
  rw [ht]
  rfl
theorem par_col2 (sub : Option Lvl) (t a : Bs) : Par (primaryF sub) bP [⟨2, t, 0, 0⟩, ⟨5, wPoint, 0, 0⟩, ⟨2, a, 0, 0⟩] (.leaf { op := oColumn, pos := 0, table := t, name := a }) := by
  intro Y r p h hb
  obtain ⟨q, Y', rfl, h0⟩ := put_cons h
  obtain ⟨q2, Y'', rfl, h2⟩ := put_cons h0
  obtain ⟨q3, Y3, rfl, h3⟩ := put_cons h2
  obtain rfl := put_nil h3
  exact ⟨.leaf { op := oColumn, pos := q, table := t, name := a }, rfl, rfl⟩
theorem okB_shut {q : Nat} {r : List Tok} : okB bE ((⟨5, wShut, 0, 0⟩ : TokC).put q :: r) := rfl
theorem par_brk {L : Lvl} {X : List TokC} {T : Tree} (h : Par L.expr bE X T) : Par (primaryF (some L)) bP ([⟨5, wOpen, 0, 0⟩] ++ X ++ [⟨5, wShut, 0, 0⟩]) T := by
  intro Y r p hY _
  obtain ⟨Y1, Y2, rfl, h1, h2⟩ := put_app hY
  obtain ⟨q, Y0, rfl, h0⟩ := put_cons h1
  obtain ⟨q2, Y3, rfl, h3⟩ := put_cons h2
  obtain rfl := put_nil h3
  obtain ⟨t, e1, e2⟩ := h Y0 ((⟨5, wShut, 0, 0⟩ : TokC).put q2 :: r) p h0 okB_shut
  refine ⟨t, ?_, e2⟩
  have : primaryF (some L) ⟨(⟨5, wOpen, 0, 0⟩ : TokC).put q :: Y0 ++ [(⟨5, wShut, 0, 0⟩ : TokC).put q2] ++ r, p, 0⟩ = ((L.expr ⟨Y0 ++ (⟨5, wShut, 0, 0⟩ : TokC).put q2 :: r, p, 0⟩).1, (L.expr ⟨Y0 ++ (⟨5, wShut, 0, 0⟩ : TokC).put q2 :: r, p, 0⟩).2.wants [wShut]) := by
    rw [show (⟨5, wOpen, 0, 0⟩ : TokC).put q :: Y0 ++ [(⟨5, wShut, 0, 0⟩ : TokC).put q2] ++ r = (⟨5, wOpen, 0, 0⟩ : TokC).put q :: (Y0 ++ (⟨5, wShut, 0, 0⟩ : TokC).put q2 :: r) by simp]
    rfl
  rw [this, e1]
  show (t, (⟨(⟨5, wShut, 0, 0⟩ : TokC).put q2 :: r, p, 0⟩ : PS).wants [wShut]) = _
  rw [wants_put (by decide)]
/-- The first token is none of these. -/
def hdB (bs : List Bs) (X : List TokC) : Prop := ∃ x X', X = x :: X' ∧ isC x bs = false
theorem before_no {sub : Option Lvl} {word op : Bs} {own : Lvl → PF} {rest : PF} {bs : List Bs} {X : List TokC} {T : Tree} (h : Par rest bs X T) (hh : hdB [word] X) : Par (beforeF sub word op own rest) bs X T := by
  intro Y r p hY hb
  obtain ⟨t, e1, e2⟩ := h Y r p hY hb
  refine ⟨t, ?_, e2⟩
  obtain ⟨x, X', rfl, hx⟩ := hh
  obtain ⟨q, Y', rfl, h⟩ := put_cons hY
  unfold beforeF
  rw [show (x.put q :: Y' ++ r) = x.put q :: (Y' ++ r) by rfl, is_put, if_neg (by rw [hx]; decide)]
  exact e1
theorem before_yes {L : Lvl} {w : TokC} {word op : Bs} {own : Lvl → PF} {rest : PF} {bs : List Bs} {X : List TokC} {T : Tree} (hw : isC w [word] = true) (h : Par (own L) bs X T) : Par (beforeF (some L) word op own rest) bs ([w] ++ X) (.un { op := op, pos := 0 } T) := by
  intro Y r p hY hb
  obtain ⟨q, Y', rfl, hY'⟩ := put_cons hY
  obtain ⟨t, e1, e2⟩ := h Y' r p hY' hb
  refine ⟨.un { op := op, pos := q } t, ?_, by unfold stripT; rw [e2]⟩
  unfold beforeF
  rw [show (w.put q :: Y' ++ r) = w.put q :: (Y' ++ r) by rfl, is_put, if_pos hw]
  show ((.un { op := op, pos := q } (own L ⟨Y' ++ r, p, 0⟩).1 : Tree), (own L ⟨Y' ++ r, p, 0⟩).2) = _
  rw [e1]
theorem joinG_stop {part : PF} {ws : List Bs} {n : Nat} {x : Tree} {s : PS} (h : s.is ws = false) : joinG part ws n x s = (x, s) := by
  cases n with
  | zero => rfl
  | succ n => unfold joinG; rw [h]; rfl
theorem join_one {part : PF} {ws bs bs' : List Bs} {X : List TokC} {T : Tree} (h : Par part bs X T) (h1 : ∀ x ∈ bs, x ∈ bs') (h2 : ∀ x ∈ ws, x ∈ bs') : Par (joinF part ws) bs' X T := by
  intro Y r p hY hb
  obtain ⟨t, e1, e2⟩ := h Y r p hY (hb.sub h1)
  refine ⟨t, ?_, e2⟩
  unfold joinF
  rw [e1]
  exact joinG_stop (is_ok (hb.sub h2))
theorem join_two {part : PF} {ws bs bs' : List Bs} {X Z : List TokC} {o : TokC} {T U : Tree} (hX : Par part bs X T) (hZ : Par part bs Z U) (ho : isC o ws = true) (hob : isC o bs = false) (h1 : ∀ x ∈ bs, x ∈ bs') (h2 : ∀ x ∈ ws, x ∈ bs') :
    Par (joinF part ws) bs' (X ++ [o] ++ Z) (.bin { op := o.s.map lowc, pos := 0 } T U) := by
  intro Y r p hY hb
  obtain ⟨Y12, Y3, rfl, h12, h3⟩ := put_app hY
  obtain ⟨Y1, Y2, rfl, hY1, hY2⟩ := put_app h12
  obtain ⟨q, Y0, rfl, h0⟩ := put_cons hY2
  obtain rfl := put_nil h0
  obtain ⟨t, e1, e2⟩ := hX Y1 (o.put q :: (Y3 ++ r)) p hY1 hob
  obtain ⟨u, f1, f2⟩ := hZ Y3 r p h3 (hb.sub h1)
  refine ⟨.bin { op := o.s.map lowc, pos := q } t u, ?_, by unfold stripT; rw [e2, f2]⟩
  unfold joinF
  rw [show Y1 ++ [o.put q] ++ Y3 ++ r = Y1 ++ o.put q :: (Y3 ++ r) by simp, e1]
  show joinG part ws ((Y3 ++ r).length + 1) t ⟨o.put q :: (Y3 ++ r), p, 0⟩ = _
  unfold joinG
  rw [is_put, if_pos ho]
  show joinG part ws (Y3 ++ r).length (.bin { op := o.s.map lowc, pos := q } t (part ⟨Y3 ++ r, p, 0⟩).1) (part ⟨Y3 ++ r, p, 0⟩).2 = _
  rw [f1]
  exact joinG_stop (is_ok (hb.sub h2))
theorem join_three {part : PF} {ws bs bs' : List Bs} {X Z V : List TokC} {o o2 : TokC} {T U W : Tree} (hX : Par part bs X T) (hZ : Par part bs Z U) (hV : Par part bs V W) (ho : isC o ws = true) (hob : isC o bs = false) (ho2 : isC o2 ws = true) (hob2 : isC o2 bs = false) (h1 : ∀ x ∈ bs, x ∈ bs') (h2 : ∀ x ∈ ws, x ∈ bs') :
    Par (joinF part ws) bs' (X ++ [o] ++ Z ++ [o2] ++ V) (.bin { op := o2.s.map lowc, pos := 0 } (.bin { op := o.s.map lowc, pos := 0 } T U) W) := by
  intro Y r p hY hb
  obtain ⟨Y14, Y5, rfl, h14, h5⟩ := put_app hY
  obtain ⟨Y13, Y4, rfl, h13, h4⟩ := put_app h14
  obtain ⟨Y12, Y3, rfl, h12, h3⟩ := put_app h13
  obtain ⟨Y1, Y2, rfl, hY1, hY2⟩ := put_app h12
  obtain ⟨q, Y0, rfl, h0⟩ := put_cons hY2
  obtain rfl := put_nil h0
  obtain ⟨q2, Y0, rfl, h0⟩ := put_cons h4
  obtain rfl := put_nil h0
  obtain ⟨t, e1, e2⟩ := hX Y1 (o.put q :: (Y3 ++ o2.put q2 :: (Y5 ++ r))) p hY1 hob
  obtain ⟨u, f1, f2⟩ := hZ Y3 (o2.put q2 :: (Y5 ++ r)) p h3 hob2
  obtain ⟨v, g1, g2⟩ := hV Y5 r p h5 (hb.sub h1)
  refine ⟨.bin { op := o2.s.map lowc, pos := q2 } (.bin { op := o.s.map lowc, pos := q } t u) v, ?_, by
    show Tree.bin _ (Tree.bin _ (stripT t) (stripT u)) (stripT v) = _
    rw [e2, f2, g2]⟩
  unfold joinF
  rw [show Y1 ++ [o.put q] ++ Y3 ++ [o2.put q2] ++ Y5 ++ r = Y1 ++ o.put q :: (Y3 ++ o2.put q2 :: (Y5 ++ r)) by simp, e1]
  show joinG part ws ((Y3 ++ o2.put q2 :: (Y5 ++ r)).length + 1) t ⟨o.put q :: (Y3 ++ o2.put q2 :: (Y5 ++ r)), p, 0⟩ = _
  unfold joinG
  rw [is_put, if_pos ho]
  obtain ⟨k, hk⟩ : ∃ k, (Y3 ++ o2.put q2 :: (Y5 ++ r)).length = k + 1 := ⟨Y3.length + (Y5 ++ r).length, by simp only [List.length_append, List.length_cons]; omega⟩
  rw [hk]
  show joinG part ws (k + 1) (.bin { op := o.s.map lowc, pos := q } t (part ⟨Y3 ++ o2.put q2 :: (Y5 ++ r), p, 0⟩).1) (part ⟨Y3 ++ o2.put q2 :: (Y5 ++ r), p, 0⟩).2 = _
  rw [f1]
  unfold joinG
  rw [is_put, if_pos ho2]
  show joinG part ws k (.bin { op := o2.s.map lowc, pos := q2 } _ (part ⟨Y5 ++ r, p, 0⟩).1) (part ⟨Y5 ++ r, p, 0⟩).2 = _
  rw [g1]
  exact joinG_stop (is_ok (hb.sub h2))

theorem test_sum {sub : Option Lvl} {X : List TokC} {T : Tree} (h : Par (sumF sub) bS X T) : Par (testF sub) bR X T := by
  intro Y r p hY hb
  obtain ⟨t, e1, e2⟩ := h Y r p hY (hb.sub (by decide))
  refine ⟨t, ?_, e2⟩
  unfold testF
  simp only [e1]
  have hr : (⟨r, p, 0⟩ : PS).is relWords = false := is_ok (hb.sub (by decide))
  have ht : (⟨r, p, 0⟩ : PS).takes wIs = (false, ⟨r, p, 0⟩) := takes_ok (hb.sub (by decide))
  rw [if_neg (by rw [hr]; simp), if_neg (by rw [ht]; simp)]
theorem test_rel {sub : Option Lvl} {X Z : List TokC} {o : TokC} {T U : Tree} (hX : Par (sumF sub) bS X T) (hZ : Par (sumF sub) bS Z U) (ho : isC o relWords = true) (hob : isC o bS = false) : Par (testF sub) bS (X ++ [o] ++ Z) (.bin { op := o.s, pos := 0 } T U) := by
  intro Y r p hY hb
  obtain ⟨Y12, Y3, rfl, h12, h3⟩ := put_app hY
  obtain ⟨Y1, Y2, rfl, hY1, hY2⟩ := put_app h12
  obtain ⟨q, Y0, rfl, h0⟩ := put_cons hY2
  obtain rfl := put_nil h0
  obtain ⟨t, e1, e2⟩ := hX Y1 (o.put q :: (Y3 ++ r)) p hY1 hob
  obtain ⟨u, f1, f2⟩ := hZ Y3 r p h3 (hb.sub (by decide))
  refine ⟨.bin { op := o.s, pos := q } t u, ?_, by show Tree.bin _ (stripT t) (stripT u) = _; rw [e2, f2]⟩
  rw [show Y1 ++ [o.put q] ++ Y3 ++ r = Y1 ++ o.put q :: (Y3 ++ r) by simp]
  unfold testF
  simp only [e1]
  rw [if_pos (by rw [is_put]; exact ho)]
  show ((.bin { op := o.s, pos := q } t (sumF sub ⟨Y3 ++ r, p, 0⟩).1 : Tree), (sumF sub ⟨Y3 ++ r, p, 0⟩).2) = _
  rw [f1]
theorem test_null {sub : Option Lvl} {X : List TokC} {T : Tree} (hX : Par (sumF sub) bS X T) : Par (testF sub) bR (X ++ [⟨1, wIs, 0, 0⟩, ⟨1, wNull, 0, 0⟩]) (.un { op := oIs, pos := 0 } T) := by
  intro Y r p hY hb
  obtain ⟨Y1, Y2, rfl, hY1, hY2⟩ := put_app hY
  obtain ⟨q, Y3, rfl, h0⟩ := put_cons hY2
  obtain ⟨q2, Y4, rfl, h4⟩ := put_cons h0
  obtain rfl := put_nil h4
  obtain ⟨t, e1, e2⟩ := hX Y1 ((⟨1, wIs, 0, 0⟩ : TokC).put q :: (⟨1, wNull, 0, 0⟩ : TokC).put q2 :: r) p hY1 rfl
  refine ⟨.un { op := oIs, pos := q } t, ?_, by show Tree.un _ (stripT t) = _; rw [e2]⟩
  rw [show Y1 ++ [(⟨1, wIs, 0, 0⟩ : TokC).put q, (⟨1, wNull, 0, 0⟩ : TokC).put q2] ++ r = Y1 ++ (⟨1, wIs, 0, 0⟩ : TokC).put q :: (⟨1, wNull, 0, 0⟩ : TokC).put q2 :: r by simp]
  unfold testF
  simp only [e1]
  rfl
theorem test_notnull {sub : Option Lvl} {X : List TokC} {T : Tree} (hX : Par (sumF sub) bS X T) : Par (testF sub) bR (X ++ [⟨1, wIs, 0, 0⟩, ⟨1, wNot, 0, 0⟩, ⟨1, wNull, 0, 0⟩]) (.un { op := oIsNot, pos := 0 } T) := by
  intro Y r p hY hb
  obtain ⟨Y1, Y2, rfl, hY1, hY2⟩ := put_app hY
  obtain ⟨q, Y3, rfl, h0⟩ := put_cons hY2
  obtain ⟨q2, Y4, rfl, h4⟩ := put_cons h0
  obtain ⟨q3, Y5, rfl, h5⟩ := put_cons h4
  obtain rfl := put_nil h5
  obtain ⟨t, e1, e2⟩ := hX Y1 ((⟨1, wIs, 0, 0⟩ : TokC).put q :: (⟨1, wNot, 0, 0⟩ : TokC).put q2 :: (⟨1, wNull, 0, 0⟩ : TokC).put q3 :: r) p hY1 rfl
  refine ⟨.un { op := oIsNot, pos := q } t, ?_, by show Tree.un _ (stripT t) = _; rw [e2]⟩
  rw [show Y1 ++ [(⟨1, wIs, 0, 0⟩ : TokC).put q, (⟨1, wNot, 0, 0⟩ : TokC).put q2, (⟨1, wNull, 0, 0⟩ : TokC).put q3] ++ r = Y1 ++ (⟨1, wIs, 0, 0⟩ : TokC).put q :: (⟨1, wNot, 0, 0⟩ : TokC).put q2 :: (⟨1, wNull, 0, 0⟩ : TokC).put q3 :: r by simp]
  unfold testF
  simp only [e1]
  rfl

/-! ### From what has no operator up to an expr -/
theorem up_minus {sub : Option Lvl} {X : List TokC} {T : Tree} (h : Par (primaryF sub) bP X T) (hh : hdB [wMinus] X) : Par (minusF sub) bP X T := before_no h hh
theorem up_term {sub : Option Lvl} {X : List TokC} {T : Tree} (h : Par (minusF sub) bP X T) : Par (termF sub) bT X T := join_one h (by decide) (by decide)
theorem up_sum {sub : Option Lvl} {X : List TokC} {T : Tree} (h : Par (termF sub) bT X T) : Par (sumF sub) bS X T := join_one h (by decide) (by decide)
theorem up_test {sub : Option Lvl} {X : List TokC} {T : Tree} (h : Par (sumF sub) bS X T) : Par (testF sub) bR X T := test_sum h
theorem up_not {sub : Option Lvl} {X : List TokC} {T : Tree} (h : Par (testF sub) bR X T) (hh : hdB [wNot] X) : Par (notF sub) bR X T := before_no h hh
theorem up_and {sub : Option Lvl} {X : List TokC} {T : Tree} (h : Par (notF sub) bR X T) : Par (andF sub) bA X T := join_one h (by decide) (by decide)
theorem up_expr {sub : Option Lvl} {X : List TokC} {T : Tree} (h : Par (andF sub) bA X T) : Par (exprF sub) bE X T := join_one h (by decide) (by decide)
end Go.Proofs.YtgbpoaimbjlamaaGreatDoor
