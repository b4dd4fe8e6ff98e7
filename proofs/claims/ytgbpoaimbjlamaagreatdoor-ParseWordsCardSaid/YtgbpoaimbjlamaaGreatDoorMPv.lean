/-
  How tokens are read as an expr, whatever their places. Plain; it speaks of no program; no condition.
-/
import Derived.Test.YtgbpoaimbjlamaaGreatDoorPtA
import Derived.Test.YtgbpoaimbjlamaaGreatDoorMPq
import Derived.Test.YtgbpoaimbjlamaaGreatDoorPsXp
namespace Go.Proofs.YtgbpoaimbjlamaaGreatDoor
open Go.RowKit
set_option linter.unusedVariables false

/-- A tree without its places. -/
def stripT : Tree → Tree
  | .leaf h => .leaf { h with pos := 0 }
  | .un h a => .un { h with pos := 0 } (stripT a)
  | .bin h a b => .bin { h with pos := 0 } (stripT a) (stripT b)
theorem nodeS_strip (h : Hd) (xs : List Bs) : nodeS { h with pos := 0 } xs = nodeS h xs := rfl
theorem showT_strip : ∀ t : Tree, showT (stripT t) = showT t := by
  intro t
  induction t with
  | leaf h => rfl
  | un h a ih => show nodeS _ [showT (stripT a)] = nodeS h [showT a]; rw [ih]; rfl
  | bin h a b iha ihb => show nodeS _ [showT (stripT a), showT (stripT b)] = nodeS h [showT a, showT b]; rw [iha, ihb]; rfl

def isC (t : TokC) (l : List Bs) : Bool := (decide (t.kind = 1) || decide (t.kind = 5)) && l.contains t.s
/-- The token that stands there is none of these. -/
def okB (bs : List Bs) (r : List Tok) : Prop := isC (r.headD zTok).strip bs = false
theorem okB.sub {bs bs' : List Bs} {r : List Tok} (h : okB bs r) (hs : ∀ x ∈ bs', x ∈ bs) : okB bs' r := by
  unfold okB isC at *
  rw [Bool.and_eq_false_iff] at *
  rcases h with h | h
  · exact .inl h
  · right
    rw [Bool.eq_false_iff] at *
    intro h2
    exact h (List.contains_iff_mem.2 (hs _ (List.contains_iff_mem.1 h2)))
theorem is_ok {r : List Tok} {p : Nat} {bs : List Bs} (h : okB bs r) : (⟨r, p, 0⟩ : PS).is bs = false := by
  unfold PS.is PS.now
  exact (Bool.and_eq_false_iff.2 (.inr h))
theorem is_put {t : TokC} {q p : Nat} {r : List Tok} {ws : List Bs} : (⟨t.put q :: r, p, 0⟩ : PS).is ws = isC t ws := by
  unfold PS.is PS.now isTok isC
  simp [TokC.put]
theorem takes_put {t : TokC} {q p : Nat} {r : List Tok} {w : Bs} (h : isC t [w] = true) : (⟨t.put q :: r, p, 0⟩ : PS).takes w = (true, ⟨r, p, 0⟩) := by
  unfold PS.takes
  rw [is_put, if_pos h]
  rfl
theorem takes_ok {r : List Tok} {p : Nat} {w : Bs} (h : okB [w] r) : (⟨r, p, 0⟩ : PS).takes w = (false, ⟨r, p, 0⟩) := by
  unfold PS.takes
  rw [is_ok h]
  rfl
theorem wants_put {t : TokC} {q p : Nat} {r : List Tok} {w : Bs} (h : isC t [w] = true) : (⟨t.put q :: r, p, 0⟩ : PS).wants [w] = ⟨r, p, 0⟩ := by
  show (⟨t.put q :: r, p, 0⟩ : PS).want w = _
  unfold PS.want
  rw [is_put, if_pos h]
  rfl
theorem put_cons {Y : List Tok} {x : TokC} {X : List TokC} (h : Y.map Tok.strip = x :: X) : ∃ q Y', Y = x.put q :: Y' ∧ Y'.map Tok.strip = X := by
  cases Y with
  | nil => cases h
  | cons y Y =>
    rw [List.map_cons] at h
    injection h with h1 h2
    exact ⟨y.pos, Y, by rw [← h1]; rfl, h2⟩
theorem put_nil {Y : List Tok} (h : Y.map Tok.strip = []) : Y = [] := List.map_eq_nil_iff.1 h
theorem put_app {Y : List Tok} {A B : List TokC} (h : Y.map Tok.strip = A ++ B) : ∃ Y1 Y2, Y = Y1 ++ Y2 ∧ Y1.map Tok.strip = A ∧ Y2.map Tok.strip = B := by
  obtain ⟨Y1, Y2, h1, h2, h3⟩ := List.map_eq_append_iff.1 h
  exact ⟨Y1, Y2, h1, h2, h3⟩

/-- Some tokens are read as this tree, if what follows does not go on with it. -/
def Par (F : PF) (bs : List Bs) (X : List TokC) (T : Tree) : Prop := ∀ (Y r : List Tok) (p : Nat), Y.map Tok.strip = X → okB bs r → ∃ t, F ⟨Y ++ r, p, 0⟩ = (t, ⟨r, p, 0⟩) ∧ stripT t = T
theorem Par.sub {F : PF} {bs bs' : List Bs} {X : List TokC} {T : Tree} (h : Par F bs X T) (hs : ∀ x ∈ bs, x ∈ bs') : Par F bs' X T := fun Y r p h1 h2 => h Y r p h1 (h2.sub hs)

def bP : List Bs := [wPoint]
def bT : List Bs := [wPoint, wStar, [47]]
def bS : List Bs := [wPoint, wStar, [47], [43], wMinus]
def bR : List Bs := [wPoint, wStar, [47], [43], wMinus, [61], [60, 62], [60], [60, 61], [62], [62, 61], wIs]
def bA : List Bs := [wPoint, wStar, [47], [43], wMinus, [61], [60, 62], [60], [60, 61], [62], [62, 61], wIs, [65, 78, 68]]
def bE : List Bs := [wPoint, wStar, [47], [43], wMinus, [61], [60, 62], [60], [60, 61], [62], [62, 61], wIs, [65, 78, 68], [79, 82]]

theorem par_num (sub : Option Lvl) (n sc : Nat) : Par (primaryF sub) bP [⟨3, [], n, sc⟩] (.leaf { op := oNumber, pos := 0, n := n, scale := sc }) := by
  intro Y r p h _
  obtain ⟨q, Y', rfl, h0⟩ := put_cons h
  obtain rfl := put_nil h0
  exact ⟨_, rfl, rfl⟩
theorem par_text (sub : Option Lvl) (s : Bs) : Par (primaryF sub) bP [⟨4, s, 0, 0⟩] (.leaf { op := oText, pos := 0, s := s }) := by
  intro Y r p h _
  obtain ⟨q, Y', rfl, h0⟩ := put_cons h
  obtain rfl := put_nil h0
  exact ⟨_, rfl, rfl⟩
theorem par_true (sub : Option Lvl) : Par (primaryF sub) bP [⟨1, wTrue, 0, 0⟩] (.leaf { op := oBool, pos := 0, n := 1 }) := by
  intro Y r p h _
  obtain ⟨q, Y', rfl, h0⟩ := put_cons h
  obtain rfl := put_nil h0
  exact ⟨_, rfl, rfl⟩
theorem par_false (sub : Option Lvl) : Par (primaryF sub) bP [⟨1, wFalse, 0, 0⟩] (.leaf { op := oBool, pos := 0 }) := by
  intro Y r p h _
  obtain ⟨q, Y', rfl, h0⟩ := put_cons h
  obtain rfl := put_nil h0
  exact ⟨_, rfl, rfl⟩
theorem par_null (sub : Option Lvl) : Par (primaryF sub) bP [⟨1, wNull, 0, 0⟩] (.leaf { op := oNull, pos := 0 }) := by
  intro Y r p h _
  obtain ⟨q, Y', rfl, h0⟩ := put_cons h
  obtain rfl := put_nil h0
  exact ⟨_, rfl, rfl⟩
theorem prim_colm (sub : Option Lvl) (a : Bs) (q p : Nat) (r : List Tok) : primaryF sub ⟨(⟨2, a, 0, 0⟩ : TokC).put q :: r, p, 0⟩ = columnF ⟨(⟨2, a, 0, 0⟩ : TokC).put q :: r, p, 0⟩ := rfl
theorem name_put (a : Bs) (q p : Nat) (r : List Tok) : (⟨(⟨2, a, 0, 0⟩ : TokC).put q :: r, p, 0⟩ : PS).name = (a, ⟨r, p, 0⟩) := rfl
theorem par_col1 (sub : Option Lvl) (a : Bs) : Par (primaryF sub) bP [⟨2, a, 0, 0⟩] (.leaf { op := oColumn, pos := 0, name := a }) := by
  intro Y r p h hb
  obtain ⟨q, Y', rfl, h0⟩ := put_cons h
  obtain rfl := put_nil h0
  refine ⟨.leaf { op := oColumn, pos := q, name := a }, ?_, rfl⟩
  show primaryF sub ⟨(⟨2, a, 0, 0⟩ : TokC).put q :: r, p, 0⟩ = _
  rw [prim_colm]
  unfold columnF
  simp only [name_put]
  have ht : (⟨r, p, 0⟩ : PS).takes wPoint = (false, ⟨r, p, 0⟩) := takes_ok hb
  refine (if_neg (by rw [ht]; simp)).trans ?_
  rw [ht]
  rfl
theorem par_col2 (sub : Option Lvl) (t a : Bs) : Par (primaryF sub) bP [⟨2, t, 0, 0⟩, ⟨5, wPoint, 0, 0⟩, ⟨2, a, 0, 0⟩] (.leaf { op := oColumn, pos := 0, table := t, name := a }) := by
  intro Y r p h hb
  obtain ⟨q, Y', rfl, h0⟩ := put_cons h
  obtain ⟨q2, Y'', rfl, h2⟩ := put_cons h0
  obtain ⟨q3, Y3, rfl, h3⟩ := put_cons h2
  obtain rfl := put_nil h3
  exact ⟨.leaf { op := oColumn, pos := q, table := t, name := a }, rfl, rfl⟩
theorem okB_shut {q : Nat} {r : List Tok} : okB bE ((⟨5, wShut, 0, 0⟩ : TokC).put q :: r) := rfl
theorem par_brk {L : Lvl} {X : List TokC} {T : Tree} (h : Par L.expr bE X T) : Par (primaryF (some L)) bP ([⟨5, wOpen, 0, 0⟩] ++ X ++ [⟨5, wShut, 0, 0⟩]) T := by
  intro Y r p hY _
  obtain ⟨Y1, Y2, rfl, h1, h2⟩ := put_app hY
  obtain ⟨q, Y0, rfl, h0⟩ := put_cons h1
  obtain ⟨q2, Y3, rfl, h3⟩ := put_cons h2
  obtain rfl := put_nil h3
  obtain ⟨t, e1, e2⟩ := h Y0 ((⟨5, wShut, 0, 0⟩ : TokC).put q2 :: r) p h0 okB_shut
  refine ⟨t, ?_, e2⟩
  have : primaryF (some L) ⟨(⟨5, wOpen, 0, 0⟩ : TokC).put q :: Y0 ++ [(⟨5, wShut, 0, 0⟩ : TokC).put q2] ++ r, p, 0⟩ = ((L.expr ⟨Y0 ++ (⟨5, wShut, 0, 0⟩ : TokC).put q2 :: r, p, 0⟩).1, (L.expr ⟨Y0 ++ (⟨5, wShut, 0, 0⟩ : TokC).put q2 :: r, p, 0⟩).2.wants [wShut]) := by
    rw [show (⟨5, wOpen, 0, 0⟩ : TokC).put q :: Y0 ++ [(⟨5, wShut, 0, 0⟩ : TokC).put q2] ++ r = (⟨5, wOpen, 0, 0⟩ : TokC).put q :: (Y0 ++ (⟨5, wShut, 0, 0⟩ : TokC).put q2 :: r) by simp]
    rfl
  rw [this, e1]
  show (t, (⟨(⟨5, wShut, 0, 0⟩ : TokC).put q2 :: r, p, 0⟩ : PS).wants [wShut]) = _
  rw [wants_put (by decide)]
/-- The first token is none of these. -/
def hdB (bs : List Bs) (X : List TokC) : Prop := ∃ x X', X = x :: X' ∧ isC x bs = false
theorem before_no {sub : Option Lvl} {word op : Bs} {own : Lvl → PF} {rest : PF} {bs : List Bs} {X : List TokC} {T : Tree} (h : Par rest bs X T) (hh : hdB [word] X) : Par (beforeF sub word op own rest) bs X T := by
  intro Y r p hY hb
  obtain ⟨t, e1, e2⟩ := h Y r p hY hb
  refine ⟨t, ?_, e2⟩
  obtain ⟨x, X', rfl, hx⟩ := hh
  obtain ⟨q, Y', rfl, h⟩ := put_cons hY
  unfold beforeF
  rw [show (x.put q :: Y' ++ r) = x.put q :: (Y' ++ r) by rfl, is_put, if_neg (by rw [hx]; decide)]
  exact e1
theorem before_yes {L : Lvl} {w : TokC} {word op : Bs} {own : Lvl → PF} {rest : PF} {bs : List Bs} {X : List TokC} {T : Tree} (hw : isC w [word] = true) (h : Par (own L) bs X T) : Par (beforeF (some L) word op own rest) bs ([w] ++ X) (.un { op := op, pos := 0 } T) := by
  intro Y r p hY hb
  obtain ⟨q, Y', rfl, hY'⟩ := put_cons hY
  obtain ⟨t, e1, e2⟩ := h Y' r p hY' hb
  refine ⟨.un { op := op, pos := q } t, ?_, by unfold stripT; rw [e2]⟩
  unfold beforeF
  rw [show (w.put q :: Y' ++ r) = w.put q :: (Y' ++ r) by rfl, is_put, if_pos hw]
  show ((.un { op := op, pos := q } (own L ⟨Y' ++ r, p, 0⟩).1 : Tree), (own L ⟨Y' ++ r, p, 0⟩).2) = _
  rw [e1]
theorem joinG_stop {part : PF} {ws : List Bs} {n : Nat} {x : Tree} {s : PS} (h : s.is ws = false) : joinG part ws n x s = (x, s) := by
  cases n with
  | zero => rfl
  | succ n => unfold joinG; rw [h]; rfl
theorem join_one {part : PF} {ws bs bs' : List Bs} {X : List TokC} {T : Tree} (h : Par part bs X T) (h1 : ∀ x ∈ bs, x ∈ bs') (h2 : ∀ x ∈ ws, x ∈ bs') : Par (joinF part ws) bs' X T := by
  intro Y r p hY hb
  obtain ⟨t, e1, e2⟩ := h Y r p hY (hb.sub h1)
  refine ⟨t, ?_, e2⟩
  unfold joinF
  rw [e1]
  exact joinG_stop (is_ok (hb.sub h2))
theorem join_two {part : PF} {ws bs bs' : List Bs} {X Z : List TokC} {o : TokC} {T U : Tree} (hX : Par part bs X T) (hZ : Par part bs Z U) (ho : isC o ws = true) (hob : isC o bs = false) (h1 : ∀ x ∈ bs, x ∈ bs') (h2 : ∀ x ∈ ws, x ∈ bs') :
    Par (joinF part ws) bs' (X ++ [o] ++ Z) (.bin { op := o.s.map lowc, pos := 0 } T U) := by
  intro Y r p hY hb
  obtain ⟨Y12, Y3, rfl, h12, h3⟩ := put_app hY
  obtain ⟨Y1, Y2, rfl, hY1, hY2⟩ := put_app h12
  obtain ⟨q, Y0, rfl, h0⟩ := put_cons hY2
  obtain rfl := put_nil h0
  obtain ⟨t, e1, e2⟩ := hX Y1 (o.put q :: (Y3 ++ r)) p hY1 hob
  obtain ⟨u, f1, f2⟩ := hZ Y3 r p h3 (hb.sub h1)
  refine ⟨.bin { op := o.s.map lowc, pos := q } t u, ?_, by unfold stripT; rw [e2, f2]⟩
  unfold joinF
  rw [show Y1 ++ [o.put q] ++ Y3 ++ r = Y1 ++ o.put q :: (Y3 ++ r) by simp, e1]
  show joinG part ws ((Y3 ++ r).length + 1) t ⟨o.put q :: (Y3 ++ r), p, 0⟩ = _
  unfold joinG
  rw [is_put, if_pos ho]
  show joinG part ws (Y3 ++ r).length (.bin { op := o.s.map lowc, pos := q } t (part ⟨Y3 ++ r, p, 0⟩).1) (part ⟨Y3 ++ r, p, 0⟩).2 = _
  rw [f1]
  exact joinG_stop (is_ok (hb.sub h2))
theorem join_three {part : PF} {ws bs bs' : List Bs} {X Z V : List TokC} {o o2 : TokC} {T U W : Tree} (hX : Par part bs X T) (hZ : Par part bs Z U) (hV : Par part bs V W) (ho : isC o ws = true) (hob : isC o bs = false) (ho2 : isC o2 ws = true) (hob2 : isC o2 bs = false) (h1 : ∀ x ∈ bs, x ∈ bs') (h2 : ∀ x ∈ ws, x ∈ bs') :
    Par (joinF part ws) bs' (X ++ [o] ++ Z ++ [o2] ++ V) (.bin { op := o2.s.map lowc, pos := 0 } (.bin { op := o.s.map lowc, pos := 0 } T U) W) := by
  intro Y r p hY hb
  obtain ⟨Y14, Y5, rfl, h14, h5⟩ := put_app hY
  obtain ⟨Y13, Y4, rfl, h13, h4⟩ := put_app h14
  obtain ⟨Y12, Y3, rfl, h12, h3⟩ := put_app h13
  obtain ⟨Y1, Y2, rfl, hY1, hY2⟩ := put_app h12
  obtain ⟨q, Y0, rfl, h0⟩ := put_cons hY2
  obtain rfl := put_nil h0
  obtain ⟨q2, Y0, rfl, h0⟩ := put_cons h4
  obtain rfl := put_nil h0
  obtain ⟨t, e1, e2⟩ := hX Y1 (o.put q :: (Y3 ++ o2.put q2 :: (Y5 ++ r))) p hY1 hob
  obtain ⟨u, f1, f2⟩ := hZ Y3 (o2.put q2 :: (Y5 ++ r)) p h3 hob2
  obtain ⟨v, g1, g2⟩ := hV Y5 r p h5 (hb.sub h1)
  refine ⟨.bin { op := o2.s.map lowc, pos := q2 } (.bin { op := o.s.map lowc, pos := q } t u) v, ?_, by
    show Tree.bin _ (Tree.bin _ (stripT t) (stripT u)) (stripT v) = _
    rw [e2, f2, g2]⟩
  unfold joinF
  rw [show Y1 ++ [o.put q] ++ Y3 ++ [o2.put q2] ++ Y5 ++ r = Y1 ++ o.put q :: (Y3 ++ o2.put q2 :: (Y5 ++ r)) by simp, e1]
  show joinG part ws ((Y3 ++ o2.put q2 :: (Y5 ++ r)).length + 1) t ⟨o.put q :: (Y3 ++ o2.put q2 :: (Y5 ++ r)), p, 0⟩ = _
  unfold joinG
  rw [is_put, if_pos ho]
  obtain ⟨k, hk⟩ : ∃ k, (Y3 ++ o2.put q2 :: (Y5 ++ r)).length = k + 1 := ⟨Y3.length + (Y5 ++ r).length, by simp only [List.length_append, List.length_cons]; omega⟩
  rw [hk]
  show joinG part ws (k + 1) (.bin { op := o.s.map lowc, pos := q } t (part ⟨Y3 ++ o2.put q2 :: (Y5 ++ r), p, 0⟩).1) (part ⟨Y3 ++ o2.put q2 :: (Y5 ++ r), p, 0⟩).2 = _
  rw [f1]
  unfold joinG
  rw [is_put, if_pos ho2]
  show joinG part ws k (.bin { op := o2.s.map lowc, pos := q2 } _ (part ⟨Y5 ++ r, p, 0⟩).1) (part ⟨Y5 ++ r, p, 0⟩).2 = _
  rw [g1]
  exact joinG_stop (is_ok (hb.sub h2))

theorem test_sum {sub : Option Lvl} {X : List TokC} {T : Tree} (h : Par (sumF sub) bS X T) : Par (testF sub) bR X T := by
  intro Y r p hY hb
  obtain ⟨t, e1, e2⟩ := h Y r p hY (hb.sub (by decide))
  refine ⟨t, ?_, e2⟩
  unfold testF
  simp only [e1]
  have hr : (⟨r, p, 0⟩ : PS).is relWords = false := is_ok (hb.sub (by decide))
  have ht : (⟨r, p, 0⟩ : PS).takes wIs = (false, ⟨r, p, 0⟩) := takes_ok (hb.sub (by decide))
  rw [if_neg (by rw [hr]; simp), if_neg (by rw [ht]; simp)]
theorem test_rel {sub : Option Lvl} {X Z : List TokC} {o : TokC} {T U : Tree} (hX : Par (sumF sub) bS X T) (hZ : Par (sumF sub) bS Z U) (ho : isC o relWords = true) (hob : isC o bS = false) : Par (testF sub) bS (X ++ [o] ++ Z) (.bin { op := o.s, pos := 0 } T U) := by
  intro Y r p hY hb
  obtain ⟨Y12, Y3, rfl, h12, h3⟩ := put_app hY
  obtain ⟨Y1, Y2, rfl, hY1, hY2⟩ := put_app h12
  obtain ⟨q, Y0, rfl, h0⟩ := put_cons hY2
  obtain rfl := put_nil h0
  obtain ⟨t, e1, e2⟩ := hX Y1 (o.put q :: (Y3 ++ r)) p hY1 hob
  obtain ⟨u, f1, f2⟩ := hZ Y3 r p h3 (hb.sub (by decide))
  refine ⟨.bin { op := o.s, pos := q } t u, ?_, by show Tree.bin _ (stripT t) (stripT u) = _; rw [e2, f2]⟩
  rw [show Y1 ++ [o.put q] ++ Y3 ++ r = Y1 ++ o.put q :: (Y3 ++ r) by simp]
  unfold testF
  simp only [e1]
  rw [if_pos (by rw [is_put]; exact ho)]
  show ((.bin { op := o.s, pos := q } t (sumF sub ⟨Y3 ++ r, p, 0⟩).1 : Tree), (sumF sub ⟨Y3 ++ r, p, 0⟩).2) = _
  rw [f1]
theorem test_null {sub : Option Lvl} {X : List TokC} {T : Tree} (hX : Par (sumF sub) bS X T) : Par (testF sub) bR (X ++ [⟨1, wIs, 0, 0⟩, ⟨1, wNull, 0, 0⟩]) (.un { op := oIs, pos := 0 } T) := by
  intro Y r p hY hb
  obtain ⟨Y1, Y2, rfl, hY1, hY2⟩ := put_app hY
  obtain ⟨q, Y3, rfl, h0⟩ := put_cons hY2
  obtain ⟨q2, Y4, rfl, h4⟩ := put_cons h0
  obtain rfl := put_nil h4
  obtain ⟨t, e1, e2⟩ := hX Y1 ((⟨1, wIs, 0, 0⟩ : TokC).put q :: (⟨1, wNull, 0, 0⟩ : TokC).put q2 :: r) p hY1 rfl
  refine ⟨.un { op := oIs, pos := q } t, ?_, by show Tree.un _ (stripT t) = _; rw [e2]⟩
  rw [show Y1 ++ [(⟨1, wIs, 0, 0⟩ : TokC).put q, (⟨1, wNull, 0, 0⟩ : TokC).put q2] ++ r = Y1 ++ (⟨1, wIs, 0, 0⟩ : TokC).put q :: (⟨1, wNull, 0, 0⟩ : TokC).put q2 :: r by simp]
  unfold testF
  simp only [e1]
  rfl
theorem test_notnull {sub : Option Lvl} {X : List TokC} {T : Tree} (hX : Par (sumF sub) bS X T) : Par (testF sub) bR (X ++ [⟨1, wIs, 0, 0⟩, ⟨1, wNot, 0, 0⟩, ⟨1, wNull, 0, 0⟩]) (.un { op := oIsNot, pos := 0 } T) := by
  intro Y r p hY hb
  obtain ⟨Y1, Y2, rfl, hY1, hY2⟩ := put_app hY
  obtain ⟨q, Y3, rfl, h0⟩ := put_cons hY2
  obtain ⟨q2, Y4, rfl, h4⟩ := put_cons h0
  obtain ⟨q3, Y5, rfl, h5⟩ := put_cons h4
  obtain rfl := put_nil h5
  obtain ⟨t, e1, e2⟩ := hX Y1 ((⟨1, wIs, 0, 0⟩ : TokC).put q :: (⟨1, wNot, 0, 0⟩ : TokC).put q2 :: (⟨1, wNull, 0, 0⟩ : TokC).put q3 :: r) p hY1 rfl
  refine ⟨.un { op := oIsNot, pos := q } t, ?_, by show Tree.un _ (stripT t) = _; rw [e2]⟩
  rw [show Y1 ++ [(⟨1, wIs, 0, 0⟩ : TokC).put q, (⟨1, wNot, 0, 0⟩ : TokC).put q2, (⟨1, wNull, 0, 0⟩ : TokC).put q3] ++ r = Y1 ++ (⟨1, wIs, 0, 0⟩ : TokC).put q :: (⟨1, wNot, 0, 0⟩ : TokC).put q2 :: (⟨1, wNull, 0, 0⟩ : TokC).put q3 :: r by simp]
  unfold testF
  simp only [e1]
  rfl

/-! ### From what has no operator up to an expr -/
theorem up_minus {sub : Option Lvl} {X : List TokC} {T : Tree} (h : Par (primaryF sub) bP X T) (hh : hdB [wMinus] X) : Par (minusF sub) bP X T := before_no h hh
theorem up_term {sub : Option Lvl} {X : List TokC} {T : Tree} (h : Par (minusF sub) bP X T) : Par (termF sub) bT X T := join_one h (by decide) (by decide)
theorem up_sum {sub : Option Lvl} {X : List TokC} {T : Tree} (h : Par (termF sub) bT X T) : Par (sumF sub) bS X T := join_one h (by decide) (by decide)
theorem up_test {sub : Option Lvl} {X : List TokC} {T : Tree} (h : Par (sumF sub) bS X T) : Par (testF sub) bR X T := test_sum h
theorem up_not {sub : Option Lvl} {X : List TokC} {T : Tree} (h : Par (testF sub) bR X T) (hh : hdB [wNot] X) : Par (notF sub) bR X T := before_no h hh
theorem up_and {sub : Option Lvl} {X : List TokC} {T : Tree} (h : Par (notF sub) bR X T) : Par (andF sub) bA X T := join_one h (by decide) (by decide)
theorem up_expr {sub : Option Lvl} {X : List TokC} {T : Tree} (h : Par (andF sub) bA X T) : Par (exprF sub) bE X T := join_one h (by decide) (by decide)
end Go.Proofs.YtgbpoaimbjlamaaGreatDoor

namespace Go.Proofs.YtgbpoaimbjlamaaGreatDoor
open Go.RowKit
set_option linter.unusedVariables false

/-- A mark of one sign that stands ahead of a blank. -/
theorem lexS_mark {c : UInt8} (h1 : isLet c = false) (h2 : isDig c = false) (h3 : c ≠ 39) (hb : isBl c = false) (hm : marks1.contains c = true) (hl : ∀ d, isBl d = true ∨ d = 41 ∨ d = 44 → marks2.contains [c, d] = false) : LexStop [c] [⟨5, [c], 0, 0⟩] := fun r p hr => by
  refine lex_tok (q := []) hb ?_
  show (if isLet c = true then _ else if isDig c = true then _ else if c = 39 then _ else markL (c :: ([] ++ r))) = _
  rw [if_neg (by rw [h1]; decide), if_neg (by rw [h2]; decide), if_neg h3]
  unfold markL
  have h0 : marks2.contains ((c :: ([] ++ r)).take 2) = false := by
    rcases hr with rfl | ⟨d, q, rfl, hd⟩
    · simp [marks2]
    · exact hl d hd
  rw [if_neg (by rw [h0]; decide)]
  simp only
  rw [if_pos hm]
  rfl
theorem stop_cases {d : UInt8} (h : isBl d = true ∨ d = 41 ∨ d = 44) : d = 32 ∨ d = 9 ∨ d = 10 ∨ d = 13 ∨ d = 41 ∨ d = 44 := by
  rcases h with h | h | h
  · simp only [isBl, Bool.or_eq_true, decide_eq_true_eq] at h
    rcases h with ((h | h) | h) | h
    · exact .inl (UInt8.toNat_inj.1 h)
    · exact .inr (.inl (UInt8.toNat_inj.1 h))
    · exact .inr (.inr (.inl (UInt8.toNat_inj.1 h)))
    · exact .inr (.inr (.inr (.inl (UInt8.toNat_inj.1 h))))
  · exact .inr (.inr (.inr (.inr (.inl h))))
  · exact .inr (.inr (.inr (.inr (.inr h))))
theorem lexS_mark1 {c : UInt8} (h : c = 61 ∨ c = 60 ∨ c = 62 ∨ c = 43 ∨ c = 45 ∨ c = 42 ∨ c = 47) : LexStop [c] [⟨5, [c], 0, 0⟩] := by
  rcases h with rfl | rfl | rfl | rfl | rfl | rfl | rfl
  all_goals
    refine lexS_mark (by decide) (by decide) (by decide) (by decide) (by decide) fun d hd => ?_
    rcases stop_cases hd with rfl | rfl | rfl | rfl | rfl | rfl <;> decide
/-- Two names with a point between. -/
theorem lexS_dot {a b : UInt8} (ha : isLet a = true) (hb : isLet b = true) (ka : isKey [upc a] = false) (kb : isKey [upc b] = false) : LexStop [a, 46, b] [⟨2, [a], 0, 0⟩, ⟨5, [46], 0, 0⟩, ⟨2, [b], 0, 0⟩] := by
  have h1 : ∀ (r : Bs) (p : Nat), ∃ us : List Tok, us.map Tok.strip = [⟨2, [a], 0, 0⟩] ∧ (∀ t ∈ us, p ≤ t.pos ∧ t.pos < p + [a].length) ∧ lexB ([a] ++ (46 :: r)) p = (lexB (46 :: r) (p + [a].length)).pre us := fun r p => by
    refine lex_tok (q := []) (let_bl ha) ?_
    have hl := let_LD ha
    have e : ((a :: ([] ++ 46 :: r)) : Bs).takeWhile isLD = [a] := by
      rw [List.takeWhile_cons, if_pos hl]
      show a :: List.takeWhile isLD (46 :: r) = [a]
      rw [List.takeWhile_cons, if_neg (by decide)]
    show (if isLet a = true then wordL (a :: ([] ++ 46 :: r)) else _) = _
    rw [if_pos ha]
    unfold wordL
    rw [e]
    rw [if_neg (by show ¬ isKey [upc a] = true; rw [ka]; decide), if_neg (by simp)]
  have h2 : LexAny [46] [⟨5, [46], 0, 0⟩] := lex_mark (by decide) (by decide) (by decide) (by decide) (by decide) (by intro d; simp [marks2])
  have h3 : LexStop [b] [⟨2, [b], 0, 0⟩] := lexS_name hb (fun x hx => by simp at hx; rw [hx]; exact let_LD hb) kb (by simp)
  have h23 := h2.appS h3
  intro r p hr
  have := lex_two (a := [a]) (b := [46] ++ [b]) (r := r) (p := p) (h1 _ p) (h23 r _ hr)
  exact this

/-- The names of the law's word, what tokens they are, and what tree. -/
def wdL (i : Nat) : Bs := ([[97], [98], [99], [100], [120], [121], [116, 46, 97], [116, 46, 98], [117, 46, 120], [117, 46, 121], [116, 46, 99], [117, 46, 122], [110, 111, 110, 101], [117, 46, 97]] : List Bs).getD i []
def wdT (l : Bs) : List TokC := if l.length = 3 then [⟨2, l.take 1, 0, 0⟩, ⟨5, wPoint, 0, 0⟩, ⟨2, l.drop 2, 0, 0⟩] else [⟨2, l, 0, 0⟩]
def wdE (l : Bs) : Tree := if l.length = 3 then .leaf { op := oColumn, pos := 0, table := l.take 1, name := l.drop 2 } else .leaf { op := oColumn, pos := 0, name := l }
theorem wd_cases {i : Nat} (h : i < 14) : (∃ c, isLet c = true ∧ isKey [upc c] = false ∧ wdL i = [c]) ∨ wdL i = [110, 111, 110, 101] ∨ ∃ a b, isLet a = true ∧ isLet b = true ∧ isKey [upc a] = false ∧ isKey [upc b] = false ∧ wdL i = [a, 46, b] := by
  have h2 : i = 0 ∨ i = 1 ∨ i = 2 ∨ i = 3 ∨ i = 4 ∨ i = 5 ∨ i = 6 ∨ i = 7 ∨ i = 8 ∨ i = 9 ∨ i = 10 ∨ i = 11 ∨ i = 12 ∨ i = 13 := by omega
  rcases h2 with rfl | rfl | rfl | rfl | rfl | rfl | rfl | rfl | rfl | rfl | rfl | rfl | rfl | rfl
  all_goals first
    | exact .inl ⟨_, by decide, by decide, rfl⟩
    | exact .inr (.inl rfl)
    | exact .inr (.inr ⟨_, _, by decide, by decide, by decide, by decide, rfl⟩)
theorem wd_lex {i : Nat} (h : i < 14) : LexStop (wdL i) (wdT (wdL i)) := by
  rcases wd_cases h with ⟨c, h1, h2, e⟩ | e | ⟨a, b, h1, h2, h3, h4, e⟩
  · rw [e]
    exact lexS_name h1 (fun x hx => by simp at hx; rw [hx]; exact let_LD h1) h2 (by simp)
  · rw [e]
    exact lexS_name (by decide) (by decide) (by decide) (by decide)
  · rw [e]
    exact lexS_dot h1 h2 h3 h4
theorem wd_par {i : Nat} (h : i < 14) (sub : Option Lvl) : Par (primaryF sub) bP (wdT (wdL i)) (wdE (wdL i)) := by
  rcases wd_cases h with ⟨c, h1, h2, e⟩ | e | ⟨a, b, h1, h2, h3, h4, e⟩
  · rw [e]; exact par_col1 sub [c]
  · rw [e]; exact par_col1 sub _
  · rw [e]; exact par_col2 sub [a] [b]
theorem wd_head {i : Nat} (h : i < 14) (bs : List Bs) : hdB bs (wdT (wdL i)) := by
  rcases wd_cases h with ⟨c, h1, h2, e⟩ | e | ⟨a, b, h1, h2, h3, h4, e⟩
  · rw [e]; exact ⟨_, _, rfl, rfl⟩
  · rw [e]; exact ⟨_, _, rfl, rfl⟩
  · rw [e]; exact ⟨_, _, rfl, rfl⟩
theorem wd_show {i : Nat} (h : i < 14) : showT (wdE (wdL i)) = wdL i := by
  rcases wd_cases h with ⟨c, h1, h2, e⟩ | e | ⟨a, b, h1, h2, h3, h4, e⟩
  · rw [e]; rfl
  · rw [e]; rfl
  · rw [e]; rfl
theorem wd_small {i : Nat} (h : i < 14) : (wdL i).length ≤ 4 ∧ wdL i ≠ [] := by
  rcases wd_cases h with ⟨c, h1, h2, e⟩ | e | ⟨a, b, h1, h2, h3, h4, e⟩
  · rw [e]; simp
  · rw [e]; simp
  · rw [e]; simp

/-! ### SELECT .. FROM t -/
def selT : Bs := [83, 69, 76, 69, 67, 84, 32]
def fromT : Bs := [32, 70, 82, 79, 77, 32, 116]
def selX (X : List TokC) : List TokC := [⟨1, wSelect, 0, 0⟩] ++ X ++ [⟨1, wFrom, 0, 0⟩, ⟨2, [116], 0, 0⟩]
theorem lex_sp : LexAny [32] [] := lex_blank (by decide)
theorem select_lex {l : Bs} {X : List TokC} (h : LexStop l X) : LexStop (selT ++ l ++ fromT) (selX X) := by
  have h1 : LexStop [83, 69, 76, 69, 67, 84] [⟨1, wSelect, 0, 0⟩] := lexS_word (by decide) (by decide) (by decide)
  have h2 : LexAny ([83, 69, 76, 69, 67, 84] ++ [32]) ([⟨1, wSelect, 0, 0⟩] ++ []) := h1.app lex_sp (.inr ⟨32, [], rfl, .inl (by decide)⟩) (by decide)
  have h3 : LexStop [70, 82, 79, 77] [⟨1, wFrom, 0, 0⟩] := lexS_word (by decide) (by decide) (by decide)
  have h4 : LexStop [116] [⟨2, [116], 0, 0⟩] := lexS_name (by decide) (by decide) (by decide) (by decide)
  have h5 := lex_sp.app (h3.app lex_sp (.inr ⟨32, [], rfl, .inl (by decide)⟩) (by decide))
  have h6 := h5.appS h4
  have h7 := (h2.appS h).appS h6 (.inr ⟨32, _, rfl, .inl (by decide)⟩) (by decide)
  have e1 : selT ++ l ++ fromT = [83, 69, 76, 69, 67, 84] ++ [32] ++ l ++ ([32] ++ ([70, 82, 79, 77] ++ [32]) ++ [116]) := rfl
  have e2 : selX X = [⟨1, wSelect, 0, 0⟩] ++ [] ++ X ++ ([] ++ ([⟨1, wFrom, 0, 0⟩] ++ []) ++ [⟨2, [116], 0, 0⟩]) := by simp [selX]
  rw [e1, e2]
  exact h7
/-- A whole text's tokens. -/
theorem lex_all {l : Bs} {X : List TokC} (h : LexStop l X) : ∃ Y q, lexAll l = .good (Y ++ [⟨0, q, [], 0, 0⟩]) ∧ Y.map Tok.strip = X := by
  obtain ⟨us, h1, -, h3⟩ := h [] 0 (.inl rfl)
  rw [List.append_nil] at h3
  refine ⟨us, 0 + l.length, ?_, h1⟩
  rw [← lexB_zero, h3]
  rfl
theorem end_ok {q : Nat} {r : List Tok} {bs : List Bs} : okB bs ((⟨0, q, [], 0, 0⟩ : Tok) :: r) := rfl
theorem select_query (E : PF) {x : TokC} {X' : List Tok} {t : Tree} {a b c d z : Nat} (hx : isC x [wStar] = false) (e1 : E ⟨x.put b :: X', 0, 0⟩ = (t, ⟨[(⟨1, wFrom, 0, 0⟩ : TokC).put c, (⟨2, [116], 0, 0⟩ : TokC).put d, (⟨0, z, [], 0, 0⟩ : Tok), (⟨0, z, [], 0, 0⟩ : Tok)], 0, 0⟩)) :
    queryF E ⟨(⟨1, wSelect, 0, 0⟩ : TokC).put a :: x.put b :: X', 0, 0⟩ = ({ items := [⟨t, []⟩], src := [116], srcAt := d }, ⟨[(⟨0, z, [], 0, 0⟩ : Tok), (⟨0, z, [], 0, 0⟩ : Tok)], 0, 0⟩) := by
  have hit : itemF E ⟨x.put b :: X', 0, 0⟩ = (⟨t, []⟩, ⟨[(⟨1, wFrom, 0, 0⟩ : TokC).put c, (⟨2, [116], 0, 0⟩ : TokC).put d, (⟨0, z, [], 0, 0⟩ : Tok), (⟨0, z, [], 0, 0⟩ : Tok)], 0, 0⟩) := by
    unfold itemF
    rw [e1]
    rfl
  have hli : listF (itemF E) ⟨x.put b :: X', 0, 0⟩ = ([⟨t, []⟩], ⟨[(⟨1, wFrom, 0, 0⟩ : TokC).put c, (⟨2, [116], 0, 0⟩ : TokC).put d, (⟨0, z, [], 0, 0⟩ : Tok), (⟨0, z, [], 0, 0⟩ : Tok)], 0, 0⟩) := by
    unfold listF
    rw [hit]
    rfl
  have hq1 : q1 E ⟨(⟨1, wSelect, 0, 0⟩ : TokC).put a :: x.put b :: X', 0, 0⟩ = ({ items := [⟨t, []⟩] }, ⟨[(⟨1, wFrom, 0, 0⟩ : TokC).put c, (⟨2, [116], 0, 0⟩ : TokC).put d, (⟨0, z, [], 0, 0⟩ : Tok), (⟨0, z, [], 0, 0⟩ : Tok)], 0, 0⟩) := by
    have ht : (⟨x.put b :: X', 0, 0⟩ : PS).takes wStar = (false, ⟨x.put b :: X', 0, 0⟩) := takes_ok (show okB [wStar] (x.put b :: X') from hx)
    unfold q1
    rw [wants_put (by decide)]
    simp only [ht, hli]
    rfl
  show q8 (q7 (q6 (q5 (q4 E (q3 E (q2 (q1 E _))))))) = _
  rw [hq1]
  obtain ⟨Z, hZ⟩ : ∃ Z : List Tok, [(⟨0, z, [], 0, 0⟩ : Tok), (⟨0, z, [], 0, 0⟩ : Tok)] = Z := ⟨_, rfl⟩
  have hk : ∀ w, (⟨Z, 0, 0⟩ : PS).takes w = (false, ⟨Z, 0, 0⟩) := fun w => takes_ok (by rw [← hZ]; rfl)
  have h2 : q2 ({ items := [⟨t, []⟩] }, ⟨[(⟨1, wFrom, 0, 0⟩ : TokC).put c, (⟨2, [116], 0, 0⟩ : TokC).put d, (⟨0, z, [], 0, 0⟩ : Tok), (⟨0, z, [], 0, 0⟩ : Tok)], 0, 0⟩) = ({ items := [⟨t, []⟩], src := [116], srcAt := d }, ⟨Z, 0, 0⟩) := by
    unfold q2
    simp only
    rw [wants_put (by decide), name_put, hZ]
    rfl
  rw [h2, hZ]
  generalize ({ items := [⟨t, []⟩], src := [116], srcAt := d } : QueryT) = Q
  have h3 : q3 E (Q, ⟨Z, 0, 0⟩) = (Q, ⟨Z, 0, 0⟩) := by unfold q3; simp only [hk]; rfl
  have h4 : q4 E (Q, ⟨Z, 0, 0⟩) = (Q, ⟨Z, 0, 0⟩) := by unfold q4; simp only [hk]; rfl
  have h5 : q5 (Q, ⟨Z, 0, 0⟩) = (Q, ⟨Z, 0, 0⟩) := by unfold q5; simp only [hk]; rfl
  have h6 : q6 (Q, ⟨Z, 0, 0⟩) = (Q, ⟨Z, 0, 0⟩) := by unfold q6; simp only [hk]; rfl
  have h7 : q7 (Q, ⟨Z, 0, 0⟩) = (Q, ⟨Z, 0, 0⟩) := by unfold q7; simp only [hk]; rfl
  have h8 : q8 (Q, ⟨Z, 0, 0⟩) = (Q, ⟨Z, 0, 0⟩) := by unfold q8; simp only [hk]; rfl
  rw [h3, h4, h5, h6, h7, h8]
/-- What the text SELECT .. FROM t is. -/
theorem select_parse {l : Bs} {X : List TokC} {T : Tree} (h : LexStop l X) (hp : Par (exprF (subOf 64)) bE X T) (hh : hdB [wStar] X) (hl : l.length ≤ 4000) : ∃ q t n, parseV (selT ++ l ++ fromT) = .good q ∧ q.items = [⟨t, n⟩] ∧ stripT t = T := by
  obtain ⟨Y0, z, h1, h2⟩ := lex_all (select_lex h)
  obtain ⟨Y1, Y2, rfl, h3, h4⟩ := put_app h2
  obtain ⟨Ya, Yb, rfl, h5, h6⟩ := put_app h3
  obtain ⟨q1', Yc, rfl, h7⟩ := put_cons h5
  obtain rfl := put_nil h7
  obtain ⟨q2', Yd, rfl, h8⟩ := put_cons h4
  obtain ⟨q3', Ye, rfl, h9⟩ := put_cons h8
  obtain rfl := put_nil h9
  obtain ⟨t, e1, e2⟩ := hp Yb ((⟨1, wFrom, 0, 0⟩ : TokC).put q2' :: (⟨2, [116], 0, 0⟩ : TokC).put q3' :: (⟨0, z, [], 0, 0⟩ : Tok) :: [(⟨0, z, [], 0, 0⟩ : Tok)]) 0 h6 rfl
  have hE : exprF (subOf 64) = (lvl 64).expr := by rw [lvl_eq]; rfl
  rw [hE] at e1
  have hsz : ¬ 4096 < (selT ++ l ++ fromT).length := by
    have e : (selT ++ l ++ fromT).length = 14 + l.length := by simp [selT, fromT]; omega
    omega
  have hps : parseV (selT ++ l ++ fromT) = parseT ([(⟨1, wSelect, 0, 0⟩ : TokC).put q1'] ++ Yb ++ [(⟨1, wFrom, 0, 0⟩ : TokC).put q2', (⟨2, [116], 0, 0⟩ : TokC).put q3'] ++ [(⟨0, z, [], 0, 0⟩ : Tok)]) := by
    unfold parseV
    rw [if_neg hsz]
    unfold parseAll
    rw [h1]
  obtain ⟨x, X', rfl, hx⟩ := hh
  obtain ⟨q4', Yf, rfl, h10⟩ := put_cons h6
  obtain ⟨q, s9, a1, a2, a3⟩ := parseT_split ([(⟨1, wSelect, 0, 0⟩ : TokC).put q1'] ++ (x.put q4' :: Yf) ++ [(⟨1, wFrom, 0, 0⟩ : TokC).put q2', (⟨2, [116], 0, 0⟩ : TokC).put q3'] ++ [(⟨0, z, [], 0, 0⟩ : Tok)])
  have hrest : ([(⟨1, wSelect, 0, 0⟩ : TokC).put q1'] ++ (x.put q4' :: Yf) ++ [(⟨1, wFrom, 0, 0⟩ : TokC).put q2', (⟨2, [116], 0, 0⟩ : TokC).put q3'] ++ [(⟨0, z, [], 0, 0⟩ : Tok)]) ++ ([(⟨1, wSelect, 0, 0⟩ : TokC).put q1'] ++ (x.put q4' :: Yf) ++ [(⟨1, wFrom, 0, 0⟩ : TokC).put q2', (⟨2, [116], 0, 0⟩ : TokC).put q3'] ++ [(⟨0, z, [], 0, 0⟩ : Tok)]).drop (([(⟨1, wSelect, 0, 0⟩ : TokC).put q1'] ++ (x.put q4' :: Yf) ++ [(⟨1, wFrom, 0, 0⟩ : TokC).put q2', (⟨2, [116], 0, 0⟩ : TokC).put q3'] ++ [(⟨0, z, [], 0, 0⟩ : Tok)]).length - 1) = (⟨1, wSelect, 0, 0⟩ : TokC).put q1' :: x.put q4' :: (Yf ++ (⟨1, wFrom, 0, 0⟩ : TokC).put q2' :: (⟨2, [116], 0, 0⟩ : TokC).put q3' :: (⟨0, z, [], 0, 0⟩ : Tok) :: [(⟨0, z, [], 0, 0⟩ : Tok)]) := by
    have hd : ∀ (A : List Tok) (b : Tok), (A ++ [b]).drop ((A ++ [b]).length - 1) = [b] := fun A b => by simp
    rw [hd]
    simp
  rw [hrest] at a1 a2
  have e1' : (lvl 64).expr ⟨x.put q4' :: (Yf ++ (⟨1, wFrom, 0, 0⟩ : TokC).put q2' :: (⟨2, [116], 0, 0⟩ : TokC).put q3' :: (⟨0, z, [], 0, 0⟩ : Tok) :: [(⟨0, z, [], 0, 0⟩ : Tok)]), 0, 0⟩ = _ := e1
  have hqf := select_query (lvl 64).expr (a := q1') hx e1'
  rw [hqf] at a1 a2
  have hs9 : s9 = ⟨[(⟨0, z, [], 0, 0⟩ : Tok)], 0, 0⟩ := a2.symm
  refine ⟨q, t, [], ?_, by rw [← a1], e2⟩
  rw [hps, a3, hs9]
  rfl
end Go.Proofs.YtgbpoaimbjlamaaGreatDoor

namespace Go.Proofs.YtgbpoaimbjlamaaGreatDoor
open Go.RowKit
set_option linter.unusedVariables false

/-- Some tokens are read as this tree at a level, from 5 (what a minus may stand ahead of) to 0 (an expr). -/
def Lv (sub : Option Lvl) (j : Nat) (X : List TokC) (T : Tree) : Prop :=
  match j with
  | 5 => Par (minusF sub) bP X T
  | 4 => Par (termF sub) bT X T
  | 3 => Par (sumF sub) bS X T
  | 2 => Par (notF sub) bR X T
  | 1 => Par (andF sub) bA X T
  | _ => Par (exprF sub) bE X T
theorem Lv.step {sub : Option Lvl} {X : List TokC} {T : Tree} (hh : hdB [wNot] X) : ∀ {j : Nat}, j ≤ 4 → Lv sub (j + 1) X T → Lv sub j X T := by
  intro j hj h
  have h5 : j = 0 ∨ j = 1 ∨ j = 2 ∨ j = 3 ∨ j = 4 := by omega
  rcases h5 with rfl | rfl | rfl | rfl | rfl
  · exact up_expr h
  · exact up_and h
  · exact up_not (up_test h) hh
  · exact up_sum h
  · exact up_term h
theorem Lv.to {sub : Option Lvl} {X : List TokC} {T : Tree} (hh : hdB [wNot] X) : ∀ {n j : Nat}, j + n ≤ 5 → Lv sub (j + n) X T → Lv sub j X T := by
  intro n
  induction n with
  | zero => intro j _ h; exact h
  | succ n ih =>
    intro j hj h
    exact Lv.step hh (by omega) (ih (j := j + 1) (by omega) (by rw [show j + 1 + n = j + (n + 1) by omega]; exact h))
/-- The operators, as tokens, their levels, and what they are printed as. -/
def opT (i : Nat) : TokC := ([⟨1, [79, 82], 0, 0⟩, ⟨1, [65, 78, 68], 0, 0⟩, ⟨5, [61], 0, 0⟩, ⟨5, [60], 0, 0⟩, ⟨5, [43], 0, 0⟩, ⟨5, [45], 0, 0⟩, ⟨5, [42], 0, 0⟩, ⟨5, [47], 0, 0⟩] : List TokC).getD i ⟨0, [], 0, 0⟩
def opL (i : Nat) : Bs := ([[111, 114], [97, 110, 100], [61], [60], [43], [45], [42], [47]] : List Bs).getD i []
def opV (i : Nat) : Nat := ([0, 1, 2, 2, 3, 3, 4, 4] : List Nat).getD i 0
theorem op_cases {i : Nat} (h : i < 8) : i = 0 ∨ i = 1 ∨ i = 2 ∨ i = 3 ∨ i = 4 ∨ i = 5 ∨ i = 6 ∨ i = 7 := by omega
theorem op_lex {i : Nat} (h : i < 8) : LexStop (opL i) [opT i] := by
  rcases op_cases h with rfl | rfl | rfl | rfl | rfl | rfl | rfl | rfl
  · exact lexS_word (c := 111) (q := [114]) (by decide) (by decide) (by decide)
  · exact lexS_word (c := 97) (q := [110, 100]) (by decide) (by decide) (by decide)
  · exact lexS_mark1 (by decide)
  · exact lexS_mark1 (by decide)
  · exact lexS_mark1 (by decide)
  · exact lexS_mark1 (by decide)
  · exact lexS_mark1 (by decide)
  · exact lexS_mark1 (by decide)
theorem op_low {i : Nat} (h : i < 8) : (opT i).s.map lowc = opL i := by
  rcases op_cases h with rfl | rfl | rfl | rfl | rfl | rfl | rfl | rfl <;> decide
theorem op_small {i : Nat} (h : i < 8) : (opL i).length ≤ 3 ∧ opL i ≠ [] := by
  rcases op_cases h with rfl | rfl | rfl | rfl | rfl | rfl | rfl | rfl <;> decide
theorem op_two {sub : Option Lvl} {i : Nat} (h : i < 8) {X Z : List TokC} {T U : Tree} (hX : Lv sub (opV i + 1) X T) (hZ : Lv sub (opV i + 1) Z U) (hh : hdB [wNot] X) : Lv sub (opV i) (X ++ [opT i] ++ Z) (.bin { op := opL i, pos := 0 } T U) := by
  have hh2 : hdB [wNot] (X ++ [opT i] ++ Z) := by
    obtain ⟨x, X', rfl, hx⟩ := hh
    exact ⟨x, X' ++ [opT i] ++ Z, by simp, hx⟩
  rw [← op_low h]
  rcases op_cases h with rfl | rfl | rfl | rfl | rfl | rfl | rfl | rfl
  · exact join_two (part := andF sub) hX hZ (by decide) (by decide) (by decide) (by decide)
  · exact join_two (part := notF sub) hX hZ (by decide) (by decide) (by decide) (by decide)
  · exact before_no ((test_rel (sub := sub) hX hZ (o := opT 2) (by decide) (by decide)).sub (by decide)) hh2
  · exact before_no ((test_rel (sub := sub) hX hZ (o := opT 3) (by decide) (by decide)).sub (by decide)) hh2
  · exact join_two (part := termF sub) hX hZ (by decide) (by decide) (by decide) (by decide)
  · exact join_two (part := termF sub) hX hZ (by decide) (by decide) (by decide) (by decide)
  · exact join_two (part := minusF sub) hX hZ (by decide) (by decide) (by decide) (by decide)
  · exact join_two (part := minusF sub) hX hZ (by decide) (by decide) (by decide) (by decide)
theorem op_three {sub : Option Lvl} {i k : Nat} (h : i < 8) (hk : k < 8) (hik : opV i = opV k) (h2 : opV i ≠ 2) {X Z V : List TokC} {T U W : Tree} (hX : Lv sub (opV i + 1) X T) (hZ : Lv sub (opV i + 1) Z U) (hV : Lv sub (opV i + 1) V W) :
    Lv sub (opV i) (X ++ [opT i] ++ Z ++ [opT k] ++ V) (.bin { op := opL k, pos := 0 } (.bin { op := opL i, pos := 0 } T U) W) := by
  rw [← op_low h, ← op_low hk]
  rcases op_cases h with rfl | rfl | rfl | rfl | rfl | rfl | rfl | rfl <;> rcases op_cases hk with rfl | rfl | rfl | rfl | rfl | rfl | rfl | rfl
  all_goals first
    | exact absurd hik (by decide)
    | exact absurd rfl h2
    | exact join_three (part := andF sub) hX hZ hV (by decide) (by decide) (by decide) (by decide) (by decide) (by decide)
    | exact join_three (part := notF sub) hX hZ hV (by decide) (by decide) (by decide) (by decide) (by decide) (by decide)
    | exact join_three (part := termF sub) hX hZ hV (by decide) (by decide) (by decide) (by decide) (by decide) (by decide)
    | exact join_three (part := minusF sub) hX hZ hV (by decide) (by decide) (by decide) (by decide) (by decide) (by decide)
theorem opV_le {i : Nat} (h : i < 8) : opV i ≤ 4 := by
  rcases op_cases h with rfl | rfl | rfl | rfl | rfl | rfl | rfl | rfl <;> decide

/-- The law's text, and its tokens. -/
def lvX (a i b k c : Nat) : Bs := wdL a ++ ([32] ++ (opL i ++ ([32] ++ (wdL b ++ ([32] ++ (opL k ++ ([32] ++ wdL c)))))))
def lvT (a i b k c : Nat) : List TokC := wdT (wdL a) ++ [opT i] ++ wdT (wdL b) ++ [opT k] ++ wdT (wdL c)
theorem sp_stop (r : Bs) : Stop ([32] ++ r) := .inr ⟨32, r, rfl, .inl (by decide)⟩
theorem lv_lex {a i b k c : Nat} (ha : a < 14) (hi : i < 8) (hb : b < 14) (hk : k < 8) (hc : c < 14) : LexStop (lvX a i b k c) (lvT a i b k c) := by
  have h1 := lex_sp.appS (wd_lex hc)
  have h2 := (op_lex hk).appS h1 (sp_stop _) (by simp)
  have h3 := lex_sp.appS h2
  have h4 := (wd_lex hb).appS h3 (sp_stop _) (by simp)
  have h5 := lex_sp.appS h4
  have h6 := (op_lex hi).appS h5 (sp_stop _) (by simp)
  have h7 := lex_sp.appS h6
  have h8 := (wd_lex ha).appS h7 (sp_stop _) (by simp)
  have e : lvT a i b k c = wdT (wdL a) ++ ([] ++ ([opT i] ++ ([] ++ (wdT (wdL b) ++ ([] ++ ([opT k] ++ ([] ++ wdT (wdL c)))))))) := by simp [lvT]
  rw [e]
  exact h8
def lvLeft (a i b k c : Nat) : Tree := .bin { op := opL k, pos := 0 } (.bin { op := opL i, pos := 0 } (wdE (wdL a)) (wdE (wdL b))) (wdE (wdL c))
def lvRight (a i b k c : Nat) : Tree := .bin { op := opL i, pos := 0 } (wdE (wdL a)) (.bin { op := opL k, pos := 0 } (wdE (wdL b)) (wdE (wdL c)))
theorem wd_lv {a : Nat} (ha : a < 14) (sub : Option Lvl) {j : Nat} (hj : j ≤ 5) : Lv sub j (wdT (wdL a)) (wdE (wdL a)) := by
  have h5 : Lv sub 5 (wdT (wdL a)) (wdE (wdL a)) := up_minus (wd_par ha sub) (wd_head ha _)
  exact Lv.to (wd_head ha _) (n := 5 - j) (by omega) (by rw [show j + (5 - j) = 5 by omega]; exact h5)
theorem hd_app {bs : List Bs} {X Z : List TokC} (h : hdB bs X) : hdB bs (X ++ Z) := by
  obtain ⟨x, X', rfl, hx⟩ := h
  exact ⟨x, X' ++ Z, by simp, hx⟩
theorem lv_left {a i b k c : Nat} (ha : a < 14) (hi : i < 8) (hb : b < 14) (hk : k < 8) (hc : c < 14) (h : opV k ≤ opV i) (h2 : ¬ (opV i = 2 ∧ opV k = 2)) (sub : Option Lvl) : Par (exprF sub) bE (lvT a i b k c) (lvLeft a i b k c) := by
  have li := opV_le hi
  have lk := opV_le hk
  have h0 : Lv sub (opV k) (lvT a i b k c) (lvLeft a i b k c) := by
    rcases Nat.lt_or_eq_of_le h with hlt | heq
    · have h1 := op_two hi (wd_lv ha sub (by omega)) (wd_lv hb sub (by omega)) (wd_head ha _)
      have h1' : Lv sub (opV k + 1) (wdT (wdL a) ++ [opT i] ++ wdT (wdL b)) (.bin { op := opL i, pos := 0 } (wdE (wdL a)) (wdE (wdL b))) := Lv.to (hd_app (hd_app (wd_head ha _))) (n := opV i - (opV k + 1)) (by omega) (by rw [show opV k + 1 + (opV i - (opV k + 1)) = opV i by omega]; exact h1)
      exact op_two hk h1' (wd_lv hc sub (by omega)) (hd_app (hd_app (wd_head ha _)))
    · have := op_three (sub := sub) hi hk heq.symm (fun h => h2 ⟨h, by omega⟩) (wd_lv ha sub (by omega)) (wd_lv hb sub (by omega)) (wd_lv hc sub (by omega))
      rw [← heq] at this
      exact this
  exact Lv.to (j := 0) (hd_app (hd_app (hd_app (hd_app (wd_head ha _))))) (n := opV k) (by omega) (by rw [Nat.zero_add]; exact h0)
theorem lv_right {a i b k c : Nat} (ha : a < 14) (hi : i < 8) (hb : b < 14) (hk : k < 8) (hc : c < 14) (h : opV i < opV k) (sub : Option Lvl) : Par (exprF sub) bE (lvT a i b k c) (lvRight a i b k c) := by
  have li := opV_le hi
  have lk := opV_le hk
  have h0 : Lv sub (opV i) (lvT a i b k c) (lvRight a i b k c) := by
    have h1 := op_two hk (wd_lv hb sub (by omega)) (wd_lv hc sub (by omega)) (wd_head hb _)
    have h1' : Lv sub (opV i + 1) (wdT (wdL b) ++ [opT k] ++ wdT (wdL c)) (.bin { op := opL k, pos := 0 } (wdE (wdL b)) (wdE (wdL c))) := Lv.to (hd_app (hd_app (wd_head hb _))) (n := opV k - (opV i + 1)) (by omega) (by rw [show opV i + 1 + (opV k - (opV i + 1)) = opV k by omega]; exact h1)
    have h2 := op_two hi (wd_lv ha sub (by omega)) h1' (wd_head ha _)
    have e : lvT a i b k c = wdT (wdL a) ++ [opT i] ++ (wdT (wdL b) ++ [opT k] ++ wdT (wdL c)) := by simp [lvT]
    rw [e]
    exact h2
  exact Lv.to (j := 0) (hd_app (hd_app (hd_app (hd_app (wd_head ha _))))) (n := opV i) (by omega) (by rw [Nat.zero_add]; exact h0)
end Go.Proofs.YtgbpoaimbjlamaaGreatDoor

namespace Go.Proofs.YtgbpoaimbjlamaaGreatDoor
open Go.RowKit
set_option linter.unusedVariables false

def showItems (l : List ItemT) : Bs := match l with | [i] => showT i.e | _ => []
/-- What the law's show answers of a text. -/
def showV (l : Bs) : Bs := match parseV (selT ++ l ++ fromT) with
  | .bad _ _ => []
  | .good q => showItems q.items
theorem showV_good {l : Bs} {X : List TokC} {T : Tree} (h : LexStop l X) (hp : Par (exprF (subOf 64)) bE X T) (hh : hdB [wStar] X) (hl : l.length ≤ 4000) : showV l = showT T := by
  obtain ⟨q, t, n, h1, h2, h3⟩ := select_parse h hp hh hl
  unfold showV
  rw [h1]
  simp only
  rw [h2]
  show showT t = _
  rw [← h3, showT_strip]
theorem wants_bad {r : List Tok} {p : Nat} {w : Bs} (h : okB [w] r) : ((⟨r, p, 0⟩ : PS).wants [w]).e = 8 := by
  show ((⟨r, p, 0⟩ : PS).want w).e = 8
  unfold PS.want
  rw [is_ok h]
  rfl
theorem queryF_split (E : PF) (s : PS) : queryF E s = q8 (q7 (q6 (q5 (q4 E (q3 E (q2 (q1 E s))))))) := rfl
/-- An error that stands behind FROM stays. -/
theorem tail_err {E : PF} (hE : Goes E) {x : QS} (h : x.2.e ≠ 0) : (q8 (q7 (q6 (q5 (q4 E (q3 E x)))))).2.e ≠ 0 := by
  have h3 : (q3 E x).2.e ≠ 0 := by rw [(aft_q3 hE x).err h]; exact h
  generalize q3 E x = y at *
  have h4 : (q4 E y).2.e ≠ 0 := by rw [(aft_q4 hE y).err h3]; exact h3
  generalize q4 E y = z at *
  have h5 : (q5 z).2.e ≠ 0 := by rw [(aft_q5 z).err h4]; exact h4
  generalize q5 z = u at *
  have h6 : (q6 u).2.e ≠ 0 := by rw [(aft_q6 u).err h5]; exact h5
  generalize q6 u = v at *
  have h7 : (q7 v).2.e ≠ 0 := by rw [(aft_q7 v).err h6]; exact h6
  generalize q7 v = o at *
  rw [(aft_q8 o).err h7]
  exact h7
/-- Where what is read ends at a token that may not stand there it is no query. -/
theorem select_bad (E : PF) (hE : Goes E) {x : TokC} {X' r : List Tok} {t : Tree} {a b : Nat} (hx : isC x [wStar] = false) (e1 : E ⟨x.put b :: X', 0, 0⟩ = (t, ⟨r, 0, 0⟩)) (hr : okB [wAs, wComma, wFrom] r) :
    (queryF E ⟨(⟨1, wSelect, 0, 0⟩ : TokC).put a :: x.put b :: X', 0, 0⟩).2.e ≠ 0 := by
  have hit : itemF E ⟨x.put b :: X', 0, 0⟩ = (⟨t, []⟩, ⟨r, 0, 0⟩) := by
    unfold itemF
    rw [e1]
    simp only [takes_ok (show okB [wAs] r from hr.sub (by decide))]
    rfl
  have hli : listF (itemF E) ⟨x.put b :: X', 0, 0⟩ = ([⟨t, []⟩], ⟨r, 0, 0⟩) := by
    unfold listF
    rw [hit]
    simp only
    cases r with
    | nil => rfl
    | cons y r =>
      show listG (itemF E) (r.length + 1) _ _ = _
      unfold listG
      simp only [takes_ok (show okB [wComma] (y :: r) from hr.sub (by decide))]
      rfl
  have hq1 : (q1 E ⟨(⟨1, wSelect, 0, 0⟩ : TokC).put a :: x.put b :: X', 0, 0⟩).2 = ⟨r, 0, 0⟩ := by
    have ht : (⟨x.put b :: X', 0, 0⟩ : PS).takes wStar = (false, ⟨x.put b :: X', 0, 0⟩) := takes_ok (show okB [wStar] (x.put b :: X') from hx)
    unfold q1
    rw [wants_put (by decide)]
    simp only [ht, hli]
    rfl
  have hq2 : (q2 (q1 E ⟨(⟨1, wSelect, 0, 0⟩ : TokC).put a :: x.put b :: X', 0, 0⟩)).2.e ≠ 0 := by
    unfold q2
    rw [hq1]
    simp only
    obtain ⟨y, hy⟩ : ∃ y, (⟨r, 0, 0⟩ : PS).wants [wFrom] = y := ⟨_, rfl⟩
    have h8 : ((⟨r, 0, 0⟩ : PS).wants [wFrom]).e ≠ 0 := by rw [wants_bad (show okB [wFrom] r from hr.sub (by decide))]; decide
    rw [hy] at h8 ⊢
    rw [(Aft.name y).err h8]
    exact h8
  rw [queryF_split]
  exact tail_err hE hq2
theorem of_err {s : PS} {k : Nat} (h : s.e ≠ 0) : (s.of k).2.2.e ≠ 0 := by
  unfold PS.of
  rw [if_neg (fun h2 => h h2.1)]
  unfold PS.fail
  rw [if_neg h]
  exact h
theorem select_none {l : Bs} {A B : List TokC} {o : TokC} {T : Tree} {bs : List Bs} (h : LexStop l (A ++ o :: B)) (hp : Par (exprF (subOf 64)) bs A T) (hh : hdB [wStar] A) (ho : isC o bs = false) (ho2 : isC o [wAs, wComma, wFrom] = false) (hl : l.length ≤ 4000) : showV l = [] := by
  obtain ⟨Y0, z, h1, h2⟩ := lex_all (select_lex h)
  obtain ⟨Y1, Y2, rfl, h3, h4⟩ := put_app h2
  obtain ⟨Ya, Yb, rfl, h5, h6⟩ := put_app h3
  obtain ⟨q1', Yc, rfl, h7⟩ := put_cons h5
  obtain rfl := put_nil h7
  obtain ⟨YA, YB, rfl, h8, h9⟩ := put_app h6
  obtain ⟨q2', YC, rfl, h10⟩ := put_cons h9
  have hsz : ¬ 4096 < (selT ++ l ++ fromT).length := by
    have e : (selT ++ l ++ fromT).length = 14 + l.length := by simp [selT, fromT]; omega
    omega
  obtain ⟨x, X', rfl, hx⟩ := hh
  obtain ⟨q4', Yf, rfl, h11⟩ := put_cons h8
  obtain ⟨Z, hZ⟩ : ∃ Z, ([(⟨1, wSelect, 0, 0⟩ : TokC).put q1'] ++ (x.put q4' :: Yf ++ o.put q2' :: YC) ++ Y2 ++ [(⟨0, z, [], 0, 0⟩ : Tok)]) = Z := ⟨_, rfl⟩
  obtain ⟨r, hr⟩ : ∃ r, o.put q2' :: (YC ++ Y2 ++ [(⟨0, z, [], 0, 0⟩ : Tok)] ++ [(⟨0, z, [], 0, 0⟩ : Tok)]) = r := ⟨_, rfl⟩
  have hrest : Z ++ Z.drop (Z.length - 1) = (⟨1, wSelect, 0, 0⟩ : TokC).put q1' :: x.put q4' :: (Yf ++ r) := by
    have hd : ∀ (A : List Tok) (b : Tok), (A ++ [b]).drop ((A ++ [b]).length - 1) = [b] := fun A b => by simp
    rw [← hZ, hd, ← hr]
    simp
  have hro : okB bs r := by rw [← hr]; exact ho
  have hro2 : okB [wAs, wComma, wFrom] r := by rw [← hr]; exact ho2
  obtain ⟨t, e1, e2⟩ := hp (x.put q4' :: Yf) r 0 h8 hro
  have hE : exprF (subOf 64) = (lvl 64).expr := by rw [lvl_eq]; rfl
  rw [hE] at e1
  obtain ⟨q, s9, a1, a2, a3⟩ := parseT_split Z
  rw [hrest] at a2
  have hb : (queryF (lvl 64).expr ⟨(⟨1, wSelect, 0, 0⟩ : TokC).put q1' :: x.put q4' :: (Yf ++ r), 0, 0⟩).2.e ≠ 0 := by
    have hg := (goes_lvl 64).expr
    clear hE a1 a2 a3 hrest hZ
    revert e1 hg
    generalize (lvl 64).expr = E
    intro e1 hg
    exact select_bad E hg (a := q1') hx e1 hro2
  generalize queryF (lvl 64).expr ⟨(⟨1, wSelect, 0, 0⟩ : TokC).put q1' :: x.put q4' :: (Yf ++ r), 0, 0⟩ = y at a2 hb
  have h9 : s9.e ≠ 0 := by rw [← a2]; exact of_err hb
  have hps : parseV (selT ++ l ++ fromT) = .bad s9.pos s9.e := by
    unfold parseV
    rw [if_neg hsz]
    unfold parseAll
    rw [h1]
    simp only
    rw [hZ, a3, if_neg h9]
  unfold showV
  rw [hps]

theorem bad_ne {l : Bs} {p k : Nat} (h : parseV l = .bad p k) : k ≠ 0 := by
  unfold parseV at h
  split at h
  · cases h; decide
  · unfold parseAll at h
    split at h
    · cases h; decide
    · rename_i ts hts
      obtain ⟨q, s9, -, -, h3⟩ := parseT_split ts
      rw [h3] at h
      split at h
      · cases h
      · rename_i he
        cases h
        exact he

/-! ### ParseLevels -/
theorem op_node {i : Nat} (h : i < 8) (a b : Tree) : showT (.bin { op := opL i, pos := 0 } a b) = [40] ++ (opL i ++ ([32] ++ (showT a ++ ([32] ++ (showT b ++ [41]))))) := by
  show nodeS _ [showT a, showT b] = _
  have hn : opL i ≠ oNumber ∧ opL i ≠ oText ∧ opL i ≠ oBool ∧ opL i ≠ oNull ∧ opL i ≠ oColumn := by
    rcases op_cases h with rfl | rfl | rfl | rfl | rfl | rfl | rfl | rfl <;> decide
  unfold nodeS
  rw [if_neg hn.1, if_neg hn.2.1, if_neg hn.2.2.1, if_neg hn.2.2.2.1, if_neg hn.2.2.2.2]
  simp [Lib.join]
theorem lvX_small {a i b k c : Nat} (ha : a < 14) (hi : i < 8) (hb : b < 14) (hk : k < 8) (hc : c < 14) : (lvX a i b k c).length ≤ 22 := by
  have h1 := wd_small ha
  have h2 := wd_small hb
  have h3 := wd_small hc
  have h4 := op_small hi
  have h5 := op_small hk
  simp only [lvX, List.length_append, List.length_cons, List.length_nil]
  omega
def leftS (a i b k c : Nat) : Bs := [40] ++ opL k ++ [32, 40] ++ opL i ++ [32] ++ wdL a ++ [32] ++ wdL b ++ [41, 32] ++ wdL c ++ [41]
def rightS (a i b k c : Nat) : Bs := [40] ++ opL i ++ [32] ++ wdL a ++ [32, 40] ++ opL k ++ [32] ++ wdL b ++ [32] ++ wdL c ++ [41, 41]
theorem left_show {a i b k c : Nat} (ha : a < 14) (hi : i < 8) (hb : b < 14) (hk : k < 8) (hc : c < 14) : showT (lvLeft a i b k c) = leftS a i b k c := by
  unfold lvLeft
  rw [op_node hk, op_node hi, wd_show ha, wd_show hb, wd_show hc]
  simp [leftS]
theorem right_show {a i b k c : Nat} (ha : a < 14) (hi : i < 8) (hb : b < 14) (hk : k < 8) (hc : c < 14) : showT (lvRight a i b k c) = rightS a i b k c := by
  unfold lvRight
  rw [op_node hi, op_node hk, wd_show ha, wd_show hb, wd_show hc]
  simp [rightS]
theorem rel_two {i : Nat} (h : i < 8) (h2 : opV i = 2) : isC (opT i) relWords = true ∧ isC (opT i) bS = false ∧ isC (opT i) (bS ++ [[65, 78, 68], [79, 82]]) = false ∧ isC (opT i) [wAs, wComma, wFrom] = false := by
  rcases op_cases h with rfl | rfl | rfl | rfl | rfl | rfl | rfl | rfl
  all_goals first | (revert h2; decide) | decide
theorem lv_none {a i b k c : Nat} (ha : a < 14) (hi : i < 8) (hb : b < 14) (hk : k < 8) (hc : c < 14) (h1 : opV i = 2) (h2 : opV k = 2) : showV (lvX a i b k c) = [] := by
  have r1 := rel_two hi h1
  have r2 := rel_two hk h2
  have p1 := test_rel (sub := subOf 64) (o := opT i) (wd_lv ha _ (j := 3) (by omega)) (wd_lv hb _ (j := 3) (by omega)) r1.1 r1.2.1
  have p2 : Par (notF (subOf 64)) bS _ _ := before_no p1 (hd_app (hd_app (wd_head ha _)))
  have p3 : Par (andF (subOf 64)) (bS ++ [[65, 78, 68]]) _ _ := join_one p2 (by decide) (by decide)
  have p4 : Par (exprF (subOf 64)) (bS ++ [[65, 78, 68], [79, 82]]) _ _ := join_one p3 (by decide) (by decide)
  have hl := lv_lex ha hi hb hk hc
  have e : lvT a i b k c = (wdT (wdL a) ++ [opT i] ++ wdT (wdL b)) ++ opT k :: wdT (wdL c) := by simp [lvT]
  rw [e] at hl
  exact select_none hl p4 (hd_app (hd_app (wd_head ha _))) r2.2.2.1 r2.2.2.2 (by have := lvX_small ha hi hb hk hc; omega)
/-- What the law's show answers of this text. -/
theorem lv_show {a i b k c : Nat} (ha : a < 14) (hi : i < 8) (hb : b < 14) (hk : k < 8) (hc : c < 14) :
    showV (lvX a i b k c) = if opV i = 2 ∧ opV k = 2 then [] else if opV k ≤ opV i then leftS a i b k c else rightS a i b k c := by
  have hs : (lvX a i b k c).length ≤ 4000 := by have := lvX_small ha hi hb hk hc; omega
  have hh : hdB [wStar] (lvT a i b k c) := hd_app (hd_app (hd_app (hd_app (wd_head ha _))))
  by_cases h2 : opV i = 2 ∧ opV k = 2
  · rw [if_pos h2]
    exact lv_none ha hi hb hk hc h2.1 h2.2
  rw [if_neg h2]
  by_cases h : opV k ≤ opV i
  · rw [if_pos h, showV_good (lv_lex ha hi hb hk hc) (lv_left ha hi hb hk hc h h2 _) hh hs, left_show ha hi hb hk hc]
  · rw [if_neg h, showV_good (lv_lex ha hi hb hk hc) (lv_right ha hi hb hk hc (by omega) _) hh hs, right_show ha hi hb hk hc]
end Go.Proofs.YtgbpoaimbjlamaaGreatDoor
