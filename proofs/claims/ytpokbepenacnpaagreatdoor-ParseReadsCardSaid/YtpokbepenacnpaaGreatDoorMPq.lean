/-
  What parse does with a whole query, in plain words. It speaks of no program; no condition.
-/
import Derived.Test.YtpokbepenacnpaaGreatDoorMPa
import Derived.Lib.ItoaLen
import Derived.Lib.Join
import Derived.Lib.Repeat
import Derived.Lib.Small
import Derived.Lib.Case
namespace Go.Proofs.YtpokbepenacnpaaGreatDoor
open Go.RowKit
set_option linter.unusedVariables false

def wSelect : Bs := [83, 69, 76, 69, 67, 84]
def wFrom : Bs := [70, 82, 79, 77]
def wJoin : Bs := [74, 79, 73, 78]
def wOn : Bs := [79, 78]
def wWhere : Bs := [87, 72, 69, 82, 69]
def wGroup : Bs := [71, 82, 79, 85, 80]
def wBy : Bs := [66, 89]
def wOrder : Bs := [79, 82, 68, 69, 82]
def wLimit : Bs := [76, 73, 77, 73, 84]
def wOffset : Bs := [79, 70, 70, 83, 69, 84]
def wAs : Bs := [65, 83]
def wDesc : Bs := [68, 69, 83, 67]
def wAsc : Bs := [65, 83, 67]

structure ItemT where
  e : Tree
  name : Bs
deriving DecidableEq
structure KeyT where
  pos : Nat
  item : Int
  name : Bs
  desc : Bool
deriving DecidableEq
structure QueryT where
  star : Bool := false
  items : List ItemT := []
  src : Bs := []
  join : Bs := []
  srcAt : Nat := 0
  joinAt : Nat := 0
  on : Option Tree := none
  whr : Option Tree := none
  group : List Tree := []
  order : List KeyT := []
  limit : Int := -1
  offset : Int := -1
deriving DecidableEq

/-- Some things, with commas between. -/
def listG {α : Type} (one : PS → α × PS) : Nat → List α → PS → List α × PS
  | 0, l, s => (l, s)
  | n + 1, l, s => if (s.takes wComma).1 = true then listG one n (l ++ [(one (s.takes wComma).2).1]) (one (s.takes wComma).2).2 else (l, (s.takes wComma).2)
def listF {α : Type} (one : PS → α × PS) (s : PS) : List α × PS := listG one (one s).2.rest.length [(one s).1] (one s).2
def itemF (E : PF) (s : PS) : ItemT × PS :=
  if ((E s).2.takes wAs).1 = true then (⟨(E s).1, ((E s).2.takes wAs).2.name.1⟩, ((E s).2.takes wAs).2.name.2) else (⟨(E s).1, []⟩, ((E s).2.takes wAs).2)
def keyHead (s : PS) : (Int × Bs) × PS := if s.now.kind = 2 then ((0, s.name.1), s.name.2) else ((s.count.1, []), s.count.2)
def keyF (s : PS) : KeyT × PS :=
  (⟨s.now.pos, (keyHead s).1.1, (keyHead s).1.2, ((keyHead s).2.takes wDesc).1⟩, if ((keyHead s).2.takes wDesc).1 = true then ((keyHead s).2.takes wDesc).2 else (((keyHead s).2.takes wDesc).2.takes wAsc).2)

abbrev QS := QueryT × PS
def q1 (E : PF) (s : PS) : QS :=
  let t := (s.wants [wSelect]).takes wStar
  if t.1 = true then ({ star := true }, t.2) else ({ items := (listF (itemF E) t.2).1 }, (listF (itemF E) t.2).2)
def q2 (x : QS) : QS :=
  let s1 := x.2.wants [wFrom]
  ({ x.1 with srcAt := s1.now.pos, src := s1.name.1 }, s1.name.2)
def q3 (E : PF) (x : QS) : QS :=
  let t := x.2.takes wJoin
  if t.1 = true then
    let s2 := t.2.name.2.wants [wOn]
    ({ x.1 with joinAt := t.2.now.pos, join := t.2.name.1, on := some (E s2).1 }, (E s2).2)
  else (x.1, t.2)
def q4 (E : PF) (x : QS) : QS :=
  let t := x.2.takes wWhere
  if t.1 = true then ({ x.1 with whr := some (E t.2).1 }, (E t.2).2) else (x.1, t.2)
def q5 (x : QS) : QS :=
  let t := x.2.takes wGroup
  if t.1 = true then ({ x.1 with group := (listF columnF (t.2.wants [wBy])).1 }, (listF columnF (t.2.wants [wBy])).2) else (x.1, t.2)
def q6 (x : QS) : QS :=
  let t := x.2.takes wOrder
  if t.1 = true then ({ x.1 with order := (listF keyF (t.2.wants [wBy])).1 }, (listF keyF (t.2.wants [wBy])).2) else (x.1, t.2)
def q7 (x : QS) : QS :=
  let t := x.2.takes wLimit
  if t.1 = true then ({ x.1 with limit := t.2.count.1 }, t.2.count.2) else (x.1, t.2)
def q8 (x : QS) : QS :=
  let t := x.2.takes wOffset
  if t.1 = true then ({ x.1 with offset := t.2.count.1 }, t.2.count.2) else (x.1, t.2)
def queryF (E : PF) (s : PS) : QS := q8 (q7 (q6 (q5 (q4 E (q3 E (q2 (q1 E s)))))))

/-- What a text is: a query, or where and how it fails. -/
inductive Parsed where
  | good (q : QueryT)
  | bad (pos e : Nat)
deriving DecidableEq
def parseT (ts : List Tok) : Parsed :=
  let x := queryF (lvl 64).expr ⟨ts ++ ts.drop (ts.length - 1), 0, 0⟩
  let s := (x.2.of 0).2.2
  if s.e = 0 then .good x.1 else .bad s.pos s.e
def parseAll (l : Bs) : Parsed := match lexAll l with | .bad p => .bad p 8 | .good ts => parseT ts

/-! ### The states go on -/
def GoesA {α : Type} (F : PS → α × PS) : Prop := ∀ s, Aft s (F s).2
theorem aft_count (s : PS) : Aft s s.count.2 := by
  unfold PS.count
  simp only
  have h : Aft s (if 0 < s.now.scale then s.fail 8 else s) := by split; exact Aft.fail s 8; exact Aft.refl s
  generalize (if 0 < s.now.scale then s.fail 8 else s) = s1 at *
  have h2 := h.trans (Aft.of s1 3 (by decide))
  by_cases hb : (s1.of 3).2.1 = true
  · rw [if_pos hb]; exact h2
  · rw [if_neg hb]; exact h2
theorem goes_listG {α : Type} {one : PS → α × PS} (h : GoesA one) : ∀ (n : Nat) (l : List α), GoesA (listG one n l) := by
  intro n
  induction n with
  | zero => intro l s; exact Aft.refl s
  | succ n ih =>
    intro l s
    unfold listG
    split
    · exact ((Aft.takes s wComma).trans (h _)).trans (ih _ _)
    · exact Aft.takes s wComma
theorem goes_list {α : Type} {one : PS → α × PS} (h : GoesA one) : GoesA (listF one) := fun s => (h s).trans (goes_listG h _ _ _)
theorem goes_item {E : PF} (h : Goes E) : GoesA (itemF E) := by
  intro s
  unfold itemF
  split
  · exact ((h s).trans (Aft.takes _ _)).trans (Aft.name _)
  · exact (h s).trans (Aft.takes _ _)
theorem goes_keyHead : GoesA keyHead := by
  intro s
  unfold keyHead
  split
  · exact Aft.name s
  · exact aft_count s
theorem goes_key : GoesA keyF := by
  intro s
  unfold keyF
  simp only
  split
  · exact (goes_keyHead s).trans (Aft.takes _ _)
  · exact ((goes_keyHead s).trans (Aft.takes _ _)).trans (Aft.takes _ _)
theorem aft_q1 {E : PF} (h : Goes E) (s : PS) : Aft s (q1 E s).2 := by
  unfold q1
  simp only
  split
  · exact (Aft.wants _ _).trans (Aft.takes _ _)
  · exact ((Aft.wants _ _).trans (Aft.takes _ _)).trans (goes_list (goes_item h) _)
theorem aft_q2 (x : QS) : Aft x.2 (q2 x).2 := (Aft.wants _ _).trans (Aft.name _)
theorem aft_q3 {E : PF} (h : Goes E) (x : QS) : Aft x.2 (q3 E x).2 := by
  unfold q3
  simp only
  split
  · exact (((Aft.takes _ _).trans (Aft.name _)).trans (Aft.wants _ _)).trans (h _)
  · exact Aft.takes _ _
theorem aft_q4 {E : PF} (h : Goes E) (x : QS) : Aft x.2 (q4 E x).2 := by
  unfold q4
  simp only
  split
  · exact (Aft.takes _ _).trans (h _)
  · exact Aft.takes _ _
theorem aft_q5 (x : QS) : Aft x.2 (q5 x).2 := by
  unfold q5
  simp only
  split
  · exact ((Aft.takes _ _).trans (Aft.wants _ _)).trans (goes_list goes_column _)
  · exact Aft.takes _ _
theorem aft_q6 (x : QS) : Aft x.2 (q6 x).2 := by
  unfold q6
  simp only
  split
  · exact ((Aft.takes _ _).trans (Aft.wants _ _)).trans (goes_list goes_key _)
  · exact Aft.takes _ _
theorem aft_q7 (x : QS) : Aft x.2 (q7 x).2 := by
  unfold q7
  simp only
  split
  · exact (Aft.takes _ _).trans (aft_count _)
  · exact Aft.takes _ _
theorem aft_q8 (x : QS) : Aft x.2 (q8 x).2 := by
  unfold q8
  simp only
  split
  · exact (Aft.takes _ _).trans (aft_count _)
  · exact Aft.takes _ _
theorem aft_query {E : PF} (h : Goes E) (s : PS) : Aft s (queryF E s).2 :=
  (aft_q1 h s).trans ((aft_q2 _).trans ((aft_q3 h _).trans ((aft_q4 h _).trans ((aft_q5 _).trans ((aft_q6 _).trans ((aft_q7 _).trans (aft_q8 _)))))))

/-- So much fuel is enough. -/
theorem listG_more {α : Type} {one : PS → α × PS} (h : GoesA one) : ∀ (n m : Nat) (l : List α) (s : PS), WfT s.rest → s.rest.length ≤ n → s.rest.length ≤ m → listG one n l s = listG one m l s := by
  intro n
  induction n with
  | zero =>
    intro m l s hw hn hm
    exact absurd (List.length_eq_zero_iff.1 (by omega)) hw.ne
  | succ n ih =>
    intro m l s hw hn hm
    cases m with
    | zero => exact absurd (List.length_eq_zero_iff.1 (by omega)) hw.ne
    | succ m =>
      unfold listG
      by_cases ht : (s.takes wComma).1 = true
      · rw [if_pos ht, if_pos ht]
        have hi : s.is [wComma] = true := by
          unfold PS.takes at ht
          split at ht
          · assumption
          · simp at ht
        have hT : s.takes wComma = (true, s.next) := by unfold PS.takes; rw [if_pos hi]
        have hA := Aft.next (is_kind hi).1 (is_kind hi).2
        have hB := h s.next
        have hl : s.next.rest.length + 1 = s.rest.length := by
          unfold PS.next
          cases hr : s.rest with
          | nil => exact absurd hr hw.ne
          | cons t r => simp
        rw [hT]
        exact ih m _ _ (hB.wf (hA.wf hw)) (by have := hB.len; show (one s.next).2.rest.length ≤ n; omega) (by have := hB.len; show (one s.next).2.rest.length ≤ m; omega)
      · rw [if_neg ht, if_neg ht]
end Go.Proofs.YtpokbepenacnpaaGreatDoor

namespace Go.Proofs.YtpokbepenacnpaaGreatDoor
open Go.RowKit
set_option linter.unusedVariables false

def TokOk (t : Tok) : Prop := t.kind ≤ 5 ∧ t.s.length ≤ 300 ∧ t.n ≤ 9223372036854775807 ∧ t.scale ≤ 9
def TokCOk (t : TokC) : Prop := t.kind ≤ 5 ∧ t.s.length ≤ 300 ∧ t.n ≤ 9223372036854775807 ∧ t.scale ≤ 9
theorem keyWords_len : ∀ x ∈ keyWords, x.length ≤ 300 := by decide
theorem tokL_ok {l : List UInt8} {t : TokC} {n : Nat} (h : tokL l = some (t, n)) : TokCOk t ∧ t.kind ≠ 0 := by
  cases l with
  | nil => simp [tokL] at h
  | cons c r =>
    unfold tokL at h
    simp only at h
    split at h
    · unfold wordL at h
      split at h
      · rename_i hk
        simp at h; obtain ⟨rfl, -⟩ := h
        have : ((c :: r).takeWhile isLD).map upc ∈ keyWords := by
          unfold isKey at hk
          exact List.contains_iff_mem.1 hk
        exact ⟨⟨Nat.le_of_ble_eq_true rfl, keyWords_len _ this, by simp, by simp⟩, by simp⟩
      · split at h
        · simp at h
        · rename_i h40
          simp at h; obtain ⟨rfl, -⟩ := h
          exact ⟨⟨Nat.le_of_ble_eq_true rfl, by show (List.takeWhile isLD (c :: r)).length ≤ 300; omega, by simp, by simp⟩, by simp⟩
    · split at h
      · unfold numberL at h
        split at h
        · simp at h
        · rename_i hn
          simp only [Option.some.injEq, Prod.mk.injEq] at h; obtain ⟨rfl, -⟩ := h
          simp only [not_or] at hn
          exact ⟨⟨Nat.le_of_ble_eq_true rfl, by simp, by show numVal _ ≤ _; omega, by show (fracL _).length ≤ _; omega⟩, by simp⟩
      · split at h
        · unfold textT at h
          split at h
          · simp at h
          · rename_i x hx
            split at h
            · simp at h
            · rename_i h2
              simp at h; obtain ⟨rfl, -⟩ := h
              exact ⟨⟨Nat.le_of_ble_eq_true rfl, by show x.1.length ≤ 300; omega, by simp, by simp⟩, by simp⟩
        · unfold markL at h
          split at h
          · simp at h; obtain ⟨rfl, -⟩ := h
            exact ⟨⟨Nat.le_of_ble_eq_true rfl, by simp; omega, by simp, by simp⟩, by simp⟩
          · simp only at h
            split at h
            · simp at h; obtain ⟨rfl, -⟩ := h
              exact ⟨⟨Nat.le_of_ble_eq_true rfl, by simp, by simp, by simp⟩, by simp⟩
            · simp at h
theorem lexF_ok : ∀ (f : Nat) (l : List UInt8) (p : Nat) (L : List Tok), lexF f l p = .good L → ∃ q I, L = I ++ [⟨0, q, [], 0, 0⟩] ∧ ∀ t ∈ I, TokOk t ∧ t.kind ≠ 0 := by
  intro f
  induction f with
  | zero => intro l p L h; cases h
  | succ f ih =>
    intro l p L h
    cases l with
    | nil => cases h; exact ⟨p, [], rfl, by simp⟩
    | cons c r =>
      unfold lexF at h
      simp only at h
      cases ht : tokL (c :: r) with
      | none => rw [ht] at h; cases h
      | some x =>
        obtain ⟨t, n⟩ := x
        rw [ht] at h
        simp only at h
        cases hr : lexF f (((c :: r).drop n).dropWhile isBl) (p + n + (((c :: r).drop n).takeWhile isBl).length) with
        | bad q => rw [hr] at h; cases h
        | good L2 =>
          rw [hr] at h
          obtain ⟨q, I, rfl, hI⟩ := ih _ _ _ hr
          simp only [Lexed.pre, Lexed.good.injEq] at h
          refine ⟨q, t.put p :: I, by rw [← h]; rfl, fun u hu => ?_⟩
          rcases List.mem_cons.1 hu with rfl | hu
          · exact tokL_ok ht
          · exact hI u hu
theorem lexAll_ok {l : List UInt8} {L : List Tok} (h : lexAll l = .good L) : ∃ q I, L = I ++ [⟨0, q, [], 0, 0⟩] ∧ ∀ t ∈ I, TokOk t ∧ t.kind ≠ 0 := lexF_ok _ _ _ _ h
theorem lexF_len : ∀ (f : Nat) (l : List UInt8) (p : Nat) (L : List Tok), lexF f l p = .good L → L.length ≤ l.length + 1 := by
  intro f
  induction f with
  | zero => intro l p L h; cases h
  | succ f ih =>
    intro l p L h
    cases l with
    | nil => cases h; simp
    | cons c r =>
      unfold lexF at h
      simp only at h
      cases ht : tokL (c :: r) with
      | none => rw [ht] at h; cases h
      | some x =>
        obtain ⟨t, n⟩ := x
        rw [ht] at h
        simp only at h
        have hn := tokL_le ht
        cases hr : lexF f (((c :: r).drop n).dropWhile isBl) (p + n + (((c :: r).drop n).takeWhile isBl).length) with
        | bad q => rw [hr] at h; cases h
        | good L2 =>
          rw [hr] at h
          have := ih _ _ _ hr
          have h3 := len_split isBl ((c :: r).drop n)
          have h4 : ((c :: r).drop n).length = (c :: r).length - n := List.length_drop
          simp only [Lexed.pre, Lexed.good.injEq] at h
          rw [← h]
          simp only [List.cons_append, List.nil_append, List.length_cons] at *
          omega
theorem lexAll_len {l : List UInt8} {L : List Tok} (h : lexAll l = .good L) : L.length ≤ l.length + 1 := by
  have := lexF_len _ _ _ _ h
  have h3 := len_split isBl l
  omega

def ToksOk (s : PS) : Prop := ∀ t ∈ s.rest, TokOk t
theorem ToksOk.aft {s s' : PS} (h : ToksOk s) (hA : Aft s s') : ToksOk s' := fun t ht => h t (hA.suf.subset ht)
theorem ToksOk.now {s : PS} (h : ToksOk s) : TokOk s.now := by
  unfold PS.now
  cases hr : s.rest with
  | nil => exact ⟨Nat.le_of_ble_eq_true rfl, Nat.le_of_ble_eq_true rfl, Nat.le_of_ble_eq_true rfl, Nat.le_of_ble_eq_true rfl⟩
  | cons t r => exact h t (by rw [hr]; exact List.mem_cons_self)
theorem ToksOk.nextk {s : PS} (h : ToksOk s) : ToksOk s.next := fun t ht => h t (List.mem_of_mem_tail ht)
theorem next_len {s : PS} (hk : s.now.kind ≠ 0) : s.next.rest.length + 1 = s.rest.length := by
  unfold PS.next
  cases hr : s.rest with
  | nil => unfold PS.now at hk; rw [hr] at hk; exact absurd rfl hk
  | cons t r => simp

def HdOk (h : Hd) : Prop := h.op.length ≤ 300 ∧ h.table.length ≤ 300 ∧ h.name.length ≤ 300 ∧ h.s.length ≤ 300 ∧ h.n ≤ 9223372036854775807 ∧ h.scale ≤ 9
def TreeOk : Tree → Prop
  | .leaf h => HdOk h
  | .un h a => HdOk h ∧ TreeOk a
  | .bin h a b => HdOk h ∧ TreeOk a ∧ TreeOk b
def nodes : Tree → Nat
  | .leaf _ => 1
  | .un _ a => nodes a + 1
  | .bin _ a b => nodes a + nodes b + 1
structure FineR (s : PS) (r : Tree × PS) : Prop where
  ok : TreeOk r.1
  cnt : nodes r.1 + 2 * r.2.rest.length ≤ 2 * s.rest.length + 1
def Fine (F : PF) : Prop := ∀ s, ToksOk s → FineR s (F s)

theorem of_ok {s : PS} (h : ToksOk s) (k : Nat) : TokOk (s.of k).1 := by
  unfold PS.of
  split
  · exact h.now
  · exact ⟨Nat.le_of_ble_eq_true rfl, Nat.le_of_ble_eq_true rfl, Nat.le_of_ble_eq_true rfl, Nat.le_of_ble_eq_true rfl⟩
theorem name_ok {s : PS} (h : ToksOk s) : s.name.1.length ≤ 300 := (of_ok h 2).2.1
theorem hd_ok {op : Bs} {pos : Nat} (h : op.length ≤ 300) : HdOk { op := op, pos := pos } := ⟨h, Nat.zero_le _, Nat.zero_le _, Nat.zero_le _, Nat.zero_le _, Nat.zero_le _⟩
theorem fine_column : Fine columnF := by
  intro s h
  have h1 := h.aft (Aft.name s)
  have h2 := h1.aft (Aft.takes s.name.2 wPoint)
  have l1 := (Aft.name s).len
  have l2 := (Aft.takes s.name.2 wPoint).len
  have l3 := (Aft.name (s.name.2.takes wPoint).2).len
  unfold columnF
  simp only
  split
  · exact ⟨⟨Nat.le_of_ble_eq_true rfl, name_ok h, name_ok h2, Nat.zero_le _, Nat.zero_le _, Nat.zero_le _⟩, by simp only [nodes]; omega⟩
  · exact ⟨⟨Nat.le_of_ble_eq_true rfl, Nat.zero_le _, name_ok h, Nat.zero_le _, Nat.zero_le _, Nat.zero_le _⟩, by simp only [nodes]; omega⟩
theorem fine_in {sub : Option Lvl} {body : Lvl → PF} {d : Tree} {s : PS} (hs : ToksOk s) (hk : s.now.kind ≠ 0) (hd : TreeOk d) (hd1 : nodes d = 1) (h : ∀ L, sub = some L → ∀ s1, ToksOk s1 → TreeOk (body L s1).1 ∧ nodes (body L s1).1 + 2 * (body L s1).2.rest.length ≤ 2 * s1.rest.length + 3) : FineR s (inF sub body d s) := by
  unfold inF
  split
  · have := (Aft.fail s 9).len
    exact ⟨hd, by simp only; omega⟩
  · rename_i L
    split
    · have := h L rfl s.next hs.nextk
      have := next_len hk
      exact ⟨by simp_all, by omega⟩
    · exact ⟨hd, by simp only; omega⟩
structure LvlFine (L : Lvl) : Prop where
  minus : Fine L.minus
  not : Fine L.not
  expr : Fine L.expr
def SubFine (sub : Option Lvl) : Prop := ∀ L, sub = some L → LvlFine L
theorem emp_ok : TreeOk emp := ⟨by decide, by decide, by decide, by decide, by decide, by decide⟩
theorem fine_brackets {sub : Option Lvl} (h : SubFine sub) {s : PS} (hs : ToksOk s) (hk : s.now.kind ≠ 0) : FineR s (bracketsF sub s) :=
  fine_in hs hk emp_ok rfl fun L hL s1 h1 => by
    have a := (h L hL).expr s1 h1
    have b := (Aft.wants [wShut] (L.expr s1).2).len
    have := a.cnt
    exact ⟨a.ok, by simp only; omega⟩
theorem lowc_len (l : Bs) : (l.map lowc).length = l.length := by simp
theorem fine_aggregate {sub : Option Lvl} (hg : SubGoes sub) (h : SubFine sub) {s : PS} (hs : ToksOk s) (hk : s.now.kind ≠ 0) : FineR s (aggregateF sub s) := by
  unfold aggregateF
  have hop : (s.now.s.map lowc).length ≤ 300 := by rw [lowc_len]; exact hs.now.2.1
  refine fine_in hs hk (hd_ok hop) rfl fun L hL s1 h1 => ?_
  simp only
  have w1 := Aft.wants [wOpen] s1
  have w2 := Aft.takes (s1.wants [wOpen]) wStar
  split
  · have w3 := Aft.wants [wShut] ((s1.wants [wOpen]).takes wStar).2
    have := w1.len; have := w2.len; have := w3.len
    exact ⟨hd_ok (by decide), by simp only [nodes]; omega⟩
  · split
    · have a := (h L hL).expr _ ((h1.aft w1).aft w2)
      have b := (Aft.wants [wShut] (L.expr ((s1.wants [wOpen]).takes wStar).2).2).len
      have := a.cnt; have := w1.len; have := w2.len
      exact ⟨⟨hd_ok hop, a.ok⟩, by simp only [nodes]; omega⟩
    · have a := (h L hL).expr _ (h1.aft w1)
      have b := (Aft.wants [wShut] (L.expr (s1.wants [wOpen])).2).len
      have := a.cnt; have := w1.len
      exact ⟨⟨hd_ok hop, a.ok⟩, by simp only [nodes]; omega⟩
theorem fine_primary {sub : Option Lvl} (hg : SubGoes sub) (h : SubFine sub) : Fine (primaryF sub) := by
  intro s hs
  have hnow := hs.now
  have hnx : s.next.rest.length ≤ s.rest.length := by unfold PS.next; simp
  unfold primaryF
  split
  · exact ⟨emp_ok, by simp only [emp, nodes]; omega⟩
  split
  · exact ⟨⟨Nat.le_of_ble_eq_true rfl, by simp, by simp, by simp, hnow.2.2.1, hnow.2.2.2⟩, by simp only [nodes]; omega⟩
  split
  · exact ⟨⟨Nat.le_of_ble_eq_true rfl, by simp, by simp, hnow.2.1, by simp, by simp⟩, by simp only [nodes]; omega⟩
  split
  · exact fine_column s hs
  split
  · exact ⟨⟨Nat.le_of_ble_eq_true rfl, by simp, by simp, by simp, by simp, by simp⟩, by simp only [nodes]; omega⟩
  split
  · exact ⟨⟨Nat.le_of_ble_eq_true rfl, by simp, by simp, by simp, by simp, by simp⟩, by simp only [nodes]; omega⟩
  split
  · exact ⟨⟨Nat.le_of_ble_eq_true rfl, by simp, by simp, by simp, by simp, by simp⟩, by simp only [nodes]; omega⟩
  split
  · rename_i hk; exact fine_brackets h hs (by omega)
  split
  · rename_i hk; exact fine_aggregate hg h hs (by omega)
  · have := (Aft.fail s 8).len
    exact ⟨emp_ok, by simp only [emp, nodes]; omega⟩
theorem fine_before {sub : Option Lvl} {w op : Bs} {own : Lvl → PF} {rest : PF} (hop : op.length ≤ 300) (h1 : ∀ L, sub = some L → Fine (own L)) (h2 : Fine rest) : Fine (beforeF sub w op own rest) := by
  intro s hs
  unfold beforeF
  split
  · rename_i hi
    refine fine_in hs (is_kind hi).2 (hd_ok hop) rfl fun L hL s1 h1s => ?_
    have a := h1 L hL s1 h1s
    have := a.cnt
    exact ⟨⟨hd_ok hop, a.ok⟩, by simp only [nodes]; omega⟩
  · exact h2 s hs
theorem fine_joinG {part : PF} (hg : Goes part) (h : Fine part) (ws : List Bs) : ∀ (n : Nat) (x : Tree) (s : PS) (B : Nat), ToksOk s → TreeOk x → nodes x + 2 * s.rest.length ≤ B → TreeOk (joinG part ws n x s).1 ∧ nodes (joinG part ws n x s).1 + 2 * (joinG part ws n x s).2.rest.length ≤ B := by
  intro n
  induction n with
  | zero => intro x s B h1 h2 h3; exact ⟨h2, h3⟩
  | succ n ih =>
    intro x s B h1 h2 h3
    unfold joinG
    split
    · rename_i hi
      have a := h s.next h1.nextk
      have := a.cnt
      have := next_len (is_kind hi).2
      exact ih _ _ _ (h1.nextk.aft (hg _)) ⟨hd_ok (by rw [lowc_len]; exact h1.now.2.1), h2, a.ok⟩ (by simp only [nodes]; omega)
    · exact ⟨h2, h3⟩
theorem fine_join {part : PF} (hg : Goes part) (h : Fine part) (ws : List Bs) : Fine (joinF part ws) := fun s hs => by
  have a := h s hs
  have := fine_joinG hg h ws (part s).2.rest.length (part s).1 (part s).2 _ (hs.aft (hg s)) a.ok a.cnt
  exact ⟨this.1, this.2⟩
theorem takes_yes {s : PS} {x : Bs} (h : (s.takes x).1 = true) : s.is [x] = true ∧ s.takes x = (true, s.next) := by
  unfold PS.takes at h ⊢
  split
  · rename_i hi; exact ⟨hi, rfl⟩
  · rename_i hi; rw [if_neg hi] at h; cases h
theorem fine_test {sub : Option Lvl} (hg : Goes (sumF sub)) (h : Fine (sumF sub)) : Fine (testF sub) := by
  intro s hs
  have a := h s hs
  have h1 := hs.aft (hg s)
  have ac := a.cnt
  unfold testF
  generalize hp : sumF sub s = p at *
  simp only
  split
  · rename_i hi
    have b := h _ h1.nextk
    have := b.cnt
    have := next_len (is_kind hi).2
    exact ⟨⟨hd_ok h1.now.2.1, a.ok, b.ok⟩, by simp only [nodes]; omega⟩
  split
  · rename_i hi hk
    obtain ⟨hi2, hT⟩ := takes_yes hk
    have := next_len (is_kind hi2).2
    have l1 := (Aft.takes (p.2.takes wIs).2 wNot).len
    have l2 := (Aft.wants [wNull] ((p.2.takes wIs).2.takes wNot).2).len
    rw [hT] at l1 l2 ⊢
    refine ⟨⟨hd_ok (by split <;> decide), a.ok⟩, ?_⟩
    simp only [nodes] at *
    omega
  · exact ⟨a.ok, ac⟩
theorem fine_mk {sub : Option Lvl} (hg : SubGoes sub) (h : SubFine sub) : LvlFine (mkLvl sub) := by
  have h1 : Fine (minusF sub) := fine_before (by decide) (fun L hL => (h L hL).minus) (fine_primary hg h)
  have h2 : Fine (sumF sub) := fine_join (goes_term hg) (fine_join (goes_minus hg) h1 _) _
  have h3 : Fine (notF sub) := fine_before (by decide) (fun L hL => (h L hL).not) (fine_test (goes_sum hg) h2)
  exact ⟨h1, h3, fine_join (goes_and hg) (fine_join (goes_not hg) h3 _) _⟩
theorem fine_lvl (f : Nat) : LvlFine (lvl f) := by
  induction f with
  | zero => exact fine_mk (fun L h => by cases h) (fun L h => by cases h)
  | succ f ih => exact fine_mk (fun L h => by cases h; exact goes_lvl f) (fun L h => by cases h; exact ih)

/-! ### A whole query -/
def TreeFine (t : Tree) : Prop := TreeOk t ∧ nodes t ≤ 20001
structure QueryOk (q : QueryT) : Prop where
  items : q.items.length ≤ 10001 ∧ ∀ i ∈ q.items, TreeFine i.e ∧ i.name.length ≤ 300
  src : q.src.length ≤ 300 ∧ q.join.length ≤ 300
  on : ∀ t, q.on = some t → TreeFine t
  whr : ∀ t, q.whr = some t → TreeFine t
  group : q.group.length ≤ 10001 ∧ ∀ t ∈ q.group, TreeFine t
  order : q.order.length ≤ 10001 ∧ ∀ k ∈ q.order, k.name.length ≤ 300 ∧ -1 ≤ k.item ∧ k.item ≤ 9223372036854775807
  limit : -1 ≤ q.limit ∧ q.limit ≤ 9223372036854775807
  offset : -1 ≤ q.offset ∧ q.offset ≤ 9223372036854775807
theorem Fine.tree {F : PF} (h : Fine F) {s : PS} (hs : ToksOk s) (hl : s.rest.length ≤ 10000) : TreeFine (F s).1 := ⟨(h s hs).ok, by have := (h s hs).cnt; omega⟩
theorem listG_all {α : Type} {one : PS → α × PS} (hg : GoesA one) {P : α → Prop} (h : ∀ s, ToksOk s → s.rest.length ≤ 10000 → P (one s).1) : ∀ (n : Nat) (l : List α) (s : PS), ToksOk s → s.rest.length ≤ 10000 → (∀ x ∈ l, P x) → (listG one n l s).1.length ≤ l.length + n ∧ ∀ x ∈ (listG one n l s).1, P x := by
  intro n
  induction n with
  | zero => intro l s h1 h2 h3; exact ⟨Nat.le_refl _, h3⟩
  | succ n ih =>
    intro l s h1 h2 h3
    unfold listG
    split
    · have hA := Aft.takes s wComma
      have ha := h _ (h1.aft hA) (Nat.le_trans hA.len h2)
      have := ih (l ++ [(one (s.takes wComma).2).1]) (one (s.takes wComma).2).2 ((h1.aft hA).aft (hg _)) (Nat.le_trans (hg _).len (Nat.le_trans hA.len h2)) (fun x hx => by
        rcases List.mem_append.1 hx with hx | hx
        · exact h3 x hx
        · simp at hx; rw [hx]; exact ha)
      refine ⟨?_, this.2⟩
      have h5 := this.1
      simp only [List.length_append, List.length_cons, List.length_nil] at h5
      omega
    · exact ⟨by simp only; omega, h3⟩
theorem listF_all {α : Type} {one : PS → α × PS} (hg : GoesA one) {P : α → Prop} (h : ∀ s, ToksOk s → s.rest.length ≤ 10000 → P (one s).1) {s : PS} (h1 : ToksOk s) (h2 : s.rest.length ≤ 10000) : (listF one s).1.length ≤ 10001 ∧ ∀ x ∈ (listF one s).1, P x := by
  have := listG_all hg h (one s).2.rest.length [(one s).1] (one s).2 (h1.aft (hg s)) (Nat.le_trans (hg s).len h2) (fun x hx => by simp at hx; rw [hx]; exact h s h1 h2)
  refine ⟨?_, this.2⟩
  have h5 := this.1
  have := (hg s).len
  unfold listF
  simp only [List.length_cons, List.length_nil] at h5
  omega
theorem count_ok {s : PS} (h : ToksOk s) : -1 ≤ s.count.1 ∧ s.count.1 ≤ 9223372036854775807 := by
  unfold PS.count
  simp only
  have h1 : ToksOk (if 0 < s.now.scale then s.fail 8 else s) := by split; exact h.aft (Aft.fail s 8); exact h
  generalize (if 0 < s.now.scale then s.fail 8 else s) = s1 at *
  have := (of_ok h1 3).2.2.1
  split <;> simp only <;> omega
theorem item_ok {E : PF} (hg : Goes E) (h : Fine E) (s : PS) (h1 : ToksOk s) (h2 : s.rest.length ≤ 10000) : TreeFine (itemF E s).1.e ∧ (itemF E s).1.name.length ≤ 300 := by
  unfold itemF
  split
  · exact ⟨h.tree h1 h2, name_ok ((h1.aft (hg s)).aft (Aft.takes _ _))⟩
  · exact ⟨h.tree h1 h2, Nat.zero_le _⟩
theorem key_ok (s : PS) (h1 : ToksOk s) (h2 : s.rest.length ≤ 10000) : (keyF s).1.name.length ≤ 300 ∧ -1 ≤ (keyF s).1.item ∧ (keyF s).1.item ≤ 9223372036854775807 := by
  unfold keyF keyHead
  simp only
  split
  · exact ⟨name_ok h1, by show (-1 : Int) ≤ 0; decide, by show (0 : Int) ≤ 9223372036854775807; decide⟩
  · exact ⟨Nat.zero_le _, (count_ok h1).1, (count_ok h1).2⟩
def QSOk (x : QS) : Prop := QueryOk x.1 ∧ ToksOk x.2 ∧ x.2.rest.length ≤ 10000
theorem query_ok0 : QueryOk {} := ⟨⟨by decide, by simp⟩, by decide, by simp, by simp, ⟨by decide, by simp⟩, ⟨by decide, by simp⟩, by decide, by decide⟩
theorem QSOk.aft {q : QueryT} {s s' : PS} (hq : QueryOk q) (h : ToksOk s) (hl : s.rest.length ≤ 10000) (hA : Aft s s') : QSOk (q, s') := ⟨hq, h.aft hA, Nat.le_trans hA.len hl⟩
theorem ok_q1 {E : PF} (hg : Goes E) (h : Fine E) {s : PS} (h1 : ToksOk s) (h2 : s.rest.length ≤ 10000) : QSOk (q1 E s) := by
  have hA := (Aft.wants [wSelect] s).trans (Aft.takes _ wStar)
  unfold q1
  simp only
  split
  · exact QSOk.aft { query_ok0 with } h1 h2 hA
  · exact QSOk.aft { query_ok0 with items := listF_all (goes_item hg) (item_ok hg h) (h1.aft hA) (Nat.le_trans hA.len h2) } h1 h2 (hA.trans (goes_list (goes_item hg) _))
theorem ok_q2 {x : QS} (h : QSOk x) : QSOk (q2 x) := by
  obtain ⟨hq, h1, h2⟩ := h
  have hA := Aft.wants [wFrom] x.2
  exact QSOk.aft { hq with src := ⟨name_ok (h1.aft hA), hq.src.2⟩ } h1 h2 (aft_q2 x)
theorem ok_q3 {E : PF} (hg : Goes E) (h : Fine E) {x : QS} (hx : QSOk x) : QSOk (q3 E x) := by
  obtain ⟨hq, h1, h2⟩ := hx
  have hA := Aft.takes x.2 wJoin
  have hB := hA.trans (Aft.name _)
  have hC := hB.trans (Aft.wants [wOn] _)
  unfold q3
  simp only
  split
  · exact QSOk.aft { hq with src := ⟨hq.src.1, name_ok (h1.aft hA)⟩, on := fun t ht => by cases ht; exact h.tree (h1.aft hC) (Nat.le_trans hC.len h2) } h1 h2 (hC.trans (hg _))
  · exact QSOk.aft hq h1 h2 hA
theorem ok_q4 {E : PF} (hg : Goes E) (h : Fine E) {x : QS} (hx : QSOk x) : QSOk (q4 E x) := by
  obtain ⟨hq, h1, h2⟩ := hx
  have hA := Aft.takes x.2 wWhere
  unfold q4
  simp only
  split
  · exact QSOk.aft { hq with whr := fun t ht => by cases ht; exact h.tree (h1.aft hA) (Nat.le_trans hA.len h2) } h1 h2 (hA.trans (hg _))
  · exact QSOk.aft hq h1 h2 hA
theorem ok_q5 {x : QS} (hx : QSOk x) : QSOk (q5 x) := by
  obtain ⟨hq, h1, h2⟩ := hx
  have hA := Aft.takes x.2 wGroup
  have hB := hA.trans (Aft.wants [wBy] _)
  unfold q5
  simp only
  split
  · exact QSOk.aft { hq with group := listF_all goes_column (fun s a b => fine_column.tree a b) (h1.aft hB) (Nat.le_trans hB.len h2) } h1 h2 (hB.trans (goes_list goes_column _))
  · exact QSOk.aft hq h1 h2 hA
theorem ok_q6 {x : QS} (hx : QSOk x) : QSOk (q6 x) := by
  obtain ⟨hq, h1, h2⟩ := hx
  have hA := Aft.takes x.2 wOrder
  have hB := hA.trans (Aft.wants [wBy] _)
  unfold q6
  simp only
  split
  · exact QSOk.aft { hq with order := listF_all goes_key (fun s a b => key_ok s a b) (h1.aft hB) (Nat.le_trans hB.len h2) } h1 h2 (hB.trans (goes_list goes_key _))
  · exact QSOk.aft hq h1 h2 hA
theorem ok_q7 {x : QS} (hx : QSOk x) : QSOk (q7 x) := by
  obtain ⟨hq, h1, h2⟩ := hx
  have hA := Aft.takes x.2 wLimit
  unfold q7
  simp only
  split
  · exact QSOk.aft { hq with limit := count_ok (h1.aft hA) } h1 h2 (hA.trans (aft_count _))
  · exact QSOk.aft hq h1 h2 hA
theorem ok_q8 {x : QS} (hx : QSOk x) : QSOk (q8 x) := by
  obtain ⟨hq, h1, h2⟩ := hx
  have hA := Aft.takes x.2 wOffset
  unfold q8
  simp only
  split
  · exact QSOk.aft { hq with offset := count_ok (h1.aft hA) } h1 h2 (hA.trans (aft_count _))
  · exact QSOk.aft hq h1 h2 hA
theorem queryF_ok {E : PF} (hg : Goes E) (h : Fine E) {s : PS} (h1 : ToksOk s) (h2 : s.rest.length ≤ 10000) : QSOk (queryF E s) :=
  ok_q8 (ok_q7 (ok_q6 (ok_q5 (ok_q4 hg h (ok_q3 hg h (ok_q2 (ok_q1 hg h h1 h2)))))))
/-- The tokens that parse goes through, the last one twice. -/
theorem begin_ok {l : List UInt8} {ts : List Tok} (h : lexAll l = .good ts) (hl : l.length ≤ 4096) : WfT (ts ++ ts.drop (ts.length - 1)) ∧ WfT (ts ++ ts.drop (ts.length - 1)).dropLast ∧ (∀ t ∈ ts ++ ts.drop (ts.length - 1), TokOk t) ∧ (ts ++ ts.drop (ts.length - 1)).length ≤ 10000 := by
  obtain ⟨q, I, rfl, hI⟩ := lexAll_ok h
  have hn := lexAll_len h
  have e : (I ++ [⟨0, q, [], 0, 0⟩] : List Tok).drop ((I ++ [⟨0, q, [], 0, 0⟩] : List Tok).length - 1) = [⟨0, q, [], 0, 0⟩] := by simp
  rw [e]
  have z : TokOk ⟨0, q, [], 0, 0⟩ := ⟨Nat.zero_le _, Nat.zero_le _, Nat.zero_le _, Nat.zero_le _⟩
  have hT : ∀ t ∈ I ++ [⟨0, q, [], 0, 0⟩], TokOk t := fun t ht => by
    rcases List.mem_append.1 ht with ht | ht
    · exact (hI t ht).1
    · simp at ht; rw [ht]; exact z
  have hW : WfT (I ++ [⟨0, q, [], 0, 0⟩]) := ⟨⟨_, List.getLast?_concat, rfl⟩, fun t ht => ⟨(hT t ht).1, by have := (hT t ht).2.1; omega⟩⟩
  refine ⟨⟨⟨_, List.getLast?_concat, rfl⟩, fun t ht => ?_⟩, ?_, fun t ht => ?_, ?_⟩
  · rcases List.mem_append.1 ht with ht | ht
    · exact hW.2 t ht
    · simp at ht; rw [ht]; exact ⟨Nat.zero_le _, Nat.zero_le _⟩
  · rw [List.dropLast_concat]; exact hW
  · rcases List.mem_append.1 ht with ht | ht
    · exact hT t ht
    · simp at ht; rw [ht]; exact z
  · simp only [List.length_append, List.length_cons, List.length_nil] at *
    omega
end Go.Proofs.YtpokbepenacnpaaGreatDoor

namespace Go.Proofs.YtpokbepenacnpaaGreatDoor
open Go.RowKit
set_option linter.unusedVariables false

/-- A number's digits, at least xs many xs stand behind its point and one more. -/
def numD (n sc : Nat) : Bs := if (0 : Int) < (sc : Int) + 1 - (Lib.itoa (n : Int)).length then Lib.repeatL [48] ((sc : Int) + 1 - (Lib.itoa (n : Int)).length).toNat ++ Lib.itoa (n : Int) else Lib.itoa (n : Int)
def numS (n sc : Nat) : Bs := if 0 < sc then (numD n sc).take ((numD n sc).length - sc) ++ [46] ++ (numD n sc).drop ((numD n sc).length - sc) else numD n sc
def nodeS (h : Hd) (xs : List Bs) : Bs :=
  if h.op = oNumber then numS h.n h.scale
  else if h.op = oText then [39] ++ h.s ++ [39]
  else if h.op = oBool then Lib.toUpperA (Lib.formatBool (decide (h.n = 1)))
  else if h.op = oNull then [78, 85, 76, 76]
  else if h.op = oColumn then (if h.table ≠ [] then h.table ++ [46] ++ h.name else h.name)
  else [40] ++ Lib.join (h.op :: xs) [32] ++ [41]
def showT : Tree → Bs
  | .leaf h => nodeS h []
  | .un h a => nodeS h [showT a]
  | .bin h a b => nodeS h [showT a, showT b]

theorem repeatL_one (c : UInt8) (n : Nat) : (Lib.repeatL [c] n).length = n := by
  induction n with
  | zero => rfl
  | succ n ih => unfold Lib.repeatL; simp [ih]
theorem numD_len (n sc : Nat) (hn : n ≤ 9223372036854775807) (hs : sc ≤ 9) : sc < (numD n sc).length ∧ (numD n sc).length ≤ 31 := by
  have h1 := Lib.itoa_length_le (n : Int) (by omega) (by omega)
  unfold numD
  split
  · rename_i h; rw [List.length_append, repeatL_one]; omega
  · rename_i h; omega
theorem numS_len (n sc : Nat) (hn : n ≤ 9223372036854775807) (hs : sc ≤ 9) : (numS n sc).length ≤ 32 := by
  have h1 := numD_len n sc hn hs
  unfold numS
  split
  · simp only [List.length_append, List.length_take, List.length_drop, List.length_cons, List.length_nil]; omega
  · omega
theorem join_len (x sep : Bs) (xs : List Bs) : (Lib.join (x :: xs) sep).length = x.length + (xs.map (fun a => sep.length + a.length)).sum := by
  unfold Lib.join
  induction xs generalizing x with
  | nil => simp [List.intercalate]
  | cons a xs ih =>
    have : sep.intercalate (x :: a :: xs) = x ++ sep ++ sep.intercalate (a :: xs) := by simp [List.intercalate, List.intersperse]
    rw [this, List.length_append, List.length_append, ih]
    simp only [List.map_cons, List.sum_cons]
    omega
theorem nodeS_len (h : Hd) (xs : List Bs) (hh : HdOk h) : (nodeS h xs).length ≤ 900 + (xs.map (fun a => 1 + a.length)).sum := by
  obtain ⟨h1, h2, h3, h4, h5, h6⟩ := hh
  unfold nodeS
  split
  · have := numS_len h.n h.scale h5 h6; omega
  split
  · simp; omega
  split
  · have : (Lib.toUpperA (Lib.formatBool (decide (h.n = 1)))).length ≤ 10 := by
      cases decide (h.n = 1) <;> decide +kernel
    omega
  split
  · simp; omega
  split
  · split
    · simp; omega
    · omega
  · have hj := join_len h.op [32] xs
    have e : ([32] : Bs).length = 1 := rfl
    rw [e] at hj
    simp only [List.length_append, List.length_cons, List.length_nil]
    omega
theorem showT_len : ∀ (t : Tree), TreeOk t → (showT t).length ≤ 1000 * nodes t := by
  intro t
  induction t with
  | leaf h => intro hk; have := nodeS_len h [] hk; simp only [showT, nodes, List.map_nil, List.sum_nil] at *; omega
  | un h a ih => intro hk; have := nodeS_len h [showT a] hk.1; have := ih hk.2; simp only [showT, nodes, List.map_cons, List.map_nil, List.sum_cons, List.sum_nil] at *; omega
  | bin h a b iha ihb => intro hk; have := nodeS_len h [showT a, showT b] hk.1; have := iha hk.2.1; have := ihb hk.2.2; simp only [showT, nodes, List.map_cons, List.map_nil, List.sum_cons, List.sum_nil] at *; omega
end Go.Proofs.YtpokbepenacnpaaGreatDoor

namespace Go.Proofs.YtpokbepenacnpaaGreatDoor
open Go.RowKit
set_option linter.unusedVariables false

def itemS (i : ItemT) : Bs := showT i.e ++ (if i.name = [] then [] else [32, 97, 115, 32] ++ i.name)
def showO : Option Tree → Bs
  | none => [45]
  | some t => showT t
def keyS (k : KeyT) : Bs := (if k.name = [] then Lib.itoa k.item else k.name) ++ (if k.desc = true then [45] else [])
def starL (q : QueryT) : List Bs := if q.star = true then [[42]] else []
def itemsL (q : QueryT) : List Bs := starL q ++ q.items.map itemS
def t1 (q : QueryT) : List Bs := [Lib.join (itemsL q) [44, 32], [102, 114, 111, 109], q.src]
def t2 (q : QueryT) : List Bs := t1 q ++ (if q.join = [] then [] else [[106, 111, 105, 110], q.join, [111, 110], showO q.on])
def t3 (q : QueryT) : List Bs := t2 q ++ (match q.whr with | none => [] | some t => [[119, 104, 101, 114, 101], showT t])
/-- The first few of a list, behind a word if there are any. -/
def headL (w : Bs) (l : List Bs) : List Bs := if l = [] then [] else w :: l
def t4 (q : QueryT) : List Bs := t3 q ++ headL [103, 114, 111, 117, 112] (q.group.map showT)
def t5 (q : QueryT) : List Bs := t4 q ++ headL [111, 114, 100, 101, 114] (q.order.map keyS)
def t6 (q : QueryT) : List Bs := t5 q ++ (if 0 ≤ q.limit then [[108, 105, 109, 105, 116], Lib.itoa q.limit] else [])
def t7 (q : QueryT) : List Bs := t6 q ++ (if 0 ≤ q.offset then [[111, 102, 102, 115, 101, 116], Lib.itoa q.offset] else [])
def queryS (q : QueryT) : Bs := Lib.join (t7 q) [32]

theorem showT_small {t : Tree} (h : TreeFine t) : (showT t).length ≤ 20001000 := by
  have := showT_len t h.1
  have := h.2
  omega
theorem sum_le {xs : List Bs} {k B : Nat} (h : ∀ a ∈ xs, a.length ≤ B) : (xs.map (fun a => k + a.length)).sum ≤ xs.length * (k + B) := by
  induction xs with
  | nil => simp
  | cons x xs ih =>
    have h1 := h x List.mem_cons_self
    have h2 := ih fun a ha => h a (List.mem_cons_of_mem _ ha)
    simp only [List.map_cons, List.sum_cons, List.length_cons, Nat.add_mul]
    omega
theorem itemS_small {i : ItemT} (h : TreeFine i.e ∧ i.name.length ≤ 300) : (itemS i).length ≤ 20001304 := by
  have h1 := showT_small h.1
  have h2 := h.2
  unfold itemS
  rw [List.length_append]
  split
  · simp; omega
  · simp; omega
theorem keyS_small {k : KeyT} (h : k.name.length ≤ 300 ∧ -1 ≤ k.item ∧ k.item ≤ 9223372036854775807) : (keyS k).length ≤ 301 := by
  have h1 := Lib.itoa_length_le k.item (by omega) h.2.2
  unfold keyS
  rw [List.length_append]
  split <;> split <;> simp <;> omega
theorem itemsL_bound {q : QueryT} (h : QueryOk q) : (itemsL q).length ≤ 10002 ∧ ∀ a ∈ itemsL q, a.length ≤ 20001304 := by
  unfold itemsL starL
  refine ⟨?_, fun a ha => ?_⟩
  · have := h.items.1
    split <;> simp <;> omega
  · rcases List.mem_append.1 ha with ha | ha
    · split at ha
      · simp at ha; rw [ha]; simp
      · simp at ha
    · obtain ⟨i, hi, rfl⟩ := List.mem_map.1 ha
      exact itemS_small (h.items.2 i hi)
theorem join_small {l : List Bs} {sep : Bs} {n B : Nat} (hn : l.length ≤ n) (h : ∀ a ∈ l, a.length ≤ B) : (Lib.join l sep).length ≤ n * (sep.length + B) + B := by
  cases l with
  | nil => simp [Lib.join, List.intercalate]
  | cons x xs =>
    rw [join_len]
    have h1 := h x List.mem_cons_self
    have h2 := sum_le (k := sep.length) fun a ha => h a (List.mem_cons_of_mem _ ha)
    have h3 : xs.length * (sep.length + B) ≤ n * (sep.length + B) := Nat.mul_le_mul_right _ (by simp at hn; omega)
    omega
theorem items_join_small {q : QueryT} (h : QueryOk q) : (Lib.join (itemsL q) [44, 32]).length ≤ 300000000000 := by
  have := join_small (sep := [44, 32]) (itemsL_bound h).1 (itemsL_bound h).2
  simp at this
  omega
theorem headL_len (w : Bs) (l : List Bs) : (headL w l).length ≤ l.length + 1 := by
  unfold headL
  split <;> simp
theorem headL_all {w : Bs} {l : List Bs} {B : Nat} (hw : w.length ≤ B) (h : ∀ a ∈ l, a.length ≤ B) : ∀ a ∈ headL w l, a.length ≤ B := by
  unfold headL
  intro a ha
  split at ha
  · simp at ha
  · rcases List.mem_cons.1 ha with rfl | ha
    · exact hw
    · exact h a ha
/-- The texts behind the first one. -/
def tailL (q : QueryT) : List Bs :=
  [[102, 114, 111, 109], q.src] ++ (if q.join = [] then [] else [[106, 111, 105, 110], q.join, [111, 110], showO q.on]) ++ (match q.whr with | none => [] | some t => [[119, 104, 101, 114, 101], showT t]) ++ headL [103, 114, 111, 117, 112] (q.group.map showT) ++ headL [111, 114, 100, 101, 114] (q.order.map keyS) ++ (if 0 ≤ q.limit then [[108, 105, 109, 105, 116], Lib.itoa q.limit] else []) ++ (if 0 ≤ q.offset then [[111, 102, 102, 115, 101, 116], Lib.itoa q.offset] else [])
theorem t7_eq (q : QueryT) : t7 q = Lib.join (itemsL q) [44, 32] :: tailL q := by
  simp [t7, t6, t5, t4, t3, t2, t1, tailL]
theorem tailL_bound {q : QueryT} (h : QueryOk q) : (tailL q).length ≤ 20100 ∧ ∀ a ∈ tailL q, a.length ≤ 20001000 := by
  have b1 : ((if q.join = [] then [] else [[106, 111, 105, 110], q.join, [111, 110], showO q.on] : List Bs)).length ≤ 4 ∧ ∀ a ∈ (if q.join = [] then [] else [[106, 111, 105, 110], q.join, [111, 110], showO q.on] : List Bs), a.length ≤ 20001000 := by
    split
    · simp
    · refine ⟨by simp, fun a ha => ?_⟩
      simp at ha
      rcases ha with rfl | rfl | rfl | rfl
      · simp
      · have := h.src.2; omega
      · simp
      · cases ho : q.on with
        | none => simp [showO]
        | some t => exact showT_small (h.on t ho)
  have b2 : ((match q.whr with | none => [] | some t => [[119, 104, 101, 114, 101], showT t] : List Bs)).length ≤ 2 ∧ ∀ a ∈ (match q.whr with | none => [] | some t => [[119, 104, 101, 114, 101], showT t] : List Bs), a.length ≤ 20001000 := by
    cases ho : q.whr with
    | none => simp
    | some t =>
      refine ⟨by simp, fun a ha => ?_⟩
      simp at ha
      rcases ha with rfl | rfl
      · simp
      · exact showT_small (h.whr t ho)
  have b3 := headL_len [103, 114, 111, 117, 112] (q.group.map showT)
  have b3' : ∀ a ∈ headL [103, 114, 111, 117, 112] (q.group.map showT), a.length ≤ 20001000 := headL_all (by simp) fun a ha => by
    obtain ⟨t, ht, rfl⟩ := List.mem_map.1 ha
    exact showT_small (h.group.2 t ht)
  have b4 := headL_len [111, 114, 100, 101, 114] (q.order.map keyS)
  have b4' : ∀ a ∈ headL [111, 114, 100, 101, 114] (q.order.map keyS), a.length ≤ 20001000 := headL_all (by simp) fun a ha => by
    obtain ⟨t, ht, rfl⟩ := List.mem_map.1 ha
    have := keyS_small (h.order.2 t ht)
    omega
  have b5 : ((if 0 ≤ q.limit then [[108, 105, 109, 105, 116], Lib.itoa q.limit] else [] : List Bs)).length ≤ 2 ∧ ∀ a ∈ (if 0 ≤ q.limit then [[108, 105, 109, 105, 116], Lib.itoa q.limit] else [] : List Bs), a.length ≤ 20001000 := by
    have := Lib.itoa_length_le q.limit (by have := h.limit; omega) h.limit.2
    split
    · refine ⟨by simp, fun a ha => ?_⟩
      simp at ha
      rcases ha with rfl | rfl
      · simp
      · omega
    · simp
  have b6 : ((if 0 ≤ q.offset then [[111, 102, 102, 115, 101, 116], Lib.itoa q.offset] else [] : List Bs)).length ≤ 2 ∧ ∀ a ∈ (if 0 ≤ q.offset then [[111, 102, 102, 115, 101, 116], Lib.itoa q.offset] else [] : List Bs), a.length ≤ 20001000 := by
    have := Lib.itoa_length_le q.offset (by have := h.offset; omega) h.offset.2
    split
    · refine ⟨by simp, fun a ha => ?_⟩
      simp at ha
      rcases ha with rfl | rfl
      · simp
      · omega
    · simp
  have g1 := h.group.1
  have g2 := h.order.1
  rw [List.length_map] at b3 b4
  unfold tailL
  refine ⟨?_, fun a ha => ?_⟩
  · simp only [List.length_append, List.length_cons, List.length_nil]
    omega
  · simp only [List.mem_append] at ha
    rcases ha with (((((ha | ha) | ha) | ha) | ha) | ha) | ha
    · simp at ha
      rcases ha with rfl | rfl
      · simp
      · have := h.src.1; omega
    · exact b1.2 a ha
    · exact b2.2 a ha
    · exact b3' a ha
    · exact b4' a ha
    · exact b5.2 a ha
    · exact b6.2 a ha
theorem t7_small {q : QueryT} (h : QueryOk q) : (t7 q).length ≤ 20101 ∧ (Lib.join (t7 q) [32]).length ≤ 1000000000000 := by
  have h1 := tailL_bound h
  have h2 := items_join_small h
  rw [t7_eq]
  refine ⟨by simp; omega, ?_⟩
  rw [join_len]
  have := sum_le (k := ([32] : Bs).length) h1.2
  have e : ([32] : Bs).length = 1 := rfl
  rw [e] at this ⊢
  have h3 : (tailL q).length * (1 + 20001000) ≤ 20100 * (1 + 20001000) := Nat.mul_le_mul_right _ h1.1
  omega
theorem tlen {q : QueryT} (h : QueryOk q) : (t1 q).length ≤ 20101 ∧ (t2 q).length ≤ 20101 ∧ (t3 q).length ≤ 20101 ∧ (t4 q).length ≤ 20101 ∧ (t5 q).length ≤ 20101 ∧ (t6 q).length ≤ 20101 := by
  have h7 := (t7_small h).1
  have h6 : (t6 q).length ≤ (t7 q).length := by unfold t7; rw [List.length_append]; omega
  have h5 : (t5 q).length ≤ (t6 q).length := by unfold t6; rw [List.length_append]; omega
  have h4 : (t4 q).length ≤ (t5 q).length := by unfold t5; rw [List.length_append]; omega
  have h3 : (t3 q).length ≤ (t4 q).length := by unfold t4; rw [List.length_append]; omega
  have h2 : (t2 q).length ≤ (t3 q).length := by unfold t3; rw [List.length_append]; omega
  have h1 : (t1 q).length ≤ (t2 q).length := by unfold t2; rw [List.length_append]; omega
  omega
theorem headL_pos {w : Bs} {l : List Bs} (h : l ≠ []) : headL w l = w :: l := by unfold headL; rw [if_neg h]
theorem headL_step {α : Type} (T : List Bs) (w : Bs) (f : α → Bs) (l : List α) (i : Nat) (hi : i < l.length) : T ++ headL w ((l.take (i + 1)).map f) = T ++ (w :: (l.take i).map f) ++ [f l[i]] := by
  rw [headL_pos (by
    intro h
    have h2 := congrArg List.length h
    rw [List.length_map, List.length_take, List.length_nil] at h2
    omega), List.take_succ_eq_append_getElem hi, List.map_append, List.append_assoc]
  rfl
end Go.Proofs.YtpokbepenacnpaaGreatDoor
