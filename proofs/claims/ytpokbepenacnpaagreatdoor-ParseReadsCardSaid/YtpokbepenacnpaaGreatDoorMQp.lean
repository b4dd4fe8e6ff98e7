/-
  The tokens of a text: words are words, marks are short. Plain; it speaks of no program; no condition.
-/
import Derived.Test.YtpokbepenacnpaaGreatDoorMPq
import Derived.Test.YtpokbepenacnpaaGreatDoorMQa
import Derived.Test.YtpokbepenacnpaaGreatDoorMPy
namespace Go.Proofs.YtpokbepenacnpaaGreatDoor
open Go.RowKit
set_option linter.unusedVariables false

theorem tokL_w {l : List UInt8} {t : TokC} {n : Nat} (h : tokL l = some (t, n)) : (t.kind = 1 → t.s ∈ keyWords) ∧ (t.kind = 5 → t.s.length ≤ 2) := by
  cases l with
  | nil => simp [tokL] at h
  | cons c r =>
    unfold tokL at h
    simp only at h
    split at h
    · unfold wordL at h
      split at h
      · rename_i hk
        simp at h; obtain ⟨rfl, -⟩ := h
        have : ((c :: r).takeWhile isLD).map upc ∈ keyWords := by
          unfold isKey at hk
          exact List.contains_iff_mem.1 hk
        exact ⟨fun _ => this, (fun h => by cases h)⟩
      · split at h
        · simp at h
        · simp at h; obtain ⟨rfl, -⟩ := h
          exact ⟨(fun h => by cases h), (fun h => by cases h)⟩
    · split at h
      · unfold numberL at h
        split at h
        · simp at h
        · simp only [Option.some.injEq, Prod.mk.injEq] at h; obtain ⟨rfl, -⟩ := h
          exact ⟨(fun h => by cases h), (fun h => by cases h)⟩
      · split at h
        · unfold textT at h
          split at h
          · simp at h
          · split at h
            · simp at h
            · simp at h; obtain ⟨rfl, -⟩ := h
              exact ⟨(fun h => by cases h), (fun h => by cases h)⟩
        · unfold markL at h
          split at h
          · simp at h; obtain ⟨rfl, -⟩ := h
            exact ⟨(fun h => by cases h), (fun _ => by simp; omega)⟩
          · simp only at h
            split at h
            · simp at h; obtain ⟨rfl, -⟩ := h
              exact ⟨(fun h => by cases h), (fun _ => by simp)⟩
            · simp at h
theorem lexF_w : ∀ (f : Nat) (l : List UInt8) (p : Nat) (L : List Tok), lexF f l p = .good L → ∀ t ∈ L, TokW t := by
  intro f
  induction f with
  | zero => intro l p L h; cases h
  | succ f ih =>
    intro l p L h
    cases l with
    | nil => cases h; intro t ht; simp at ht; subst ht; exact ⟨(fun h => by cases h), (fun h => by cases h)⟩
    | cons c r =>
      unfold lexF at h
      simp only at h
      cases ht : tokL (c :: r) with
      | none => rw [ht] at h; cases h
      | some x =>
        obtain ⟨t, n⟩ := x
        rw [ht] at h
        simp only at h
        cases hr : lexF f (((c :: r).drop n).dropWhile isBl) (p + n + (((c :: r).drop n).takeWhile isBl).length) with
        | bad q => rw [hr] at h; cases h
        | good L2 =>
          rw [hr] at h
          have hI := ih _ _ _ hr
          simp only [Lexed.pre, Lexed.good.injEq] at h
          intro u hu
          rw [← h] at hu
          rcases List.mem_cons.1 hu with rfl | hu
          · exact tokL_w ht
          · exact hI u hu
theorem lexAll_w {l : List UInt8} {L : List Tok} (h : lexAll l = .good L) : ∀ t ∈ L, TokW t := lexF_w _ _ _ _ h
/-- What fits goes on: an error that the end is found to be makes none of what failed. -/
theorem of_zero_e {s : PS} (h : (s.of 0).2.2.e = 0) : s.e = 0 := by
  unfold PS.of at h
  split at h
  · rename_i h1; exact h1.1
  · unfold PS.fail at h
    split at h
    · cases h
    · exact h
end Go.Proofs.YtpokbepenacnpaaGreatDoor

namespace Go.Proofs.YtpokbepenacnpaaGreatDoor
open Go.RowKit
set_option linter.unusedVariables false

/-- A query that was read: with a star there are no items; a key's number is none below 0. -/
structure QuerySt (q : QueryT) : Prop where
  star : q.star = true → q.items = []
  keys : ∀ k ∈ q.order, 0 ≤ k.item
theorem Aft.e0 {s s' : PS} (h : Aft s s') (h0 : s'.e = 0) : s.e = 0 := by
  by_cases he : s.e = 0
  · exact he
  · have := h.err he
    rw [this] at h0
    exact absurd h0 he
theorem fail8_e (s : PS) : (s.fail 8).e ≠ 0 := by
  unfold PS.fail
  split
  · simp
  · assumption
theorem count_st {s : PS} (h : s.count.2.e = 0) : 0 ≤ s.count.1 := by
  unfold PS.count at h ⊢
  simp only at h ⊢
  generalize (if 0 < s.now.scale then s.fail 8 else s) = s1 at *
  by_cases hb : (s1.of 3).2.1 = true
  · rw [if_pos hb]; exact Int.natCast_nonneg _
  · rw [if_neg hb] at h
    exfalso
    unfold PS.of at h hb
    split at hb
    · exact hb rfl
    · rename_i hn
      rw [if_neg hn] at h
      exact fail8_e _ h
theorem key_st {s : PS} (h : (keyF s).2.e = 0) : 0 ≤ (keyF s).1.item := by
  have h1 : Aft (keyHead s).2 (keyF s).2 := by
    unfold keyF
    simp only
    split
    · exact Aft.takes _ _
    · exact (Aft.takes _ _).trans (Aft.takes _ _)
  have h2 := h1.e0 h
  show 0 ≤ (keyHead s).1.1
  unfold keyHead at h2 ⊢
  split
  · exact Int.le_refl _
  · rename_i hk
    rw [if_neg hk] at h2
    exact count_st h2
theorem listG_st : ∀ (n : Nat) (l : List KeyT) (s : PS), (∀ k ∈ l, 0 ≤ k.item) → (listG keyF n l s).2.e = 0 → ∀ k ∈ (listG keyF n l s).1, 0 ≤ k.item := by
  intro n
  induction n with
  | zero => intro l s hl h; exact hl
  | succ n ih =>
    intro l s hl h
    unfold listG at h ⊢
    split
    · rename_i ht
      rw [if_pos ht] at h
      refine ih _ _ (fun k hk => ?_) h
      rcases List.mem_append.1 hk with hk | hk
      · exact hl k hk
      · simp at hk
        rw [hk]
        exact key_st ((goes_listG goes_key n _ _).e0 h)
    · exact hl
theorem q6_st {x : QS} (h : (q6 x).2.e = 0) (hx : x.1.order = []) : ∀ k ∈ (q6 x).1.order, 0 ≤ k.item := by
  unfold q6 at h ⊢
  simp only at h ⊢
  split
  · rename_i ht
    rw [if_pos ht] at h
    refine listG_st _ _ _ (fun k hk => ?_) h
    simp at hk
    rw [hk]
    exact key_st ((goes_listG goes_key _ _ _).e0 h)
  · rw [hx]; simp
theorem q1_st (E : PF) (s : PS) : ((q1 E s).1.star = true → (q1 E s).1.items = []) ∧ (q1 E s).1.order = [] := by
  unfold q1
  simp only
  split
  · exact ⟨fun _ => rfl, rfl⟩
  · exact ⟨(fun h => by cases h), rfl⟩
theorem q3_same (E : PF) (x : QS) : (q3 E x).1.star = x.1.star ∧ (q3 E x).1.items = x.1.items ∧ (q3 E x).1.order = x.1.order := by
  unfold q3; simp only; split <;> exact ⟨rfl, rfl, rfl⟩
theorem q4_same (E : PF) (x : QS) : (q4 E x).1.star = x.1.star ∧ (q4 E x).1.items = x.1.items ∧ (q4 E x).1.order = x.1.order := by
  unfold q4; simp only; split <;> exact ⟨rfl, rfl, rfl⟩
theorem q5_same (x : QS) : (q5 x).1.star = x.1.star ∧ (q5 x).1.items = x.1.items ∧ (q5 x).1.order = x.1.order := by
  unfold q5; simp only; split <;> exact ⟨rfl, rfl, rfl⟩
theorem q6_same (x : QS) : (q6 x).1.star = x.1.star ∧ (q6 x).1.items = x.1.items := by
  unfold q6; simp only; split <;> exact ⟨rfl, rfl⟩
theorem q7_same (x : QS) : (q7 x).1.star = x.1.star ∧ (q7 x).1.items = x.1.items ∧ (q7 x).1.order = x.1.order := by
  unfold q7; simp only; split <;> exact ⟨rfl, rfl, rfl⟩
theorem q8_same (x : QS) : (q8 x).1.star = x.1.star ∧ (q8 x).1.items = x.1.items ∧ (q8 x).1.order = x.1.order := by
  unfold q8; simp only; split <;> exact ⟨rfl, rfl, rfl⟩
theorem queryF_st {E : PF} {s : PS} (h : (queryF E s).2.e = 0) : QuerySt (queryF E s).1 := by
  unfold queryF at h ⊢
  have h1 := q1_st E s
  generalize q1 E s = x1 at *
  have h3 := q3_same E (q2 x1)
  have h2 : (q2 x1).1.star = x1.1.star ∧ (q2 x1).1.items = x1.1.items ∧ (q2 x1).1.order = x1.1.order := ⟨rfl, rfl, rfl⟩
  generalize q2 x1 = x2 at *
  generalize q3 E x2 = x3 at *
  have h4 := q4_same E x3
  generalize q4 E x3 = x4 at *
  have h5 := q5_same x4
  generalize q5 x4 = x5 at *
  have h6 := q6_same x5
  have h66 := q6_st (x := x5)
  have h7 := q7_same (q6 x5)
  have a7 := aft_q7 (q6 x5)
  generalize q6 x5 = x6 at *
  have h8 := q8_same (q7 x6)
  have a8 := aft_q8 (q7 x6)
  generalize q7 x6 = x7 at *
  have e6 : x6.2.e = 0 := a7.e0 (a8.e0 h)
  have hk := h66 e6 (by rw [h5.2.2, h4.2.2, h3.2.2, h2.2.2, h1.2])
  refine ⟨fun hs => ?_, fun k hk2 => hk k ?_⟩
  · rw [h8.1, h7.1, h6.1, h5.1, h4.1, h3.1, h2.1] at hs
    rw [h8.2.1, h7.2.1, h6.2, h5.2.1, h4.2.1, h3.2.1, h2.2.1]
    exact h1.1 hs
  · rw [h8.2.2, h7.2.2] at hk2
    exact hk2
theorem parse_st {l : Bs} {q : QueryT} (h : parseV l = .good q) : QuerySt q := by
  unfold parseV at h
  split at h
  · cases h
  · unfold parseAll at h
    split at h
    · cases h
    · rename_i ts hl
      obtain ⟨q', s9, h1, h2, h3⟩ := parseT_split ts
      rw [h3] at h
      split at h
      · rename_i he
        cases h
        rw [← h1]
        exact queryF_st (of_zero_e (by rw [h2]; exact he))
      · cases h

theorem bad_k {l : Bs} {p k : Nat} (h : parseV l = .bad p k) : k ≠ 0 := by
  unfold parseV at h
  split at h
  · cases h; decide
  · unfold parseAll at h
    split at h
    · cases h; decide
    · rename_i ts hts
      obtain ⟨q, s9, -, -, h3⟩ := parseT_split ts
      rw [h3] at h
      split at h
      · cases h
      · rename_i he
        cases h
        exact he

/-! ### Text, from the left on -/
def jn (l : List Bs) : Bs := Lib.join l [32]
theorem join_app {L M : List Bs} {sep : Bs} (h : L ≠ []) : Lib.join (L ++ M) sep = Lib.join L sep ++ M.flatMap (fun s => sep ++ s) := by
  cases L with
  | nil => exact absurd rfl h
  | cons x xs =>
    rw [List.cons_append, Lib.join_cons, Lib.join_cons]
    simp [Lib.joinTail, List.flatMap]
theorem jn_app {L M : List Bs} (h : L ≠ []) : jn (L ++ M) = jn L ++ M.flatMap (fun s => [32] ++ s) := join_app h
theorem jn_le {L M : List Bs} (h : L ≠ []) : (jn L).length ≤ (jn (L ++ M)).length := by rw [jn_app h, List.length_append]; omega
def stS (b : Bool) : Bs := if b = true then [42] else []
def itP (st : Bool) (l : List ItemT) : Bs := stS st ++ Lib.join (l.map itemS) [44, 32]
theorem itP_step {st : Bool} {l : List ItemT} {i : Nat} (h : i < l.length) : itP st (l.take (i + 1)) = itP st (l.take i) ++ (if i = 0 then [] else [44, 32]) ++ itemS l[i] := by
  unfold itP
  rw [List.take_succ_eq_append_getElem h, List.map_append]
  cases i with
  | zero => simp [Lib.join]
  | succ i =>
    rw [join_app (by
      intro h2
      have := congrArg List.length h2
      rw [List.length_map, List.length_take, List.length_nil] at this
      omega), if_neg (by omega)]
    simp
theorem itP_all {q : QueryT} (h : QuerySt q) : itP q.star q.items = Lib.join (itemsL q) [44, 32] := by
  unfold itP itemsL starL stS
  cases hs : q.star with
  | true => rw [h.star hs]; simp [Lib.join]
  | false => simp
theorem itP_small {st : Bool} {l : List ItemT} (hl : l.length ≤ 10001) (h : ∀ i ∈ l, TreeFine i.e ∧ i.name.length ≤ 300) : (itP st l).length ≤ 300000000001 := by
  unfold itP
  have h1 : (stS st).length ≤ 1 := by cases st <;> decide
  have h2 := join_small (l := l.map itemS) (sep := [44, 32]) (n := 10001) (B := 20001304) (by rw [List.length_map]; exact hl) (fun a ha => by
    obtain ⟨i, hi, rfl⟩ := List.mem_map.1 ha
    exact itemS_small (h i hi))
  rw [List.length_append]
  have e : ([44, 32] : Bs).length = 2 := rfl
  rw [e] at h2
  omega
def hw (w : Bs) {α : Type} (l : List α) : List Bs := if l = [] then [] else [w]
theorem headL_hw (w : Bs) {α : Type} (f : α → Bs) (l : List α) : headL w (l.map f) = hw w l ++ l.map f := by
  unfold headL hw
  cases l with
  | nil => rfl
  | cons a l => simp
theorem t_ne (q : QueryT) : t1 q ≠ [] ∧ t2 q ≠ [] ∧ t3 q ≠ [] ∧ t4 q ≠ [] ∧ t5 q ≠ [] ∧ t6 q ≠ [] := by
  have h1 : t1 q ≠ [] := by simp [t1]
  have h2 : t2 q ≠ [] := by unfold t2; simp [h1]
  have h3 : t3 q ≠ [] := by unfold t3; simp [h2]
  have h4 : t4 q ≠ [] := by unfold t4; simp [h3]
  have h5 : t5 q ≠ [] := by unfold t5; simp [h4]
  exact ⟨h1, h2, h3, h4, h5, by unfold t6; simp [h5]⟩
theorem t_small {q : QueryT} (h : QueryOk q) : (jn (t1 q)).length ≤ 1000000000000 ∧ (jn (t2 q)).length ≤ 1000000000000 ∧ (jn (t3 q)).length ≤ 1000000000000 ∧ (jn (t4 q)).length ≤ 1000000000000 ∧ (jn (t5 q)).length ≤ 1000000000000 ∧ (jn (t6 q)).length ≤ 1000000000000 := by
  obtain ⟨n1, n2, n3, n4, n5, n6⟩ := t_ne q
  have h7 : (jn (t7 q)).length ≤ 1000000000000 := (t7_small h).2
  have h6 : (jn (t6 q)).length ≤ (jn (t7 q)).length := by unfold t7; exact jn_le n6
  have h5 : (jn (t5 q)).length ≤ (jn (t6 q)).length := by unfold t6; exact jn_le n5
  have h4 : (jn (t4 q)).length ≤ (jn (t5 q)).length := by unfold t5; exact jn_le n4
  have h3 : (jn (t3 q)).length ≤ (jn (t4 q)).length := by unfold t4; exact jn_le n3
  have h2 : (jn (t2 q)).length ≤ (jn (t3 q)).length := by unfold t3; exact jn_le n2
  have h1 : (jn (t1 q)).length ≤ (jn (t2 q)).length := by unfold t2; exact jn_le n1
  omega
end Go.Proofs.YtpokbepenacnpaaGreatDoor
