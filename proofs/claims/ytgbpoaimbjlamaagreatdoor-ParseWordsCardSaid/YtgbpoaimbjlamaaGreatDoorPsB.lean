/-
  The parser's state, and trees, as they lie in memory. No condition.
-/
import Derived.Test.YtgbpoaimbjlamaaGreatDoorPsA
namespace Go.Proofs.YtgbpoaimbjlamaaGreatDoor
open Go.RowKit
set_option linter.unusedVariables false

/-- Tokens in a slice of block g. -/
def TkIn (w : World) (g : Nat) (l : Value) (rest : List Tok) : Prop :=
  ∃ off cap, l = .slice (some ⟨g, off, none⟩) rest.length cap ∧ rest.length ≤ cap ∧ cap ≤ 9223372036854775807 ∧ ∀ j u, (toksC rest)[j]? = some u → w.cell? ⟨g, off + j, none⟩ = some u
theorem TkIn.mods {w w' : World} {g : Nat} {l : Value} {rest : List Tok} {L : List Nat} (h : TkIn w g l rest) (hM : Mods L w w') (hg : g ∉ L) : TkIn w' g l rest := by
  obtain ⟨off, cap, h1, h3, h4, h5⟩ := h
  exact ⟨off, cap, h1, h3, h4, fun j u hu => hM.cell (h5 j u hu) hg⟩

/-- The parser in block pb, its tokens in block tg, in a state; f may yet be nested. -/
def PSt (w : World) (pb tg : Nat) (s : PS) (f : Nat) : Prop :=
  ∃ l, w.heap[pb]? = some (.cells #[l, .int .i64 (64 - (f : Int)), .int .i64 s.pos, .int .i64 s.e] 59 (0, 0)) ∧ TkIn w tg l s.rest ∧ WfT s.rest ∧ f ≤ 64 ∧ tg ≠ pb
theorem PSt.mods {w w' : World} {pb tg : Nat} {s : PS} {f : Nat} {L : List Nat} (h : PSt w pb tg s f) (hM : Mods L w w') (h1 : pb ∉ L) (h2 : tg ∉ L) : PSt w' pb tg s f := by
  obtain ⟨l, q1, q2, q3⟩ := h
  exact ⟨l, hM.heap q1 h1, q2.mods hM h2, q3⟩
theorem PSt.later {w w' : World} {pb tg : Nat} {s : PS} {f : Nat} (h : PSt w pb tg s f) (hM : Mods [] w w') : PSt w' pb tg s f := h.mods hM (by simp) (by simp)
theorem PSt.lt {w : World} {pb tg : Nat} {s : PS} {f : Nat} (h : PSt w pb tg s f) : pb < w.heap.size ∧ tg < w.heap.size := by
  obtain ⟨l, q1, ⟨off, cap, -, -, -, q2⟩, q3, -⟩ := h
  refine ⟨lt_size_of_heap q1, ?_⟩
  cases hr : s.rest with
  | nil => exact absurd hr q3.ne
  | cons t r =>
    rw [hr] at q2
    exact lt_of_cell (q2 0 _ rfl)

def hdC (h : Hd) (args : Value) : List Value := [.string ⟨h.op.toArray⟩, .int .i64 h.pos, .string ⟨h.table.toArray⟩, .string ⟨h.name.toArray⟩, .int .i64 h.n, .int .i64 h.scale, .string ⟨h.s.toArray⟩, args]
def PtrV (b : Nat) : Value := .pointer (some ⟨b, 0, none⟩)
/-- A tree in memory, none of whose blocks is one of L. -/
def ExprAt (T T2 : TypeId) (w : World) (L : List Nat) (v : Value) : Tree → Prop
  | .leaf h => ∃ b, v = PtrV b ∧ b ∉ L ∧ w.heap[b]? = some (.cells (hdC h (.slice none 0 0)).toArray T (0, 0))
  | .un h a => ∃ b c u, v = PtrV b ∧ b ∉ L ∧ c ∉ L ∧ w.heap[b]? = some (.cells (hdC h (.slice (some ⟨c, 0, none⟩) 1 1)).toArray T (0, 0)) ∧ w.heap[c]? = some (.cells #[u] T2 (0, 0)) ∧ ExprAt T T2 w L u a
  | .bin h a d => ∃ b c u x, v = PtrV b ∧ b ∉ L ∧ c ∉ L ∧ w.heap[b]? = some (.cells (hdC h (.slice (some ⟨c, 0, none⟩) 2 2)).toArray T (0, 0)) ∧ w.heap[c]? = some (.cells #[u, x] T2 (0, 0)) ∧ ExprAt T T2 w L u a ∧ ExprAt T T2 w L x d
theorem ExprAt.mods {T T2 : TypeId} {w w' : World} {L : List Nat} (hM : Mods L w w') : ∀ {t : Tree} {v : Value}, ExprAt T T2 w L v t → ExprAt T T2 w' L v t := by
  intro t
  induction t with
  | leaf h =>
    rintro v ⟨b, h1, h2, h3⟩
    exact ⟨b, h1, h2, hM.heap h3 h2⟩
  | un h a ih =>
    rintro v ⟨b, c, u, h1, h2, h3, h4, h5, h6⟩
    exact ⟨b, c, u, h1, h2, h3, hM.heap h4 h2, hM.heap h5 h3, ih h6⟩
  | bin h a d iha ihd =>
    rintro v ⟨b, c, u, x, h1, h2, h3, h4, h5, h6, h7⟩
    exact ⟨b, c, u, x, h1, h2, h3, hM.heap h4 h2, hM.heap h5 h3, iha h6, ihd h7⟩
theorem ExprAt.weaken {T T2 : TypeId} {w : World} {L L' : List Nat} (hL : ∀ x ∈ L', x ∈ L) : ∀ {t : Tree} {v : Value}, ExprAt T T2 w L v t → ExprAt T T2 w L' v t := by
  intro t
  induction t with
  | leaf h =>
    rintro v ⟨b, h1, h2, h3⟩
    exact ⟨b, h1, fun hm => h2 (hL _ hm), h3⟩
  | un h a ih =>
    rintro v ⟨b, c, u, h1, h2, h3, h4, h5, h6⟩
    exact ⟨b, c, u, h1, fun hm => h2 (hL _ hm), fun hm => h3 (hL _ hm), h4, h5, ih h6⟩
  | bin h a d iha ihd =>
    rintro v ⟨b, c, u, x, h1, h2, h3, h4, h5, h6, h7⟩
    exact ⟨b, c, u, x, h1, fun hm => h2 (hL _ hm), fun hm => h3 (hL _ hm), h4, h5, iha h6, ihd h7⟩
theorem ExprAt.ptr {T T2 : TypeId} {w : World} {L : List Nat} {t : Tree} {v : Value} (h : ExprAt T T2 w L v t) : ∃ b, v = PtrV b := by
  cases t with
  | leaf h' => obtain ⟨b, h1, -⟩ := h; exact ⟨b, h1⟩
  | un h' a => obtain ⟨b, c, u, h1, -⟩ := h; exact ⟨b, h1⟩
  | bin h' a d => obtain ⟨b, c, u, x, h1, -⟩ := h; exact ⟨b, h1⟩

/-- What a parsing function hands back. -/
def PRes (pb tg f : Nat) (F : PF) (s : PS) (w : World) (e : Ending) (w' : World) : Prop :=
  ∃ b, e = .returned (PtrV b) ∧ Mods [pb] w w' ∧ PSt w' pb tg (F s).2 f ∧ ((F s).2.e = 0 → ∀ L : List Nat, (∀ x ∈ L, x < w.heap.size) → ExprAt 67 41 w' L (PtrV b) (F s).1)

theorem PSt.tok {w : World} {pb tg : Nat} {s : PS} {f : Nat} (h : PSt w pb tg s f) : ∃ off cap, w.heap[pb]? = some (.cells #[.slice (some ⟨tg, off, none⟩) s.rest.length cap, .int .i64 (64 - (f : Int)), .int .i64 s.pos, .int .i64 s.e] 59 (0, 0)) ∧ tg ≠ pb ∧ 0 < s.rest.length ∧ s.rest.length ≤ cap ∧ cap ≤ 9223372036854775807 ∧
    w.cell? ⟨tg, off, none⟩ = some (.int .i64 s.now.kind) ∧ w.cell? ⟨tg, off + 1, none⟩ = some (.int .i64 s.now.pos) ∧ w.cell? ⟨tg, off + 2, none⟩ = some (.string ⟨s.now.s.toArray⟩) ∧ w.cell? ⟨tg, off + 3, none⟩ = some (.int .i64 s.now.n) ∧ w.cell? ⟨tg, off + 4, none⟩ = some (.int .i64 s.now.scale) := by
  obtain ⟨l, h1, ⟨off, cap, rfl, h3, h4, h5⟩, h6, h7, h8⟩ := h
  cases hr : s.rest with
  | nil => exact absurd hr h6.ne
  | cons t r =>
    have hn : s.now = t := by unfold PS.now; rw [hr]; rfl
    rw [hn]
    rw [hr] at h5 h1 h3
    exact ⟨off, cap, h1, h8, by simp, h3, h4, h5 0 _ rfl, h5 1 _ rfl, h5 2 _ rfl, h5 3 _ rfl, h5 4 _ rfl⟩
/-- The parser's block, turned. -/
theorem PSt.turn {w w' : World} {pb tg : Nat} {s s' : PS} {f f' : Nat} {off cap : Nat} (h : PSt w pb tg s f) (hM : Mods [pb] w w') (hc : w.heap[pb]? = some (.cells #[.slice (some ⟨tg, off, none⟩) s.rest.length cap, .int .i64 (64 - (f : Int)), .int .i64 s.pos, .int .i64 s.e] 59 (0, 0))) (hr : s'.rest = s.rest) (hf : f' ≤ 64)
    (h' : w'.heap[pb]? = some (.cells #[.slice (some ⟨tg, off, none⟩) s.rest.length cap, .int .i64 (64 - (f' : Int)), .int .i64 s'.pos, .int .i64 s'.e] 59 (0, 0))) : PSt w' pb tg s' f' := by
  obtain ⟨l, h1, h2, h3, h4, h5⟩ := h
  rw [h1] at hc
  simp only [Option.some.injEq, Obj.cells.injEq, Array.mk.injEq, List.cons.injEq, and_true] at hc
  obtain ⟨rfl⟩ := hc
  exact ⟨_, h', by rw [hr]; exact h2.mods hM (by simpa using h5), by rw [hr]; exact h3, hf, h5⟩
/-- The token that stands there is passed over. -/
theorem PSt.passed {w w' : World} {pb tg : Nat} {s : PS} {f : Nat} {off cap : Nat} (h : PSt w pb tg s f) (hM : Mods [pb] w w') (hc : w.heap[pb]? = some (.cells #[.slice (some ⟨tg, off, none⟩) s.rest.length cap, .int .i64 (64 - (f : Int)), .int .i64 s.pos, .int .i64 s.e] 59 (0, 0))) (hw : WfT s.rest.tail)
    (h' : w'.heap[pb]? = some (.cells #[.slice (some ⟨tg, off + 5, none⟩) (s.rest.length - 1) (cap - 1), .int .i64 (64 - (f : Int)), .int .i64 s.pos, .int .i64 s.e] 59 (0, 0))) : PSt w' pb tg s.next f := by
  obtain ⟨l, h1, h2, h3, h4, h5⟩ := h
  rw [h1] at hc
  simp only [Option.some.injEq, Obj.cells.injEq, Array.mk.injEq, List.cons.injEq, and_true] at hc
  obtain ⟨rfl⟩ := hc
  obtain ⟨off', cap', he, h6, h7, h8⟩ := h2.mods hM (by simpa using h5)
  simp only [Value.slice.injEq, Option.some.injEq, Addr.mk.injEq, and_true, true_and] at he
  obtain ⟨rfl, rfl⟩ := he
  refine ⟨_, h', ⟨off + 5, cap - 1, by unfold PS.next; rw [List.length_tail], by unfold PS.next; rw [List.length_tail]; omega, by omega, fun j u hu => ?_⟩, hw, h4, h5⟩
  cases hr : s.rest with
  | nil => exact absurd hr h3.ne
  | cons t r =>
    have hn : s.next.rest = r := by unfold PS.next; rw [hr]; rfl
    rw [hn] at hu
    have := h8 (5 + j) u (by
      rw [hr]
      show (tokC1 t ++ toksC r)[5 + j]? = _
      rw [List.getElem?_append_right (by simp [tokC1])]
      simpa [tokC1] using hu)
    rw [show off + 5 + j = off + (5 + j) by omega]
    exact this
end Go.Proofs.YtgbpoaimbjlamaaGreatDoor
