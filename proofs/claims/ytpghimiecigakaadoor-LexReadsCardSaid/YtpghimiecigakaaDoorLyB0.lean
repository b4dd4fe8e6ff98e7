/-
  Tokens in memory, and lex.All as contracts. No condition but that Go's own variables hold what they were laid with.
-/
import Derived.Test.YtpghimiecigakaaDoorLyA
namespace Go.Proofs.YtpghimiecigakaaDoor
open Go.RowKit
set_option linter.unusedVariables false

/-- Tokens, as they lie in a block. -/
def ToksAt (w : World) (g : Nat) (ts : List Tok) : Prop := ∀ j u, (toksC ts)[j]? = some u → w.cell? ⟨g, j, none⟩ = some u
theorem ToksAt.mods {w w' : World} {g : Nat} {ts : List Tok} (h : ToksAt w g ts) (hM : Mods [] w w') : ToksAt w' g ts := fun j u hu => hM.cell (h j u hu) (by simp)
theorem toksC_get (ts : List Tok) (i : Nat) (hi : i < ts.length) (j : Nat) (hj : j < 5) : (toksC ts)[i * 5 + j]? = (tokC1 ts[i])[j]? := by
  induction ts generalizing i with
  | nil => simp at hi
  | cons t ts ih =>
    have e : toksC (t :: ts) = tokC1 t ++ toksC ts := by simp [toksC]
    have hl : (tokC1 t).length = 5 := rfl
    rw [e]
    cases i with
    | zero => rw [List.getElem?_append_left (by omega)]; simp
    | succ i =>
      rw [List.getElem?_append_right (by omega), hl, show (i + 1) * 5 + j - 5 = i * 5 + j by omega, ih i (by simpa using hi)]
      rfl
theorem ToksAt.tok {w : World} {g : Nat} {ts : List Tok} (h : ToksAt w g ts) (i : Nat) (hi : i < ts.length) :
    w.cell? ⟨g, i * 5, none⟩ = some (.int .i64 (ts[i]).kind) ∧ w.cell? ⟨g, i * 5 + 1, none⟩ = some (.int .i64 (ts[i]).pos) ∧ w.cell? ⟨g, i * 5 + 2, none⟩ = some (.string ⟨(ts[i]).s.toArray⟩) ∧ w.cell? ⟨g, i * 5 + 3, none⟩ = some (.int .i64 (ts[i]).n) ∧ w.cell? ⟨g, i * 5 + 4, none⟩ = some (.int .i64 (ts[i]).scale) := by
  refine ⟨h _ _ ?_, h _ _ ?_, h _ _ ?_, h _ _ ?_, h _ _ ?_⟩
  · have := toksC_get ts i hi 0 (by omega); rw [Nat.add_zero] at this; rw [this]; rfl
  · rw [toksC_get ts i hi 1 (by omega)]; rfl
  · rw [toksC_get ts i hi 2 (by omega)]; rfl
  · rw [toksC_get ts i hi 3 (by omega)]; rfl
  · rw [toksC_get ts i hi 4 (by omega)]; rfl
theorem ToksOwn.at {T : TypeId} {w wr : World} {t : Value} {ts : List Tok} (h : ToksOwn T w wr t ts) (h0 : ts ≠ []) : ∃ g cap, t = .slice (some ⟨g, 0, none⟩) ts.length cap ∧ ToksAt wr g ts ∧ ts.length ≤ cap := by
  rcases h.2.1.2 with ⟨hv, hn⟩ | ⟨g, cap, cur, hv, hb, hg, hc, r⟩
  · exact absurd (List.length_eq_zero_iff.1 hn) h0
  · refine ⟨g, cap, hv, fun j u hu => ?_, hc⟩
    have := h.2.1.cells (g := g) (by rw [hv]; rfl) j u hu
    rw [addr_add, Nat.zero_add] at this
    exact this

theorem lexG_ne : ∀ (f : Nat) (l : List UInt8) (p : Nat) (L : List Tok), l.length ≤ f → lexG l p = .good L → L ≠ [] := by
  intro f l p L _ h
  cases l with
  | nil => rw [lexG_nil] at h; cases h; simp
  | cons c r =>
    cases hk : tokL (c :: r) with
    | none => rw [lexG_bad p (by simp) hk] at h; cases h
    | some x =>
      obtain ⟨u, n⟩ := x
      rw [lexG_good p hk] at h
      cases hg : lexG (((c :: r).drop n).dropWhile isBl) (p + n + (((c :: r).drop n).takeWhile isBl).length) with
      | bad q => rw [hg] at h; cases h
      | good L2 => rw [hg] at h; cases h; simp
theorem lexAll_ne {l : List UInt8} {L : List Tok} (h : lexAll l = .good L) : L ≠ [] := lexG_ne _ _ _ _ (Nat.le_refl _) h

theorem all_good (w : World) (hT : Tabs w) (s : ByteArray) (hs : s.size ≤ 4096) (ts : List Tok) (h : lexAll s.data.toList = .good ts) :
    Calls Tryd.prog 5 #[.string s] w fun e w' => ∃ g cap, e = .returned (.tuple #[.slice (some ⟨g, 0, none⟩) ts.length cap, .int .i64 0, .int .i64 0]) ∧ Mods [] w w' ∧ ToksAt w' g ts ∧ ts.length ≤ cap := by
  refine (all_any w hT s (by omega)).mono fun e w' he => ?_
  unfold AllPost at he
  rw [if_neg (by omega), h] at he
  obtain ⟨t, rfl, ho⟩ := he
  obtain ⟨g, cap, rfl, ha, hc⟩ := ho.at (lexAll_ne h)
  exact ⟨g, cap, rfl, ho.1, ha, hc⟩
theorem all_bad (w : World) (hT : Tabs w) (s : ByteArray) (hs : s.size ≤ 4096) (p : Nat) (h : lexAll s.data.toList = .bad p) :
    Calls Tryd.prog 5 #[.string s] w fun e w' => e = .returned (.tuple #[.slice none 0 0, .int .i64 p, .int .i64 8]) ∧ Mods [] w w' := by
  refine (all_any w hT s (by omega)).mono fun e w' he => ?_
  unfold AllPost at he
  rw [if_neg (by omega), h] at he
  exact he

end Go.Proofs.YtpghimiecigakaaDoor
