/-
  The document's parser, as it lies in memory, in the states of the plain one. No condition.
-/
import Derived.Test.YtpokbepenacnpaaGreatDoorMPq
import Derived.Test.YtpokbepenacnpaaGreatDoorMPa
import Derived.Handy
import Derived.Deep.RegionLaw
namespace Go.Proofs.YtpokbepenacnpaaGreatDoor
open Go.RowKit
set_option linter.unusedVariables false

/-- A word is one of the words, a mark is short. -/
def TokW (t : Tok) : Prop := (t.kind = 1 → t.s ∈ keyWords) ∧ (t.kind = 5 → t.s.length ≤ 2)
/-- The document's parser in block pb, the tokens ts in block tg, in a state; f may yet be nested. -/
def RSt (w : World) (pb tg : Nat) (ts : List Tok) (s : PS) (f : Nat) : Prop :=
  ∃ (i cap : Nat) (d : Int), w.heap[pb]? = some (.cells #[.slice (some ⟨tg, 0, none⟩) ts.length cap, .int .i64 i, .int .i64 d, .int .i64 s.e, .int .i64 s.pos] 85 (0, 0)) ∧ (s.e = 0 → d = 64 - (f : Int)) ∧ i < ts.length ∧ s.rest = ts.drop i ++ ts.drop (ts.length - 1) ∧
    (ts.length ≤ cap ∧ cap ≤ 9223372036854775807 ∧ ts.length ≤ 10000) ∧ (∀ j u, (toksC ts)[j]? = some u → w.cell? ⟨tg, j, none⟩ = some u) ∧ (WfT ts ∧ ∀ t ∈ ts, TokW t) ∧ tg ≠ pb ∧ f ≤ 64
theorem RSt.mods {w w' : World} {pb tg : Nat} {ts : List Tok} {s : PS} {f : Nat} {L : List Nat} (h : RSt w pb tg ts s f) (hM : Mods L w w') (h1 : pb ∉ L) (h2 : tg ∉ L) : RSt w' pb tg ts s f := by
  obtain ⟨i, cap, d, q1, q2, q3, q4, q5, q6, q7⟩ := h
  exact ⟨i, cap, d, hM.heap q1 h1, q2, q3, q4, q5, fun j u hu => hM.cell (q6 j u hu) h2, q7⟩
theorem RSt.later {w w' : World} {pb tg : Nat} {ts : List Tok} {s : PS} {f : Nat} (h : RSt w pb tg ts s f) (hM : Mods [] w w') : RSt w' pb tg ts s f := h.mods hM (by simp) (by simp)
theorem RSt.lt {w : World} {pb tg : Nat} {ts : List Tok} {s : PS} {f : Nat} (h : RSt w pb tg ts s f) : pb < w.heap.size ∧ tg < w.heap.size := by
  obtain ⟨i, cap, d, q1, q2, q3, q4, q5, q6, q7, -⟩ := h
  refine ⟨lt_size_of_heap q1, ?_⟩
  cases ts with
  | nil => exact absurd rfl q7.1.ne
  | cons t r => exact lt_of_cell (q6 0 _ rfl)
/-- In an error's state it does not matter how many may yet be nested. -/
theorem RSt.any {w : World} {pb tg : Nat} {ts : List Tok} {s : PS} {f f' : Nat} (h : RSt w pb tg ts s f) (he : s.e ≠ 0) (hf : f' ≤ 64) : RSt w pb tg ts s f' := by
  obtain ⟨i, cap, d, q1, q2, q3, q4, q5, q6, q7, q8, q9⟩ := h
  exact ⟨i, cap, d, q1, fun h => absurd h he, q3, q4, q5, q6, q7, q8, hf⟩
/-- What stands there. -/
theorem RSt.tok {w : World} {pb tg : Nat} {ts : List Tok} {s : PS} {f : Nat} (h : RSt w pb tg ts s f) :
    ∃ (i cap : Nat) (d : Int), w.heap[pb]? = some (.cells #[.slice (some ⟨tg, 0, none⟩) ts.length cap, .int .i64 i, .int .i64 d, .int .i64 s.e, .int .i64 s.pos] 85 (0, 0)) ∧ (s.e = 0 → d = 64 - (f : Int)) ∧ i < ts.length ∧ (ts.length ≤ 10000 ∧ tg ≠ pb ∧ f ≤ 64) ∧
    (w.cell? ⟨tg, i * 5, none⟩ = some (.int .i64 s.now.kind) ∧ w.cell? ⟨tg, i * 5 + 1, none⟩ = some (.int .i64 s.now.pos) ∧ w.cell? ⟨tg, i * 5 + 2, none⟩ = some (.string ⟨s.now.s.toArray⟩) ∧ w.cell? ⟨tg, i * 5 + 3, none⟩ = some (.int .i64 s.now.n) ∧ w.cell? ⟨tg, i * 5 + 4, none⟩ = some (.int .i64 s.now.scale)) ∧
    (∀ w', (Mods [pb] w w') → (s.now.kind ≠ 0) → w'.heap[pb]? = some (.cells #[.slice (some ⟨tg, 0, none⟩) ts.length cap, .int .i64 ((i : Int) + 1), .int .i64 d, .int .i64 s.e, .int .i64 s.pos] 85 (0, 0)) → RSt w' pb tg ts s.next f) ∧
    (∀ w' (s' : PS) (f' : Nat) (d' : Int), Mods [pb] w w' → s'.rest = s.rest → (s'.e = 0 → d' = 64 - (f' : Int)) → f' ≤ 64 → w'.heap[pb]? = some (.cells #[.slice (some ⟨tg, 0, none⟩) ts.length cap, .int .i64 i, .int .i64 d', .int .i64 s'.e, .int .i64 s'.pos] 85 (0, 0)) → RSt w' pb tg ts s' f') := by
  obtain ⟨i, cap, d, q1, q2, q3, q4, q5, q6, q7, q8, q9⟩ := h
  have hn : s.now = ts[i] := by
    unfold PS.now
    rw [q4, List.drop_eq_getElem_cons q3]
    rfl
  have hc : ∀ k, k < 5 → ∀ v, (tokC1 ts[i])[k]? = some v → w.cell? ⟨tg, i * 5 + k, none⟩ = some v := fun k hk v hv => q6 _ _ (by rw [toksC_get ts i q3 k hk]; exact hv)
  refine ⟨i, cap, d, q1, q2, q3, ⟨q5.2.2, q8, q9⟩, ?_, fun w' hM hk h' => ?_, fun w' s' f' d' hM hr hd hf h' => ?_⟩
  · rw [hn]
    exact ⟨hc 0 (by decide) _ rfl, hc 1 (by decide) _ rfl, hc 2 (by decide) _ rfl, hc 3 (by decide) _ rfl, hc 4 (by decide) _ rfl⟩
  · have hi1 : i + 1 < ts.length := by
      rcases Nat.lt_or_ge (i + 1) ts.length with h | h
      · exact h
      · exfalso
        obtain ⟨t, ht, hk0⟩ := q7.1.1
        have he : i = ts.length - 1 := by omega
        have hl : ts.getLast? = some ts[i] := by
          rw [List.getLast?_eq_getElem?, ← he, List.getElem?_eq_getElem q3]
        rw [hl] at ht
        cases ht
        rw [hn] at hk
        exact hk hk0
    refine ⟨i + 1, cap, d, by rw [h']; rfl, q2, hi1, ?_, q5, fun j u hu => hM.cell (q6 j u hu) (by simpa using q8), q7, q8, q9⟩
    unfold PS.next
    rw [q4, List.drop_eq_getElem_cons q3]
    rfl
  · exact ⟨i, cap, d', h', hd, q3, by rw [hr]; exact q4, q5, fun j u hu => hM.cell (q6 j u hu) (by simpa using q8), q7, q8, hf⟩

theorem RSt.tokw {w : World} {pb tg : Nat} {ts : List Tok} {s : PS} {f : Nat} (h : RSt w pb tg ts s f) : TokW s.now := by
  obtain ⟨i, cap, d, q1, q2, q3, q4, q5, q6, q7, q8, q9⟩ := h
  have hn : s.now = ts[i] := by
    unfold PS.now
    rw [q4, List.drop_eq_getElem_cons q3]
    rfl
  rw [hn]
  exact q7.2 _ (List.getElem_mem q3)
/-- What a parsing function of the document hands back. -/
def RRes (pb tg : Nat) (ts : List Tok) (f : Nat) (F : PF) (s : PS) (w : World) (e : Ending) (w' : World) : Prop :=
  ∃ b, e = .returned (PtrV b) ∧ Mods [pb] w w' ∧ RSt w' pb tg ts (F s).2 f ∧ ((F s).2.e = 0 → ∀ L : List Nat, (∀ x ∈ L, x < w.heap.size) → ExprAt 174 96 w' L (PtrV b) (F s).1)
end Go.Proofs.YtpokbepenacnpaaGreatDoor

namespace Go.Proofs.YtpokbepenacnpaaGreatDoor
open Go.RowKit
set_option linter.unusedVariables false

set_option maxRecDepth 100000 in
set_option maxHeartbeats 1000000 in
theorem fails_ref (w : World) (pb tg : Nat) (ts : List Tok) (s : PS) (f : Nat) (h : RSt w pb tg ts s f) (k : Nat) (hk : k ≠ 0) : Calls Tryz.prog 85 #[PtrV pb, .int .i64 k] w fun e w' => e = .returned (.tuple #[]) ∧ Mods [pb] w w' ∧ RSt w' pb tg ts (s.fail k) f := by
  obtain ⟨i, cap, d, hb, hd, hi, ⟨hl, htp, hf⟩, ⟨c0, c1, c2, c3, c4⟩, -, hturn⟩ := h.tok
  have a0 := cell_of_heap hb 0
  have a1 := cell_of_heap hb 1
  have a3 := cell_of_heap hb 3
  have a4 := cell_of_heap hb 4
  change w.cell? _ = some (.slice (some ⟨tg, 0, none⟩) ts.length cap) at a0
  change w.cell? _ = some (.int .i64 i) at a1
  change w.cell? _ = some (.int .i64 s.e) at a3
  change w.cell? _ = some (.int .i64 s.pos) at a4
  have g3 := frozen_of_heap hb 3
  have g4 := frozen_of_heap hb 4
  have hii : (i : Int) < (ts.length : Int) := by omega
  have HH := Lib.hid h
  unfold PtrV
  clear h
  by_cases he : s.e = 0
  · have hs : s.fail k = { s with pos := s.now.pos, e := k } := by unfold PS.fail; rw [if_pos he]
    have z : ((s.e : Int) == 0) = true := by rw [beq_iff_eq]; omega
    have hM2 : Mods [pb] w (w.setCell ⟨pb, 3, none⟩ (.int .i64 k)) := (Mods.refl _ _).setCell (.inl (by simp)) _
    have hb2 := heap_setCell_same hb 3 (.int .i64 k)
    have FIN : Hid (∀ w2 w3, w2 = w.setCell ⟨pb, 3, none⟩ (.int .i64 k) → w3.heap = (w2.setCell ⟨pb, 4, none⟩ (.int .i64 s.now.pos)).heap → Mods [] (w2.setCell ⟨pb, 4, none⟩ (.int .i64 s.now.pos)) w3 → Mods [pb] w w3 ∧ RSt w3 pb tg ts (s.fail k) f) := Lib.hid fun w2 w3 h2 h3 h4 => by
      have hM3 : Mods [pb] w w3 := ((h2 ▸ hM2 : Mods [pb] w w2).setCell (.inl (by simp)) _).trans h4 (by simp)
      have hb3 := heap_setCell_same (h2 ▸ hb2 : w2.heap[pb]? = _) 4 (.int .i64 s.now.pos)
      exact ⟨hM3, hturn _ (s.fail k) f d hM3 (by rw [hs]) (fun h => by rw [hs] at h; exact absurd h hk) hf (by rw [hs, h3]; exact hb3)⟩
    have e0 := cell_of_heap hb2 0
    have e1 := cell_of_heap hb2 1
    have e4 := cell_of_heap hb2 4
    change World.cell? _ _ = some (.slice (some ⟨tg, 0, none⟩) ts.length cap) at e0
    change World.cell? _ _ = some (.int .i64 i) at e1
    change World.cell? _ _ = some (.int .i64 s.pos) at e4
    have j4 := frozen_of_heap hb2 4
    have k1 := hM2.cell c1 (by simpa using htp)
    clear hturn hs he hb hd hb2
    generalize s.now = t at *
    generalize ts.length = n at *
    go_enter Tryz.func85, Tryz.ntmps85
    go_upto_region 2 with fail
    generalize hw2 : w.setCell ⟨pb, 3, none⟩ (.int .i64 k) = w2 at *
    have HW2 := Lib.hid hw2
    clear hw2 a0 a1 a3 a4 g3 g4 c0 c1 c2 c3 c4
    go_region_law (fail)
    all_goals
      refine bodyPost_end (results_none rfl _ _ _) rfl ?_
      have hfin := FIN.out w2 (w2.setCell ⟨pb, 4, none⟩ (.int .i64 t.pos)).drew rfl rfl (Mods.refl _ _).drew
      exact ⟨rfl, hfin.1, hfin.2⟩
  · have hs : s.fail k = s := by unfold PS.fail; rw [if_neg he]
    have z : ((s.e : Int) == 0) = false := by rw [beq_eq_false_iff_ne]; omega
    have HS := Lib.hid hs
    clear he hs hturn hb hd
    go_enter Tryz.func85, Tryz.ntmps85
    go_wp2_with fail
    first | go_end0 | refine bodyPost_ret (results_none rfl _ _ _) rfl ?_ | refine bodyPost_end (results_none rfl _ _ _) rfl ?_
    exact ⟨rfl, Mods.refl _ _, by rw [HS.out]; exact HH.out⟩

theorem is_one (s : PS) (W : Bs) : s.is [W] = (decide (s.e = 0) && ((decide (s.now.kind = 1) || decide (s.now.kind = 5)) && (s.now.s == W))) := by
  unfold PS.is isTok
  rw [List.contains_cons, List.contains_nil, Bool.or_false]
set_option maxRecDepth 100000 in
set_option maxHeartbeats 1000000 in
theorem is_ref (w : World) (pb tg : Nat) (ts : List Tok) (s : PS) (f : Nat) (h : RSt w pb tg ts s f) (W : Bs) : Calls Tryz.prog 124 #[PtrV pb, .string ⟨W.toArray⟩] w fun e w' => e = .returned (.bool (s.is [W])) ∧ Mods [] w w' := by
  obtain ⟨i, cap, d, hb, hd, hi, ⟨hl, htp, hf⟩, ⟨c0, c1, c2, c3, c4⟩, -, -⟩ := h.tok
  have a0 := cell_of_heap hb 0
  have a1 := cell_of_heap hb 1
  have a3 := cell_of_heap hb 3
  change w.cell? _ = some (.slice (some ⟨tg, 0, none⟩) ts.length cap) at a0
  change w.cell? _ = some (.int .i64 i) at a1
  change w.cell? _ = some (.int .i64 s.e) at a3
  have hii : (i : Int) < (ts.length : Int) := by omega
  rw [is_one]
  unfold PtrV
  clear h hb hd
  generalize s.now = t at *
  generalize ts.length = n at *
  generalize s.e = e0 at *
  obtain ⟨q, hq⟩ : ∃ q, (t.s == W) = q := ⟨_, rfl⟩
  rw [hq]
  obtain ⟨B, hB⟩ : ∃ B, (decide (e0 = 0) && ((decide (t.kind = 1) || decide (t.kind = 5)) && q)) = B := ⟨_, rfl⟩
  rw [hB]
  have HB := Lib.hid hB
  clear hB
  have hM1 : Mods [] w w.drew := (Mods.refl [] w).drew
  have x0 := hM1.cell a0 (by simp)
  have x1 := hM1.cell a1 (by simp)
  have y0 := hM1.cell c0 (by simp)
  have y1 := hM1.cell c1 (by simp)
  have y2 := hM1.cell c2 (by simp)
  have y3 := hM1.cell c3 (by simp)
  have y4 := hM1.cell c4 (by simp)
  have hz := (Mods.refl [] w).alloc (.cells (tokCells 0 0 ⟨#[]⟩ 0 0) 165)
  have b0 := hz.cell a0 (by simp)
  have b1 := hz.cell a1 (by simp)
  have d0 := hz.cell c0 (by simp)
  have d1 := hz.cell c1 (by simp)
  have d2 := hz.cell c2 (by simp)
  have d3 := hz.cell c3 (by simp)
  have d4 := hz.cell c4 (by simp)
  have hrow := heap_alloc_new w (.cells (tokCells 0 0 ⟨#[]⟩ 0 0) 165)
  have hinfo : (Tryz.prog.info? 165).map (·.size) = some 5 := by kernel_rfl
  unfold tokCells at *
  go_enter Tryz.func124, Tryz.ntmps124
  go_upto_region 1 with fail
  go_region_law (refine wpList_store_row rfl 165 (.tmp 5) (.tmp 15) rfl w.heap.size (tokCells t.kind t.pos ⟨t.s.toArray⟩ t.n t.scale) rfl rfl 165 _ hrow hinfo rfl (tok_one _ _ _ _ _) ?_)
  all_goals
    have hrw := heap_alloc_new w (.cells #[.int .i64 t.kind, .int .i64 t.pos, .string ⟨t.s.toArray⟩, .int .i64 t.n, .int .i64 t.scale] 165)
    have hMw := ((Mods.refl [] w).alloc (.cells #[.int .i64 t.kind, .int .i64 t.pos, .string ⟨t.s.toArray⟩, .int .i64 t.n, .int .i64 t.scale] 165)).drew
    have z3 := hMw.cell a3 (by simp)
    have t0 : (w.alloc (.cells #[.int .i64 t.kind, .int .i64 t.pos, .string ⟨t.s.toArray⟩, .int .i64 t.n, .int .i64 t.scale] 165)).drew.cell? ⟨w.heap.size, 0, none⟩ = some (.int .i64 t.kind) := cell_of_heap hrw 0
    have t2 : (w.alloc (.cells #[.int .i64 t.kind, .int .i64 t.pos, .string ⟨t.s.toArray⟩, .int .i64 t.n, .int .i64 t.scale] 165)).drew.cell? ⟨w.heap.size, 2, none⟩ = some (.string ⟨t.s.toArray⟩) := cell_of_heap hrw 2
    go_upto_region 2 with fail
    clear hrw hrow hinfo hz x0 x1 y0 y1 y2 y3 y4 b0 b1 d0 d1 d2 d3 d4
    generalize (w.alloc (.cells #[.int .i64 t.kind, .int .i64 t.pos, .string ⟨t.s.toArray⟩, .int .i64 t.n, .int .i64 t.scale] 165)).drew = w3 at *
    generalize w.heap.size = rb at *
    by_cases he : e0 = 0
    · have z0 : ((e0 : Int) == 0) = true := by rw [beq_iff_eq]; omega
      by_cases h1 : t.kind = 1
      · have k1 : ((t.kind : Int) == 1) = true := by rw [beq_iff_eq]; omega
        have hB := HB.out
        rw [decide_eq_true he, decide_eq_true h1] at hB
        clear HB he h1
        go_wp2_with fail
        go_ret
        exact ⟨by rw [← hB]; rfl, hMw⟩
      · have k1 : ((t.kind : Int) == 1) = false := by rw [beq_eq_false_iff_ne]; omega
        by_cases h5 : t.kind = 5
        · have k5 : ((t.kind : Int) == 5) = true := by rw [beq_iff_eq]; omega
          have hB := HB.out
          rw [decide_eq_true he, decide_eq_false h1, decide_eq_true h5] at hB
          clear HB he h1 h5
          go_wp2_with fail
          go_ret
          exact ⟨by rw [← hB]; rfl, hMw⟩
        · have k5 : ((t.kind : Int) == 5) = false := by rw [beq_eq_false_iff_ne]; omega
          have hB := HB.out
          rw [decide_eq_true he, decide_eq_false h1, decide_eq_false h5] at hB
          clear HB he h1 h5
          go_wp2_with fail
          go_ret
          exact ⟨by rw [← hB]; rfl, hMw⟩
    · have z0 : ((e0 : Int) == 0) = false := by rw [beq_eq_false_iff_ne]; omega
      have hB := HB.out
      rw [decide_eq_false he] at hB
      clear HB he
      go_wp2_with fail
      go_ret
      exact ⟨by rw [← hB]; rfl, hMw⟩
end Go.Proofs.YtpokbepenacnpaaGreatDoor

namespace Go.Proofs.YtpokbepenacnpaaGreatDoor
open Go.RowKit
set_option linter.unusedVariables false

theorem takes_eq (s : PS) (W : Bs) : s.takes W = (s.is [W], if s.is [W] = true then s.next else s) := by
  unfold PS.takes
  cases h : s.is [W] <;> simp
set_option maxRecDepth 100000 in
set_option maxHeartbeats 1000000 in
theorem takes_ref (w : World) (pb tg : Nat) (ts : List Tok) (s : PS) (f : Nat) (h : RSt w pb tg ts s f) (W : Bs) : Calls Tryz.prog 80 #[PtrV pb, .string ⟨W.toArray⟩] w fun e w' => e = .returned (.bool (s.takes W).1) ∧ Mods [pb] w w' ∧ RSt w' pb tg ts (s.takes W).2 f := by
  have his := is_ref w pb tg ts s f h W
  obtain ⟨i, cap, d, hb, hd, hi, ⟨hl, htp, hf⟩, -, -, -⟩ := h.tok
  rw [takes_eq]
  have HH := Lib.hid h
  unfold PtrV at *
  cases hq : s.is [W] with
  | false =>
    rw [hq] at his
    clear h hb hd hq
    go_enter Tryz.func80, Tryz.ntmps80
    go_wp2_with fail
    (with_reducible refine his.mono ?_)
    rintro e w2 ⟨rfl, hM2⟩
    clear his
    go_wp2_with fail
    go_ret
    exact ⟨rfl, hM2.mono (by simp), HH.out.later hM2⟩
  | true =>
    rw [hq] at his
    have hk := (is_kind hq).2
    clear h hq hd
    go_enter Tryz.func80, Tryz.ntmps80
    go_wp2_with fail
    (with_reducible refine his.mono ?_)
    rintro e w2 ⟨rfl, hM2⟩
    clear his
    have h2 := HH.out.later hM2
    obtain ⟨i, cap, d, hb, hd, hi, ⟨hl, htp, hf⟩, -, hnext, -⟩ := h2.tok
    have b1 := cell_of_heap hb 1
    change w2.cell? _ = some (.int .i64 i) at b1
    have g1 := frozen_of_heap hb 1
    have hMs : Mods [pb] w2 (w2.setCell ⟨pb, 1, none⟩ (.int .i64 ((i : Int) + 1))) := (Mods.refl _ _).setCell (.inl (by simp)) _
    have hfin := hnext _ hMs hk (heap_setCell_same hb 1 (.int .i64 ((i : Int) + 1)))
    have hMw := (hM2.mono (L' := [pb]) (by simp)).trans hMs (by simp)
    have HF := Lib.hid (And.intro hMw hfin)
    have hwz : IntKind.i64.wrap ((i : Int) + 1) = (i : Int) + 1 := IntWalk.i64_in _ (by omega)
    clear hfin hMw hMs hnext hb hd h2 hk hM2
    go_wp2_with fail
    go_ret
    exact ⟨rfl, HF.out.1, HF.out.2⟩

theorem want_eq (s : PS) (W : Bs) : s.want W = if (s.takes W).1 = true then (s.takes W).2 else (s.takes W).2.fail 8 := by
  unfold PS.want PS.takes
  cases h : s.is [W] <;> simp
set_option maxRecDepth 100000 in
set_option maxHeartbeats 1000000 in
theorem wants_ref (w : World) (pb tg : Nat) (ts : List Tok) (s : PS) (f : Nat) (h : RSt w pb tg ts s f) (W : Bs) : Calls Tryz.prog 77 #[PtrV pb, .string ⟨W.toArray⟩] w fun e w' => e = .returned (.tuple #[]) ∧ Mods [pb] w w' ∧ RSt w' pb tg ts (s.wants [W]) f := by
  have hta := takes_ref w pb tg ts s f h W
  have hw : s.wants [W] = s.want W := rfl
  rw [hw, want_eq]
  clear h hw
  generalize s.takes W = x at *
  obtain ⟨b, s2⟩ := x
  simp only at hta ⊢
  unfold PtrV at *
  cases b with
  | true =>
    rw [if_pos rfl]
    go_enter Tryz.func77, Tryz.ntmps77
    go_wp2_with fail
    (with_reducible refine hta.mono ?_)
    rintro e w2 ⟨rfl, hM2, hR2⟩
    clear hta
    go_wp2_with fail
    refine bodyPost_end (results_none rfl _ _ _) rfl ?_
    exact ⟨rfl, hM2, hR2⟩
  | false =>
    rw [if_neg (by decide)]
    go_enter Tryz.func77, Tryz.ntmps77
    go_wp2_with fail
    (with_reducible refine hta.mono ?_)
    rintro e w2 ⟨rfl, hM2, hR2⟩
    clear hta
    have hfa : Calls Tryz.prog 85 #[PtrV pb, .int .i64 8] w2 _ := fails_ref w2 pb tg ts s2 f hR2 8 (by decide)
    unfold PtrV at hfa
    go_wp2_with fail
    (with_reducible refine hfa.mono ?_)
    rintro e w3 ⟨rfl, hM3, hR3⟩
    clear hfa
    go_wp2_with fail
    refine bodyPost_end (results_none rfl _ _ _) rfl ?_
    exact ⟨rfl, hM2.trans hM3 (by simp), hR3⟩

set_option maxRecDepth 100000 in
set_option maxHeartbeats 1000000 in
theorem down_no (w : World) (pb tg : Nat) (ts : List Tok) (s : PS) (h : RSt w pb tg ts s 0) (he : s.e = 0) : Calls Tryz.prog 194 #[PtrV pb] w fun e w' => e = .returned (.bool false) ∧ Mods [pb] w w' ∧ RSt w' pb tg ts (s.fail 9) 0 := by
  obtain ⟨i, cap, d, hb, hd, hi, -, -, -, -⟩ := h.tok
  obtain rfl := hd he
  have hfa : Calls Tryz.prog 85 #[PtrV pb, .int .i64 9] w _ := fails_ref w pb tg ts s 0 h 9 (by decide)
  have a2 := cell_of_heap hb 2
  change w.cell? _ = some (.int .i64 64) at a2
  have hs : s.fail 9 = { s with pos := s.now.pos, e := 9 } := by unfold PS.fail; rw [if_pos he]
  have he9 : (s.fail 9).e = 9 := by rw [hs]
  unfold PtrV at *
  clear h hb hd hi
  generalize s.fail 9 = s9 at *
  clear hs
  go_enter Tryz.func194, Tryz.ntmps194
  go_wp2_with fail
  (with_reducible refine hfa.mono ?_)
  rintro e w2 ⟨rfl, hM2, hR2⟩
  clear hfa
  obtain ⟨i, cap, d, hb, hd, hi, ⟨hl, htp, hf⟩, -, -, hturn⟩ := hR2.tok
  have b2 := cell_of_heap hb 2
  have b3 := cell_of_heap hb 3
  change w2.cell? _ = some (.int .i64 d) at b2
  change w2.cell? _ = some (.int .i64 s9.e) at b3
  rw [he9] at b3
  change w2.cell? _ = some (.int .i64 9) at b3
  have g2 := frozen_of_heap hb 2
  have HF : Hid (∀ d', Mods [pb] w (w2.setCell ⟨pb, 2, none⟩ (.int .i64 d')) ∧ RSt (w2.setCell ⟨pb, 2, none⟩ (.int .i64 d')) pb tg ts s9 0) := Lib.hid fun d' => by
    have hMs : Mods [pb] w2 (w2.setCell ⟨pb, 2, none⟩ (.int .i64 d')) := (Mods.refl _ _).setCell (.inl (by simp)) _
    exact ⟨hM2.trans hMs (by simp), hturn _ s9 0 d' hMs rfl (fun h => by rw [he9] at h; cases h) (by omega) (heap_setCell_same hb 2 (.int .i64 d'))⟩
  clear hb hd hturn hR2 hM2 he9
  go_wp2_with fail
  go_ret
  exact ⟨rfl, (HF.out _).1, (HF.out _).2⟩

set_option maxRecDepth 100000 in
set_option maxHeartbeats 1000000 in
theorem down_go (w : World) (pb tg : Nat) (ts : List Tok) (s : PS) (f : Nat) (h : RSt w pb tg ts s (f + 1)) (he : s.e = 0) : Calls Tryz.prog 194 #[PtrV pb] w fun e w' => e = .returned (.bool true) ∧ Mods [pb] w w' ∧ RSt w' pb tg ts s f := by
  obtain ⟨i, cap, d, hb, hd, hi, ⟨hl, htp, hf⟩, -, -, hturn⟩ := h.tok
  obtain rfl := hd he
  obtain ⟨dd, hdd⟩ : ∃ dd : Int, (64 - ((f + 1 : Nat) : Int)) = dd := ⟨_, rfl⟩
  rw [hdd] at hb
  have a2 := cell_of_heap hb 2
  have a3 := cell_of_heap hb 3
  change w.cell? _ = some (.int .i64 dd) at a2
  change w.cell? _ = some (.int .i64 s.e) at a3
  rw [he] at a3
  change w.cell? _ = some (.int .i64 0) at a3
  have g2 := frozen_of_heap hb 2
  have z : (dd == 64) = false := by rw [beq_eq_false_iff_ne]; omega
  have hwz : IntKind.i64.wrap (dd + 1) = dd + 1 := IntWalk.i64_in _ (by omega)
  have HF : Hid (Mods [pb] w (w.setCell ⟨pb, 2, none⟩ (.int .i64 (dd + 1))) ∧ RSt (w.setCell ⟨pb, 2, none⟩ (.int .i64 (dd + 1))) pb tg ts s f) := Lib.hid (by
    have hMs : Mods [pb] w (w.setCell ⟨pb, 2, none⟩ (.int .i64 (dd + 1))) := (Mods.refl _ _).setCell (.inl (by simp)) _
    exact ⟨hMs, hturn _ s f (dd + 1) hMs rfl (fun h => by omega) (by omega) (heap_setCell_same hb 2 (.int .i64 (dd + 1)))⟩)
  unfold PtrV at *
  clear hb hd hturn h he hdd
  go_enter Tryz.func194, Tryz.ntmps194
  go_wp2_with fail
  go_ret
  exact ⟨rfl, HF.out.1, HF.out.2⟩

theorem of_yes {s : PS} {k : Nat} (he : s.e = 0) (hk : s.now.kind = k) : s.of k = (s.now, true, s.next) := by unfold PS.of; rw [if_pos ⟨he, hk⟩]
theorem of_no {s : PS} {k : Nat} (h : ¬ (s.e = 0 ∧ s.now.kind = k)) : s.of k = (zTok, false, s.fail 8) := by unfold PS.of; rw [if_neg h]
set_option maxRecDepth 100000 in
set_option maxHeartbeats 2000000 in
theorem name_ref (w : World) (pb tg : Nat) (ts : List Tok) (s : PS) (f : Nat) (h : RSt w pb tg ts s f) : Calls Tryz.prog 79 #[PtrV pb] w fun e w' => e = .returned (.string ⟨s.name.1.toArray⟩) ∧ Mods [pb] w w' ∧ RSt w' pb tg ts s.name.2 f := by
  obtain ⟨i, cap, d, hb, hd, hi, ⟨hl, htp, hf⟩, ⟨c0, c1, c2, c3, c4⟩, hnext, -⟩ := h.tok
  have hD := (Mods.refl [] w).drewN
  have a0 := cell_of_heap hb 0
  have a1 := cell_of_heap hb 1
  have a3 := cell_of_heap hb 3
  change w.cell? _ = some (.slice (some ⟨tg, 0, none⟩) ts.length cap) at a0
  change w.cell? _ = some (.int .i64 i) at a1
  change w.cell? _ = some (.int .i64 s.e) at a3
  have hii : (i : Int) < (ts.length : Int) := by omega
  have hfa : ∀ n, Calls Tryz.prog 85 #[PtrV pb, .int .i64 8] (w.drewN n) _ := fun n => fails_ref (w.drewN n) pb tg ts s f (h.later (hD n)) 8 (by decide)
  by_cases hok : s.e = 0 ∧ s.now.kind = 2
  · have hn : s.name = (s.now.s, s.next) := by unfold PS.name; rw [of_yes hok.1 hok.2]
    rw [hn]
    have z0 : ((s.e : Int) != 0) = false := bne_eq_false_iff_eq.2 (by omega)
    have z2 : ((s.now.kind : Int) != 2) = false := bne_eq_false_iff_eq.2 (by omega)
    have hk : s.now.kind ≠ 0 := by omega
    have HN := Lib.hid (And.intro hnext (And.intro hb (And.intro hk (And.intro htp c2))))
    have hwz : IntKind.i64.wrap ((i : Int) + 1) = (i : Int) + 1 := IntWalk.i64_in _ (by omega)
    unfold PtrV at *
    clear hnext hb hk hfa hok hn h hd
    generalize s.now = t at *
    generalize s.next = sn at *
    generalize s.e = e0 at *
    generalize s.pos = p0 at *
    have HD := Lib.hid hD
    clear hD
    obtain ⟨n, hn⟩ : ∃ n, ts.length = n := ⟨_, rfl⟩
    have HLN := Lib.hid hn
    rw [hn] at a0 hii hl hi
    clear hn
    go_enter Tryz.func79, Tryz.ntmps79
    go_upto_region 1 with fail
    go_quiet (fail)
    have hMq := HD.out nq
    generalize w.drewN nq = w2 at *
    have hb := hMq.heap HN.out.2.1 (by simp)
    have b1 := cell_of_heap hb 1
    change w2.cell? _ = some (.int .i64 i) at b1
    have g1 := frozen_of_heap hb 1
    have hMs : Mods [pb] w2 (w2.setCell ⟨pb, 1, none⟩ (.int .i64 ((i : Int) + 1))) := (Mods.refl _ _).setCell (.inl (by simp)) _
    have hMw := (hMq.mono (L' := [pb]) (by simp)).trans hMs (by simp)
    have hb3 := heap_setCell_same hb 1 (.int .i64 ((i : Int) + 1))
    have hfin := HN.out.1 _ hMw HN.out.2.2.1 hb3
    have k2 := hMw.cell HN.out.2.2.2.2 (by simpa using HN.out.2.2.2.1)
    have e0' := cell_of_heap hb3 0
    have e1' := cell_of_heap hb3 1
    change World.cell? _ _ = some (.slice (some ⟨tg, 0, none⟩) ts.length cap) at e0'
    change World.cell? _ _ = some (.int .i64 ((i : Int) + 1)) at e1'
    rw [HLN.out] at e0'
    clear hb hb3 hMs hMq a0 a1 a3 c0 c1 c2 c3 c4
    go_upto_region 5 with fail
    generalize w2.setCell ⟨pb, 1, none⟩ (.int .i64 ((i : Int) + 1)) = w3 at *
    have hsub : IntKind.i64.wrap ((i : Int) + 1 - 1) = (i : Int) := by rw [Int.add_sub_cancel]; exact IntWalk.i64_in _ (by omega)
    go_quiet (fail)
    have hMz := hMw.drewN nq
    have hRz := hfin.later ((Mods.refl [] w3).drewN nq)
    generalize w3.drewN nq = w4 at *
    clear e0' e1' k2
    go_wp2_with fail
    go_ret
    exact ⟨rfl, hMz, hRz⟩
  · have hn : s.name = ([], s.fail 8) := by unfold PS.name; rw [of_no hok]; rfl
    rw [hn]
    have hz : ((s.e : Int) != 0) = true ∨ (((s.e : Int) != 0) = false ∧ ((s.now.kind : Int) != 2) = true) := by
      by_cases he : s.e = 0
      · exact .inr ⟨bne_eq_false_iff_eq.2 (by omega), bne_iff_ne.2 (by intro h; exact hok ⟨he, by omega⟩)⟩
      · exact .inl (bne_iff_ne.2 (by omega))
    have HF := Lib.hid hfa
    unfold PtrV at *
    clear hnext hb hfa hok hn h hd c1 c2 c3 c4
    generalize s.now = t at *
    generalize s.fail 8 = s8 at *
    generalize s.e = e0 at *
    have HD := Lib.hid hD
    clear hD
    rcases hz with z0 | ⟨z0, z2⟩
    all_goals
      go_enter Tryz.func79, Tryz.ntmps79
      go_upto_region 1 with fail
      go_quiet (fail)
      have hMq := HD.out nq
      have hf2 := HF.out nq
      generalize w.drewN nq = w2 at *
      go_wp2_with fail
      (with_reducible refine hf2.mono ?_)
      rintro e w3 ⟨rfl, hM3, hR3⟩
      clear hf2
      go_wp2_with fail
      go_ret
      exact ⟨rfl, (hMq.mono (L' := [pb]) (by simp)).trans hM3 (by simp), hR3⟩
theorem fail_two (s : PS) (k j : Nat) (hk : k ≠ 0) : (s.fail k).fail j = s.fail k := by
  have h : (s.fail k).e ≠ 0 := by
    unfold PS.fail
    split
    · exact hk
    · assumption
  generalize s.fail k = x at *
  unfold PS.fail
  rw [if_neg h]
theorem count_yes {s : PS} (he : s.e = 0) (hk : s.now.kind = 3) (h0 : s.now.scale = 0) : s.count = ((s.now.n : Int), s.next) := by
  unfold PS.count
  simp only [h0, Nat.lt_irrefl, if_false]
  rw [of_yes he hk]
  rfl
theorem count_no {s : PS} (h : ¬ (s.e = 0 ∧ s.now.kind = 3 ∧ s.now.scale = 0)) : s.count = (-1, s.fail 8) := by
  have h1 : (if 0 < s.now.scale then s.fail 8 else s).of 3 = (zTok, false, s.fail 8) := by
    by_cases hs : 0 < s.now.scale
    · rw [if_pos hs]
      rw [of_no (s := s.fail 8), fail_two s 8 8 (by decide)]
      rintro ⟨he, -⟩
      revert he
      unfold PS.fail
      split
      · exact fun h => Nat.noConfusion (h : (8 : Nat) = 0)
      · rename_i hne; exact hne
    · rw [if_neg hs]
      exact of_no fun hh => h ⟨hh.1, hh.2, by omega⟩
  unfold PS.count
  simp only [h1]
  rfl
set_option maxRecDepth 100000 in
set_option maxHeartbeats 2000000 in
theorem count_ref (w : World) (pb tg : Nat) (ts : List Tok) (s : PS) (f : Nat) (h : RSt w pb tg ts s f) : Calls Tryz.prog 84 #[PtrV pb] w fun e w' => e = .returned (.int .i64 s.count.1) ∧ Mods [pb] w w' ∧ RSt w' pb tg ts s.count.2 f := by
  obtain ⟨i, cap, d, hb, hd, hi, ⟨hl, htp, hf⟩, ⟨c0, c1, c2, c3, c4⟩, hnext, -⟩ := h.tok
  have hD := (Mods.refl [] w).drewN
  have a0 := cell_of_heap hb 0
  have a1 := cell_of_heap hb 1
  have a3 := cell_of_heap hb 3
  change w.cell? _ = some (.slice (some ⟨tg, 0, none⟩) ts.length cap) at a0
  change w.cell? _ = some (.int .i64 i) at a1
  change w.cell? _ = some (.int .i64 s.e) at a3
  have hii : (i : Int) < (ts.length : Int) := by omega
  have hfa : ∀ n, Calls Tryz.prog 85 #[PtrV pb, .int .i64 8] (w.drewN n) _ := fun n => fails_ref (w.drewN n) pb tg ts s f (h.later (hD n)) 8 (by decide)
  by_cases hok : s.e = 0 ∧ s.now.kind = 3 ∧ s.now.scale = 0
  · have hn : s.count = ((s.now.n : Int), s.next) := count_yes hok.1 hok.2.1 hok.2.2
    rw [hn]
    have z0 : ((s.e : Int) != 0) = false := bne_eq_false_iff_eq.2 (by omega)
    have z2 : ((s.now.kind : Int) != 3) = false := bne_eq_false_iff_eq.2 (by omega)
    have z4 : ¬ (0 : Int) < (s.now.scale : Int) := by omega
    have hk : s.now.kind ≠ 0 := by omega
    have HN := Lib.hid (And.intro hnext (And.intro hb (And.intro hk (And.intro htp c3))))
    have hwz : IntKind.i64.wrap ((i : Int) + 1) = (i : Int) + 1 := IntWalk.i64_in _ (by omega)
    unfold PtrV at *
    clear hnext hb hk hfa hok hn h hd
    generalize s.now = t at *
    generalize s.next = sn at *
    generalize s.e = e0 at *
    generalize s.pos = p0 at *
    have HD := Lib.hid hD
    clear hD
    obtain ⟨n, hn⟩ : ∃ n, ts.length = n := ⟨_, rfl⟩
    have HLN := Lib.hid hn
    rw [hn] at a0 hii hl hi
    clear hn
    go_enter Tryz.func84, Tryz.ntmps84
    go_upto_region 1 with fail
    go_quiet (fail)
    have hMq := HD.out nq
    generalize w.drewN nq = w2 at *
    have hb := hMq.heap HN.out.2.1 (by simp)
    have b1 := cell_of_heap hb 1
    change w2.cell? _ = some (.int .i64 i) at b1
    have g1 := frozen_of_heap hb 1
    have hMs : Mods [pb] w2 (w2.setCell ⟨pb, 1, none⟩ (.int .i64 ((i : Int) + 1))) := (Mods.refl _ _).setCell (.inl (by simp)) _
    have hMw := (hMq.mono (L' := [pb]) (by simp)).trans hMs (by simp)
    have hb3 := heap_setCell_same hb 1 (.int .i64 ((i : Int) + 1))
    have hfin := HN.out.1 _ hMw HN.out.2.2.1 hb3
    have k2 := hMw.cell HN.out.2.2.2.2 (by simpa using HN.out.2.2.2.1)
    have e0' := cell_of_heap hb3 0
    have e1' := cell_of_heap hb3 1
    change World.cell? _ _ = some (.slice (some ⟨tg, 0, none⟩) ts.length cap) at e0'
    change World.cell? _ _ = some (.int .i64 ((i : Int) + 1)) at e1'
    rw [HLN.out] at e0'
    clear hb hb3 hMs hMq a0 a1 a3 c0 c1 c2 c3 c4
    go_upto_region 5 with fail
    generalize w2.setCell ⟨pb, 1, none⟩ (.int .i64 ((i : Int) + 1)) = w3 at *
    have hsub : IntKind.i64.wrap ((i : Int) + 1 - 1) = (i : Int) := by rw [Int.add_sub_cancel]; exact IntWalk.i64_in _ (by omega)
    go_quiet (fail)
    have hMz := hMw.drewN nq
    have hRz := hfin.later ((Mods.refl [] w3).drewN nq)
    generalize w3.drewN nq = w4 at *
    clear e0' e1' k2
    go_wp2_with fail
    go_ret
    exact ⟨rfl, hMz, hRz⟩
  · have hn : s.count = (-1, s.fail 8) := count_no hok
    rw [hn]
    have hz : ((s.e : Int) != 0) = true ∨ (((s.e : Int) != 0) = false ∧ ((s.now.kind : Int) != 3) = true) ∨ (((s.e : Int) != 0) = false ∧ ((s.now.kind : Int) != 3) = false ∧ (0 : Int) < (s.now.scale : Int)) := by
      by_cases he : s.e = 0
      · by_cases hk : s.now.kind = 3
        · exact .inr (.inr ⟨bne_eq_false_iff_eq.2 (by omega), bne_eq_false_iff_eq.2 (by omega), by
            have : s.now.scale ≠ 0 := fun h => hok ⟨he, hk, h⟩
            omega⟩)
        · exact .inr (.inl ⟨bne_eq_false_iff_eq.2 (by omega), bne_iff_ne.2 (by omega)⟩)
      · exact .inl (bne_iff_ne.2 (by omega))
    have HF := Lib.hid hfa
    unfold PtrV at *
    clear hnext hb hfa hok hn h hd c1 c2 c3
    generalize s.now = t at *
    generalize s.fail 8 = s8 at *
    generalize s.e = e0 at *
    have HD := Lib.hid hD
    clear hD
    rcases hz with z0 | ⟨z0, z2⟩ | ⟨z0, z2, z4⟩
    all_goals
      go_enter Tryz.func84, Tryz.ntmps84
      go_upto_region 1 with fail
      go_quiet (fail)
      have hMq := HD.out nq
      have hf2 := HF.out nq
      generalize w.drewN nq = w2 at *
      go_wp2_with fail
      (with_reducible refine hf2.mono ?_)
      rintro e w3 ⟨rfl, hM3, hR3⟩
      clear hf2
      go_wp2_with fail
      go_ret
      exact ⟨rfl, (hMq.mono (L' := [pb]) (by simp)).trans hM3 (by simp), hR3⟩
end Go.Proofs.YtpokbepenacnpaaGreatDoor

namespace Go.Proofs.YtpokbepenacnpaaGreatDoor
open Go.RowKit
set_option linter.unusedVariables false

/-- A token is passed over. -/
theorem RSt.pass {w : World} {pb tg : Nat} {ts : List Tok} {s : PS} {f : Nat} (h : RSt w pb tg ts s f) (hk : s.now.kind ≠ 0) : ∃ i : Nat, i ≤ 10000 ∧ w.cell? ⟨pb, 1, none⟩ = some (.int .i64 i) ∧ w.frozen? ⟨pb, 1, none⟩ = false ∧ IntKind.i64.wrap ((i : Int) + 1) = (i : Int) + 1 ∧
    Mods [pb] w (w.setCell ⟨pb, 1, none⟩ (.int .i64 ((i : Int) + 1))) ∧ RSt (w.setCell ⟨pb, 1, none⟩ (.int .i64 ((i : Int) + 1))) pb tg ts s.next f := by
  obtain ⟨i, cap, d, hb, hd, hi, ⟨hl, htp, hf⟩, -, hnext, -⟩ := h.tok
  have hMs : Mods [pb] w (w.setCell ⟨pb, 1, none⟩ (.int .i64 ((i : Int) + 1))) := (Mods.refl _ _).setCell (.inl (by simp)) _
  exact ⟨i, by omega, cell_of_heap hb 1, frozen_of_heap hb 1, IntWalk.i64_in _ (by omega), hMs, hnext _ hMs hk (heap_setCell_same hb 1 (.int .i64 ((i : Int) + 1)))⟩
/-- Back from what was one deeper. -/
theorem RSt.up {w : World} {pb tg : Nat} {ts : List Tok} {s : PS} {f : Nat} (h : RSt w pb tg ts s f) (hf1 : f + 1 ≤ 64) : ∃ d : Int, w.cell? ⟨pb, 2, none⟩ = some (.int .i64 d) ∧ w.frozen? ⟨pb, 2, none⟩ = false ∧
    Mods [pb] w (w.setCell ⟨pb, 2, none⟩ (.int .i64 (wrap64 (d - 1)))) ∧ RSt (w.setCell ⟨pb, 2, none⟩ (.int .i64 (wrap64 (d - 1)))) pb tg ts s (f + 1) := by
  obtain ⟨i, cap, d, hb, hd, hi, ⟨hl, htp, hf⟩, -, -, hturn⟩ := h.tok
  have hMs : Mods [pb] w (w.setCell ⟨pb, 2, none⟩ (.int .i64 (wrap64 (d - 1)))) := (Mods.refl _ _).setCell (.inl (by simp)) _
  refine ⟨d, cell_of_heap hb 2, frozen_of_heap hb 2, hMs, hturn _ s (f + 1) _ hMs rfl (fun he => ?_) hf1 (heap_setCell_same hb 2 _)⟩
  have := hd he
  rw [IntWalk.wrap64_in _ (by omega)]
  omega
/-- Where it stood still: one deeper was too deep. -/
theorem RSt.upe {w : World} {pb tg : Nat} {ts : List Tok} {s : PS} {f f' : Nat} (h : RSt w pb tg ts s f) (he : s.e ≠ 0) (hf1 : f' ≤ 64) : ∃ d : Int, w.cell? ⟨pb, 2, none⟩ = some (.int .i64 d) ∧ w.frozen? ⟨pb, 2, none⟩ = false ∧
    ∀ d' : Int, Mods [pb] w (w.setCell ⟨pb, 2, none⟩ (.int .i64 d')) ∧ RSt (w.setCell ⟨pb, 2, none⟩ (.int .i64 d')) pb tg ts s f' := by
  obtain ⟨i, cap, d, hb, hd, hi, ⟨hl, htp, hf⟩, -, -, hturn⟩ := h.tok
  refine ⟨d, cell_of_heap hb 2, frozen_of_heap hb 2, fun d' => ?_⟩
  have hMs : Mods [pb] w (w.setCell ⟨pb, 2, none⟩ (.int .i64 d')) := (Mods.refl _ _).setCell (.inl (by simp)) _
  exact ⟨hMs, hturn _ s f' d' hMs rfl (fun h => absurd h he) hf1 (heap_setCell_same hb 2 (.int .i64 d'))⟩
theorem fail_e {s : PS} {k : Nat} (hk : k ≠ 0) : (s.fail k).e ≠ 0 := by
  unfold PS.fail
  split
  · exact hk
  · assumption

theorem x_le {a xb x : Nat} (h : a = xb) (hx : x ∈ [xb]) : a ≤ x := by
  have : x = xb := by simpa using hx
  omega
abbrev nodeA (op : ByteArray) (pos : Int) (table name : ByteArray) (n scale : Int) (str : ByteArray) (args : Value) : Array Value := #[.string op, .int .i64 pos, .string table, .string name, .int .i64 n, .int .i64 scale, .string str, args]
set_option maxRecDepth 100000 in
set_option maxHeartbeats 4000000 in
theorem column_ref (w : World) (pb tg : Nat) (ts : List Tok) (s : PS) (f : Nat) (h : RSt w pb tg ts s f) : Calls Tryz.prog 82 #[PtrV pb] w (RRes pb tg ts f columnF s w) := by
  obtain ⟨i, cap, d, hb, hd, hi, ⟨hl, htp, hf⟩, ⟨c0, c1, c2, c3, c4⟩, -, -⟩ := h.tok
  obtain ⟨hpl, htl⟩ := h.lt
  have a0 := cell_of_heap hb 0
  have a1 := cell_of_heap hb 1
  change w.cell? _ = some (.slice (some ⟨tg, 0, none⟩) ts.length cap) at a0
  change w.cell? _ = some (.int .i64 i) at a1
  have hii : (i : Int) < (ts.length : Int) := by omega
  have HFIN : Hid (∀ (w' : World) (st : PS) (tb nm : Bs), Mods [pb] w w' → RSt w' pb tg ts st f → w'.heap[w.heap.size]? = some (.cells (nodeA ⟨#[99, 111, 108, 117, 109, 110]⟩ s.now.pos ⟨tb.toArray⟩ ⟨nm.toArray⟩ 0 0 ⟨#[]⟩ (.slice none 0 0)) 174 (0, 0)) →
      columnF s = (.leaf { op := oColumn, pos := s.now.pos, table := tb, name := nm }, st) → RRes pb tg ts f columnF s w (.returned (.pointer (some ⟨w.heap.size, 0, none⟩))) w') := Lib.hid fun w' st tb nm hM hR hb hc => by
    refine ⟨w.heap.size, rfl, hM, by rw [hc]; exact hR, fun _ L hL => ?_⟩
    rw [hc]
    exact ⟨w.heap.size, rfl, fun hm => Nat.lt_irrefl _ (hL _ hm), hb⟩
  have HH := Lib.hid h
  have hM0 := ((Mods.refl [] w).alloc (.cells (nodeA ⟨#[99, 111, 108, 117, 109, 110]⟩ s.now.pos ⟨#[]⟩ ⟨#[]⟩ 0 0 ⟨#[]⟩ (.slice none 0 0)) 174)).drew
  have hx0 : (w.alloc (.cells (nodeA ⟨#[99, 111, 108, 117, 109, 110]⟩ s.now.pos ⟨#[]⟩ ⟨#[]⟩ 0 0 ⟨#[]⟩ (.slice none 0 0)) 174)).drew.heap[w.heap.size]? = _ := heap_alloc_new w (.cells (nodeA ⟨#[99, 111, 108, 117, 109, 110]⟩ s.now.pos ⟨#[]⟩ ⟨#[]⟩ 0 0 ⟨#[]⟩ (.slice none 0 0)) 174)
  have hcf : columnF s = if (s.name.2.takes wPoint).1 = true then (.leaf { op := oColumn, pos := s.now.pos, table := s.name.1, name := (s.name.2.takes wPoint).2.name.1 }, (s.name.2.takes wPoint).2.name.2) else (.leaf { op := oColumn, pos := s.now.pos, name := s.name.1 }, (s.name.2.takes wPoint).2) := rfl
  have HCF := Lib.hid hcf
  unfold PtrV at *
  clear h hb hd c0 c2 c3 c4 hcf
  generalize hpos : s.now.pos = pos at *
  have HPOS := Lib.hid hpos
  clear hpos
  obtain ⟨n, hn⟩ : ∃ n, ts.length = n := ⟨_, rfl⟩
  rw [hn] at a0 hii
  go_enter Tryz.func82, Tryz.ntmps82
  go_upto_region 1 with fail
  go_region_law (fail)
  all_goals
    go_upto_region 2 with fail
    have hR0 := HH.out.later hM0
    have hxw := Nat.le_refl w.heap.size
    have hpx : pb ≠ w.heap.size := by omega
    have htx : tg ≠ w.heap.size := by omega
    clear hn a0 a1
    generalize (w.alloc (.cells (nodeA ⟨#[99, 111, 108, 117, 109, 110]⟩ pos ⟨#[]⟩ ⟨#[]⟩ 0 0 ⟨#[]⟩ (.slice none 0 0)) 174)).drew = w1 at *
    obtain ⟨xb, hxb⟩ : ∃ xb, w.heap.size = xb := ⟨_, rfl⟩
    rw [hxb] at hx0 hxw hpx htx
    have HXB := Lib.hid hxb
    rw [hxb]
    clear hxb
    have h1 := name_ref w1 pb tg ts s f hR0
    obtain ⟨⟨nm, s1⟩, hs1⟩ : ∃ x, s.name = x := ⟨_, rfl⟩
    rw [hs1] at h1
    have hcf := HCF.out
    rw [hs1] at hcf
    simp only at h1 hcf
    have HC1 := Lib.hid hcf
    unfold PtrV at h1
    clear hR0 hs1 hcf HCF HH
    go_wp2_with fail
    (with_reducible refine h1.mono ?_)
    rintro e w2 ⟨rfl, hM2, hR2⟩
    clear h1
    have hx2 := hM2.heap hx0 (by simpa using hpx.symm)
    have y3 := cell_of_heap hx2 3
    change w2.cell? _ = some (.string ⟨#[]⟩) at y3
    have j3 := frozen_of_heap hx2 3
    have hx3 := heap_setCell_same hx2 3 (.string ⟨nm.toArray⟩)
    have hMs : Mods [xb] w2 (w2.setCell ⟨xb, 3, none⟩ (.string ⟨nm.toArray⟩)) := (Mods.refl _ _).setCell (.inl (by simp)) _
    have hR3 := hR2.mods hMs (by simpa using hpx) (by simpa using htx)
    have hM3 : Mods [pb] w (w2.setCell ⟨xb, 3, none⟩ (.string ⟨nm.toArray⟩)) := ((hM0.mono (L' := [pb]) (by simp)).trans hM2 (by simp)).trans hMs (fun x hx => .inr (x_le HXB.out hx))
    clear hM2 hR2 hx2 hMs hM0 hx0
    go_upto_region 3 with fail
    generalize w2.setCell ⟨xb, 3, none⟩ (.string ⟨nm.toArray⟩) = w3 at *
    have h2 : Calls Tryz.prog 80 #[PtrV pb, .string ⟨#[46]⟩] w3 _ := takes_ref w3 pb tg ts s1 f hR3 wPoint
    unfold PtrV at h2
    obtain ⟨⟨tk, s2⟩, hs2⟩ : ∃ x, s1.takes wPoint = x := ⟨_, rfl⟩
    rw [hs2] at h2
    have hcf := HC1.out
    rw [hs2] at hcf
    simp only at h2 hcf
    have HC2 := Lib.hid hcf
    clear hR3 hs2 hcf HC1 y3 j3
    go_wp2_with fail
    (with_reducible refine h2.mono ?_)
    rintro e w4 ⟨rfl, hM4, hR4⟩
    clear h2
    have hx4 := hM4.heap hx3 (by simpa using hpx.symm)
    have hMw4 := hM3.trans hM4 (by simp)
    clear hx3 hM3 hM4
    cases tk with
    | false =>
      have hcf := HC2.out
      rw [if_neg (by decide)] at hcf
      go_wp2_with fail
      go_ret
      have := HFIN.out w4 s2 [] nm hMw4 hR4 (by rw [HXB.out]; exact hx4) (by rw [hcf])
      rw [HXB.out] at this
      exact this
    | true =>
      have hcf := HC2.out
      rw [if_pos rfl] at hcf
      have HC3 := Lib.hid hcf
      clear hcf HC2
      have y3 := cell_of_heap hx4 3
      change w4.cell? _ = some (.string ⟨nm.toArray⟩) at y3
      have y2 := cell_of_heap hx4 2
      change w4.cell? _ = some (.string ⟨#[]⟩) at y2
      have j2 := frozen_of_heap hx4 2
      have hx5 := heap_setCell_same hx4 2 (.string ⟨nm.toArray⟩)
      have hMs : Mods [xb] w4 (w4.setCell ⟨xb, 2, none⟩ (.string ⟨nm.toArray⟩)) := (Mods.refl _ _).setCell (.inl (by simp)) _
      have hR5 := hR4.mods hMs (by simpa using hpx) (by simpa using htx)
      have hM5 : Mods [pb] w (w4.setCell ⟨xb, 2, none⟩ (.string ⟨nm.toArray⟩)) := hMw4.trans hMs (fun x hx => .inr (x_le HXB.out hx))
      clear hMs hx4 hR4 hMw4
      go_upto_region 5 with fail
      generalize w4.setCell ⟨xb, 2, none⟩ (.string ⟨nm.toArray⟩) = w5 at *
      have h3 := name_ref w5 pb tg ts s2 f hR5
      obtain ⟨⟨nm2, s3⟩, hs3⟩ : ∃ x, s2.name = x := ⟨_, rfl⟩
      rw [hs3] at h3
      have hcf := HC3.out
      rw [hs3] at hcf
      simp only at h3 hcf
      have HC4 := Lib.hid hcf
      unfold PtrV at h3
      clear hR5 hs3 hcf HC3 y3 y2 j2
      go_wp2_with fail
      (with_reducible refine h3.mono ?_)
      rintro e w6 ⟨rfl, hM6, hR6⟩
      clear h3
      have hx6 := hM6.heap hx5 (by simpa using hpx.symm)
      have y3 := cell_of_heap hx6 3
      change w6.cell? _ = some (.string ⟨nm.toArray⟩) at y3
      have j3 := frozen_of_heap hx6 3
      have hx7 := heap_setCell_same hx6 3 (.string ⟨nm2.toArray⟩)
      have hMs : Mods [xb] w6 (w6.setCell ⟨xb, 3, none⟩ (.string ⟨nm2.toArray⟩)) := (Mods.refl _ _).setCell (.inl (by simp)) _
      have hR7 := hR6.mods hMs (by simpa using hpx) (by simpa using htx)
      have hM7 : Mods [pb] w (w6.setCell ⟨xb, 3, none⟩ (.string ⟨nm2.toArray⟩)) := (hM5.trans hM6 (by simp)).trans hMs (fun x hx => .inr (x_le HXB.out hx))
      clear hMs hx6 hR6 hx5 hM5 hM6
      go_upto_region 6 with fail
      generalize w6.setCell ⟨xb, 3, none⟩ (.string ⟨nm2.toArray⟩) = w7 at *
      go_wp2_with fail
      go_ret
      have := HFIN.out w7 s3 nm nm2 hM7 hR7 (by rw [HXB.out]; exact hx7) HC4.out
      rw [HXB.out] at this
      exact this
end Go.Proofs.YtpokbepenacnpaaGreatDoor
