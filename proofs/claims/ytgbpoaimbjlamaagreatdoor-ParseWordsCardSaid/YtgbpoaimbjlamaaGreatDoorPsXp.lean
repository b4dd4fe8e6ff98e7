/-
  parse.Parse, walked. No condition but that Go's own variables hold what they were laid with.
-/
import Derived.Test.YtgbpoaimbjlamaaGreatDoorPsXq
import Derived.Test.YtgbpoaimbjlamaaGreatDoorMPq
import Derived.BigQuiet
namespace Go.Proofs.YtgbpoaimbjlamaaGreatDoor
open Go.RowKit
set_option linter.unusedVariables false

/-- A text's query, or where and how it fails: what is too long, too. -/
def parseV (l : Bs) : Parsed := if 4096 < l.length then .bad 0 5 else parseAll l
/-- What Parse hands back. -/
def ParsePost (w : World) (r : Parsed) (e : Ending) (w' : World) : Prop :=
  Mods [] w w' ∧ match r with
    | .bad p k => e = .returned (.tuple #[.pointer none, .int .i64 p, .int .i64 k])
    | .good q => QueryOk q ∧ ∃ qb, e = .returned (.tuple #[PtrV qb, .int .i64 0, .int .i64 0]) ∧ w.heap.size ≤ qb ∧ QueryAt w' [] qb q

theorem own_cap {w : World} {T : TypeId} {size g n cap : Nat} {xs : List Value} (h : w.ownsRow 0 T size (.slice (some ⟨g, 0, none⟩) n cap) n xs) : cap ≤ 9223372036854775807 := by
  rcases h.2 with ⟨hv, -⟩ | ⟨g', cap', cur, hv, -, -, hc, hm, -⟩
  · cases hv
  · simp only [Value.slice.injEq] at hv
    rw [hv.2.2]
    unfold maxLen at hm
    omega
theorem QueryAt.weaken {w : World} {L L' : List Nat} {qb : Nat} {q : QueryT} (h : QueryAt w L qb q) (hL : ∀ x ∈ L', x ∈ L) : QueryAt w L' qb q := by
  obtain ⟨vi, von, vwh, vg, vo, h1, h2⟩ := h
  exact ⟨vi, von, vwh, vg, vo, h1, h2.1.weaken itemRep hL, h2.2.1.weaken hL, h2.2.2.1.weaken hL, h2.2.2.2.1.weaken treeRep hL, h2.2.2.2.2.weaken keyRep hL⟩
theorem QueryAt.later {w w' : World} {qb : Nat} {q : QueryT} (h : QueryAt w [] qb q) (hM : Mods [] w w') : QueryAt w' [] qb q := by
  obtain ⟨vi, von, vwh, vg, vo, h1, h2⟩ := h
  exact ⟨vi, von, vwh, vg, vo, hM.heap h1 (by simp), h2.mods hM⟩
theorem parseT_split (ts : List Tok) : ∃ q s9, (queryF (lvl 64).expr ⟨ts ++ ts.drop (ts.length - 1), 0, 0⟩).1 = q ∧ ((queryF (lvl 64).expr ⟨ts ++ ts.drop (ts.length - 1), 0, 0⟩).2.of 0).2.2 = s9 ∧ parseT ts = if s9.e = 0 then .good q else .bad s9.pos s9.e := ⟨_, _, rfl, rfl, rfl⟩

set_option maxRecDepth 100000 in
set_option maxHeartbeats 4000000 in
theorem parse_any (w : World) (hT : Tabs w) (s : ByteArray) (hsz : s.size ≤ 9223372036854775807) :
    Calls Tryz.prog 13 #[.string s] w (ParsePost w (parseV s.data.toList)) := by
  have hall := all_any w hT s (by omega)
  obtain ⟨i0, hi, hz0, hz1, hz2⟩ := info_parts (show (Tryz.prog.info? 56).map (fun i => (i.zero, i.size, i.bytes)) = some (some (.agg (tokCells 0 0 ⟨#[]⟩ 0 0)), 5, 48) by kernel_rfl)
  have hlen : s.data.toList.length = s.size := rfl
  have HLEN := Lib.hid hlen
  by_cases hbig : 4096 < s.size
  · have hv : parseV s.data.toList = .bad 0 5 := by unfold parseV; rw [if_pos (by rw [hlen]; exact hbig)]
    have FIN : Hid (∀ w', Mods [] w w' → ParsePost w (parseV s.data.toList) (.returned (.tuple #[.pointer none, .int .i64 0, .int .i64 5])) w') := Lib.hid fun w' h => ⟨h, by rw [hv]; rfl⟩
    have ha : Calls Tryz.prog 17 #[.string s] w fun e w' => e = .returned (.tuple #[.slice none 0 0, .int .i64 0, .int .i64 5]) ∧ Mods [] w w' := hall.mono fun e w' h => by unfold AllPost at h; rw [if_pos hbig] at h; exact h
    clear hall hv hlen hbig
    go_enter Tryz.func13, Tryz.ntmps13
    go_wp2_with fail
    (with_reducible refine ha.mono ?_)
    rintro e w2 ⟨rfl, hM2⟩
    clear ha
    go_wp2_with fail
    go_returns
    exact FIN.out w2 hM2
  · cases hl : lexAll s.data.toList with
    | bad p =>
      have hv : parseV s.data.toList = .bad p 8 := by unfold parseV; rw [if_neg (by rw [hlen]; exact hbig)]; unfold parseAll; rw [hl]
      have FIN : Hid (∀ w', Mods [] w w' → ParsePost w (parseV s.data.toList) (.returned (.tuple #[.pointer none, .int .i64 p, .int .i64 8])) w') := Lib.hid fun w' h => ⟨h, by rw [hv]; rfl⟩
      have ha : Calls Tryz.prog 17 #[.string s] w fun e w' => e = .returned (.tuple #[.slice none 0 0, .int .i64 p, .int .i64 8]) ∧ Mods [] w w' := hall.mono fun e w' h => by unfold AllPost at h; rw [if_neg hbig, hl] at h; exact h
      clear hall hv hlen hbig hl
      go_enter Tryz.func13, Tryz.ntmps13
      go_wp2_with fail
      (with_reducible refine ha.mono ?_)
      rintro e w2 ⟨rfl, hM2⟩
      clear ha
      go_wp2_with fail
      go_returns
      exact FIN.out w2 hM2
    | good ts =>
      have hv : parseV s.data.toList = parseT ts := by unfold parseV; rw [if_neg (by rw [hlen]; exact hbig)]; unfold parseAll; rw [hl]
      have hbeg := begin_ok hl (by omega)
      have hts : ts.length ≤ 4097 := by have := lexAll_len hl; omega
      obtain ⟨qz, I, hI, -⟩ := lexAll_ok hl
      have ha : Calls Tryz.prog 17 #[.string s] w fun e w' => ∃ t, e = .returned (.tuple #[t, .int .i64 0, .int .i64 0]) ∧ ToksOwn 56 w w' t ts := hall.mono fun e w' h => by unfold AllPost at h; rw [if_neg hbig, hl] at h; exact h
      rw [hv]
      have hne := lexAll_ne hl
      have hpos : 0 < ts.length := List.length_pos_iff.2 hne
      obtain ⟨q, s9, hq, hs9, hpt⟩ := parseT_split ts
      obtain ⟨RR, hRR⟩ : ∃ RR, parseT ts = RR := ⟨_, rfl⟩
      rw [hRR]
      rw [hRR] at hpt
      have HQ := Lib.hid (And.intro hq (And.intro hs9 (And.intro hbeg (And.intro hI hpt))))
      clear hall hv hlen hbig hl hpt hq hs9 hbeg hI hRR
      go_enter Tryz.func13, Tryz.ntmps13
      go_wp2_with fail
      (with_reducible refine ha.mono ?_)
      rintro e w2 ⟨t, rfl, hO⟩
      obtain ⟨g, cap, rfl, hat, hcap⟩ := hO.at hne
      obtain ⟨k0, k1, k2, k3, k4⟩ := hat.tok (ts.length - 1) (by omega)
      obtain ⟨u, hu⟩ : ∃ u, ts[ts.length - 1] = u := ⟨_, rfl⟩
      rw [hu] at k0 k1 k2 k3 k4
      have hdr : ts.drop (ts.length - 1) = [u] := by
        rw [List.drop_eq_getElem_cons (by omega), hu]
        simp
        omega
      have HO := Lib.hid (And.intro hO (And.intro hu hdr))
      have hMw2 : Mods [] w w2 := hO.1
      have hown2 := hO.2.1
      clear ha hO hat hne hu hdr
      go_wp2_with (at_builtin; refine wpList_app _ rfl _ _ 52 rfl 56 i0 _ 5 48 Tryz.underlying52 hi hz0 hz1 hz2 rfl (by decide) (.slice (some ⟨g, 0, none⟩) ts.length cap) ts.length (toksC ts) rfl ((hown2.alloc _).alloc _) ⟨w2.heap.size + 1, 0, none⟩ 1 1 (tokC1 u) rfl rfl ?c1 (tokC1_one _) (by decide) ?c3 ?c4 ?_)
      case c1 => exact cells_new5b _ _ _ _ _ _ _ _
      case c3 => unfold maxLen; omega
      case c4 => omega
      intro g' cap2 w7 hown7 hM7 hg7
      have hMA := ((Mods.refl [] w2).alloc (.cells (tokCells u.kind u.pos ⟨u.s.toArray⟩ u.n u.scale) 56)).alloc (.cells (tokCells u.kind u.pos ⟨u.s.toArray⟩ u.n u.scale) 56)
      have hgw : w.heap.size ≤ g := HO.out.1.2.2 g rfl
      have hMw7 : Mods [] w w7 := (hMw2.trans hMA (by simp)).trans hM7 (fun x hx => .inr ((show x = g by simpa [Value.ownBlock] using hx) ▸ hgw))
      have hoo := own_out hown7
      have hcc := own_cap hown7
      have hhq := HQ.out
      rw [HO.out.2.2] at hhq
      obtain ⟨e1, e2, hbeg, hI, hpt⟩ := hhq
      have hpb := heap_alloc_new w7 (.cells #[.slice (some ⟨g', 0, none⟩) (ts.length + 1) cap2, .int .i64 0, .int .i64 0, .int .i64 0] 59)
      have hMb := (Mods.refl [] w7).alloc (.cells #[.slice (some ⟨g', 0, none⟩) (ts.length + 1) cap2, .int .i64 0, .int .i64 0, .int .i64 0] 59)
      have hps : PSt (w7.alloc (.cells #[.slice (some ⟨g', 0, none⟩) (ts.length + 1) cap2, .int .i64 0, .int .i64 0, .int .i64 0] 59)) w7.heap.size g' ⟨ts ++ [u], 0, 0⟩ 64 :=
        ⟨_, hpb, ⟨0, cap2, by simp, by simpa using hoo.2.1, hcc, fun j v hj => hMb.cell (by rw [Nat.zero_add]; exact hoo.2.2 j v (by rw [← toksC_snoc]; exact hj)) (by simp)⟩, hbeg.1, by decide, by omega⟩
      have hqa := query_any _ w7.heap.size g' 64 ⟨ts ++ [u], 0, 0⟩ hps hbeg.2.2.2 hbeg.2.1
      rw [e1, e2] at hqa
      have hqok : QueryOk q := by
        rw [← e1]
        exact (queryF_ok (goes_lvl 64).expr (fine_lvl 64).expr (s := ⟨ts ++ [u], 0, 0⟩) hbeg.2.2.1 hbeg.2.2.2).1
      have HF := Lib.hid (And.intro hMw7 (And.intro hMb (And.intro hqok (And.intro hpt hMw7.size))))
      unfold PtrV at hqa
      clear hps hpb hMb hMw7 hMA hoo hcc hbeg hI hpt hown7 hown2 hM7 hg7 HQ HO e1 e2 hqok hMw2 k0 k1 k2 k3 k4 hgw hcap
      go_wp2_with fail
      (with_reducible refine hqa.mono ?_)
      rintro e w9 ⟨qb, rfl, hM9, hP9, hqb, hQA⟩
      (try unfold PtrV)
      clear hqa
      obtain ⟨off, cap9, hb9, -⟩ := hP9.tok
      have c2 := cell_of_heap hb9 2
      have c3 := cell_of_heap hb9 3
      change w9.cell? _ = some (.int .i64 s9.pos) at c2
      change w9.cell? _ = some (.int .i64 s9.e) at c3
      have HG := Lib.hid (And.intro hM9 (And.intro hqb hQA))
      clear hb9 hP9 hM9 hqb hQA
      have hMf : Mods [] w w9 := (HF.out.1.trans HF.out.2.1 (by simp)).trans HG.out.1 (fun x hx => .inr (by
        obtain rfl : x = w7.heap.size := by simpa using hx
        exact HF.out.2.2.2.2))
      by_cases he : s9.e = 0
      · have z0 : ((s9.e : Int) != 0) = false := bne_eq_false_iff_eq.2 (by omega)
        have hfin : ParsePost w RR (.returned (.tuple #[PtrV qb, .int .i64 0, .int .i64 0])) w9 := by
          have hRR : RR = .good q := by rw [HF.out.2.2.2.1, if_pos he]
          rw [hRR]
          refine ⟨hMf, HF.out.2.2.1, qb, rfl, ?_, (HG.out.2.2 he).weaken (by simp)⟩
          have h1 := HG.out.2.1
          have h2 := HF.out.2.2.2.2
          rw [size_alloc] at h1
          omega
        have HFIN := Lib.hid hfin
        clear hfin he
        go_wp2_with fail
        go_returns
        exact HFIN.out
      · have z0 : ((s9.e : Int) != 0) = true := bne_iff_ne.2 (by omega)
        have hfin : ∀ n, ParsePost w RR (.returned (.tuple #[.pointer none, .int .i64 s9.pos, .int .i64 s9.e])) (w9.drewN n) := fun n => by
          have hRR : RR = .bad s9.pos s9.e := by rw [HF.out.2.2.2.1, if_neg he]
          rw [hRR]
          exact ⟨hMf.drewN n, rfl⟩
        have HFIN := Lib.hid hfin
        clear hfin he
        go_wp2_with fail
        go_quiet (fail)
        generalize hw : w9.drewN nq = wz
        go_wp2_with fail
        go_returns
        rw [← hw]
        exact HFIN.out _
end Go.Proofs.YtgbpoaimbjlamaaGreatDoor
