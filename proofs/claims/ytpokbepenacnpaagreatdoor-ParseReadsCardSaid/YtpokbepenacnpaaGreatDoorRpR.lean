/-
  The document's Parse, walked. No condition but a text's length.
-/
import Derived.Test.YtpokbepenacnpaaGreatDoorRpQ
import Derived.Test.YtpokbepenacnpaaGreatDoorMQp
import Derived.Test.YtpokbepenacnpaaGreatDoorMRd
import Derived.Test.YtpokbepenacnpaaGreatDoorMPy
namespace Go.Proofs.YtpokbepenacnpaaGreatDoor
open Go.RowKit
set_option linter.unusedVariables false

/-- What the document's Parse hands back. -/
def RefPost (w : World) (r : Parsed) (e : Ending) (w' : World) : Prop :=
  Mods [] w w' ∧ match r with
    | .bad p k => e = .returned (.tuple #[.pointer none, .int .i64 p, .int .i64 k])
    | .good q => ∃ qb, e = .returned (.tuple #[PtrV qb, .int .i64 0, .int .i64 0]) ∧ QueryD w' qb q
theorem QueryD.later {w w' : World} {qb : Nat} {q : QueryT} (h : QueryD w qb q) (hM : Mods [] w w') : QueryD w' qb q := by
  obtain ⟨wq, vi, von, vwh, vg, vo, h1, h2⟩ := h
  exact ⟨wq, vi, von, vwh, vg, vo, hM.heap h1 (by simp), h2.go hM (by simp) id⟩

set_option maxRecDepth 100000 in
set_option maxHeartbeats 4000000 in
theorem ref_parse (w : World) (s : ByteArray) (hsz : s.size ≤ 9223372036854775807) :
    Calls Tryz.prog 11 #[.string s] w (RefPost w (parseV s.data.toList)) := by
  have hall := all_ref w s hsz
  have hlen : s.data.toList.length = s.size := rfl
  by_cases hbig : 4096 < s.size
  · have hv : parseV s.data.toList = .bad 0 5 := by unfold parseV; rw [if_pos (by rw [hlen]; exact hbig)]
    have FIN : Hid (∀ w', Mods [] w w' → RefPost w (parseV s.data.toList) (.returned (.tuple #[.pointer none, .int .i64 0, .int .i64 5])) w') := Lib.hid fun w' h => ⟨h, by rw [hv]; rfl⟩
    have ha : Calls Tryz.prog 30 #[.string s] w fun e w' => e = .returned (.tuple #[.slice none 0 0, .int .i64 0, .int .i64 5]) ∧ Mods [] w w' := hall.mono fun e w' h => by unfold AllPost at h; rw [if_pos hbig] at h; exact h
    clear hall hv hlen hbig
    go_enter Tryz.func11, Tryz.ntmps11
    go_wp2_with fail
    (with_reducible refine ha.mono ?_)
    rintro e w2 ⟨rfl, hM2⟩
    clear ha
    go_wp2_with fail
    go_returns
    exact FIN.out w2 hM2
  · cases hl : lexAll s.data.toList with
    | bad p =>
      have hv : parseV s.data.toList = .bad p 8 := by unfold parseV; rw [if_neg (by rw [hlen]; exact hbig)]; unfold parseAll; rw [hl]
      have FIN : Hid (∀ w', Mods [] w w' → RefPost w (parseV s.data.toList) (.returned (.tuple #[.pointer none, .int .i64 p, .int .i64 8])) w') := Lib.hid fun w' h => ⟨h, by rw [hv]; rfl⟩
      have ha : Calls Tryz.prog 30 #[.string s] w fun e w' => e = .returned (.tuple #[.slice none 0 0, .int .i64 p, .int .i64 8]) ∧ Mods [] w w' := hall.mono fun e w' h => by unfold AllPost at h; rw [if_neg hbig, hl] at h; exact h
      clear hall hv hlen hbig hl
      go_enter Tryz.func11, Tryz.ntmps11
      go_wp2_with fail
      (with_reducible refine ha.mono ?_)
      rintro e w2 ⟨rfl, hM2⟩
      clear ha
      go_wp2_with fail
      go_returns
      exact FIN.out w2 hM2
    | good ts =>
      have hv : parseV s.data.toList = parseT ts := by unfold parseV; rw [if_neg (by rw [hlen]; exact hbig)]; unfold parseAll; rw [hl]
      have hbeg := begin_ok hl (by omega)
      have hts : ts.length ≤ 4097 := by have := lexAll_len hl; omega
      have htw := lexAll_w hl
      obtain ⟨qz, I, hI, hIo⟩ := lexAll_ok hl
      have hwf : WfT ts := by
        have h2 := hbeg.2.1
        rw [hI] at h2 ⊢
        have : (I ++ [⟨0, qz, [], 0, 0⟩] : List Tok).drop ((I ++ [⟨0, qz, [], 0, 0⟩] : List Tok).length - 1) = [⟨0, qz, [], 0, 0⟩] := by simp
        rw [this, List.dropLast_concat] at h2
        exact h2
      have ha : Calls Tryz.prog 30 #[.string s] w fun e w' => ∃ t, e = .returned (.tuple #[t, .int .i64 0, .int .i64 0]) ∧ ToksOwn 165 w w' t ts := hall.mono fun e w' h => by unfold AllPost at h; rw [if_neg hbig, hl] at h; exact h
      rw [hv]
      have hne := lexAll_ne hl
      have hpos : 0 < ts.length := List.length_pos_iff.2 hne
      obtain ⟨q, s9, hq, hs9, hpt⟩ := parseT_split ts
      obtain ⟨RR, hRR⟩ : ∃ RR, parseT ts = RR := ⟨_, rfl⟩
      rw [hRR]
      rw [hRR] at hpt
      have HQ := Lib.hid (And.intro hq (And.intro hs9 hpt))
      clear hall hv hlen hbig hl hpt hq hs9 hbeg hI hRR hIo
      go_enter Tryz.func11, Tryz.ntmps11
      go_wp2_with fail
      (with_reducible refine ha.mono ?_)
      rintro e w2 ⟨t, rfl, hO⟩
      obtain ⟨g, cap, rfl, hat, hcap⟩ := hO.at hne
      have hMw2 : Mods [] w w2 := hO.1
      have hcc := own_cap hO.2.1
      have hoo := own_out hO.2.1
      have hMb := (Mods.refl [] w2).alloc (.cells #[.slice (some ⟨g, 0, none⟩) ts.length cap, .int .i64 0, .int .i64 0, .int .i64 0, .int .i64 0] 85)
      have hpb := heap_alloc_new w2 (.cells #[.slice (some ⟨g, 0, none⟩) ts.length cap, .int .i64 0, .int .i64 0, .int .i64 0, .int .i64 0] 85)
      have hgl : g < w2.heap.size := lt_of_cell (hat 0 (.int .i64 ((ts.head hne).kind : Int)) (by cases ts with | nil => exact absurd rfl hne | cons a r => rfl))
      have hps : RSt (w2.alloc (.cells #[.slice (some ⟨g, 0, none⟩) ts.length cap, .int .i64 0, .int .i64 0, .int .i64 0, .int .i64 0] 85)) w2.heap.size g ts ⟨ts ++ ts.drop (ts.length - 1), 0, 0⟩ 64 :=
        ⟨0, cap, 0, hpb, fun _ => by decide, hpos, rfl, ⟨hcap, hcc, by omega⟩, fun j u hu => hMb.cell (hat j u hu) (by simp), ⟨hwf, htw⟩, by omega, by decide⟩
      have hqa := query_ref _ w2.heap.size g ts 64 ⟨ts ++ ts.drop (ts.length - 1), 0, 0⟩ hps
      have HF := Lib.hid (And.intro hMw2 hMb)
      unfold PtrV at hqa
      clear hps hpb hMb hMw2 hoo hcc htw hwf ha hat hcap hgl hO
      obtain ⟨sq, hsq⟩ : ∃ x, queryF (lvl 64).expr ⟨ts ++ ts.drop (ts.length - 1), 0, 0⟩ = x := ⟨_, rfl⟩
      rw [hsq] at hqa HQ
      go_wp2_with fail
      (with_reducible refine hqa.mono ?_)
      rintro e w9 ⟨qb, rfl, hM9, hP9, hQA⟩
      (try unfold PtrV)
      clear hqa
      obtain ⟨i, cap9, d9, hb9, -⟩ := hP9.tok
      have hfe := fin9_eq sq.2
      have HQ1 := HQ.out
      obtain ⟨hq1, hq2, hpt⟩ := HQ1
      rw [hq2] at hfe
      rw [hfe.1, hfe.2] at hb9
      have c3 := cell_of_heap hb9 3
      have c4 := cell_of_heap hb9 4
      change w9.cell? _ = some (.int .i64 s9.e) at c3
      change w9.cell? _ = some (.int .i64 s9.pos) at c4
      have hze : s9.e = 0 → sq.2.e = 0 := fun h => of_zero_e (by rw [hq2]; exact h)
      have HG := Lib.hid (And.intro hM9 (And.intro hQA (And.intro hze (And.intro hq1 hpt))))
      clear hb9 hP9 hM9 hQA hfe hq1 hq2 hpt hze HQ hsq
      have hMf : Mods [] w w9 := (HF.out.1.trans HF.out.2 (by simp)).trans HG.out.1 (fun x hx => .inr (by
        obtain rfl : x = w2.heap.size := by simpa using hx
        exact HF.out.1.size))
      by_cases he : s9.e = 0
      · have z0 : ((s9.e : Int) != 0) = false := bne_eq_false_iff_eq.2 (by omega)
        have hfin : RefPost w RR (.returned (.tuple #[PtrV qb, .int .i64 0, .int .i64 0])) w9 := by
          have hRR : RR = .good q := by rw [HG.out.2.2.2.2, if_pos he]
          rw [hRR]
          refine ⟨hMf, qb, rfl, ?_⟩
          rw [← HG.out.2.2.2.1]
          exact HG.out.2.1 (HG.out.2.2.1 he)
        have HFIN := Lib.hid hfin
        clear hfin he
        go_wp2_with fail
        go_returns
        exact HFIN.out
      · have z0 : ((s9.e : Int) != 0) = true := bne_iff_ne.2 (by omega)
        have hfin : ∀ n, RefPost w RR (.returned (.tuple #[.pointer none, .int .i64 s9.pos, .int .i64 s9.e])) (w9.drewN n) := fun n => by
          have hRR : RR = .bad s9.pos s9.e := by rw [HG.out.2.2.2.2, if_neg he]
          rw [hRR]
          exact ⟨hMf.drewN n, rfl⟩
        have HFIN := Lib.hid hfin
        clear hfin he
        go_wp2_with fail
        go_quiet (fail)
        generalize hw : w9.drewN nq = wz
        go_wp2_with fail
        go_returns
        rw [← hw]
        exact HFIN.out _
end Go.Proofs.YtpokbepenacnpaaGreatDoor
