/-
  The document's chapter 11: All, walked: the tokens of any text. No condition.
-/
import Derived.Test.YtpghimiecigakaaDoorRdE
namespace Go.Proofs.YtpghimiecigakaaDoor
open Go.RowKit
set_option linter.unusedVariables false

theorem lexB_blank {c : UInt8} {r : List UInt8} {p : Nat} (h : isBl c = true) : lexB (c :: r) p = lexB r (p + 1) := by
  unfold lexB
  rw [List.dropWhile_cons, if_pos h, List.takeWhile_cons, if_pos h, List.length_cons]
  congr 1; omega
theorem lexB_not {c : UInt8} {r : List UInt8} {p : Nat} (h : isBl c = false) : lexB (c :: r) p = lexG (c :: r) p := by
  unfold lexB
  rw [List.dropWhile_cons, if_neg (by rw [h]; decide), List.takeWhile_cons, if_neg (by rw [h]; decide)]
  rfl
theorem drop_one {s : ByteArray} {p : Nat} {x : UInt8} (h : s.data.toList[p]? = some x) : s.data.toList.drop p = x :: s.data.toList.drop (p + 1) := by
  obtain ⟨h2, h3⟩ := List.getElem?_eq_some_iff.1 h
  rw [List.drop_eq_getElem_cons h2, h3]

theorem tokV_none {p : Nat} {k a : Int} {x : ByteArray} {n c len : Int} (h : tokV none p = .tuple #[.agg (tokCells k a x n c), .int .i64 len]) : len = 0 := by
  simp [tokV] at h
  omega
theorem tokV_some {t : TokC} {m p : Nat} {k a : Int} {x : ByteArray} {n c len : Int} (h : tokV (some (t, m)) p = .tuple #[.agg (tokCells k a x n c), .int .i64 len]) : k = t.kind ∧ a = p ∧ x = ⟨t.s.toArray⟩ ∧ n = t.n ∧ c = t.scale ∧ len = m := by
  simp [tokV] at h
  obtain ⟨⟨h1, h2, h3, h4, h5⟩, h6⟩ := h
  exact ⟨h1.symm, h2.symm, h3.symm, h4.symm, h5.symm, h6.symm⟩


set_option maxRecDepth 100000 in
set_option maxHeartbeats 4000000 in
theorem all_ref (w : World) (s : ByteArray) (hs : s.size ≤ 9223372036854775807) :
    Calls Tryd.prog 6 #[.string s] w (AllPost 33 w s) := by
  obtain ⟨i0, hi, hz0, hz1, hz2⟩ := info_parts (show (Tryd.prog.info? 33).map (fun i => (i.zero, i.size, i.bytes)) = some (some (.agg (tokCells 0 0 ⟨#[]⟩ 0 0)), 5, 48) by kernel_rfl)
  by_cases hbig : 4096 < s.size
  · have hbz : (4096 : Int) < (s.size : Int) := by omega
    have fin : ∀ w', Mods [] w w' → AllPost 33 w s (.returned (.tuple #[.slice none 0 0, .int .i64 0, .int .i64 5])) w' := fun w' h => by unfold AllPost; rw [if_pos hbig]; exact ⟨rfl, h⟩
    have FIN := Lib.hid fin
    clear fin hbig
    go_enter Tryd.func6, Tryd.ntmps6
    go_wp2_with fail
    go_returns
    exact FIN.out _ (Mods.refl _ _)
  · have hbz : ¬ (4096 : Int) < (s.size : Int) := by omega
    have hs4 : s.size ≤ 4096 := by omega
    have finb : ∀ p w', lexAll s.data.toList = .bad p → Mods [] w w' → AllPost 33 w s (.returned (.tuple #[.slice none 0 0, .int .i64 p, .int .i64 8])) w' := fun p w' hl h => by unfold AllPost; rw [if_neg hbig, hl]; exact ⟨rfl, h⟩
    have fing : ∀ ts t w', lexAll s.data.toList = .good ts → ToksOwn 33 w w' t ts → AllPost 33 w s (.returned (.tuple #[t, .int .i64 0, .int .i64 0])) w' := fun ts t w' hl h => by unfold AllPost; rw [if_neg hbig, hl]; exact ⟨t, rfl, h⟩
    have FINB := Lib.hid finb
    have FING := Lib.hid fing
    clear finb fing hbig
    have hst : Hid (lexAll s.data.toList = (lexB (s.data.toList.drop 0) 0).pre []) := Lib.hid (by rw [Lexed.pre_nil, List.drop_zero, lexB_zero])
    go_enter Tryd.func6, Tryd.ntmps6
    go_wp2_with fail
    go_loopw [5, 6] (fun t5 t6 wr => ∃ (p : Nat) (ts : List Tok), p ≤ s.size ∧ t6 = .int .i64 p ∧ ts.length ≤ p ∧ Hid (ToksOwn 33 w wr t5 ts) ∧ Hid (lexAll s.data.toList = (lexB (s.data.toList.drop p) p).pre ts)) (fun _ t6 _ => s.size - (intOf t6).toNat)
    case atStart => exact ⟨0, [], by omega, rfl, by simp, Lib.hid (ToksOwn.start _ _), hst⟩
    case round =>
      clear hst
      obtain ⟨p, ts, hp, rfl, hts, HO, HL⟩ := hrel
      obtain ⟨ao, cap, rfl⟩ := HO.out.slice
      by_cases hps : p < s.size
      · have hpz : (p : Int) < (s.size : Int) := by omega
        have hx := s_at s p hps
        obtain ⟨c, hc⟩ : ∃ c, s[p] = c := ⟨_, rfl⟩
        rw [hc] at hx
        have hdp := drop_one hx
        by_cases hbl : isBl c = true
        · have HN : Hid (lexAll s.data.toList = (lexB (s.data.toList.drop (p + 1)) (p + 1)).pre ts) := Lib.hid (by rw [HL.out, hdp, lexB_blank hbl])
          rcases bl_cases hbl with h | h | h | h
          all_goals
            subst h
            clear hx hdp hbl HL
            go_wp2_with fail
            go_roundw
            case measure => simp [intOf]; omega
            case rel => exact ⟨p + 1, ts, by omega, by go_num, by omega, HO, HN⟩
        · have hbl' : isBl c = false := by simpa using hbl
          have hbb : ¬ c.toNat = 32 ∧ ¬ c.toNat = 9 ∧ ¬ c.toNat = 10 ∧ ¬ c.toNat = 13 := by simpa [isBl, and_assoc] using hbl'
          have z1 : ((c.toNat : Int) == 32) = false := by rw [beq_eq_false_iff_ne]; omega
          have z2 : ((c.toNat : Int) == 9) = false := by rw [beq_eq_false_iff_ne]; omega
          have z3 : ((c.toNat : Int) == 10) = false := by rw [beq_eq_false_iff_ne]; omega
          have z4 : ((c.toNat : Int) == 13) = false := by rw [beq_eq_false_iff_ne]; omega
          have hLG : Hid (lexAll s.data.toList = (lexG (s.data.toList.drop p) p).pre ts) := Lib.hid (by rw [HL.out, hdp, lexB_not hbl'])
          have htk : tokL (s.data.toList.drop p) = if isLet c = true then wordL (s.data.toList.drop p) else if isDig c = true then numberL (s.data.toList.drop p) else if c = 39 then textT (s.data.toList.drop p) else markL (s.data.toList.drop p) := by rw [hdp]; rfl
          have hdne : s.data.toList.drop p ≠ [] := by rw [hdp]; simp
          have hdl : (s.data.toList.drop p).length = s.size - p := by rw [List.length_drop]; rfl
          have hmk := mark_ref wr s hs4 p hps
          have hwd := fun W => word_ref W s hs4 p (by omega)
          have hnm := fun W => number_ref W s hs4 p (by omega)
          have htx := fun W => text_ref W s hs4 p hps
          have hltr := fun W => (letter_ref W c _ rfl).mono (fun e w' h => (⟨h.1, h.2.symm⟩ : _ ∧ W = w'))
          have hdgr := fun W => (digit_ref W c _ rfl).mono (fun e w' h => (⟨h.1, h.2.symm⟩ : _ ∧ W = w'))
          obtain ⟨k0, a0, x0, n0, c0, l0, hf0⟩ := tokV_form (markL (s.data.toList.drop p)) p
          have HTK := Lib.hid htk
          have HDN := Lib.hid (And.intro hdne hdl)
          have HF0 := Lib.hid hf0
          have hinfo := tok_info_ref
          clear htk hdne hdl hdp hbl hbl' hbb hx HL hf0
          go_wp2_with fail
          (with_reducible refine hmk.mono ?_)
          rintro e w4 ⟨rfl, hM4⟩
          rw [HF0.out]
          clear hmk
          have hM5 := hM4.alloc (.cells (tokCells k0 a0 x0 n0 c0) 33)
          have hr5 := heap_alloc_new w4 (.cells (tokCells k0 a0 x0 n0 c0) 33)
          have htb := hM4.size
          go_upto_region 10 with fail
          generalize w4.alloc (.cells (tokCells k0 a0 x0 n0 c0) 33) = w5 at *
          generalize w4.heap.size = tb at *
          clear hM4
          have htk := HTK.out
          cases hL : isLet c with
          | true =>
            rw [hL] at hltr htk
            rw [if_pos rfl] at htk
            rw [← htk] at hwd
            have hdf : isDig c = false := by
              cases hd : isDig c with
              | false => rfl
              | true => rw [(dig_let hd).1] at hL; cases hL
            have h39 : c ≠ 39 := by intro h; rw [h] at hL; revert hL; decide
            have z5 : ((c.toNat : Int) == 39) = false := by rw [beq_eq_false_iff_ne]; exact fun h => h39 (UInt8.toNat_inj.1 (by show c.toNat = 39; omega))
            rw [hdf] at hdgr
            clear htk hnm htx hL hdf h39
            go_wp2_with fail
            (with_reducible refine (hltr _).mono ?_)
            rintro e w6 ⟨rfl, rfl⟩
            clear hltr
            go_wp2_with fail
            (with_reducible refine (hwd _).mono ?_)
            rintro e w6 ⟨rfl, hM6⟩
            obtain ⟨k1, a1, x1, n1, c1, l1, hf1⟩ := tokV_form (tokL (s.data.toList.drop p)) p
            rw [hf1]
            have hr6 := hM6.heap hr5 (by simp)
            have hM56 := hM5.trans hM6 (by simp)
            clear hM6 hM5 hr5
            go_upto_region 16 with (first | ((with_reducible refine (hdgr _).mono ?_); rintro e w9 ⟨rfl, rfl⟩) | refine wpList_store_row rfl 33 (.tmp 8) (.tmp 48) rfl tb (tokCells k1 a1 x1 n1 c1) rfl rfl 33 _ hr6 hinfo rfl (tok_one _ _ _ _ _) ?_)
            have hM7 := hM56.setRow (.inr htb) (tokCells k1 a1 x1 n1 c1)
            have hr7 := row_set_same (tokCells k1 a1 x1 n1 c1) hr6
            generalize w6.setRow tb (tokCells k1 a1 x1 n1 c1) = w7 at *
            clear hr6 hM56
            cases htk2 : tokL (s.data.toList.drop p) with
            | none =>
              have hf2 := hf1
              rw [htk2] at hf2
              have hl0 := tokV_none hf2
              subst hl0
              have fin := Lib.hid (fun w' => FINB.out p w' (hLG.out.trans (by rw [lexG_bad p HDN.out.1 htk2]; rfl)))
              have hMw := Lib.hid (HO.out.1.trans hM7 (by simp))
              clear hf2 htk2 hr7 hM7 HO hf1
              go_wp2_with fail
              go_returns
              exact fin.out _ hMw.out
            | some y =>
              obtain ⟨t, n⟩ := y
              have hf2 := hf1
              rw [htk2] at hf2
              obtain ⟨rfl, rfl, rfl, rfl, rfl, rfl⟩ := tokV_some hf2
              have hn := tokL_le htk2
              rw [HDN.out.2] at hn
              have hn0 : ((n : Int) == 0) = false := by rw [beq_eq_false_iff_ne]; omega
              have hstep : Hid (lexAll s.data.toList = (lexB (s.data.toList.drop (p + n)) (p + n)).pre (ts ++ [t.put p])) := Lib.hid (by rw [hLG.out, lexG_next p htk2, List.drop_drop, Lexed.pre_pre])
              have HO7 := Lib.hid (HO.out.quiet hM7)
              have hown := HO7.out.2.1
              have q0 := cell_of_heap hr7 0
              have q1 := cell_of_heap hr7 1
              have q2 := cell_of_heap hr7 2
              have q3 := cell_of_heap hr7 3
              have q4 := cell_of_heap hr7 4
              change w7.cell? _ = some (.int .i64 t.kind) at q0
              change w7.cell? _ = some (.int .i64 p) at q1
              change w7.cell? _ = some (.string ⟨t.s.toArray⟩) at q2
              change w7.cell? _ = some (.int .i64 t.n) at q3
              change w7.cell? _ = some (.int .i64 t.scale) at q4
              clear hf2 htk2 hr7 hM7 hf1 hLG HO
              go_wp2_with (at_builtin; refine wpList_app _ rfl _ _ 27 rfl 33 i0 _ 5 48 Tryd.underlying27 hi hz0 hz1 hz2 rfl (by decide) (.slice ao ts.length cap) ts.length (toksC ts) rfl (hown.alloc _) ⟨w7.heap.size, 0, none⟩ 1 1 (tokC1 (t.put p)) rfl rfl ?c1 (tokC1_one _) (by decide) ?c3 ?c4 ?_)
              case c1 => exact cells_new5 _ _ _ _ _ _ _
              case c3 => unfold maxLen; omega
              case c4 => omega
              intro g cap2 w8 hown8 hM8 hg8
              have hAA := (Mods.refl [] w7).alloc (.cells (tokCells t.kind p ⟨t.s.toArray⟩ t.n t.scale) 33)
              have hO8 := Lib.hid ((HO7.out.quiet hAA).push hown8 hM8 (by rw [size_alloc]; exact hg8))
              clear hown8 hM8 hg8 hAA hown q0 q1 q2 q3 q4
              go_wp2_with fail
              go_roundw
              case measure => simp [intOf]; omega
              case rel => exact ⟨p + n, ts ++ [t.put p], by omega, by go_num, by rw [List.length_append]; simp; omega, hO8, hstep⟩
          | false =>
            rw [hL] at hltr htk
            rw [if_neg (by decide)] at htk
            clear hwd hL
            go_wp2_with fail
            (with_reducible refine (hltr _).mono ?_)
            rintro e w6 ⟨rfl, rfl⟩
            clear hltr
            cases hdg : isDig c with
            | true =>
              rw [hdg] at hdgr
              rw [hdg, if_pos rfl] at htk
              rw [← htk] at hnm
              have h39 : c ≠ 39 := by intro h; rw [h] at hdg; revert hdg; decide
              have z5 : ((c.toNat : Int) == 39) = false := by rw [beq_eq_false_iff_ne]; exact fun h => h39 (UInt8.toNat_inj.1 (by show c.toNat = 39; omega))
              clear htk htx hdg h39
              go_wp2_with fail
              (with_reducible refine (hdgr _).mono ?_)
              rintro e w6 ⟨rfl, rfl⟩
              clear hdgr
              go_wp2_with fail
              (with_reducible refine (hnm _).mono ?_)
              rintro e w6 ⟨rfl, hM6⟩
              obtain ⟨k1, a1, x1, n1, c1, l1, hf1⟩ := tokV_form (tokL (s.data.toList.drop p)) p
              rw [hf1]
              have hr6 := hM6.heap hr5 (by simp)
              have hM56 := hM5.trans hM6 (by simp)
              clear hM6 hM5 hr5
              go_upto_region 16 with (refine wpList_store_row rfl 33 (.tmp 8) (.tmp 56) rfl tb (tokCells k1 a1 x1 n1 c1) rfl rfl 33 _ hr6 hinfo rfl (tok_one _ _ _ _ _) ?_)
              have hM7 := hM56.setRow (.inr htb) (tokCells k1 a1 x1 n1 c1)
              have hr7 := row_set_same (tokCells k1 a1 x1 n1 c1) hr6
              generalize w6.setRow tb (tokCells k1 a1 x1 n1 c1) = w7 at *
              clear hr6 hM56
              cases htk2 : tokL (s.data.toList.drop p) with
              | none =>
                have hf2 := hf1
                rw [htk2] at hf2
                have hl0 := tokV_none hf2
                subst hl0
                have fin := Lib.hid (fun w' => FINB.out p w' (hLG.out.trans (by rw [lexG_bad p HDN.out.1 htk2]; rfl)))
                have hMw := Lib.hid (HO.out.1.trans hM7 (by simp))
                clear hf2 htk2 hr7 hM7 HO hf1
                go_wp2_with fail
                go_returns
                exact fin.out _ hMw.out
              | some y =>
                obtain ⟨t, n⟩ := y
                have hf2 := hf1
                rw [htk2] at hf2
                obtain ⟨rfl, rfl, rfl, rfl, rfl, rfl⟩ := tokV_some hf2
                have hn := tokL_le htk2
                rw [HDN.out.2] at hn
                have hn0 : ((n : Int) == 0) = false := by rw [beq_eq_false_iff_ne]; omega
                have hstep : Hid (lexAll s.data.toList = (lexB (s.data.toList.drop (p + n)) (p + n)).pre (ts ++ [t.put p])) := Lib.hid (by rw [hLG.out, lexG_next p htk2, List.drop_drop, Lexed.pre_pre])
                have HO7 := Lib.hid (HO.out.quiet hM7)
                have hown := HO7.out.2.1
                have q0 := cell_of_heap hr7 0
                have q1 := cell_of_heap hr7 1
                have q2 := cell_of_heap hr7 2
                have q3 := cell_of_heap hr7 3
                have q4 := cell_of_heap hr7 4
                change w7.cell? _ = some (.int .i64 t.kind) at q0
                change w7.cell? _ = some (.int .i64 p) at q1
                change w7.cell? _ = some (.string ⟨t.s.toArray⟩) at q2
                change w7.cell? _ = some (.int .i64 t.n) at q3
                change w7.cell? _ = some (.int .i64 t.scale) at q4
                clear hf2 htk2 hr7 hM7 hf1 hLG HO
                go_wp2_with (at_builtin; refine wpList_app _ rfl _ _ 27 rfl 33 i0 _ 5 48 Tryd.underlying27 hi hz0 hz1 hz2 rfl (by decide) (.slice ao ts.length cap) ts.length (toksC ts) rfl (hown.alloc _) ⟨w7.heap.size, 0, none⟩ 1 1 (tokC1 (t.put p)) rfl rfl ?c1 (tokC1_one _) (by decide) ?c3 ?c4 ?_)
                case c1 => exact cells_new5 _ _ _ _ _ _ _
                case c3 => unfold maxLen; omega
                case c4 => omega
                intro g cap2 w8 hown8 hM8 hg8
                have hAA := (Mods.refl [] w7).alloc (.cells (tokCells t.kind p ⟨t.s.toArray⟩ t.n t.scale) 33)
                have hO8 := Lib.hid ((HO7.out.quiet hAA).push hown8 hM8 (by rw [size_alloc]; exact hg8))
                clear hown8 hM8 hg8 hAA hown q0 q1 q2 q3 q4
                go_wp2_with fail
                go_roundw
                case measure => simp [intOf]; omega
                case rel => exact ⟨p + n, ts ++ [t.put p], by omega, by go_num, by rw [List.length_append]; simp; omega, hO8, hstep⟩
            | false =>
              rw [hdg] at hdgr
              rw [hdg, if_neg (by decide)] at htk
              clear hnm hdg
              go_wp2_with fail
              (with_reducible refine (hdgr _).mono ?_)
              rintro e w6 ⟨rfl, rfl⟩
              clear hdgr
              by_cases h39 : c = 39
              · rw [if_pos h39] at htk
                rw [← htk] at htx
                have z5 : ((c.toNat : Int) == 39) = true := by rw [h39]; rfl
                clear htk h39
                go_wp2_with fail
                (with_reducible refine (htx _).mono ?_)
                rintro e w6 ⟨rfl, hM6⟩
                obtain ⟨k1, a1, x1, n1, c1, l1, hf1⟩ := tokV_form (tokL (s.data.toList.drop p)) p
                rw [hf1]
                have hr6 := hM6.heap hr5 (by simp)
                have hM56 := hM5.trans hM6 (by simp)
                clear hM6 hM5 hr5
                go_upto_region 16 with (refine wpList_store_row rfl 33 (.tmp 8) (.tmp 64) rfl tb (tokCells k1 a1 x1 n1 c1) rfl rfl 33 _ hr6 hinfo rfl (tok_one _ _ _ _ _) ?_)
                have hM7 := hM56.setRow (.inr htb) (tokCells k1 a1 x1 n1 c1)
                have hr7 := row_set_same (tokCells k1 a1 x1 n1 c1) hr6
                generalize w6.setRow tb (tokCells k1 a1 x1 n1 c1) = w7 at *
                clear hr6 hM56
                cases htk2 : tokL (s.data.toList.drop p) with
                | none =>
                  have hf2 := hf1
                  rw [htk2] at hf2
                  have hl0 := tokV_none hf2
                  subst hl0
                  have fin := Lib.hid (fun w' => FINB.out p w' (hLG.out.trans (by rw [lexG_bad p HDN.out.1 htk2]; rfl)))
                  have hMw := Lib.hid (HO.out.1.trans hM7 (by simp))
                  clear hf2 htk2 hr7 hM7 HO hf1
                  go_wp2_with fail
                  go_returns
                  exact fin.out _ hMw.out
                | some y =>
                  obtain ⟨t, n⟩ := y
                  have hf2 := hf1
                  rw [htk2] at hf2
                  obtain ⟨rfl, rfl, rfl, rfl, rfl, rfl⟩ := tokV_some hf2
                  have hn := tokL_le htk2
                  rw [HDN.out.2] at hn
                  have hn0 : ((n : Int) == 0) = false := by rw [beq_eq_false_iff_ne]; omega
                  have hstep : Hid (lexAll s.data.toList = (lexB (s.data.toList.drop (p + n)) (p + n)).pre (ts ++ [t.put p])) := Lib.hid (by rw [hLG.out, lexG_next p htk2, List.drop_drop, Lexed.pre_pre])
                  have HO7 := Lib.hid (HO.out.quiet hM7)
                  have hown := HO7.out.2.1
                  have q0 := cell_of_heap hr7 0
                  have q1 := cell_of_heap hr7 1
                  have q2 := cell_of_heap hr7 2
                  have q3 := cell_of_heap hr7 3
                  have q4 := cell_of_heap hr7 4
                  change w7.cell? _ = some (.int .i64 t.kind) at q0
                  change w7.cell? _ = some (.int .i64 p) at q1
                  change w7.cell? _ = some (.string ⟨t.s.toArray⟩) at q2
                  change w7.cell? _ = some (.int .i64 t.n) at q3
                  change w7.cell? _ = some (.int .i64 t.scale) at q4
                  clear hf2 htk2 hr7 hM7 hf1 hLG HO
                  go_wp2_with (at_builtin; refine wpList_app _ rfl _ _ 27 rfl 33 i0 _ 5 48 Tryd.underlying27 hi hz0 hz1 hz2 rfl (by decide) (.slice ao ts.length cap) ts.length (toksC ts) rfl (hown.alloc _) ⟨w7.heap.size, 0, none⟩ 1 1 (tokC1 (t.put p)) rfl rfl ?c1 (tokC1_one _) (by decide) ?c3 ?c4 ?_)
                  case c1 => exact cells_new5 _ _ _ _ _ _ _
                  case c3 => unfold maxLen; omega
                  case c4 => omega
                  intro g cap2 w8 hown8 hM8 hg8
                  have hAA := (Mods.refl [] w7).alloc (.cells (tokCells t.kind p ⟨t.s.toArray⟩ t.n t.scale) 33)
                  have hO8 := Lib.hid ((HO7.out.quiet hAA).push hown8 hM8 (by rw [size_alloc]; exact hg8))
                  clear hown8 hM8 hg8 hAA hown q0 q1 q2 q3 q4
                  go_wp2_with fail
                  go_roundw
                  case measure => simp [intOf]; omega
                  case rel => exact ⟨p + n, ts ++ [t.put p], by omega, by go_num, by rw [List.length_append]; simp; omega, hO8, hstep⟩
              · rw [if_neg h39] at htk
                have z5 : ((c.toNat : Int) == 39) = false := by rw [beq_eq_false_iff_ne]; exact fun h => h39 (UInt8.toNat_inj.1 (by show c.toNat = 39; omega))
                have hf1 := HF0.out
                rw [← htk] at hf1
                have hM7 := hM5
                have hr7 := hr5
                clear htk htx h39 hM5 hr5
                generalize w5 = w7 at *
                go_upto_region 16 with fail
                cases htk2 : tokL (s.data.toList.drop p) with
                | none =>
                  have hf2 := hf1
                  rw [htk2] at hf2
                  have hl0 := tokV_none hf2
                  subst hl0
                  have fin := Lib.hid (fun w' => FINB.out p w' (hLG.out.trans (by rw [lexG_bad p HDN.out.1 htk2]; rfl)))
                  have hMw := Lib.hid (HO.out.1.trans hM7 (by simp))
                  clear hf2 htk2 hr7 hM7 HO hf1
                  go_wp2_with fail
                  go_returns
                  exact fin.out _ hMw.out
                | some y =>
                  obtain ⟨t, n⟩ := y
                  have hf2 := hf1
                  rw [htk2] at hf2
                  obtain ⟨rfl, rfl, rfl, rfl, rfl, rfl⟩ := tokV_some hf2
                  have hn := tokL_le htk2
                  rw [HDN.out.2] at hn
                  have hn0 : ((n : Int) == 0) = false := by rw [beq_eq_false_iff_ne]; omega
                  have hstep : Hid (lexAll s.data.toList = (lexB (s.data.toList.drop (p + n)) (p + n)).pre (ts ++ [t.put p])) := Lib.hid (by rw [hLG.out, lexG_next p htk2, List.drop_drop, Lexed.pre_pre])
                  have HO7 := Lib.hid (HO.out.quiet hM7)
                  have hown := HO7.out.2.1
                  have q0 := cell_of_heap hr7 0
                  have q1 := cell_of_heap hr7 1
                  have q2 := cell_of_heap hr7 2
                  have q3 := cell_of_heap hr7 3
                  have q4 := cell_of_heap hr7 4
                  change w7.cell? _ = some (.int .i64 t.kind) at q0
                  change w7.cell? _ = some (.int .i64 p) at q1
                  change w7.cell? _ = some (.string ⟨t.s.toArray⟩) at q2
                  change w7.cell? _ = some (.int .i64 t.n) at q3
                  change w7.cell? _ = some (.int .i64 t.scale) at q4
                  clear hf2 htk2 hr7 hM7 hf1 hLG HO
                  go_wp2_with (at_builtin; refine wpList_app _ rfl _ _ 27 rfl 33 i0 _ 5 48 Tryd.underlying27 hi hz0 hz1 hz2 rfl (by decide) (.slice ao ts.length cap) ts.length (toksC ts) rfl (hown.alloc _) ⟨w7.heap.size, 0, none⟩ 1 1 (tokC1 (t.put p)) rfl rfl ?c1 (tokC1_one _) (by decide) ?c3 ?c4 ?_)
                  case c1 => exact cells_new5 _ _ _ _ _ _ _
                  case c3 => unfold maxLen; omega
                  case c4 => omega
                  intro g cap2 w8 hown8 hM8 hg8
                  have hAA := (Mods.refl [] w7).alloc (.cells (tokCells t.kind p ⟨t.s.toArray⟩ t.n t.scale) 33)
                  have hO8 := Lib.hid ((HO7.out.quiet hAA).push hown8 hM8 (by rw [size_alloc]; exact hg8))
                  clear hown8 hM8 hg8 hAA hown q0 q1 q2 q3 q4
                  go_wp2_with fail
                  go_roundw
                  case measure => simp [intOf]; omega
                  case rel => exact ⟨p + n, ts ++ [t.put p], by omega, by go_num, by rw [List.length_append]; simp; omega, hO8, hstep⟩
      · obtain rfl : p = s.size := by omega
        have hdn : s.data.toList.drop s.size = [] := List.drop_of_length_le (Nat.le_refl _)
        have fin := Lib.hid (fun t w' => FING.out (ts ++ [⟨0, s.size, [], 0, 0⟩]) t w' (HL.out.trans (by rw [hdn]; rfl)))
        have hown := HO.out.2.1
        clear hdn hps HL
        go_wp2_with (at_builtin; refine wpList_app _ rfl _ _ 27 rfl 33 i0 _ 5 48 Tryd.underlying27 hi hz0 hz1 hz2 rfl (by decide) (.slice ao ts.length cap) ts.length (toksC ts) rfl (hown.alloc _) ⟨wr.heap.size, 0, none⟩ 1 1 (tokC1 ⟨0, s.size, [], 0, 0⟩) rfl rfl ?c1 (tokC1_one _) (by decide) ?c3 ?c4 ?_)
        case c1 => exact cells_new5 _ _ _ _ _ _ _
        case c3 => unfold maxLen; omega
        case c4 => omega
        intro g cap2 w7 hown7 hM7 hg7
        have hAA := (Mods.refl [] wr).alloc (.cells (tokCells 0 s.size ⟨#[]⟩ 0 0) 33)
        have hO7 := Lib.hid ((HO.out.quiet hAA).push hown7 hM7 (by rw [size_alloc]; exact hg7))
        clear hown7 hM7 hg7 hAA
        go_wp2_with fail
        go_returns
        exact fin.out _ _ hO7.out
end Go.Proofs.YtpghimiecigakaaDoor
