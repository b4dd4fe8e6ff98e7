/-
  The document's chapter 12: Right, Rows, walked. No condition.
-/
import Derived.Test.YtijapjnhjioknaaGreatDoorSdC
namespace Go.Proofs.YtijapjnhjioknaaGreatDoor
open Go.RowKit
open Go.Maps
set_option linter.unusedVariables false

def FineT (l : List Tbl) (i : Nat) : Prop := ∀ j (hj : j < l.length), j < i → tblOK l[j] = true ∧ ∀ k (hk : k < l.length), k < j → l[k].name ≠ l[j].name
theorem tblsOK_fine {l : List Tbl} (h : FineT l l.length) : tblsOK l = decide (l.length ≤ 16) := by
  rw [Bool.eq_iff_iff]
  simp only [tblsOK, Bool.and_eq_true, decide_eq_true_eq, List.all_eq_true]
  constructor
  · exact fun h => h.2.2
  · intro h3
    refine ⟨fun c hc => ?_, ?_, h3⟩
    · obtain ⟨j, hj, rfl⟩ := List.getElem_of_mem hc
      exact (h j hj hj).1
    · rw [List.nodup_iff_pairwise_ne, List.pairwise_iff_getElem]
      intro i j hi hj hij
      simp only [List.getElem_map]
      rw [List.length_map] at hi hj
      exact fun e => (h j hj hj).2 i hi hij (bytes_ext e)
theorem tblsOK_dup {l : List Tbl} {k j : Nat} (hj : j < l.length) (hk : k < j) (he : l[k].name = l[j].name) : tblsOK l = false := by
  rw [Bool.eq_false_iff]
  intro h
  simp only [tblsOK, Bool.and_eq_true, decide_eq_true_eq, List.all_eq_true] at h
  have hn := h.2.1
  rw [List.nodup_iff_pairwise_ne, List.pairwise_iff_getElem] at hn
  have := hn k j (by rw [List.length_map]; omega) (by rw [List.length_map]; omega) hk
  simp only [List.getElem_map] at this
  exact this (by unfold Tbl.nm; rw [he])
theorem tblsOK_bad {l : List Tbl} {j : Nat} (hj : j < l.length) (he : tblOK l[j] = false) : tblsOK l = false := by
  rw [Bool.eq_false_iff]
  intro h
  simp only [tblsOK, Bool.and_eq_true, decide_eq_true_eq, List.all_eq_true] at h
  have := h.1 _ (List.getElem_mem hj)
  rw [he] at this; cases this

set_option maxRecDepth 100000 in
set_option maxHeartbeats 2000000 in
theorem rights_ref (w : World) (l : List Tbl) (hl : ∀ t ∈ l, t.ok) (n : Nat) (hn : l.length = n) (hn63 : n ≤ 9223372036854775807) (ao : Option Addr) (cap : Nat) (hI : TblsIn w ao l []) :
    Calls Tryz.prog 11 #[.slice ao n cap] w fun e w' => e = .returned (.bool (tblsOK l)) ∧ Mods [] w w' := by
  have HI := Lib.hid (And.intro hI hl)
  have HN := Lib.hid hn
  have FIN : Hid (∀ b w', tblsOK l = b → Mods [] w w' → (Ending.returned (.bool b) : Ending) = .returned (.bool (tblsOK l)) ∧ Mods [] w w') := Lib.hid (fun b w' h1 h2 => ⟨by rw [h1], h2⟩)
  clear hI hl hn
  go_enter Tryz.func11, Tryz.ntmps11
  go_wp2_with fail
  go_loopg [3] n (fun gk t3 wr => ∃ i : Nat, i + gk = n ∧ t3 = .int .i64 i ∧ Mods [] w wr ∧ FineT l i)
  case atStart => exact ⟨0, by omega, rfl, Mods.refl _ _, fun j _ h => by omega⟩
  case round =>
    obtain ⟨i, hi, rfl, hM, hF⟩ := hrel
    by_cases hlt : i < n
    · have hiz : (i : Int) < (n : Int) := by omega
      have hil : i < l.length := by rw [HN.out]; exact hlt
      obtain ⟨cb, off, rfl, hcb, hcells⟩ := HI.out.1 (fun h => by rw [h] at hil; simp at hil)
      obtain ⟨c0, co, cc, c1, hC⟩ := hcells i hil
      have d0 := hM.cell c0 (by simp)
      have d1 := hM.cell c1 (by simp)
      have htok := HI.out.2 _ (List.getElem_mem hil)
      have hml : i < (l.map Tbl.name).length := by simpa using hil
      obtain ⟨f, hfl, hfi, hfv, hfe, hfb⟩ := findV_first (l.map Tbl.name) i hml
      simp only [List.getElem_map] at hfv hfe hfb
      rw [List.length_map] at hfl
      have hfind := fun W (h : Mods [] wr W) => find_ref W l n HN.out hn63 (some ⟨cb, off, none⟩) cap ((HI.out.1.mods hM).mods h) l[i].name
      simp only [hfv] at hfind
      have hbad := Lib.hid (fun he => tblsOK_bad (l := l) hil he)
      have hdup := Lib.hid (fun (h : f < i) => tblsOK_dup hil h hfe)
      have hnext : Hid (f = i → tblOK l[i] = true → FineT l (i + 1)) := Lib.hid (fun hf hg j hj hji => by
        by_cases hje : j = i
        · subst hje
          refine ⟨hg, fun k hk hkj => ?_⟩
          have := hfb k (by rw [List.length_map]; exact hk) (by omega)
          simpa using this
        · exact hF j hj (by omega))
      have hC2 := hC.mods hM
      obtain ⟨t, ht⟩ : ∃ t, l[i] = t := ⟨_, rfl⟩
      rw [ht] at d0 d1 htok hfind hbad hnext hC2
      obtain ⟨nc, hnc⟩ : ∃ nc, t.cols.length = nc := ⟨_, rfl⟩
      rw [hnc] at d1
      clear hfe hfb hfv c0 c1 hcells hF hml ht hC
      have htr := tableRight_ref wr t htok nc hnc co cc hC2
      obtain ⟨g1, hg1⟩ : ∃ g1, tblOK t = g1 := ⟨_, rfl⟩
      rw [hg1] at hbad hnext htr
      clear hg1 hC2 hnc
      go_wp2_with fail
      (with_reducible refine htr.mono ?_)
      rintro e w2 ⟨rfl, hM2⟩
      clear htr
      have x0 := hM2.cell d0 (by simp)
      clear d0 d1
      go_wp2_with fail
      (with_reducible refine (hfind _ hM2).mono ?_)
      rintro e w3 ⟨rfl, hM3⟩
      clear hfind
      have hMx := (hM.trans hM2 (by simp)).trans hM3 (by simp)
      cases g1 with
      | false =>
        have fin := FIN.out false w3 (hbad.out rfl) hMx
        clear FIN hbad hdup hnext
        go_wp2_with fail
        go_ret
        exact fin
      | true =>
        by_cases hfe : f = i
        · have hFn := Lib.hid (hnext.out hfe rfl)
          subst hfe
          clear FIN hbad hdup hnext
          go_wp2_with fail
          go_roundg (n - (f + 1))
          case measure => omega
          case rel => exact ⟨f + 1, by omega, by go_num, hMx, hFn.out⟩
        · have z3 : ((f : Int) == (i : Int)) = false := by rw [beq_eq_false_iff_ne]; omega
          have fin := FIN.out false w3 (hdup.out (by omega)) hMx
          clear FIN hbad hdup hnext
          go_wp2_with fail
          go_ret
          exact fin
    · obtain rfl : n = i := by omega
      have hres := tblsOK_fine (by rw [HN.out]; exact hF)
      rw [HN.out] at hres
      have HRES := Lib.hid hres
      clear hres hF
      go_wp2_with fail
      go_ret
      refine ⟨ret_bool ?_, hM⟩
      rw [HRES.out, decide_eq_decide]
      omega

set_option maxRecDepth 100000 in
set_option maxHeartbeats 4000000 in
theorem rows_ref (w : World) (t : Tbl) (ht : t.ok) (n : Nat) (hn : t.cols.length = n) (co : Option Addr) (cap : Nat) (hC : ColsIn w co t.cols []) (rs : List (List V)) (hrs : RowOk rs) (m : Nat) (hm : rs.length = m) (hm63 : m ≤ 9223372036854775807) (ro : Option Addr) (rcap : Nat) (hR : RowsIn w ro rs []) :
    Calls Tryz.prog 7 #[.agg #[.string t.name, .slice co n cap], .slice ro m rcap] w fun e w' => e = .returned (tri (rowsR t rs)) ∧ Mods [] w w' := by
  have hnc := ht.2.1
  rw [hn] at hnc
  have hMA := (Mods.refl [] w).alloc (.cells #[.string t.name, .slice co n cap] 24)
  have hb2 := heap_alloc_new w (.cells #[.string t.name, .slice co n cap] 24)
  have htr := tableRight_ref _ t ht n hn co cap (hC.mods hMA)
  have HI := Lib.hid (And.intro hC hR)
  have HN := Lib.hid (And.intro hn hm)
  have HO := Lib.hid hrs
  have FIN : Hid (∀ a b c w', rowsR t rs = (a, b, c) → Mods [] w w' → (Ending.returned (.tuple #[.int .i64 a, .int .i64 b, .int .i64 c]) : Ending) = .returned (tri (rowsR t rs)) ∧ Mods [] w w') := Lib.hid (fun a b c w' h1 h2 => ⟨by rw [h1]; rfl, h2⟩)
  have hRR : Hid (rowsR t rs = if tblOK t = true then rowsL t.cols 0 rs else (0, 0, 1)) := Lib.hid rfl
  clear hn hm hC hR hrs ht
  go_enter Tryz.func7, Tryz.ntmps7
  go_wp2_with fail
  (with_reducible refine htr.mono ?_)
  rintro e w1 ⟨rfl, hM1⟩
  clear htr
  have hMw := hMA.trans hM1 (by simp)
  have hbt := hM1.heap hb2 (by simp)
  generalize w.heap.size = tb at *
  clear hb2 hM1 hMA
  cases hok : tblOK t with
  | false =>
    have fin := FIN.out 0 0 1 w1 (by rw [hRR.out, hok]; rfl) hMw
    clear hRR FIN hok
    go_wp2_with fail
    go_returns
    exact fin
  | true =>
    have hRL : Hid (rowsR t rs = rowsL t.cols 0 (rs.drop 0)) := Lib.hid (by rw [hRR.out, hok]; rfl)
    clear hRR hok
    go_wp2_with fail
    go_loopg [8] m (fun gk t8 wr => ∃ i : Nat, i + gk = m ∧ t8 = .int .i64 i ∧ Mods [] w1 wr ∧ Hid (rowsR t rs = rowsL t.cols i (rs.drop i)))
    case atStart => exact ⟨0, by omega, rfl, Mods.refl _ _, hRL⟩
    case round =>
      clear hRL
      obtain ⟨i, hi, rfl, hM, HL⟩ := hrel
      have hMx := hMw.trans hM (by simp)
      by_cases hlt : i < m
      · have hiz : (i : Int) < (m : Int) := by omega
        have hil : i < rs.length := by rw [HN.out.2]; exact hlt
        have hne : rs ≠ [] := fun h => by rw [h] at hil; simp at hil
        obtain ⟨rb, roff, rfl, hrb, hcells⟩ := HI.out.2 hne
        obtain ⟨vo, c, hlc, q1, hV⟩ := hcells i hil
        have d1 := hMx.cell q1 (by simp)
        have hVx := hV.mods hMx
        have hvok := HO.out _ (List.getElem_mem hil)
        have hL := HL.out
        rw [drop_get hil, rowsL_cons] at hL
        obtain ⟨r, hr⟩ : ∃ r, rs[i] = r := ⟨_, rfl⟩
        rw [hr] at hlc d1 hVx hvok hL
        obtain ⟨rl, hrl⟩ : ∃ rl, r.length = rl := ⟨_, rfl⟩
        rw [hrl] at hlc d1 hvok hL
        rw [HN.out.1] at hL
        have HLL := Lib.hid hL
        have HV := Lib.hid (And.intro hVx (And.intro hvok.2 hrl))
        have hrl63 := hvok.1
        clear q1 hV hr hcells HL hL hVx hvok hrl hrb
        by_cases h10 : i = 10000
        · have fin := Lib.hid (fun w' h => FIN.out i 0 10 w' (by rw [HLL.out, if_pos h10]) h)
          have z1 : ((i : Int) == 10000) = true := by rw [beq_iff_eq]; omega
          clear HLL FIN h10
          go_wp2_with fail
          go_returns
          exact fin.out _ hMx
        · have z1 : ((i : Int) == 10000) = false := by rw [beq_eq_false_iff_ne]; omega
          have hL2 := HLL.out
          rw [if_neg h10] at hL2
          have HL2 := Lib.hid hL2
          clear hL2 HLL h10
          obtain ⟨mn, hmn⟩ : ∃ mn, min rl n = mn := ⟨_, rfl⟩
          have hmn1 : mn ≤ rl ∧ mn ≤ n ∧ (mn = rl ∨ mn = n) := by omega
          have e1 := cell_of_heap (hM.heap hbt (by simp)) 1
          change wr.cell? _ = some (.slice co n cap) at e1
          rw [hmn] at HL2
          have HMN := Lib.hid hmn
          clear hmn
          go_wp2_with fail
          rename World => wo
          go_loopg [9] mn (fun gj t9 wx => ∃ k : Nat, k + gj = mn ∧ t9 = .int .i64 k ∧ Mods [] wo wx ∧ Hid (badAt t.cols r 0 = badAt (t.cols.drop k) (r.drop k) k))
          case atStart => exact ⟨0, by omega, rfl, Mods.refl _ _, Lib.hid rfl⟩
          case round =>
            obtain ⟨k, hk, rfl, hMk, HB⟩ := hrel
            have hMy := hMx.trans hMk (by simp)
            have d2 := hMk.cell d1 (by simp)
            have e2 := hMk.cell e1 (by simp)
            by_cases hkl : k < mn
            · have hkc : k < t.cols.length := by rw [HN.out.1]; omega
              have hkr : k < r.length := by rw [HV.out.2.2]; omega
              obtain ⟨cb, coff, rfl, hcb, hcc⟩ := HI.out.1 (fun h => by rw [h] at hkc; simp at hkc)
              obtain ⟨c0, c1, c2, c3⟩ := hcc k hkc
              obtain ⟨vb, voff, rfl, hvb, hvv⟩ := HV.out.1 (fun h => by rw [h] at hkr; simp at hkr)
              obtain ⟨v0, v1, v2⟩ := hvv k hkr
              have x1 := hMy.cell c1 hcb
              have x2 := hMy.cell c2 hcb
              have x3 := hMy.cell c3 hcb
              have y0 := hMk.cell v0 hvb
              have y1 := hMk.cell v1 hvb
              have y2 := hMk.cell v2 hvb
              have hvs := HV.out.2.1 _ (List.getElem_mem hkr)
              have hB := HB.out
              rw [drop_get hkc, drop_get hkr, badAt_cons] at hB
              obtain ⟨cc, hcc2⟩ : ∃ cc, t.cols[k] = cc := ⟨_, rfl⟩
              obtain ⟨v, hv2⟩ : ∃ v, r[k] = v := ⟨_, rfl⟩
              rw [hcc2] at x1 x2 x3 hB
              rw [hv2] at y0 y1 y2 hvs hB
              have HBB := Lib.hid hB
              have hkn : (k : Int) < (n : Int) := by omega
              have hkrl : (k : Int) < (rl : Int) := by omega
              clear c0 c1 c2 c3 v0 v1 v2 hcc hvv hcc2 hv2 hB HB
              go_wp2_with fail
              have X1 : wr.drew.cell? ⟨cb, coff + k * 4 + 1, none⟩ = some (.int .i64 cc.k) := x1
              have Y0 : wr.drew.cell? ⟨vb, voff + k * 3, none⟩ = some (.bool v.z) := y0
              have hki : (0 : Int) ≤ (k : Int) ∧ (k : Int) < (n : Int) := by omega
              have hkj : (0 : Int) ≤ (k : Int) ∧ (k : Int) < (rl : Int) := by omega
              have hii : (0 : Int) ≤ (i : Int) ∧ (i : Int) < (m : Int) := by omega
              have hkt : (k : Int).toNat = k := by omega
              have hit : (i : Int).toNat = i := by omega
              have hMd := hMk.trans ((Mods.refl [] wr).drew) (by simp)
              have hMe := hMy.trans ((Mods.refl [] wr).drew) (by simp)
              clear hMy hMk X1 Y0
              go_still_tail 19, (by kernel_rfl)
              change wpList _ _ _ _ _ wr.drew
              generalize wr.drew = wd at *
              clear hki hkj hii hkt hit x1 x2 x3 y0 y1 y2 d2 e2
              cases hf : fitsV cc.k cc.s cc.null v.z v.n v.s with
              | false =>
                have hBn : badAt t.cols r 0 = some k := by rw [HBB.out, hf]; rfl
                have fin := Lib.hid (fun w' h => FIN.out i k 10 w' (by rw [HL2.out, hBn]) h)
                clear hBn HBB HL2 FIN
                go_wp2_with fail
                (with_reducible refine (ref_fits _ _ _ _ _ _ hvs _).mono ?_)
                rintro e w2 ⟨rfl, hM2⟩
                rw [hf]
                clear hf
                go_wp2_with fail
                go_returns
                exact fin.out _ (hMe.trans hM2 (by simp))
              | true =>
                have hBn : Hid (badAt t.cols r 0 = badAt (t.cols.drop (k + 1)) (r.drop (k + 1)) (k + 1)) := Lib.hid (by rw [HBB.out, hf]; rfl)
                clear HBB
                go_wp2_with fail
                (with_reducible refine (ref_fits _ _ _ _ _ _ hvs _).mono ?_)
                rintro e w2 ⟨rfl, hM2⟩
                rw [hf]
                clear hf
                go_wp2_with fail
                go_roundg (mn - (k + 1))
                case measure => omega
                case rel => exact ⟨k + 1, by omega, by go_num, hMd.trans hM2 (by simp), hBn⟩
            · obtain rfl : k = mn := by omega
              have hBn : badAt t.cols r 0 = none := by
                rw [HB.out]
                refine badAt_end _ ?_
                rw [List.length_drop, List.length_drop, HN.out.1, HV.out.2.2]
                omega
              have hL := HL2.out
              rw [hBn] at hL
              simp only at hL
              have HL3 := Lib.hid hL
              have hii : (0 : Int) ≤ (i : Int) ∧ (i : Int) < (m : Int) := by omega
              have hit : (i : Int).toNat = i := by omega
              clear hL HL2 HB hBn
              by_cases hrn : rl = n
              · have hL := HL3.out
                rw [if_pos hrn] at hL
                have HL4 := Lib.hid hL
                have z3 : ((rl : Int) == (n : Int)) = true := by rw [beq_iff_eq]; omega
                have z4 : ¬ (k : Int) < (rl : Int) := by omega
                clear hL HL3
                go_upto_region 15 with fail
                go_quiet (fail)
                have hMq := hMy.drewN nq
                have hMq2 := (hM.trans hMk (by simp)).drewN nq
                have d3 : (wr.drewN nq).cell? ⟨rb, roff + i, none⟩ = some (.slice vo rl c) := d2
                have e3 : (wr.drewN nq).cell? ⟨tb, 1, none⟩ = some (.slice co n cap) := e2
                generalize wr.drewN nq = wy at *
                clear d2 e2 hMk hMy
                go_wp2_with fail
                go_roundg (m - (i + 1))
                case measure => omega
                case rel => exact ⟨i + 1, by omega, by go_num, hMq2, HL4⟩
              · have z3 : ((rl : Int) == (n : Int)) = false := by rw [beq_eq_false_iff_ne]; omega
                have hL := HL3.out
                rw [if_neg hrn] at hL
                have fin := Lib.hid (fun w' h => FIN.out i k 10 w' hL h)
                have hmin := fun w => run_min (P := Tryz.prog) w 3 3 3 .i64 rl n k (by have := HMN.out; omega)
                clear hL HL3 FIN
                by_cases hlr : k = rl
                · subst hlr
                  have z4 : ¬ (k : Int) < (k : Int) := by omega
                  go_upto_region 15 with fail
                  go_quiet (fail)
                  have hMq := hMy.drewN nq
                  have hMq2 := (hM.trans hMk (by simp)).drewN nq
                  have d3 : (wr.drewN nq).cell? ⟨rb, roff + i, none⟩ = some (.slice vo k c) := d2
                  have e3 : (wr.drewN nq).cell? ⟨tb, 1, none⟩ = some (.slice co n cap) := e2
                  generalize wr.drewN nq = wy at *
                  clear d2 e2 hMk hMy
                  have d4 : wy.drew.cell? ⟨rb, roff + i, none⟩ = some (.slice vo k c) := d3
                  have e4 : wy.drew.cell? ⟨tb, 1, none⟩ = some (.slice co n cap) := e3
                  go_wp2_with fail
                  go_region
                  go_wp2_with fail
                  go_returns
                  exact fin.out _ hMq.drew
                · have z4 : (k : Int) < (rl : Int) := by omega
                  have z5 : ¬ (k : Int) < (n : Int) := by omega
                  go_upto_region 15 with fail
                  go_quiet (fail)
                  have hMq := hMy.drewN nq
                  have hMq2 := (hM.trans hMk (by simp)).drewN nq
                  have d3 : (wr.drewN nq).cell? ⟨rb, roff + i, none⟩ = some (.slice vo rl c) := d2
                  have e3 : (wr.drewN nq).cell? ⟨tb, 1, none⟩ = some (.slice co n cap) := e2
                  generalize wr.drewN nq = wy at *
                  clear d2 e2 hMk hMy
                  have d4 : wy.drew.cell? ⟨rb, roff + i, none⟩ = some (.slice vo rl c) := d3
                  have e4 : wy.drew.cell? ⟨tb, 1, none⟩ = some (.slice co n cap) := e3
                  go_wp2_with fail
                  go_region
                  go_wp2_with fail
                  go_returns
                  exact fin.out _ hMq.drew
      · obtain rfl : m = i := by omega
        have fin := Lib.hid (fun w' h => FIN.out 0 0 0 w' (by rw [HL.out, List.drop_of_length_le (by have := HN.out.2; omega)]; rfl) h)
        clear HL FIN
        go_wp2_with fail
        go_returns
        exact fin.out _ hMx
end Go.Proofs.YtijapjnhjioknaaGreatDoor
