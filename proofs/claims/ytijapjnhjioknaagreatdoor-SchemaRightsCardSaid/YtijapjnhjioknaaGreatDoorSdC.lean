/-
  The document's chapter 12: TableRight, Right, walked. No condition.
-/
import Derived.Test.YtijapjnhjioknaaGreatDoorSdB
namespace Go.Proofs.YtijapjnhjioknaaGreatDoor
open Go.RowKit
open Go.Maps
set_option linter.unusedVariables false

theorem findV_first (l : List ByteArray) (i : Nat) (hi : i < l.length) : ∃ f, ∃ hf : f < l.length, f ≤ i ∧ findV l l[i] = .tuple #[.int .i64 f, .bool true] ∧ l[f] = l[i] ∧ ∀ j (hj : j < l.length), j < f → l[j] ≠ l[i] := by
  cases h : l.findIdx? (fun x => decide (x = l[i])) with
  | none =>
    rw [List.findIdx?_eq_none_iff] at h
    have := h l[i] (List.getElem_mem hi)
    simp at this
  | some f =>
    have hv : findV l l[i] = .tuple #[.int .i64 f, .bool true] := by unfold findV; rw [h]
    rw [List.findIdx?_eq_some_iff_getElem] at h
    obtain ⟨hf, h1, h2⟩ := h
    have hfi : f ≤ i := by
      rcases Nat.lt_or_ge i f with h3 | h3
      · have := h2 i h3
        simp at this
      · exact h3
    exact ⟨f, hf, hfi, hv, by simpa using h1, fun j hj hjf => by have := h2 j hjf; simpa using this⟩

/-- The first i columns may be, and have no two one name. -/
def FineC (cs : List Col) (i : Nat) : Prop := ∀ j (hj : j < cs.length), j < i → cs[j].good = true ∧ ∀ k (hk : k < cs.length), k < j → cs[k].name ≠ cs[j].name
theorem nm_inj {a b : Col} (h : a.nm = b.nm) : a.name = b.name := bytes_ext h
theorem tblOK_fine {t : Tbl} (h : FineC t.cols t.cols.length) (h1 : nameL t.nm = true) (h2 : 1 ≤ t.cols.length) (h3 : t.cols.length ≤ 16) : tblOK t = true := by
  simp only [tblOK, Bool.and_eq_true, decide_eq_true_eq, List.all_eq_true]
  refine ⟨h1, h2, h3, fun c hc => ?_, ?_⟩
  · obtain ⟨j, hj, rfl⟩ := List.getElem_of_mem hc
    exact (h j hj hj).1
  · rw [List.nodup_iff_pairwise_ne, List.pairwise_iff_getElem]
    intro i j hi hj hij
    simp only [List.getElem_map]
    rw [List.length_map] at hi hj
    exact fun e => (h j hj hj).2 i hi hij (nm_inj e)
theorem tblOK_dup {t : Tbl} {k j : Nat} (hj : j < t.cols.length) (hk : k < j) (he : t.cols[k].name = t.cols[j].name) : tblOK t = false := by
  rw [Bool.eq_false_iff]
  intro h
  simp only [tblOK, Bool.and_eq_true, decide_eq_true_eq, List.all_eq_true] at h
  have hn := h.2.2.2.2
  rw [List.nodup_iff_pairwise_ne, List.pairwise_iff_getElem] at hn
  have := hn k j (by rw [List.length_map]; omega) (by rw [List.length_map]; omega) hk
  simp only [List.getElem_map] at this
  exact this (by unfold Col.nm; rw [he])
theorem tblOK_bad {t : Tbl} {j : Nat} (hj : j < t.cols.length) (he : t.cols[j].good = false) : tblOK t = false := by
  rw [Bool.eq_false_iff]
  intro h
  simp only [tblOK, Bool.and_eq_true, decide_eq_true_eq, List.all_eq_true] at h
  have := h.2.2.2.1 _ (List.getElem_mem hj)
  rw [he] at this; cases this
theorem tblOK_no {t : Tbl} (h : nameL t.nm = false ∨ t.cols.length < 1 ∨ 16 < t.cols.length) : tblOK t = false := by
  rw [Bool.eq_false_iff]
  intro h2
  simp only [tblOK, Bool.and_eq_true, decide_eq_true_eq, List.all_eq_true] at h2
  rcases h with h | h | h
  · rw [h] at h2; cases h2.1
  · omega
  · omega

set_option maxRecDepth 100000 in
set_option maxHeartbeats 2000000 in
theorem tableRight_ref (w : World) (t : Tbl) (ht : t.ok) (n : Nat) (hn : t.cols.length = n) (co : Option Addr) (cap : Nat) (hC : ColsIn w co t.cols []) :
    Calls Tryz.prog 17 #[.agg #[.string t.name, .slice co n cap]] w fun e w' => e = .returned (.bool (tblOK t)) ∧ Mods [] w w' := by
  obtain ⟨hnm, hcl, hco⟩ := ht
  have hn63 : n ≤ 9223372036854775807 := by omega
  have hMA := (Mods.refl [] w).alloc (.cells #[.string t.name, .slice co n cap] 24)
  have hb1 := heap_alloc_new w (.cells #[.string t.name, .slice co n cap] 24)
  have HI := Lib.hid hC
  have HN := Lib.hid hn
  have HCO := Lib.hid hco
  have hname := fun W => nameRight_ref W t.name hnm
  have FIN : Hid (∀ b w', tblOK t = b → Mods [] w w' → (Ending.returned (.bool b) : Ending) = .returned (.bool (tblOK t)) ∧ Mods [] w w') := Lib.hid (fun b w' h1 h2 => ⟨by rw [h1], h2⟩)
  clear hC hn hco
  go_enter Tryz.func17, Tryz.ntmps17
  go_wp2_with fail
  (with_reducible refine (hname _).mono ?_)
  rintro e w1 ⟨rfl, hM1⟩
  clear hname
  have hMw := hMA.trans hM1 (by simp)
  have hb := hM1.heap hb1 (by simp)
  generalize w.heap.size = tb at *
  have a1 := cell_of_heap hb 1
  change w1.cell? _ = some (.slice co n cap) at a1
  clear hM1 hMA hb1
  cases hnl : nameL t.name.data.toList with
  | false =>
    have fin := FIN.out false w1 (tblOK_no (.inl hnl)) hMw
    clear FIN hnl
    go_wp2_with fail
    go_ret
    exact fin
  | true =>
    have HNL := Lib.hid hnl
    clear hnl
    by_cases h1 : n < 1
    · have fin := FIN.out false w1 (tblOK_no (.inr (.inl (by rw [HN.out]; exact h1)))) hMw
      have z1 : (n : Int) < 1 := by omega
      clear FIN h1
      go_wp2_with fail
      go_ret
      exact fin
    have z1 := decide_eq_false (show ¬ (n : Int) < 1 by omega)
    by_cases h16 : 16 < n
    · have fin := FIN.out false w1 (tblOK_no (.inr (.inr (by rw [HN.out]; exact h16)))) hMw
      have z2 : (16 : Int) < n := by omega
      clear FIN
      go_wp2_with fail
      go_ret
      exact fin
    have z2 := decide_eq_false (show ¬ (16 : Int) < n by omega)
    go_wp2_with fail
    clear a1 z1 z2
    go_loopg [4] n (fun gk t4 wr => ∃ i : Nat, i + gk = n ∧ t4 = .int .i64 i ∧ Mods [] w1 wr ∧ FineC t.cols i)
    case atStart => exact ⟨0, by omega, rfl, Mods.refl _ _, fun j _ h => by omega⟩
    case round =>
      obtain ⟨i, hi, rfl, hM, hF⟩ := hrel
      have hMx := hMw.trans hM (by simp)
      have hbr := hM.heap hb (by simp)
      have a0 := cell_of_heap hbr 0
      have a1 := cell_of_heap hbr 1
      change wr.cell? _ = some (.string t.name) at a0
      change wr.cell? _ = some (.slice co n cap) at a1
      by_cases hlt : i < n
      · have hiz : (i : Int) < (n : Int) := by omega
        have hil : i < t.cols.length := by rw [HN.out]; exact hlt
        obtain ⟨cb, off, rfl, hcb, hcells⟩ := HI.out (fun h => by rw [h] at hil; simp at hil)
        obtain ⟨c0, c1, c2, c3⟩ := hcells i hil
        have d0 := hMx.cell c0 hcb
        have d1 := hMx.cell c1 hcb
        have d2 := hMx.cell c2 hcb
        have d3 := hMx.cell c3 hcb
        have hcok := HCO.out _ (List.getElem_mem hil)
        have hml : i < (t.cols.map Col.name).length := by simpa using hil
        obtain ⟨f, hfl, hfi, hfv, hfe, hfb⟩ := findV_first (t.cols.map Col.name) i hml
        simp only [List.getElem_map] at hfv hfe hfb
        rw [List.length_map] at hfl
        have hcol := fun W (h : Mods [] wr W) => column_ref W t n HN.out hn63 (some ⟨cb, off, none⟩) cap ((HI.out.mods hMx).mods h) t.cols[i].name
        simp only [hfv] at hcol
        have hbad := Lib.hid (fun he => tblOK_bad (t := t) hil he)
        have hdup := Lib.hid (fun (h : f < i) => tblOK_dup hil h hfe)
        have hnext : Hid (f = i → t.cols[i].good = true → FineC t.cols (i + 1)) := Lib.hid (fun hf hg j hj hji => by
          by_cases hje : j = i
          · subst hje
            refine ⟨hg, fun k hk hkj => ?_⟩
            have := hfb k (by rw [List.length_map]; exact hk) (by omega)
            simpa using this
          · exact hF j hj (by omega))
        obtain ⟨c, hc⟩ : ∃ c, t.cols[i] = c := ⟨_, rfl⟩
        rw [hc] at d0 d1 d2 d3 hcok hcol hbad hnext
        clear hfe hfb hfv c0 c1 c2 c3 hcells hF hml hc
        have hnm2 := fun W => nameRight_ref W c.name hcok.2
        have hty := fun W => ref_tyRight c.k c.s W
        have hMB := (Mods.refl [] wr).alloc (.cells #[.string c.name, .int .i64 c.k, .int .i64 c.s, .bool c.null] 44)
        have hbB := heap_alloc_new wr (.cells #[.string c.name, .int .i64 c.k, .int .i64 c.s, .bool c.null] 44)
        obtain ⟨g1, hg1⟩ : ∃ g1, nameL c.name.data.toList = g1 := ⟨_, rfl⟩
        obtain ⟨g2, hg2⟩ : ∃ g2, tyRight c.k c.s = g2 := ⟨_, rfl⟩
        have hgood : c.good = (g1 && g2) := by unfold Col.good Col.nm; rw [hg1, hg2]
        rw [hgood] at hbad hnext
        simp only [hg1] at hnm2
        simp only [hg2] at hty
        clear hgood hg1 hg2
        go_wp2_with fail
        (with_reducible refine (hnm2 _).mono ?_)
        rintro e w2 ⟨rfl, hM2⟩
        clear hnm2
        have hb2 := hM2.heap hbB (by simp)
        have hMa2 := hMB.trans hM2 (by simp)
        have b0 := cell_of_heap hb2 0
        have b1 := cell_of_heap hb2 1
        have b2 := cell_of_heap hb2 2
        change w2.cell? _ = some (.string c.name) at b0
        change w2.cell? _ = some (.int .i64 c.k) at b1
        change w2.cell? _ = some (.int .i64 c.s) at b2
        generalize wr.heap.size = cbk at *
        go_wp2_with fail
        (with_reducible refine (hty _).mono ?_)
        rintro e w3 ⟨rfl, hM3⟩
        clear hty
        have hMa3 := hMa2.trans hM3 (by simp)
        have x0 := hMa3.cell a0 (by simp)
        have x1 := hMa3.cell a1 (by simp)
        have y0 := hM3.cell b0 (by simp)
        clear b1 b2 a0 a1 d0 d1 d2 d3
        go_wp2_with fail
        (with_reducible refine (hcol _ hMa3).mono ?_)
        rintro e w4 ⟨rfl, hM4⟩
        clear hcol
        have hMa4 := hMa3.trans hM4 (by simp)
        have hMx4 := hMx.trans hMa4 (by simp)
        have hMl4 := hM.trans hMa4 (by simp)
        cases g1 with
        | false =>
          have fin := FIN.out false w4 (hbad.out rfl) hMx4
          clear FIN hbad hdup hnext
          go_wp2_with fail
          go_ret
          exact fin
        | true =>
          cases g2 with
          | false =>
            have fin := FIN.out false w4 (hbad.out rfl) hMx4
            clear FIN hbad hdup hnext
            go_wp2_with fail
            go_ret
            exact fin
          | true =>
            by_cases hfe : f = i
            · have hFn := Lib.hid (hnext.out hfe rfl)
              have z3 : ((f : Int) == (i : Int)) = true := by rw [beq_iff_eq]; omega
              subst hfe
              clear FIN hbad hdup hnext
              go_wp2_with fail
              go_roundg (n - (f + 1))
              case measure => omega
              case rel => exact ⟨f + 1, by omega, by go_num, hMl4, hFn.out⟩
            · have z3 : ((f : Int) == (i : Int)) = false := by rw [beq_eq_false_iff_ne]; omega
              have fin := FIN.out false w4 (hdup.out (by omega)) hMx4
              clear FIN hbad hdup hnext
              go_wp2_with fail
              go_ret
              exact fin
      · obtain rfl : n = i := by omega
        have fin := FIN.out true wr (tblOK_fine (by rw [HN.out]; exact hF) HNL.out (by rw [HN.out]; omega) (by rw [HN.out]; omega)) hMx
        clear FIN hF
        go_wp2_with fail
        go_ret
        exact fin
end Go.Proofs.YtijapjnhjioknaaGreatDoor
