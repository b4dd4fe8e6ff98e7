/-
  schema's names.fresh and names.right, walked: a table's names are noted. No condition but that Go's own variables hold what they were laid with.
-/
import Derived.Test.YtijapjnhjioknaaGreatDoorScH
namespace Go.Proofs.YtijapjnhjioknaaGreatDoor
open Go.RowKit
open Go.Maps
set_option linter.unusedVariables false

/-- The map in block mb holds the places that were met. -/
def NMap (w : World) (mb : Nat) (met : Met) : Prop := ∃ es clock, w.heap[mb]? = some (.map es clock) ∧ NRow es clock met
theorem NMap.mods {w w' : World} {mb : Nat} {met : Met} {L : List Nat} (h : NMap w mb met) (hM : Mods L w w') (hn : mb ∉ L) : NMap w' mb met := by
  obtain ⟨es, c, h1, h2⟩ := h
  exact ⟨es, c, hM.heap h1 hn, h2⟩

theorem fresh_any (w0 w : World) (hT : Tabs w0) (hM0 : Mods [] w0 w) (mb : Nat) (hmb : w0.heap.size ≤ mb) (met : Met) (hN : NMap w mb met) (t : Int) (s : ByteArray) (hp : okP (t, s.data.toList)) :
    Calls Tryz.prog 29 #[.map (some mb), .int .i64 t, .string s] w fun e w' => e = .returned (.bool (!decide ((t, s.data.toList) ∈ met) && nameL s.data.toList)) ∧ Mods [mb] w w' ∧ ((t, s.data.toList) ∉ met → NMap w' mb ((t, s.data.toList) :: met)) := by
  obtain ⟨es, clock, hb, hR⟩ := hN
  by_cases hn : (t, s.data.toList) ∈ met
  · refine (fresh_old w mb es clock hb met hR t s hp hn).mono fun e w' h => ⟨?_, h.2, fun h2 => absurd hn h2⟩
    rw [h.1]; simp [hn]
  · refine (fresh_new w0 w hT hM0 mb hmb es clock hb met hR t s hp hn).mono fun e w' h => ⟨?_, h.2.1, fun _ => h.2.2⟩
    rw [h.1]; simp [hn]

theorem drop_get {α : Type} {l : List α} {i : Nat} (h : i < l.length) : l.drop i = l[i] :: l.drop (i + 1) := List.drop_eq_getElem_cons h

theorem colsK_cons (k : Int) (met : Met) (c : Col) (cs : List Col) : colsK k met (c :: cs) = if (k, c.nm) ∈ met then none else if nameL c.nm = true then (if tyRight c.k c.s = true then colsK k ((k, c.nm) :: met) cs else none) else none := rfl

set_option maxRecDepth 100000 in
set_option maxHeartbeats 1000000 in
theorem right_any (w0 w : World) (hT : Tabs w0) (hM0 : Mods [] w0 w) (mb : Nat) (hmb : w0.heap.size ≤ mb) (hmw : mb < w.heap.size) (met : Met) (hN : NMap w mb met) (k : Int) (hk : -9223372036854775808 ≤ k ∧ k ≤ 9223372036854775807) (t : Tbl) (ht : t.ok) (n : Nat) (hn : t.cols.length = n) (co : Option Addr) (cap : Nat) (hC : ColsIn w co t.cols [mb]) :
    Calls Tryz.prog 22 #[.map (some mb), .int .i64 k, .agg #[.string t.name, .slice co n cap]] w fun e w' => e = .returned (.bool (tblK k met t).isSome) ∧ Mods [mb] w w' ∧ ∀ m, tblK k met t = some m → NMap w' mb m := by
  obtain ⟨hnm, hcl, hco⟩ := ht
  have hMA := ((Mods.refl [mb] w).alloc (.cells #[.string t.name, .slice co n cap] 24))
  have hb5 := heap_alloc_new w (.cells #[.string t.name, .slice co n cap] 24)
  have hNA := hN.mods ((Mods.refl [] w).alloc (.cells #[.string t.name, .slice co n cap] 24)) (by simp)
  have hneq : w.heap.size ≠ mb := by omega
  have hmw1 : mb < (w.alloc (.cells #[.string t.name, .slice co n cap] 24)).heap.size := by rw [size_alloc]; omega
  have HC := Lib.hid hC
  have HN := Lib.hid hn
  have HCO := Lib.hid hco
  have HRES : Hid (∀ x w', tblK k met t = x → Mods [mb] w w' → (∀ m, x = some m → NMap w' mb m) → (Ending.returned (.bool x.isSome) : Ending) = .returned (.bool (tblK k met t).isSome) ∧ Mods [mb] w w' ∧ ∀ m, tblK k met t = some m → NMap w' mb m) := Lib.hid (fun x w' h1 h2 h3 => ⟨by rw [h1], h2, fun m hm => h3 m (by rw [← h1, hm])⟩)
  clear hC hn hN hco
  go_enter Tryz.func22, Tryz.ntmps22
  go_wp2_with fail
  generalize w.alloc (.cells #[.string t.name, .slice co n cap] 24) = w1 at *
  generalize w.heap.size = tb at *
  go_loopw [12] (fun t12 wr => ∃ (i : Nat) (m : Met), i ≤ n ∧ t12 = .int .i64 i ∧ Mods [mb] w1 wr ∧ NMap wr mb m ∧ Hid (colsK k met t.cols = colsK k m (t.cols.drop i))) (fun t12 _ => n - (intOf t12).toNat)
  case atStart => exact ⟨0, met, by omega, rfl, Mods.refl _ _, hNA, Lib.hid rfl⟩
  case round =>
    clear hNA
    obtain ⟨i, m, hi, rfl, hM, hN, HK⟩ := hrel
    by_cases hlt : i < n
    · have hil : i < t.cols.length := by rw [HN.out]; exact hlt
      have hne : t.cols ≠ [] := fun h => by rw [h] at hil; simp at hil
      obtain ⟨cb, off, rfl, hcb, hcells⟩ := HC.out hne
      obtain ⟨c0, c1, c2, c3⟩ := hcells i hil
      have hMx := hMA.trans hM (by simp)
      have d0 := hMx.cell c0 hcb
      have d1 := hMx.cell c1 hcb
      have d2 := hMx.cell c2 hcb
      have d3 := hMx.cell c3 hcb
      have hK := HK.out
      rw [drop_get hil, colsK_cons] at hK
      have hcok := HCO.out _ (List.getElem_mem hil)
      obtain ⟨c, hc⟩ : ∃ c, t.cols[i] = c := ⟨_, rfl⟩
      rw [hc] at d0 d1 d2 d3 hK hcok
      clear c0 c1 c2 c3 hc hcells HK
      have hp : okP (k, c.name.data.toList) := ⟨hk, hcok.2⟩
      have hMB := (Mods.refl [] wr).alloc (.cells #[.string c.name, .int .i64 c.k, .int .i64 c.s, .bool c.null] 44)
      have hM0r : Mods [] w0 (wr.alloc (.cells #[.string c.name, .int .i64 c.k, .int .i64 c.s, .bool c.null] 44)) := (hM0.trans (hMx.trans hMB (by simp)) (fun x hx => .inr (by simp at hx; omega)))
      have hfr := fresh_any w0 _ hT hM0r mb hmb m (hN.mods hMB (by simp)) k c.name hp
      have hty := fun W => tyRight_any c.k c.s W
      have hKK := Lib.hid hK
      clear hM0r hK hp hcok
      go_wp2_with fail
      (with_reducible refine hfr.mono ?_)
      rintro e w2 ⟨rfl, hM2, hN2⟩
      clear hfr
      have hM2x := hMx.trans (hMB.mono (L' := [mb]) (by simp)) (by simp)
      have hM3 := hM2x.trans hM2 (by simp)
      have hlt2 := hM.size
      have hne2 : wr.heap.size ≠ mb := by omega
      have hb9 := hM2.heap (heap_alloc_new wr (.cells #[.string c.name, .int .i64 c.k, .int .i64 c.s, .bool c.null] 44)) (by simpa using hne2)
      have e1 := cell_of_heap hb9 1
      have e2 := cell_of_heap hb9 2
      change w2.cell? _ = some (.int .i64 c.k) at e1
      change w2.cell? _ = some (.int .i64 c.s) at e2
      generalize wr.heap.size = cbk at *
      cases hb : (!decide ((k, c.name.data.toList) ∈ m) && nameL c.name.data.toList) with
      | false =>
        have hno : tblK k met t = none := by
          unfold tblK
          rw [hKK.out]
          by_cases h1 : (k, c.nm) ∈ m
          · rw [if_pos h1]
          · rw [if_neg h1]
            have : ¬ nameL c.nm = true := by
              intro h2
              have : (!decide ((k, c.nm) ∈ m) && nameL c.nm) = true := by rw [h2]; simp [h1]
              rw [show (!decide ((k, c.nm) ∈ m) && nameL c.nm) = false from hb] at this
              cases this
            rw [if_neg this]
        have fin := Lib.hid (fun w' h => HRES.out none w' hno h (fun m hm => by cases hm))
        clear hno hKK HRES hN2 hM2 hM2x hb
        go_wp2_with fail
        go_ret
        exact fin.out _ hM3
      | true =>
        simp only [Bool.and_eq_true, Bool.not_eq_true', decide_eq_false_iff_not] at hb
        obtain ⟨hb1, hb2⟩ := hb
        have hN3 := hN2 hb1
        have hK := hKK.out
        rw [if_neg (show ¬ (k, c.nm) ∈ m from hb1), if_pos (show nameL c.nm = true from hb2)] at hK
        clear hKK hN2 hb1 hb2
        cases htr : tyRight c.k c.s with
        | false =>
          rw [htr] at hK hty
          rw [if_neg (by decide)] at hK
          have hno : tblK k met t = none := by
            unfold tblK
            rw [hK]
          have fin := Lib.hid (fun w' h => HRES.out none w' hno h (fun m hm => by cases hm))
          clear hno hK HRES hM2 hM2x htr hN3
          go_wp2_with fail
          (with_reducible refine (hty _).mono ?_)
          rintro e w3 ⟨rfl, hM4⟩
          go_wp2_with fail
          go_ret
          exact fin.out _ (hM3.trans hM4 (by simp))
        | true =>
          rw [htr] at hK hty
          rw [if_pos rfl] at hK
          have hKn := Lib.hid hK
          have hM12 := (hM.trans (hMB.mono (L' := [mb]) (by simp)) (by simp)).trans hM2 (by simp)
          clear hK HRES hM2 hM2x htr
          go_wp2_with fail
          (with_reducible refine (hty _).mono ?_)
          rintro e w3 ⟨rfl, hM4⟩
          have hM1 : Mods [mb] w1 w3 := hM12.trans hM4 (by simp)
          go_wp2_with fail
          go_roundw
          case measure => simp [intOf]; omega
          case rel => exact ⟨i + 1, _, by omega, by go_num, hM1, hN3.mods hM4 (by simp), hKn⟩
    · obtain rfl : n = i := by omega
      have hK := HK.out
      have hnl : t.cols.length = n := HN.out
      rw [List.drop_of_length_le (by omega)] at hK
      change colsK k met t.cols = some m at hK
      have hMx := hMA.trans hM (by simp)
      have hbr := hM.heap hb5 (by simpa using hneq)
      have hM0r : Mods [] w0 wr := hM0.trans hMx (fun x hx => .inr (by simp at hx; omega))
      have hp : okP (-1, t.name.data.toList) := ⟨⟨by show (-9223372036854775808 : Int) ≤ -1; omega, by show (-1 : Int) ≤ _; omega⟩, hnm⟩
      have hfr := fresh_any w0 _ hT hM0r mb hmb m hN (-1) t.name hp
      have hT1 : tblK k met t = if (-1, t.nm) ∈ m then none else if nameL t.nm = true ∧ 1 ≤ t.cols.length ∧ t.cols.length ≤ 16 then some ((-1, t.nm) :: m) else none := by
        unfold tblK
        rw [hK]
      rw [hnl] at hT1
      have HT1 := Lib.hid hT1
      clear hT1 hK HK hM0r hp hnl
      have e0 := cell_of_heap hbr 0
      have e1 := cell_of_heap hbr 1
      change wr.cell? _ = some (.string t.name) at e0
      change wr.cell? _ = some (.slice co n cap) at e1
      go_wp2_with fail
      (with_reducible refine hfr.mono ?_)
      rintro e w2 ⟨rfl, hM2, hN2⟩
      clear hfr
      have g1 := hM2.cell e1 (by simpa using hneq)
      have hM3 := hMx.trans hM2 (by simp)
      cases hb : (!decide ((-1, t.name.data.toList) ∈ m) && nameL t.name.data.toList) with
      | false =>
        have hno : tblK k met t = none := by
          rw [HT1.out]
          by_cases h1 : (-1, t.nm) ∈ m
          · rw [if_pos h1]
          · rw [if_neg h1]
            have : ¬ nameL t.nm = true := by
              intro h2
              have : (!decide ((-1, t.nm) ∈ m) && nameL t.nm) = true := by rw [h2]; simp [h1]
              rw [show (!decide ((-1, t.nm) ∈ m) && nameL t.nm) = false from hb] at this
              cases this
            rw [if_neg (fun h => this h.1)]
        have fin := Lib.hid (fun w' h => HRES.out none w' hno h (fun m hm => by cases hm))
        clear hno HT1 HRES hN2 hM2 hb
        go_wp2_with fail
        go_ret
        exact fin.out _ hM3
      | true =>
        simp only [Bool.and_eq_true, Bool.not_eq_true', decide_eq_false_iff_not] at hb
        obtain ⟨hb1, hb2⟩ := hb
        have hN3 := hN2 hb1
        have hK := HT1.out
        rw [if_neg (show ¬ (-1, t.nm) ∈ m from hb1)] at hK
        by_cases hrng : 1 ≤ n ∧ n ≤ 16
        · rw [if_pos ⟨hb2, hrng⟩] at hK
          have fin := Lib.hid (fun w' h h2 => HRES.out _ w' hK h h2)
          clear hK HT1 HRES hN2 hM2 hb1 hb2
          have z1 : (1 : Int) ≤ n := by omega
          have z2 : (n : Int) ≤ 16 := by omega
          go_wp2_with fail
          go_ret
          exact fin.out _ hM3 (fun m' hm => by cases hm; exact hN3)
        · rw [if_neg (fun h => hrng h.2)] at hK
          have fin := Lib.hid (fun w' h => HRES.out none w' hK h (fun m hm => by cases hm))
          clear hK HT1 HRES hN2 hM2 hb1 hb2
          by_cases z1 : (1 : Int) ≤ n
          · have z2 := decide_eq_false (show ¬ (n : Int) ≤ 16 by omega)
            go_wp2_with fail
            go_ret
            exact fin.out _ hM3
          · have z3 := decide_eq_false z1
            go_wp2_with fail
            go_ret
            exact fin.out _ hM3
end Go.Proofs.YtijapjnhjioknaaGreatDoor
