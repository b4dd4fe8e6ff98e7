/-
  schema.Right and schema.TableRight, walked. No condition but that Go's own variables hold what they were laid with.
-/
import Derived.Test.YtijapjnhjioknaaGreatDoorScI
namespace Go.Proofs.YtijapjnhjioknaaGreatDoor
open Go.RowKit
open Go.Maps
set_option linter.unusedVariables false

theorem tblsK_cons (k : Int) (met : Met) (t : Tbl) (ts : List Tbl) : tblsK k met (t :: ts) = if 16 < t.cols.length then none else match tblK k met t with
    | none => none
    | some m => tblsK (k + 1) m ts := rfl
theorem nrow_nil : NRow #[] 0 [] := ⟨⟨by simp, by simp, by simp⟩, by simp, by simp, by simp⟩

set_option maxRecDepth 100000 in
set_option maxHeartbeats 1000000 in
theorem rights_any (w : World) (hT : Tabs w) (l : List Tbl) (hl : ∀ t ∈ l, t.ok) (n : Nat) (hn : l.length = n) (hn63 : n ≤ 9223372036854775807) (ao : Option Addr) (cap : Nat) (hI : TblsIn w ao l []) :
    Calls Tryz.prog 10 #[.slice ao n cap] w fun e w' => e = .returned (.bool (tblsOK l)) ∧ Mods [] w w' := by
  have hN0 : NMap (w.alloc (.map #[] 0)) w.heap.size [] := ⟨#[], 0, heap_alloc_new w _, nrow_nil⟩
  have hMA := (Mods.refl [] w).alloc (.map #[] 0)
  have hsz := size_alloc w (.map #[] 0)
  have FIN : Hid (∀ x w', (tblsK 0 [] l).isSome = x → Mods [] w w' → (x && decide (n ≤ 16)) = tblsOK l ∧ Mods [] w w') := Lib.hid (fun x w' h1 h2 => ⟨by rw [tblsOK_eq, h1, hn], h2⟩)
  have HN := Lib.hid hn
  have HI := Lib.hid (And.intro hI hl)
  clear hn hI hl
  have hmm := @run_makeMap Tryz.prog
  go_enter Tryz.func10, Tryz.ntmps10
  go_wp2_with fail
  clear hmm
  obtain ⟨mb, hmb⟩ : ∃ mb, w.heap.size = mb := ⟨_, rfl⟩
  rw [hmb] at hN0 hsz ⊢
  have hge : w.heap.size ≤ mb := by omega
  generalize w.alloc (.map #[] 0) = w1 at *
  go_loopw [9] (fun t9 wr => ∃ (i : Nat) (m : Met), i ≤ n ∧ t9 = .int .i64 i ∧ Mods [mb] w1 wr ∧ NMap wr mb m ∧ Hid (tblsK 0 [] l = tblsK i m (l.drop i))) (fun t9 _ => n - (intOf t9).toNat)
  case atStart => exact ⟨0, [], by omega, rfl, Mods.refl _ _, hN0, Lib.hid rfl⟩
  case round =>
    clear hN0
    obtain ⟨i, m, hi, rfl, hM, hN, HK⟩ := hrel
    have hMx : Mods [] w wr := hMA.trans hM (fun x hx => .inr (by simp at hx; omega))
    have hsr := hM.size
    by_cases hlt : i < n
    · have hil : i < l.length := by rw [HN.out]; exact hlt
      have hne : l ≠ [] := fun h => by rw [h] at hil; simp at hil
      obtain ⟨lb, off, rfl, hlb, hcells⟩ := HI.out.1 hne
      obtain ⟨c0, co, cc, c1, hC⟩ := hcells i hil
      have d0 := hMx.cell c0 (by simp)
      have d1 := hMx.cell c1 (by simp)
      have hC2 := (hC.apart (L := [mb]) (fun x hx => by simp at hx; omega)).mods (hMx.mono (by simp))
      have htok := HI.out.2 _ (List.getElem_mem hil)
      have hK := HK.out
      rw [drop_get hil, tblsK_cons] at hK
      obtain ⟨t, ht⟩ : ∃ t, l[i] = t := ⟨_, rfl⟩
      rw [ht] at d0 d1 hC2 htok hK
      obtain ⟨nc, hnc⟩ : ∃ nc, t.cols.length = nc := ⟨_, rfl⟩
      rw [hnc] at d1 hK
      have hnc63 : nc ≤ 9223372036854775807 := by rw [← hnc]; exact htok.2.1
      clear c0 c1 hC ht hcells HK
      have hMB := (Mods.refl [] wr).alloc (.cells #[.string t.name, .slice co nc cc] 24)
      have hrg := right_any w _ hT (hMx.trans hMB (by simp)) mb hge (by rw [size_alloc]; omega) m (hN.mods hMB (by simp)) i (by omega) t htok nc hnc co cc (hC2.mods (hMB.mono (by simp)))
      have HKK := Lib.hid hK
      have hMB1 := hM.trans (hMB.mono (L' := [mb]) (by simp)) (by simp)
      clear hK hC2 htok hN hnc hMB
      by_cases h16 : 16 < nc
      · have hno : (tblsK 0 [] l).isSome = false := by rw [HKK.out, if_pos h16]; rfl
        have fin := Lib.hid (fun w' h => FIN.out false w' hno h)
        have z1 : (16 : Int) < nc := by omega
        clear hno HKK FIN hrg
        go_wp2_with fail
        go_ret
        exact ⟨ret_bool (fin.out _ hMx).1, hMx.alloc _⟩
      · have z1 : ¬ (16 : Int) < nc := by omega
        have z2 := decide_eq_false z1
        have hK2 := HKK.out
        rw [if_neg h16] at hK2
        go_wp2_with fail
        (with_reducible refine hrg.mono ?_)
        rintro e w2 ⟨rfl, hM2, hN2⟩
        clear hrg
        have hM3 := hMB1.trans hM2 (by simp)
        cases htb : tblK i m t with
        | none =>
          rw [htb] at hK2
          have hno : (tblsK 0 [] l).isSome = false := by rw [hK2]; rfl
          have fin := Lib.hid (fun w' h => FIN.out false w' hno h)
          have hMf : Mods [] w w2 := hMA.trans hM3 (fun x hx => .inr (by simp at hx; omega))
          clear hno HKK FIN hK2
          go_wp2_with fail
          go_ret
          exact ⟨ret_bool (fin.out _ hMf).1, hMf⟩
        | some m2 =>
          rw [htb] at hK2
          have HK3 := Lib.hid hK2
          have hN3 := hN2 m2 htb
          clear HKK hK2 hN2 FIN
          go_wp2_with fail
          go_roundw
          case measure => simp [intOf]; omega
          case rel => exact ⟨i + 1, m2, by omega, by go_num, hM3, hN3, Lib.hid (by rw [HK3.out]; congr 1)⟩
    · obtain rfl : n = i := by omega
      have hK := HK.out
      rw [List.drop_of_length_le (by have := HN.out; omega)] at hK
      change tblsK 0 [] l = some m at hK
      have hyes : (tblsK 0 [] l).isSome = true := by rw [hK]; rfl
      have fin := Lib.hid (fun w' h => FIN.out true w' hyes h)
      clear hK HK hyes FIN
      go_wp2_with fail
      go_ret
      refine ⟨ret_bool ?_, hMx⟩
      rw [← (fin.out _ hMx).1, Bool.true_and, decide_eq_decide]
      omega

theorem tbls_one {w : World} {b : Nat} {co : Option Addr} {n c : Nat} {T : TypeId} {fr : Nat × Nat} {t : Tbl} (h : w.heap[b]? = some (.cells #[.string t.name, .slice co n c] T fr)) (hn : t.cols.length = n) (hv : ColsIn w co t.cols []) : TblsIn w (some ⟨b, 0, none⟩) [t] [] := by
  intro _
  refine ⟨b, 0, rfl, by simp, fun i hi => ?_⟩
  obtain rfl : i = 0 := by simp at hi; omega
  refine ⟨by rw [cell_of_heap h]; rfl, co, c, ?_, hv⟩
  rw [cell_of_heap h]
  simp [hn]

set_option maxRecDepth 100000 in
set_option maxHeartbeats 1000000 in
theorem tableRight_any (w : World) (hT : Tabs w) (t : Tbl) (ht : t.ok) (n : Nat) (hn : t.cols.length = n) (co : Option Addr) (cap : Nat) (hC : ColsIn w co t.cols []) :
    Calls Tryz.prog 16 #[.agg #[.string t.name, .slice co n cap]] w fun e w' => e = .returned (.bool (tblOK t)) ∧ Mods [] w w' := by
  have hMA := ((Mods.refl [] w).alloc (.cells #[.string t.name, .slice co n cap] 24)).alloc (.cells #[.string t.name, .slice co n cap] 24)
  have hb := heap_alloc_new (w.alloc (.cells #[.string t.name, .slice co n cap] 24)) (.cells #[.string t.name, .slice co n cap] 24)
  rw [size_alloc] at hb
  have hr := rights_any _ (hT.mods hMA) [t] (by simpa using ht) 1 rfl (by omega) (some ⟨w.heap.size + 1, 0, none⟩) 1 (tbls_one hb hn (hC.mods hMA))
  rw [tblsOK_one] at hr
  clear hn hC
  go_enter Tryz.func16, Tryz.ntmps16
  go_wp2_with fail
  (with_reducible refine hr.mono ?_)
  rintro e w2 ⟨rfl, hM2⟩
  go_wp2_with fail
  go_ret
  exact ⟨rfl, hMA.trans hM2 (by simp)⟩
end Go.Proofs.YtijapjnhjioknaaGreatDoor
