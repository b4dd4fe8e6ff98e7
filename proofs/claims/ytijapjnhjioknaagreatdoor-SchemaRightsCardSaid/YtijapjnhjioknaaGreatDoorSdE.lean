/-
  The laws SchemaRows and SchemaRights, walked whole. No condition but that Go's own variables hold what they were laid with.
-/
import Derived.Test.YtijapjnhjioknaaGreatDoorSdD
namespace Go.Proofs.YtijapjnhjioknaaGreatDoor
open Go.RowKit
open Go.Maps
set_option linter.unusedVariables false

set_option maxRecDepth 100000 in
set_option maxHeartbeats 1000000 in
theorem schemaRows_walk (w : World) (hT : Tabs w) (t : Tbl) (ht : t.ok) (n : Nat) (hn : t.cols.length = n) (co : Option Addr) (cap : Nat) (hC : ColsIn w co t.cols []) (rs : List (List V)) (hrs : RowOk rs) (m : Nat) (hm : rs.length = m) (hm63 : m ≤ 9223372036854775807) (ro : Option Addr) (rcap : Nat) (hR : RowsIn w ro rs []) :
    Calls Tryz.prog 3 #[.agg #[.string t.name, .slice co n cap], .slice ro m rcap] w fun e w' => e = .returned (.bool true) ∧ Mods [] w w' := by
  have hMA := (Mods.refl [] w).alloc (.cells #[.string t.name, .slice co n cap] 24)
  have hb0 := heap_alloc_new w (.cells #[.string t.name, .slice co n cap] 24)
  go_enter Tryz.func3, Tryz.ntmps3
  go_wp2_with fail
  (with_reducible refine (examples12 _ (hT.mods hMA)).mono ?_)
  rintro e w1 ⟨rfl, hM1⟩
  have hMw := hMA.trans hM1 (by simp)
  have hb1 := hM1.heap hb0 (by simp)
  generalize w.heap.size = tb at *
  have h1 := rows_any w1 (hT.mods hMw) t ht n hn co cap (hC.mods hMw) rs hrs m hm hm63 ro rcap (hR.mods hMw)
  have h2 := fun W (h : Mods [] w1 W) => rows_ref W t ht n hn co cap ((hC.mods hMw).mods h) rs hrs m hm hm63 ro rcap ((hR.mods hMw).mods h)
  obtain ⟨x, hx⟩ : ∃ x, rowsR t rs = x := ⟨_, rfl⟩
  obtain ⟨a, b, c⟩ := x
  rw [hx] at h1 h2
  simp only [tri] at h1 h2
  have a0 := cell_of_heap hb1 0
  have a1 := cell_of_heap hb1 1
  change w1.cell? _ = some (.string t.name) at a0
  change w1.cell? _ = some (.slice co n cap) at a1
  clear hx hn hm hC hR hrs ht hT hMA hM1 hb0
  go_wp2_with fail
  (with_reducible refine h1.mono ?_)
  rintro e w2 ⟨rfl, hM2⟩
  clear h1
  have b0 := hM2.cell a0 (by simp)
  have b1 := hM2.cell a1 (by simp)
  clear a0 a1
  go_wp2_with fail
  (with_reducible refine (h2 _ hM2).mono ?_)
  rintro e w3 ⟨rfl, hM3⟩
  clear h2
  go_wp2_with fail
  go_ret
  exact ⟨rfl, (hMw.trans hM2 (by simp)).trans hM3 (by simp)⟩

set_option maxRecDepth 100000 in
set_option maxHeartbeats 1000000 in
theorem schemaRights_walk (w : World) (hT : Tabs w) (l : List Tbl) (hl : ∀ t ∈ l, t.ok) (n : Nat) (hn : l.length = n) (hn63 : n ≤ 9223372036854775807) (ao : Option Addr) (cap : Nat) (hI : TblsIn w ao l []) (s : ByteArray) (hs : s.size ≤ 140737488351232) :
    Calls Tryz.prog 4 #[.slice ao n cap, .string s] w fun e w' => e = .returned (.bool true) ∧ Mods [] w w' := by
  go_enter Tryz.func4, Tryz.ntmps4
  go_wp2_with fail
  (with_reducible refine (examples12 _ hT).mono ?_)
  rintro e w1 ⟨rfl, hM1⟩
  have hT1 := hT.mods hM1
  have hI1 := hI.mods hM1
  have c1 := findT_any w1 l n hn hn63 ao cap hI1 s
  have c2 := fun W (h : Mods [] w1 W) => find_ref W l n hn hn63 ao cap (hI1.mods h) s
  obtain ⟨i, b, hib⟩ := findV_form (l.map Tbl.name) s
  rw [hib] at c1
  simp only [hib] at c2
  have c3 := fun W (h : Mods [] w1 W) => rights_any W (hT1.mods h) l hl n hn hn63 ao cap (hI1.mods h)
  have c4 := fun W (h : Mods [] w1 W) => rights_ref W l hl n hn hn63 ao cap (hI1.mods h)
  obtain ⟨B, hB⟩ : ∃ B, tblsOK l = B := ⟨_, rfl⟩
  simp only [hB] at c3 c4
  have c5 := fun W (h : Mods [] w1 W) => nameRight_any W (hT1.mods h) s (by omega)
  have c6 := fun W => nameRight_ref W s (by omega)
  obtain ⟨D, hD⟩ : ∃ D, nameL s.data.toList = D := ⟨_, rfl⟩
  simp only [hD] at c5 c6
  clear hib hB hD
  have HH := Lib.hid (And.intro hI1 (And.intro hl (And.intro hn hT1)))
  clear hI hI1 hl hn hT hT1
  go_wp2_with fail
  (with_reducible refine c1.mono ?_)
  rintro e w2 ⟨rfl, hM2⟩
  clear c1
  go_wp2_with fail
  (with_reducible refine (c2 _ hM2).mono ?_)
  rintro e w3 ⟨rfl, hM3⟩
  clear c2
  have hM13 := hM2.trans hM3 (by simp)
  clear hM2 hM3
  go_wp2_with fail
  (with_reducible refine (c3 _ hM13).mono ?_)
  rintro e w4 ⟨rfl, hM4⟩
  clear c3
  have hM14 := hM13.trans hM4 (by simp)
  clear hM13 hM4
  go_wp2_with fail
  (with_reducible refine (c4 _ hM14).mono ?_)
  rintro e w5 ⟨rfl, hM5⟩
  clear c4
  have hM15 := hM14.trans hM5 (by simp)
  clear hM14 hM5
  go_wp2_with fail
  (with_reducible refine (c5 _ hM15).mono ?_)
  rintro e w6 ⟨rfl, hM6⟩
  clear c5
  have hM16 := hM15.trans hM6 (by simp)
  clear hM15 hM6
  go_wp2_with fail
  (with_reducible refine (c6 _).mono ?_)
  rintro e w7 ⟨rfl, hM7⟩
  clear c6
  have hM17 := hM16.trans hM7 (by simp)
  clear hM16 hM7
  by_cases h0 : n = 0
  · have z0 : ((n : Int) == 0) = true := by rw [beq_iff_eq]; omega
    go_wp2_with fail
    go_ret
    exact ⟨rfl, hM1.trans hM17 (by simp)⟩
  · have z0 : ((n : Int) == 0) = false := by rw [beq_eq_false_iff_ne]; omega
    have hlen : 0 < l.length := by have := HH.out.2.2.1; omega
    have hnz : (0 : Int) < (n : Int) := by omega
    obtain ⟨cb, off, rfl, hcb, hcells⟩ := HH.out.1 (List.length_pos_iff.1 hlen)
    obtain ⟨x0, co, cc, x1, hC⟩ := hcells 0 hlen
    have htok := HH.out.2.1 _ (List.getElem_mem hlen)
    obtain ⟨t, ht⟩ : ∃ t, l[0] = t := ⟨_, rfl⟩
    rw [ht] at x0 x1 hC htok
    rw [Nat.zero_mul, Nat.add_zero] at x0 x1
    obtain ⟨nc, hnc⟩ : ∃ nc, t.cols.length = nc := ⟨_, rfl⟩
    rw [hnc] at x1
    have hnc63 : nc ≤ 9223372036854775807 := by rw [← hnc]; exact htok.2.1
    have k1 := fun W (h : Mods [] w7 W) => column_any W t nc hnc hnc63 co cc ((hC.mods hM17).mods h) s
    have k2 := fun W (h : Mods [] w7 W) => column_ref W t nc hnc hnc63 co cc ((hC.mods hM17).mods h) s
    have k3 := fun W (h : Mods [] w7 W) => tableRight_any W ((HH.out.2.2.2.mods hM17).mods h) t htok nc hnc co cc ((hC.mods hM17).mods h)
    have k4 := fun W (h : Mods [] w7 W) => tableRight_ref W t htok nc hnc co cc ((hC.mods hM17).mods h)
    obtain ⟨p, q, hpq⟩ := findV_form (t.cols.map Col.name) s
    simp only [hpq] at k1 k2
    obtain ⟨E, hE⟩ : ∃ E, tblOK t = E := ⟨_, rfl⟩
    simp only [hE] at k3 k4
    have y0 := hM17.cell x0 (by simp)
    have y1 := hM17.cell x1 (by simp)
    clear hpq hE hC ht hcells x0 x1 hnc
    go_wp2_with fail
    (with_reducible refine (k1 _ (Mods.refl _ _)).mono ?_)
    rintro e w8 ⟨rfl, hM8⟩
    clear k1
    have u0 := hM8.cell y0 (by simp)
    have u1 := hM8.cell y1 (by simp)
    clear y0 y1
    go_wp2_with fail
    (with_reducible refine (k2 _ hM8).mono ?_)
    rintro e w9 ⟨rfl, hM9⟩
    clear k2
    have hM79 := hM8.trans hM9 (by simp)
    have v0 := hM9.cell u0 (by simp)
    have v1 := hM9.cell u1 (by simp)
    clear u0 u1
    have e0 : ∀ k : Later w9, k.val.cell? ⟨cb, off, none⟩ = some (.string t.name) := fun k => k.mods.cell v0 (by simp)
    have e1 : ∀ k : Later w9, k.val.cell? ⟨cb, off + 1, none⟩ = some (.slice co nc cc) := fun k => k.mods.cell v1 (by simp)
    have kc3 : ∀ k : Later w9, Calls Tryz.prog 16 #[.agg #[.string t.name, .slice co nc cc]] k.val fun e w' => e = .returned (.bool E) ∧ ∃ k' : Later w9, w' = k'.val := fun k =>
      (k3 _ (hM79.trans k.mods (by simp))).mono fun e w' h => ⟨h.1, ⟨_, k.mods.trans h.2 (by simp)⟩, rfl⟩
    have kc4 : ∀ k : Later w9, Calls Tryz.prog 17 #[.agg #[.string t.name, .slice co nc cc]] k.val fun e w' => e = .returned (.bool E) ∧ ∃ k' : Later w9, w' = k'.val := fun k =>
      (k4 _ (hM79.trans k.mods (by simp))).mono fun e w' h => ⟨h.1, ⟨_, k.mods.trans h.2 (by simp)⟩, rfl⟩
    clear v0 v1 k3 k4
    go_upto_region 12 with fail
    have H3 := Lib.hid kc3
    have H4 := Lib.hid kc4
    clear kc3 kc4
    refine region_later (by kernel_rfl) (by kernel_rfl) ?_
    repeat (go_big_quiet_step (first | with_reducible exact H3.out _ | with_reducible exact H4.out _))
    refine wpQuiet_nil ?_
    rintro _ ⟨kk, rfl⟩
    go_wp2_with fail
    go_ret
    exact ⟨rfl, ((hM1.trans hM17 (by simp)).trans hM79 (by simp)).trans kk.mods (by simp)⟩
end Go.Proofs.YtijapjnhjioknaaGreatDoor
