/-
  The document's chapters 10 and 12: TypeRight, Fits, Column, Find, walked. No condition.
-/
import Derived.Test.YtijapjnhjioknaaGreatDoorSdA
namespace Go.Proofs.YtijapjnhjioknaaGreatDoor
open Go.RowKit
open Go.Maps
set_option linter.unusedVariables false

set_option maxRecDepth 100000 in
theorem ref_tyRight (k s : Int) (w : World) : Calls Tryz.prog 27 #[.agg #[.int .i64 k, .int .i64 s]] w fun e w' => e = .returned (.bool (tyRight k s)) ∧ Mods [] w w' := by
  have hM := (Mods.refl [] w).alloc (.cells #[.int .i64 k, .int .i64 s] 42)
  go_enter Tryz.func27, Tryz.ntmps27
  by_cases h2 : k = 2
  · subst h2
    go_wp2_with fail
    all_goals go_ret
    all_goals refine ⟨ret_bool ?_, (Mods.refl [] w).alloc _⟩
    all_goals simp [tyRight]
    all_goals first | done | omega
  by_cases h1 : k = 1
  · subst h1
    go_wp2_with fail
    all_goals go_ret
    all_goals refine ⟨ret_bool ?_, (Mods.refl [] w).alloc _⟩
    all_goals simp [tyRight]
    all_goals first | done | omega
  by_cases h3 : k = 3
  · subst h3
    go_wp2_with fail
    all_goals go_ret
    all_goals refine ⟨ret_bool ?_, (Mods.refl [] w).alloc _⟩
    all_goals simp [tyRight]
    all_goals first | done | omega
  by_cases h4 : k = 4
  · subst h4
    go_wp2_with fail
    all_goals go_ret
    all_goals refine ⟨ret_bool ?_, (Mods.refl [] w).alloc _⟩
    all_goals simp [tyRight]
    all_goals first | done | omega
  go_wp2_with fail
  all_goals go_ret
  all_goals refine ⟨ret_bool ?_, (Mods.refl [] w).alloc _⟩
  all_goals simp [tyRight, h1, h2, h3, h4]

set_option maxRecDepth 100000 in
set_option maxHeartbeats 1000000 in
theorem ref_fits (k s : Int) (null z : Bool) (n : Int) (str : ByteArray) (hs : str.size ≤ 9223372036854775807) (w : World) :
    Calls Tryz.prog 19 #[.agg #[.int .i64 k, .int .i64 s], .bool null, .agg #[.bool z, .int .i64 n, .string str]] w fun e w' => e = .returned (.bool (fitsV k s null z n str)) ∧ Mods [] w w' := by
  have hM1 := ((Mods.refl [] w).alloc (.cells #[.int .i64 k, .int .i64 s] 42)).alloc (.cells #[.bool z, .int .i64 n, .string str] 46)
  have fin : ∀ w' b, Mods [] ((w.alloc (.cells #[.int .i64 k, .int .i64 s] 42)).alloc (.cells #[.bool z, .int .i64 n, .string str] 46)) w' → b = fitsV k s null z n str → Ending.returned (.bool b) = .returned (.bool (fitsV k s null z n str)) ∧ Mods [] w w' := fun w' b h1 h2 => ⟨by rw [h2], hM1.trans h1 (by simp)⟩
  go_enter Tryz.func19, Tryz.ntmps19
  go_wp2_with fail
  refine (ref_tyRight k s _).mono ?_
  rintro e w1 ⟨rfl, hM⟩
  have c0 : w1.cell? ⟨w.heap.size, 0, none⟩ = some (.int .i64 k) := hM.cell ((two_cell0 _ _ _ _ _ _).trans rfl) (by simp)
  have d0 : w1.cell? ⟨w.heap.size + 1, 0, none⟩ = some (.bool z) := hM.cell ((two_cell1 _ _ _ _ _ _).trans rfl) (by simp)
  have d1 : w1.cell? ⟨w.heap.size + 1, 1, none⟩ = some (.int .i64 n) := hM.cell ((two_cell1 _ _ _ _ _ _).trans rfl) (by simp)
  have d2 : w1.cell? ⟨w.heap.size + 1, 2, none⟩ = some (.string str) := hM.cell ((two_cell1 _ _ _ _ _ _).trans rfl) (by simp)
  have hfin := fin w1
  cases ht : tyRight k s with
  | false =>
    go_wp2_with fail
    go_ret
    exact hfin _ hM (by simp [fitsV, ht])
  | true =>
    cases z with
    | true =>
      cases null with
      | false =>
        go_wp2_with fail
        go_ret
        exact hfin _ hM (by simp [fitsV])
      | true =>
        by_cases h0 : str.size = 0
        · obtain rfl := str_empty h0
          go_wp2_with fail
          all_goals go_ret
          all_goals refine hfin _ hM ?_
          all_goals unfold fitsV
          all_goals rw [ht, str_eq]
          all_goals simp_all
          all_goals try omega
        · have hne : str ≠ ⟨#[]⟩ := fun h => h0 (by rw [h]; rfl)
          have hnl : ¬ str.toList = [] := fun h => h0 ((toList_nil str).1 h)
          go_wp2_with fail
          all_goals go_ret
          all_goals refine hfin _ hM ?_
          all_goals unfold fitsV
          all_goals rw [ht, str_eq]
          all_goals simp_all
          all_goals try omega
    | false =>
      by_cases h3 : k = 3
      · subst h3
        go_wp2_with fail
        all_goals go_ret
        all_goals refine hfin _ hM ?_
        all_goals unfold fitsV
        all_goals rw [ht, ← nat_cast_le]
        all_goals simp_all
        all_goals try omega
      · by_cases h0 : str.size = 0
        · obtain rfl := str_empty h0
          go_wp2_with fail
          all_goals go_ret
          all_goals refine hfin _ hM ?_
          all_goals unfold fitsV
          all_goals rw [ht, str_eq]
          all_goals simp_all
          all_goals try omega
        · have hne : str ≠ ⟨#[]⟩ := fun h => h0 (by rw [h]; rfl)
          have hnl : ¬ str.toList = [] := fun h => h0 ((toList_nil str).1 h)
          go_wp2_with fail
          all_goals go_ret
          all_goals refine hfin _ hM ?_
          all_goals unfold fitsV
          all_goals rw [ht, str_eq]
          all_goals simp_all
          all_goals try omega


set_option maxRecDepth 100000 in
set_option maxHeartbeats 1000000 in
theorem column_ref (w : World) (t : Tbl) (n : Nat) (hn : t.cols.length = n) (hn63 : n ≤ 9223372036854775807) (ao : Option Addr) (cap : Nat) (hI : ColsIn w ao t.cols []) (s : ByteArray) :
    Calls Tryz.prog 15 #[.agg #[.string t.name, .slice ao n cap], .string s] w fun e w' => e = .returned (findV (t.cols.map Col.name) s) ∧ Mods [] w w' := by
  have hMA := (Mods.refl [] w).alloc (.cells #[.string t.name, .slice ao n cap] 24)
  have hb2 := heap_alloc_new w (.cells #[.string t.name, .slice ao n cap] 24)
  have HN := Lib.hid hn
  have HI := Lib.hid hI
  clear hn hI
  go_enter Tryz.func15, Tryz.ntmps15
  go_wp2_with fail
  generalize w.alloc (.cells #[.string t.name, .slice ao n cap] 24) = w1 at *
  generalize w.heap.size = tb at *
  go_loopw [6] (fun t6 wr => ∃ (i : Nat), i ≤ n ∧ t6 = .int .i64 i ∧ Mods [] w1 wr ∧ NotYet (t.cols.map Col.name) s i) (fun t6 _ => n - (intOf t6).toNat)
  case atStart => exact ⟨0, by omega, rfl, Mods.refl _ _, fun j _ h => by omega⟩
  case round =>
    obtain ⟨i, hi, rfl, hM, hY⟩ := hrel
    have hMx := hMA.trans hM (by simp)
    have e1 := cell_of_heap (hM.heap hb2 (by simp)) 1
    change wr.cell? _ = some (.slice ao n cap) at e1
    by_cases hlt : i < n
    · have hil : i < t.cols.length := by rw [HN.out]; exact hlt
      have hne : t.cols ≠ [] := fun h => by rw [h] at hil; simp at hil
      obtain ⟨cb, off, rfl, hcb, hcells⟩ := HI.out hne
      obtain ⟨c0, -, -, -⟩ := hcells i hil
      have d0 := hMx.cell c0 (by simp)
      have hml : i < (t.cols.map Col.name).length := by simpa using hil
      have hme : (t.cols.map Col.name)[i] = t.cols[i].name := by simp
      obtain ⟨x, hx⟩ : ∃ x, t.cols[i].name = x := ⟨_, rfl⟩
      rw [hx] at d0 hme
      have hiz : (i : Int) < (n : Int) := by omega
      clear c0 hx hcells hcb
      by_cases heq : x = s
      · have fin : Hid (findV (t.cols.map Col.name) s = .tuple #[.int .i64 i, .bool true]) := Lib.hid (findV_some hml (by rw [hme, heq]) hY)
        obtain rfl := heq
        clear hY hme hml
        go_wp2_with fail
        go_ret2
        exact ⟨by rw [fin.out]; rfl, hMx⟩
      · have hY2 : NotYet (t.cols.map Col.name) s (i + 1) := hY.next hml (by rw [hme]; exact heq)
        have z2 := toList_ne heq
        have z1 : (x.toList == s.toList) = false := by rw [beq_eq_false_iff_ne]; exact z2
        clear hY hme hml
        go_wp2_with fail
        go_roundw
        case measure => simp [intOf]; omega
        case rel => exact ⟨i + 1, by omega, by go_num, hM, hY2⟩
    · obtain rfl : n = i := by omega
      have fin : Hid (findV (t.cols.map Col.name) s = .tuple #[.int .i64 0, .bool false]) := Lib.hid (findV_none (fun j hj => hY j hj (by have := HN.out; simp at hj; omega)))
      clear hY
      go_wp2_with fail
      go_ret2
      exact ⟨by rw [fin.out]; rfl, hMx⟩

set_option maxRecDepth 100000 in
set_option maxHeartbeats 1000000 in
theorem find_ref (w : World) (l : List Tbl) (n : Nat) (hn : l.length = n) (hn63 : n ≤ 9223372036854775807) (ao : Option Addr) (cap : Nat) (hI : TblsIn w ao l []) (s : ByteArray) :
    Calls Tryz.prog 9 #[.slice ao n cap, .string s] w fun e w' => e = .returned (findV (l.map Tbl.name) s) ∧ Mods [] w w' := by
  have HN := Lib.hid hn
  have HI := Lib.hid hI
  clear hn hI
  go_enter Tryz.func9, Tryz.ntmps9
  go_wp2_with fail
  go_loopw [6] (fun t6 wr => ∃ (i : Nat), i ≤ n ∧ t6 = .int .i64 i ∧ Mods [] w wr ∧ NotYet (l.map Tbl.name) s i) (fun t6 _ => n - (intOf t6).toNat)
  case atStart => exact ⟨0, by omega, rfl, Mods.refl _ _, fun j _ h => by omega⟩
  case round =>
    obtain ⟨i, hi, rfl, hM, hY⟩ := hrel
    by_cases hlt : i < n
    · have hil : i < l.length := by rw [HN.out]; exact hlt
      have hne : l ≠ [] := fun h => by rw [h] at hil; simp at hil
      obtain ⟨cb, off, rfl, hcb, hcells⟩ := HI.out hne
      obtain ⟨c0, -⟩ := hcells i hil
      have d0 := hM.cell c0 (by simp)
      have hml : i < (l.map Tbl.name).length := by simpa using hil
      have hme : (l.map Tbl.name)[i] = l[i].name := by simp
      obtain ⟨x, hx⟩ : ∃ x, l[i].name = x := ⟨_, rfl⟩
      rw [hx] at d0 hme
      have hiz : (i : Int) < (n : Int) := by omega
      clear c0 hx hcells hcb
      by_cases heq : x = s
      · have fin : Hid (findV (l.map Tbl.name) s = .tuple #[.int .i64 i, .bool true]) := Lib.hid (findV_some hml (by rw [hme, heq]) hY)
        obtain rfl := heq
        clear hY hme hml
        go_wp2_with fail
        go_ret2
        exact ⟨by rw [fin.out]; rfl, hM⟩
      · have hY2 : NotYet (l.map Tbl.name) s (i + 1) := hY.next hml (by rw [hme]; exact heq)
        have z2 := toList_ne heq
        have z1 : (x.toList == s.toList) = false := by rw [beq_eq_false_iff_ne]; exact z2
        clear hY hme hml
        go_wp2_with fail
        go_roundw
        case measure => simp [intOf]; omega
        case rel => exact ⟨i + 1, by omega, by go_num, hM, hY2⟩
    · obtain rfl : n = i := by omega
      have fin : Hid (findV (l.map Tbl.name) s = .tuple #[.int .i64 0, .bool false]) := Lib.hid (findV_none (fun j hj => hY j hj (by have := HN.out; simp at hj; omega)))
      clear hY
      go_wp2_with fail
      go_ret2
      exact ⟨by rw [fin.out]; rfl, hM⟩
end Go.Proofs.YtijapjnhjioknaaGreatDoor
