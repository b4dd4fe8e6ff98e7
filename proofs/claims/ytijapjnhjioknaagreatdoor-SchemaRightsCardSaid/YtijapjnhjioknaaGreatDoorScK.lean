/-
  schema.Find and schema.Column, walked: the place of the first one of a name. No condition.
-/
import Derived.Test.YtijapjnhjioknaaGreatDoorScJ
namespace Go.Proofs.YtijapjnhjioknaaGreatDoor
open Go.RowKit
open Go.Maps
set_option linter.unusedVariables false

/-- The place of the first one of a name, and whether there is one. -/
def findV (l : List ByteArray) (s : ByteArray) : Value :=
  match l.findIdx? (fun x => decide (x = s)) with
  | some i => .tuple #[.int .i64 i, .bool true]
  | none => .tuple #[.int .i64 0, .bool false]

theorem findV_some {l : List ByteArray} {s : ByteArray} {i : Nat} (hi : i < l.length) (h : l[i] = s) (hb : ∀ j (hj : j < l.length), j < i → l[j] ≠ s) : findV l s = .tuple #[.int .i64 i, .bool true] := by
  have : l.findIdx? (fun x => decide (x = s)) = some i := by
    rw [List.findIdx?_eq_some_iff_getElem]
    exact ⟨hi, by simp [h], fun j hj => by simpa using hb j (by omega) hj⟩
  unfold findV
  rw [this]
theorem findV_none {l : List ByteArray} {s : ByteArray} (hb : ∀ j (hj : j < l.length), l[j] ≠ s) : findV l s = .tuple #[.int .i64 0, .bool false] := by
  have : l.findIdx? (fun x => decide (x = s)) = none := by
    rw [List.findIdx?_eq_none_iff]
    intro x hx
    obtain ⟨j, hj, rfl⟩ := List.getElem_of_mem hx
    simpa using hb j hj
  unfold findV
  rw [this]
/-- None of the first i is it. -/
def NotYet (l : List ByteArray) (s : ByteArray) (i : Nat) : Prop := ∀ j (hj : j < l.length), j < i → l[j] ≠ s
theorem NotYet.next {l : List ByteArray} {s : ByteArray} {i : Nat} (h : NotYet l s i) (hi : i < l.length) (hn : l[i] ≠ s) : NotYet l s (i + 1) := by
  intro j hj hji
  by_cases he : j = i
  · subst he; exact hn
  · exact h j hj (by omega)

set_option maxRecDepth 100000 in
theorem colName_any (w : World) (x : ByteArray) (k s : Int) (z : Bool) : Calls Tryz.prog 26 #[.agg #[.string x, .int .i64 k, .int .i64 s, .bool z]] w fun e w' => e = .returned (.string x) ∧ Mods [] w w' := by
  have hM := (Mods.refl [] w).alloc (.cells #[.string x, .int .i64 k, .int .i64 s, .bool z] 44)
  go_enter Tryz.func26, Tryz.ntmps26
  go_wp2_with fail
  go_ret
  exact ⟨rfl, hM⟩
set_option maxRecDepth 100000 in
theorem tblName_any (w : World) (x : ByteArray) (v : Value) (hv : v.oneCell' = true) : Calls Tryz.prog 21 #[.agg #[.string x, v]] w fun e w' => e = .returned (.string x) ∧ Mods [] w w' := by
  have hM := (Mods.refl [] w).alloc (.cells #[.string x, v] 24)
  go_enter Tryz.func21, Tryz.ntmps21
  go_wp2_with fail
  go_ret
  exact ⟨rfl, hM⟩

set_option maxRecDepth 100000 in
set_option maxHeartbeats 1000000 in
theorem findCol_any (w : World) (l : List Col) (n : Nat) (hn : l.length = n) (hn63 : n ≤ 9223372036854775807) (ao : Option Addr) (cap : Nat) (hI : ColsIn w ao l []) (s : ByteArray) :
    Calls Tryz.prog 25 #[.slice ao n cap, .string s, .func (.func 26) #[] #[]] w fun e w' => e = .returned (findV (l.map Col.name) s) ∧ Mods [] w w' := by
  have HN := Lib.hid hn
  have HI := Lib.hid hI
  clear hn hI
  go_enter Tryz.func25, Tryz.ntmps25
  go_wp2_with fail
  go_loopw [12] (fun t12 wr => ∃ (i : Nat), i ≤ n ∧ t12 = .int .i64 i ∧ Mods [] w wr ∧ NotYet (l.map Col.name) s i) (fun t12 _ => n - (intOf t12).toNat)
  case atStart => exact ⟨0, by omega, rfl, Mods.refl _ _, fun j _ h => by omega⟩
  case round =>
    obtain ⟨i, hi, rfl, hM, hY⟩ := hrel
    by_cases hlt : i < n
    · have hil : i < l.length := by rw [HN.out]; exact hlt
      have hne : l ≠ [] := fun h => by rw [h] at hil; simp at hil
      obtain ⟨cb, off, rfl, hcb, hcells⟩ := HI.out hne
      obtain ⟨c0, c1, c2, c3⟩ := hcells i hil
      have d0 := hM.cell c0 (by simp)
      have d1 := hM.cell c1 (by simp)
      have d2 := hM.cell c2 (by simp)
      have d3 := hM.cell c3 (by simp)
      have hml : i < (l.map Col.name).length := by simpa using hil
      have hme : (l.map Col.name)[i] = l[i].name := by simp
      obtain ⟨c, hc⟩ : ∃ c, l[i] = c := ⟨_, rfl⟩
      rw [hc] at d0 d1 d2 d3 hme
      clear c0 c1 c2 c3 hc hcells hcb
      have hMB := (Mods.refl [] wr).alloc (.cells #[.string c.name, .int .i64 c.k, .int .i64 c.s, .bool c.null] 44)
      have hMx := hM.trans hMB (by simp)
      by_cases heq : c.name = s
      · have fin : Hid (findV (l.map Col.name) s = .tuple #[.int .i64 i, .bool true]) := Lib.hid (findV_some hml (by rw [hme, heq]) hY)
        obtain rfl := heq
        clear hY hme hml
        go_wp2_with fail
        (with_reducible refine (colName_any _ _ _ _ _).mono ?_)
        rintro e w2 ⟨rfl, hM2⟩
        go_wp2_with fail
        go_ret2
        exact ⟨by rw [fin.out]; rfl, hMx.trans hM2 (by simp)⟩
      · have hY2 : NotYet (l.map Col.name) s (i + 1) := hY.next hml (by rw [hme]; exact heq)
        have z2 : ¬ c.name.toList = s.toList := by
          rw [ByteArray.toList_eq, ByteArray.toList_eq]
          intro h
          exact heq (ByteArray.ext (Array.toList_inj.1 h))
        have z1 : (c.name.toList == s.toList) = false := by rw [beq_eq_false_iff_ne]; exact z2
        clear hY hme hml
        go_wp2_with fail
        (with_reducible refine (colName_any _ _ _ _ _).mono ?_)
        rintro e w2 ⟨rfl, hM2⟩
        go_wp2_with fail
        go_roundw
        case measure => simp [intOf]; omega
        case rel => exact ⟨i + 1, by omega, by go_num, hMx.trans hM2 (by simp), hY2⟩
    · obtain rfl : n = i := by omega
      have fin : Hid (findV (l.map Col.name) s = .tuple #[.int .i64 0, .bool false]) := Lib.hid (findV_none (fun j hj => hY j hj (by have := HN.out; simp at hj; omega)))
      clear hY
      go_wp2_with fail
      go_ret2
      exact ⟨by rw [fin.out]; rfl, hM⟩

set_option maxRecDepth 100000 in
set_option maxHeartbeats 1000000 in
theorem findTbl_any (w : World) (l : List Tbl) (n : Nat) (hn : l.length = n) (hn63 : n ≤ 9223372036854775807) (ao : Option Addr) (cap : Nat) (hI : TblsIn w ao l []) (s : ByteArray) :
    Calls Tryz.prog 20 #[.slice ao n cap, .string s, .func (.func 21) #[] #[]] w fun e w' => e = .returned (findV (l.map Tbl.name) s) ∧ Mods [] w w' := by
  have HN := Lib.hid hn
  have HI := Lib.hid hI
  clear hn hI
  go_enter Tryz.func20, Tryz.ntmps20
  go_wp2_with fail
  go_loopw [12] (fun t12 wr => ∃ (i : Nat), i ≤ n ∧ t12 = .int .i64 i ∧ Mods [] w wr ∧ NotYet (l.map Tbl.name) s i) (fun t12 _ => n - (intOf t12).toNat)
  case atStart => exact ⟨0, by omega, rfl, Mods.refl _ _, fun j _ h => by omega⟩
  case round =>
    obtain ⟨i, hi, rfl, hM, hY⟩ := hrel
    by_cases hlt : i < n
    · have hil : i < l.length := by rw [HN.out]; exact hlt
      have hne : l ≠ [] := fun h => by rw [h] at hil; simp at hil
      obtain ⟨cb, off, rfl, hcb, hcells⟩ := HI.out hne
      obtain ⟨c0, co, cc, c1, hC⟩ := hcells i hil
      have d0 := hM.cell c0 (by simp)
      have d1 := hM.cell c1 (by simp)
      have hml : i < (l.map Tbl.name).length := by simpa using hil
      have hme : (l.map Tbl.name)[i] = l[i].name := by simp
      obtain ⟨c, hc⟩ : ∃ c, l[i] = c := ⟨_, rfl⟩
      rw [hc] at d0 d1 hme
      obtain ⟨nc, hnc⟩ : ∃ nc, c.cols.length = nc := ⟨_, rfl⟩
      rw [hnc] at d1
      clear c0 c1 hC hc hcells hcb hnc
      have hMB := (Mods.refl [] wr).alloc (.cells #[.string c.name, .slice co nc cc] 24)
      have hMx := hM.trans hMB (by simp)
      by_cases heq : c.name = s
      · have fin : Hid (findV (l.map Tbl.name) s = .tuple #[.int .i64 i, .bool true]) := Lib.hid (findV_some hml (by rw [hme, heq]) hY)
        obtain rfl := heq
        clear hY hme hml
        go_wp2_with fail
        (with_reducible refine (tblName_any _ _ _ rfl).mono ?_)
        rintro e w2 ⟨rfl, hM2⟩
        go_wp2_with fail
        go_ret2
        exact ⟨by rw [fin.out]; rfl, hMx.trans hM2 (by simp)⟩
      · have hY2 : NotYet (l.map Tbl.name) s (i + 1) := hY.next hml (by rw [hme]; exact heq)
        have z2 : ¬ c.name.toList = s.toList := by
          rw [ByteArray.toList_eq, ByteArray.toList_eq]
          intro h
          exact heq (ByteArray.ext (Array.toList_inj.1 h))
        have z1 : (c.name.toList == s.toList) = false := by rw [beq_eq_false_iff_ne]; exact z2
        clear hY hme hml
        go_wp2_with fail
        (with_reducible refine (tblName_any _ _ _ rfl).mono ?_)
        rintro e w2 ⟨rfl, hM2⟩
        go_wp2_with fail
        go_roundw
        case measure => simp [intOf]; omega
        case rel => exact ⟨i + 1, by omega, by go_num, hMx.trans hM2 (by simp), hY2⟩
    · obtain rfl : n = i := by omega
      have fin : Hid (findV (l.map Tbl.name) s = .tuple #[.int .i64 0, .bool false]) := Lib.hid (findV_none (fun j hj => hY j hj (by have := HN.out; simp at hj; omega)))
      clear hY
      go_wp2_with fail
      go_ret2
      exact ⟨by rw [fin.out]; rfl, hM⟩

theorem findV_form (l : List ByteArray) (s : ByteArray) : ∃ (i : Nat) (b : Bool), findV l s = .tuple #[.int .i64 i, .bool b] := by
  unfold findV
  split
  · exact ⟨_, _, rfl⟩
  · exact ⟨0, false, rfl⟩

set_option maxRecDepth 100000 in
theorem column_any (w : World) (t : Tbl) (n : Nat) (hn : t.cols.length = n) (hn63 : n ≤ 9223372036854775807) (co : Option Addr) (cap : Nat) (hI : ColsIn w co t.cols []) (s : ByteArray) :
    Calls Tryz.prog 14 #[.agg #[.string t.name, .slice co n cap], .string s] w fun e w' => e = .returned (findV (t.cols.map Col.name) s) ∧ Mods [] w w' := by
  have hMA := (Mods.refl [] w).alloc (.cells #[.string t.name, .slice co n cap] 24)
  have hf := findCol_any _ t.cols n hn hn63 co cap (hI.mods hMA) s
  obtain ⟨i, b, hib⟩ := findV_form (t.cols.map Col.name) s
  rw [hib] at hf ⊢
  clear hib
  go_enter Tryz.func14, Tryz.ntmps14
  go_wp2_with fail
  (with_reducible refine hf.mono ?_)
  rintro e w2 ⟨rfl, hM2⟩
  go_wp2_with fail
  go_ret2
  exact ⟨rfl, hMA.trans hM2 (by simp)⟩
set_option maxRecDepth 100000 in
theorem findT_any (w : World) (l : List Tbl) (n : Nat) (hn : l.length = n) (hn63 : n ≤ 9223372036854775807) (ao : Option Addr) (cap : Nat) (hI : TblsIn w ao l []) (s : ByteArray) :
    Calls Tryz.prog 8 #[.slice ao n cap, .string s] w fun e w' => e = .returned (findV (l.map Tbl.name) s) ∧ Mods [] w w' := by
  have hf := findTbl_any w l n hn hn63 ao cap hI s
  obtain ⟨i, b, hib⟩ := findV_form (l.map Tbl.name) s
  rw [hib] at hf ⊢
  clear hib
  go_enter Tryz.func8, Tryz.ntmps8
  go_wp2_with fail
  (with_reducible refine hf.mono ?_)
  rintro e w2 ⟨rfl, hM2⟩
  go_wp2_with fail
  go_ret2
  exact ⟨rfl, hM2⟩
end Go.Proofs.YtijapjnhjioknaaGreatDoor
