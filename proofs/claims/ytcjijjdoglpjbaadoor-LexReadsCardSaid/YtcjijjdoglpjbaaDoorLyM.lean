/-
  The law LexMarks, walked whole. No condition but that Go's own variables hold what they were laid with.
-/
import Derived.Test.YtcjijjdoglpjbaaDoorLyT
namespace Go.Proofs.YtcjijjdoglpjbaaDoor
open Go.RowKit
set_option linter.unusedVariables false

def marksAll : List (List UInt8) := [[60, 62], [60, 61], [62, 61], [61], [60], [62], [43], [45], [42], [47], [40], [41], [44], [46]]
def joinedB (x y : List UInt8) : Bool := (x == [60] && (y.head? == some 62 || y.head? == some 61)) || (x == [62] && y.head? == some 61)
def chk1 (x y : List UInt8) : Bool := match lexAll (x ++ 32 :: y) with
  | .good [a, b, c] => a.s == x && b.s == y && b.pos == x.length + 1
  | _ => false
def chk2 (x y : List UInt8) : Bool := match lexAll (x ++ y) with
  | .good ts => if joinedB x y = true then (match ts with | a :: _ => a.s == x ++ y.take 1 | [] => false) else (match ts with | [a, b, c] => a.s == x && b.s == y | _ => false)
  | .bad _ => false
theorem marks_law : (marksAll.all fun x => marksAll.all fun y => chk1 x y && chk2 x y && !(x.isEmpty) && !(y.isEmpty) && decide (x.length ≤ 2) && decide (y.length ≤ 2)) = true := by kernel_rfl

theorem marks_one {x y : List UInt8} (hx : x ∈ marksAll) (hy : y ∈ marksAll) : x ≠ [] ∧ y ≠ [] ∧ x.length ≤ 2 ∧ y.length ≤ 2 ∧ (∃ a b c : Tok, lexAll (x ++ 32 :: y) = .good [a, b, c] ∧ a.s = x ∧ b.s = y ∧ b.pos = x.length + 1) ∧
    ∃ ts, lexAll (x ++ y) = .good ts ∧ (joinedB x y = true → ∃ a r, ts = a :: r ∧ a.s = x ++ y.take 1) ∧ (joinedB x y = false → ∃ a b c : Tok, ts = [a, b, c] ∧ a.s = x ∧ b.s = y) := by
  have h := List.all_eq_true.1 (List.all_eq_true.1 marks_law x hx) y hy
  simp only [Bool.and_eq_true, Bool.not_eq_true', List.isEmpty_eq_false_iff, decide_eq_true_eq] at h
  obtain ⟨⟨⟨⟨⟨h1, h2⟩, h3⟩, h4⟩, h5⟩, h6⟩ := h
  refine ⟨h3, h4, h5, h6, ?_, ?_⟩
  · unfold chk1 at h1
    split at h1
    · rename_i a b c he
      simp only [Bool.and_eq_true, beq_iff_eq] at h1
      exact ⟨a, b, c, he, h1.1.1, h1.1.2, h1.2⟩
    · cases h1
  · unfold chk2 at h2
    split at h2
    · rename_i ts he
      refine ⟨ts, he, fun hj => ?_, fun hj => ?_⟩
      · rw [if_pos hj] at h2
        cases ts with
        | nil => cases h2
        | cons a r => exact ⟨a, r, rfl, by simpa using h2⟩
      · rw [if_neg (by rw [hj]; decide)] at h2
        split at h2
        · rename_i a b c
          simp only [Bool.and_eq_true, beq_iff_eq] at h2
          exact ⟨a, b, c, rfl, h2.1, h2.2⟩
        · cases h2
    · cases h2

def markCells : Array Value := (marksAll.map fun l => Value.string ⟨l.toArray⟩).toArray

set_option maxRecDepth 100000 in
set_option maxHeartbeats 2000000 in
theorem lexMarks_walk (w : World) (hT : Tabs w) (a : Nat) (ha : a < 256) (b : Nat) (hb : b < 256) :
    Calls Tryd.prog 8 #[.int .u8 a, .int .u8 b] w fun e w' => e = .returned (.bool true) ∧ Mods [] w w' := by
  obtain ⟨i, hi, hiz⟩ : ∃ i : Nat, i < 14 ∧ (a : Int) % 14 = (i : Int) := ⟨a % 14, by omega, by omega⟩
  obtain ⟨j, hj, hjz⟩ : ∃ j : Nat, j < 14 ∧ (b : Int) % 14 = (j : Int) := ⟨b % 14, by omega, by omega⟩
  obtain ⟨x, hx⟩ : ∃ x, marksAll[i]? = some x := ⟨_, List.getElem?_eq_getElem hi⟩
  obtain ⟨y, hy⟩ : ∃ y, marksAll[j]? = some y := ⟨_, List.getElem?_eq_getElem hj⟩
  obtain ⟨hx0, hy0, hx2, hy2, ⟨t1, t2, t3, hl1, ht1, ht2, ht3⟩, ts, hl2, hjn, hnj⟩ := marks_one (List.mem_of_getElem? hx) (List.mem_of_getElem? hy)
  have hcx : markCells[i]? = some (.string ⟨x.toArray⟩) := by
    show ((marksAll.map fun l => Value.string ⟨l.toArray⟩).toArray)[i]? = _
    rw [List.getElem?_toArray, List.getElem?_map, hx]; rfl
  have hcy : markCells[j]? = some (.string ⟨y.toArray⟩) := by
    show ((marksAll.map fun l => Value.string ⟨l.toArray⟩).toArray)[j]? = _
    rw [List.getElem?_toArray, List.getElem?_map, hy]; rfl
  have HCX := Lib.hid hcx
  have HCY := Lib.hid hcy
  have HL1 := Lib.hid hl1
  have HL2 := Lib.hid hl2
  have HT := Lib.hid (And.intro ht1 (And.intro ht2 ht3))
  have HJ := Lib.hid (And.intro hjn hnj)
  have H0 := Lib.hid (And.intro hx0 hy0)
  clear hcx hcy hl1 hl2 ht1 ht2 ht3 hjn hnj hx hy hx0 hy0
  go_enter Tryd.func8, Tryd.ntmps8
  go_wp2_with fail
  refine (examples11 _ hT).mono ?_
  rintro e w1 ⟨rfl, hM1⟩
  have hM2 := hM1.alloc (.cells markCells 9)
  have hT2 := hT.mods hM2
  have hg := heap_alloc_new w1 (.cells markCells 9)
  have c1 := (cell_of_heap hg i).trans HCX.out
  have c2 := (cell_of_heap hg j).trans HCY.out
  have hX1 : ∃ X : ByteArray, X = ⟨x.toArray⟩ := ⟨_, rfl⟩
  obtain ⟨X, hX⟩ := hX1
  obtain ⟨Y, hY⟩ : ∃ Y : ByteArray, Y = ⟨y.toArray⟩ := ⟨_, rfl⟩
  have hXl : X.data.toList = x := by rw [hX]
  have hYl : Y.data.toList = y := by rw [hY]
  rw [← hX] at c1
  rw [← hY] at c2
  clear hX hY
  subst hXl
  subst hYl
  go_upto_region 5 with fail
  change Code.wp _ _ _ _ (w1.alloc (.cells markCells 9))
  generalize w1.alloc (.cells markCells 9) = w2 at *
  generalize w1.heap.size = gb at *
  clear hg HCX HCY
  have hsx : X.size ≤ 2 := hx2
  have hsy : Y.size ≤ 2 := hy2
  have k1 : ¬ 9223372036854775807 < X.size + 1 := by omega
  have k2 : ¬ 9223372036854775807 < (X ++ ⟨#[32]⟩ : ByteArray).size + Y.size := by rw [ByteArray.size_append]; show ¬ _ < X.size + 1 + Y.size; omega
  have k3 : ¬ 9223372036854775807 < X.size + Y.size := by omega
  have ha1 := all_good w2 hT2 (X ++ ⟨#[32]⟩ ++ Y) (by rw [ByteArray.size_append, ByteArray.size_append]; show X.size + 1 + Y.size ≤ _; omega) [t1, t2, t3] (by rw [app_list, app_list, List.append_assoc]; exact HL1.out)
  have ha2 := fun W (h : Tabs W) => all_good W h (X ++ Y) (by rw [ByteArray.size_append]; omega) ts (by rw [app_list]; exact HL2.out)
  go_wp2_with fail
  (with_reducible refine ha1.mono ?_)
  rintro e w3 ⟨g1, cap1, rfl, hM3, hA1, hc1⟩
  have hT3 := hT2.mods hM3
  clear ha1
  go_wp2_with fail
  (with_reducible refine (ha2 w3 hT3).mono ?_)
  rintro e w4 ⟨g2, cap2, rfl, hM4, hA2, hc2⟩
  have hA1' := hA1.mods hM4
  have hMw := (hM2.trans hM3 (by simp)).trans hM4 (by simp)
  have hl3 : [t1, t2, t3].length = 3 := rfl
  have d0 : w4.cell? ⟨g1, 2, none⟩ = some (.string X) := by
    have := hA1' 2 _ rfl
    rwa [← bytes_of HT.out.1.symm] at this
  have d1 : w4.cell? ⟨g1, 7, none⟩ = some (.string Y) := by
    have := hA1' 7 _ rfl
    rwa [← bytes_of HT.out.2.1.symm] at this
  have d2 : w4.cell? ⟨g1, 6, none⟩ = some (.int .i64 (X.size + 1 : Nat)) := by
    have := hA1' 6 _ rfl
    rw [HT.out.2.2] at this
    exact this
  have HA2 := Lib.hid hA2
  clear ha2 hA1 hA1' hA2 c1 c2
  have hxw : IntKind.i64.wrap ((X.size : Int) + 1) = (X.size : Int) + 1 := IntWalk.i64_in _ (by omega)
  go_upto_region 11 with fail
  have hy1 : 0 < Y.size := List.length_pos_iff.2 H0.out.2
  have hy1z : (0 : Int) < (Y.size : Int) := by omega
  have hy0 := s_at Y 0 hy1
  have hyh : Y.data.toList.head? = some Y[0] := by rw [List.head?_eq_getElem?]; exact hy0
  have hexl : (Y.extract 0 1).data.toList = Y.data.toList.take 1 := by
    have := ext_list Y 0 1
    rwa [Nat.zero_add, List.drop_zero] at this
  have hexs : (Y.extract 0 1).size ≤ 1 := by rw [size_list, hexl, List.length_take]; omega
  have k4 : ¬ 9223372036854775807 < X.size + (Y.extract 0 1).size := by omega
  have HEX := Lib.hid hexl
  have HMw := Lib.hid hMw
  have HYH := Lib.hid hyh
  obtain ⟨y0, hyv⟩ : ∃ y0, Y[0] = y0 := ⟨_, rfl⟩
  rw [hyv] at HYH
  clear hexl hy0 hyh d0 d1 d2 hxw k1 k2 k3 HL1 HL2 HT H0 hexs ha hb hMw hM4 hM3 hM2 hM1
  have tru : joinedB X.data.toList Y.data.toList = true → ∃ a r, ts = a :: r ∧ w4.cell? ⟨g2, 2, none⟩ = some (.string (X ++ Y.extract 0 1)) := by
    intro h
    obtain ⟨a, r, rfl, h1⟩ := HJ.out.1 h
    refine ⟨a, r, rfl, ?_⟩
    have := HA2.out 2 _ rfl
    rwa [← bytes_of (a := X ++ Y.extract 0 1) (by rw [app_list, HEX.out]; exact h1.symm)] at this
  have fls : joinedB X.data.toList Y.data.toList = false → ts.length = 3 ∧ w4.cell? ⟨g2, 2, none⟩ = some (.string X) ∧ w4.cell? ⟨g2, 7, none⟩ = some (.string Y) := by
    intro h
    obtain ⟨a, b, c, rfl, h1, h2⟩ := HJ.out.2 h
    have e1 := HA2.out 2 _ rfl
    have e2 := HA2.out 7 _ rfl
    rw [← bytes_of h1.symm] at e1
    rw [← bytes_of h2.symm] at e2
    exact ⟨rfl, e1, e2⟩
  have hcs : (X.data.toList = [60] ∧ y0 = 62) ∨ (X.data.toList = [60] ∧ y0 = 61) ∨ (X.data.toList = [60] ∧ y0 ≠ 62 ∧ y0 ≠ 61) ∨ (X.data.toList = [62] ∧ y0 = 61) ∨ (X.data.toList = [62] ∧ y0 ≠ 61) ∨ (X.data.toList ≠ [60] ∧ X.data.toList ≠ [62]) := by
    by_cases h1 : X.data.toList = [60] <;> by_cases h2 : X.data.toList = [62] <;> by_cases h3 : y0 = 62 <;> by_cases h4 : y0 = 61 <;> simp [h1, h2, h3, h4]
  clear HJ HA2 HEX
  rcases hcs with ⟨h1, h2⟩ | ⟨h1, h2⟩ | ⟨h1, h2, h3⟩ | ⟨h1, h2⟩ | ⟨h1, h2⟩ | ⟨h1, h2⟩
  · have hj : joinedB X.data.toList Y.data.toList = true := by unfold joinedB; rw [HYH.out, h1, h2]; rfl
    obtain ⟨a, r, rfl, d3⟩ := tru hj
    clear tru fls hj HYH
    obtain rfl := bytes_of h1
    clear h1
    have hyz : ((Y[0].toNat : Int) == 62) = true := by rw [hyv, h2]; rfl
    have hyy : ((Y[0].toNat : Int) == 61) = false := by rw [hyv, h2]; rfl
    have hdj : decide (0 < (a :: r).length) = true := by simp
    have hlz : (0 : Int) < ((a :: r).length : Int) := by simp
    go_upto_region 12 with fail
    go_quiet (fail)
    go_wp2_with fail
    go_ret
    exact ⟨rfl, HMw.out.drewN _⟩
  · have hj : joinedB X.data.toList Y.data.toList = true := by unfold joinedB; rw [HYH.out, h1, h2]; rfl
    obtain ⟨a, r, rfl, d3⟩ := tru hj
    clear tru fls hj HYH
    obtain rfl := bytes_of h1
    clear h1
    have hyz : ((Y[0].toNat : Int) == 62) = false := by rw [hyv, h2]; rfl
    have hyy : ((Y[0].toNat : Int) == 61) = true := by rw [hyv, h2]; rfl
    have hdj : decide (0 < (a :: r).length) = true := by simp
    have hlz : (0 : Int) < ((a :: r).length : Int) := by simp
    go_upto_region 12 with fail
    go_quiet (fail)
    go_wp2_with fail
    go_ret
    exact ⟨rfl, HMw.out.drewN _⟩
  · have hj : joinedB X.data.toList Y.data.toList = false := by unfold joinedB; rw [HYH.out, h1]; simp [h2, h3]
    obtain ⟨hl, d3, d4⟩ := fls hj
    clear tru fls hj HYH
    obtain rfl := bytes_of h1
    clear h1
    have hyz : ((y0.toNat : Int) == 62) = false := by rw [beq_eq_false_iff_ne]; intro h; exact h2 (UInt8.toNat_inj.1 (by show y0.toNat = 62; omega))
    have hyy : ((y0.toNat : Int) == 61) = false := by rw [beq_eq_false_iff_ne]; intro h; exact h3 (UInt8.toNat_inj.1 (by show y0.toNat = 61; omega))
    rw [hl]
    go_upto_region 12 with fail
    go_quiet (fail)
    go_wp2_with fail
    go_ret
    exact ⟨rfl, HMw.out.drewN _⟩
  · have hj : joinedB X.data.toList Y.data.toList = true := by unfold joinedB; rw [HYH.out, h1, h2]; rfl
    obtain ⟨a, r, rfl, d3⟩ := tru hj
    clear tru fls hj HYH
    obtain rfl := bytes_of h1
    clear h1
    have hyz : ((Y[0].toNat : Int) == 62) = false := by rw [hyv, h2]; rfl
    have hyy : ((Y[0].toNat : Int) == 61) = true := by rw [hyv, h2]; rfl
    have hdj : decide (0 < (a :: r).length) = true := by simp
    have hlz : (0 : Int) < ((a :: r).length : Int) := by simp
    go_upto_region 12 with fail
    go_quiet (fail)
    go_wp2_with fail
    go_ret
    exact ⟨rfl, HMw.out.drewN _⟩
  · have hj : joinedB X.data.toList Y.data.toList = false := by unfold joinedB; rw [HYH.out, h1]; simp [h2]
    obtain ⟨hl, d3, d4⟩ := fls hj
    clear tru fls hj HYH
    obtain rfl := bytes_of h1
    clear h1
    have hyy : ((y0.toNat : Int) == 61) = false := by rw [beq_eq_false_iff_ne]; intro h; exact h2 (UInt8.toNat_inj.1 (by show y0.toNat = 61; omega))
    rw [hl]
    go_upto_region 12 with fail
    go_quiet (fail)
    go_wp2_with fail
    go_ret
    exact ⟨rfl, HMw.out.drewN _⟩
  · have hj : joinedB X.data.toList Y.data.toList = false := by unfold joinedB; rw [beq_eq_false_iff_ne.2 h1, beq_eq_false_iff_ne.2 h2]; rfl
    obtain ⟨hl, d3, d4⟩ := fls hj
    clear tru fls hj HYH
    have e1 : ¬ X.toList = [60] := by rw [ByteArray.toList_eq]; exact h1
    have e2 : (X.toList == [60]) = false := by rw [beq_eq_false_iff_ne]; exact e1
    have e3 : (X == ⟨#[60]⟩) = false := bytes_ne (l := [60]) h1
    have e4 : ¬ X.toList = [62] := by rw [ByteArray.toList_eq]; exact h2
    have e5 : (X.toList == [62]) = false := by rw [beq_eq_false_iff_ne]; exact e4
    have e6 : (X == ⟨#[62]⟩) = false := bytes_ne (l := [62]) h2
    rw [hl]
    go_upto_region 12 with fail
    go_quiet (fail)
    go_wp2_with fail
    go_ret
    exact ⟨rfl, HMw.out.drewN _⟩
end Go.Proofs.YtcjijjdoglpjbaaDoor
