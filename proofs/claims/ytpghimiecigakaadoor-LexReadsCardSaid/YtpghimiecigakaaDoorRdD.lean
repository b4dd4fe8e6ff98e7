/-
  The document's chapter 11: mark, walked. No condition.
-/
import Derived.Test.YtpghimiecigakaaDoorRdC
import Derived.StillTailTactics
namespace Go.Proofs.YtpghimiecigakaaDoor
open Go.RowKit
set_option linter.unusedVariables false

def markF (l : List UInt8) : Option (TokC × Nat) := (marksAll.find? (·.isPrefixOf l)).map fun m => (⟨5, m, 0, 0⟩, m.length)
theorem mark_one1 : ((List.range 256).all fun n => markL [UInt8.ofNat n] == markF [UInt8.ofNat n]) = true := by kernel_rfl
theorem markF_cons (c d : UInt8) (r : List UInt8) : markF (c :: d :: r) = markF [c, d] := by
  unfold markF
  congr 1
theorem markL_cons2 (c d : UInt8) (r : List UInt8) : markL (c :: d :: r) = markL [c, d] := rfl
theorem markL_F (l : List UInt8) : markL l = markF l := by
  match l with
  | [] => rfl
  | [c] =>
    have h := List.all_eq_true.1 mark_one1 c.toNat (List.mem_range.2 c.toNat_lt)
    rw [UInt8.ofNat_toNat] at h
    exact eq_of_beq h
  | c :: d :: r =>
    rw [markF_cons, markL_cons2]
    by_cases h60 : c = 60
    · subst h60
      by_cases h1 : d = 62
      · subst h1; rfl
      · by_cases h2 : d = 61
        · subst h2; rfl
        · have g1 : (62 == d) = false := by rw [beq_eq_false_iff_ne]; exact Ne.symm h1
          have g2 : (61 == d) = false := by rw [beq_eq_false_iff_ne]; exact Ne.symm h2
          simp [markL, markF, marks2, marks1, marksAll, List.find?, List.isPrefixOf, h1, h2, g1, g2]
    · by_cases h62 : c = 62
      · subst h62
        by_cases h2 : d = 61
        · subst h2; rfl
        · have g2 : (61 == d) = false := by rw [beq_eq_false_iff_ne]; exact Ne.symm h2
          simp [markL, markF, marks2, marks1, marksAll, List.find?, List.isPrefixOf, h2, g2]
      · have e1 : markL [c, d] = markL [c] := by
          simp [markL, marks2, h60, h62]
        have e2 : markF [c, d] = markF [c] := by
          have g1 : (60 == c) = false := by rw [beq_eq_false_iff_ne]; exact Ne.symm h60
          have g2 : (62 == c) = false := by rw [beq_eq_false_iff_ne]; exact Ne.symm h62
          simp [markF, marksAll, List.find?, List.isPrefixOf, g1, g2]
        rw [e1, e2]
        have h := List.all_eq_true.1 mark_one1 c.toNat (List.mem_range.2 c.toNat_lt)
        rw [UInt8.ofNat_toNat] at h
        exact eq_of_beq h
theorem mark_hit {l m : List UInt8} {k : Nat} (hk : marksAll[k]? = some m) (hp : m.isPrefixOf l = true) (hno : ∀ j m', j < k → marksAll[j]? = some m' → m'.isPrefixOf l = false) : markL l = some (⟨5, m, 0, 0⟩, m.length) := by
  rw [markL_F]
  unfold markF
  obtain ⟨h1, h2⟩ := List.getElem?_eq_some_iff.1 hk
  have : marksAll.find? (·.isPrefixOf l) = some m := by
    rw [List.find?_eq_some_iff_getElem]
    refine ⟨hp, k, h1, h2, fun j hj => ?_⟩
    rw [hno j _ hj (List.getElem?_eq_getElem _)]; rfl
  rw [this]; rfl
theorem mark_miss {l : List UInt8} (hno : ∀ j m', j < 14 → marksAll[j]? = some m' → m'.isPrefixOf l = false) : markL l = none := by
  rw [markL_F]
  unfold markF
  have : marksAll.find? (·.isPrefixOf l) = none := by
    rw [List.find?_eq_none]
    intro m hm
    obtain ⟨j, hj, he⟩ := List.mem_iff_getElem.1 hm
    rw [hno j m hj (by rw [List.getElem?_eq_getElem hj, he])]; decide
  rw [this]; rfl
theorem prefix_take {m l : List UInt8} : m.isPrefixOf l = true ↔ l.take m.length = m := by
  rw [List.isPrefixOf_iff_prefix, List.prefix_iff_eq_take]
  exact ⟨fun h => h.symm, fun h => h.symm⟩
theorem mark_len {m : List UInt8} (h : m ∈ marksAll) : 0 < m.length ∧ m.length ≤ 2 := by
  have h2 : (marksAll.all fun m => decide (0 < m.length) && decide (m.length ≤ 2)) = true := by decide
  simpa using List.all_eq_true.1 h2 m h

set_option maxRecDepth 100000 in
set_option maxHeartbeats 1000000 in
theorem mark_ref (w : World) (s : ByteArray) (hs : s.size ≤ 4096) (at_ : Nat) (hat : at_ < s.size) :
    Calls Tryd.prog 13 #[.string s, .int .i64 at_] w (TokPost w (markL (s.data.toList.drop at_)) at_) := by
  obtain ⟨l, hl⟩ : ∃ l, s.data.toList.drop at_ = l := ⟨_, rfl⟩
  have hll : l.length = s.size - at_ := by rw [← hl, List.length_drop]; rfl
  have HL := Lib.hid hl
  rw [hl]
  have hrb := heap_alloc_new w (.cells (tokCells 0 0 ⟨#[]⟩ 0 0) 33)
  have hM0 := (Mods.refl [] w).alloc (.cells (tokCells 0 0 ⟨#[]⟩ 0 0) 33)
  clear hl
  go_enter Tryd.func13, Tryd.ntmps13
  go_upto_region 1 with fail
  generalize w.alloc (.cells (tokCells 0 0 ⟨#[]⟩ 0 0) 33) = w0 at *
  generalize hrbn : w.heap.size = rb at *
  have HRB := Lib.hid hrbn
  clear hrbn
  have hMa := (Mods.refl [] w0).alloc (.cells markCells 9)
  have hM1 := hM0.alloc (.cells markCells 9)
  have hg := heap_alloc_new w0 (.cells markCells 9)
  have hr1 := hMa.heap hrb (by simp)
  have HNE : Hid (¬ rb = w0.heap.size) := Lib.hid (by have : rb < w0.heap.size := lt_of_cell (p := ⟨rb, 0, none⟩) (cell_of_heap hrb 0); omega)
  go_upto_region 2 with fail
  change Code.wp _ _ _ _ (w0.alloc (.cells markCells 9))
  generalize w0.alloc (.cells markCells 9) = w1 at *
  generalize w0.heap.size = gb at *
  have HG := Lib.hid hg
  have HR1 := Lib.hid hr1
  have HM1 := Lib.hid hM1
  clear hg hr1 hrb hM0 hMa hM1
  go_wp2_with fail
  have hinfo := tok_info_ref
  go_loopw [7] (fun t7 wx => ∃ k : Nat, k ≤ 14 ∧ t7 = .int .i64 k ∧ Mods [] w1 wx ∧ Hid (∀ j m', j < k → marksAll[j]? = some m' → m'.isPrefixOf l = false)) (fun t7 _ => 14 - (intOf t7).toNat)
  case atStart => exact ⟨0, by omega, rfl, Mods.refl [] _, Lib.hid (fun j m' hj => by omega)⟩
  case round =>
    obtain ⟨k, hk, rfl, hM, HP⟩ := hrel
    by_cases hlt : k < 14
    · obtain ⟨m, hm⟩ : ∃ m, marksAll[k]? = some m := ⟨_, List.getElem?_eq_getElem hlt⟩
      have hml := mark_len (List.mem_of_getElem? hm)
      have more : m.isPrefixOf l = false → Hid (∀ j m', j < k + 1 → marksAll[j]? = some m' → m'.isPrefixOf l = false) := fun h => Lib.hid fun j m' hj hj2 => by
        by_cases hjk : j = k
        · subst hjk; rw [hm] at hj2; cases hj2; exact h
        · exact HP.out j m' (by omega) hj2
      have hit := fun h => mark_hit hm h HP.out
      have hc0 : w1.cell? ⟨gb, k, none⟩ = some (.string ⟨m.toArray⟩) := by
        rw [cell_of_heap HG.out]
        show ((marksAll.map fun l => Value.string ⟨l.toArray⟩).toArray)[k]? = _
        rw [List.getElem?_toArray, List.getElem?_map, hm]; rfl
      obtain ⟨X, hX⟩ : ∃ X : ByteArray, X = ⟨m.toArray⟩ := ⟨_, rfl⟩
      have hXl : X.data.toList = m := by rw [hX]
      rw [← hX] at hc0
      clear hX hm
      subst hXl
      have hc := hM.cell hc0 (by simp)
      rw [← size_list] at hml
      have hel : (s.extract at_ (at_ + X.size)).data.toList = l.take X.size := by rw [ext_list, HL.out]
      have e1 : IntKind.i64.wrap ((at_ : Int) + (X.size : Int)) = (at_ : Int) + (X.size : Int) := IntWalk.i64_in _ (by omega)
      clear hc0
      by_cases hle : at_ + X.size ≤ s.size
      · have hd : decide ((at_ : Int) + (X.size : Int) ≤ (s.size : Int)) = true := decide_eq_true (by omega)
        have hdz : (at_ : Int) + (X.size : Int) ≤ (s.size : Int) := by omega
        by_cases heq : l.take X.size = X.data.toList
        · have hpre := hit (prefix_take.2 heq)
          have hEX : s.extract at_ (at_ + X.size) = X := bytes_eq (by rw [hel, heq])
          have HE := Lib.hid hpre
          clear hpre hit more hel heq HP
          go_upto_region 5 with fail
          go_quiet (fail)
          have hMy := hM.drewN nq
          have hcy : (wr.drewN nq).cell? ⟨gb, k, none⟩ = some (.string X) := hc
          generalize wr.drewN nq = wy at *
          have hr := hMy.heap HR1.out (by simp)
          have hMw := HM1.out.trans hMy (by simp)
          clear hM hc hd hMy
          go_upto_region 6 with fail
          have hMd := hMw.drew
          have r0 : wy.cell? ⟨rb, 0, none⟩ = some (.int .i64 0) := cell_of_heap hr 0
          have r1 : wy.cell? ⟨rb, 1, none⟩ = some (.int .i64 0) := cell_of_heap hr 1
          have r2 : wy.cell? ⟨rb, 2, none⟩ = some (.string ⟨#[]⟩) := cell_of_heap hr 2
          have r3 : wy.cell? ⟨rb, 3, none⟩ = some (.int .i64 0) := cell_of_heap hr 3
          have r4 : wy.cell? ⟨rb, 4, none⟩ = some (.int .i64 0) := cell_of_heap hr 4
          have f0 : wy.frozen? ⟨rb, 0, none⟩ = false := frozen_of_heap hr 0
          have f1 : wy.frozen? ⟨rb, 1, none⟩ = false := frozen_of_heap hr 1
          have f2 : wy.frozen? ⟨rb, 2, none⟩ = false := frozen_of_heap hr 2
          have f3 : wy.frozen? ⟨rb, 3, none⟩ = false := frozen_of_heap hr 3
          have f4 : wy.frozen? ⟨rb, 4, none⟩ = false := frozen_of_heap hr 4
          have hne := HNE.out
          have hne2 : ¬ gb = rb := fun h => hne h.symm
          have hrb2 : w.heap.size ≤ (⟨rb, 0, none⟩ : Addr).block := by rw [HRB.out]; exact Nat.le_refl _
          have hq5 := heap_setCell_same (heap_setCell_same (heap_setCell_same (heap_setCell_same (heap_setCell_same hr 0 (.int .i64 5)) 1 (.int .i64 at_)) 2 (.string X)) 3 (.int .i64 0)) 4 (.int .i64 0)
          have hM5 := ((((((hMw.setCell (p := ⟨rb, 0, none⟩) (.inr hrb2) (.int .i64 5)).setCell (p := ⟨rb, 1, none⟩) (.inr hrb2) (.int .i64 at_)).setCell (p := ⟨rb, 2, none⟩) (.inr hrb2) (.string X)).setCell (p := ⟨rb, 3, none⟩) (.inr hrb2) (.int .i64 0)).setCell (p := ⟨rb, 4, none⟩) (.inr hrb2) (.int .i64 0))).drew
          have HQ := Lib.hid (And.intro hq5 hM5)
          clear hq5 hM5 hrb2
          go_region
          have hr6 : (((((wy.setCell ⟨rb, 0, none⟩ (.int .i64 5)).setCell ⟨rb, 1, none⟩ (.int .i64 at_)).setCell ⟨rb, 2, none⟩ (.string X)).setCell ⟨rb, 3, none⟩ (.int .i64 0)).setCell ⟨rb, 4, none⟩ (.int .i64 0)).drew.heap[rb]? = some (.cells (tokCells 5 at_ X 0 0) 33 (0, 0)) := HQ.out.1
          have hM6 := HQ.out.2
          generalize (((((wy.setCell ⟨rb, 0, none⟩ (.int .i64 5)).setCell ⟨rb, 1, none⟩ (.int .i64 at_)).setCell ⟨rb, 2, none⟩ (.string X)).setCell ⟨rb, 3, none⟩ (.int .i64 0)).setCell ⟨rb, 4, none⟩ (.int .i64 0)).drew = wz at *
          clear HQ r0 r1 r2 r3 r4 f0 f1 f2 f3 f4
          go_wp2_with fail
          refine bodyPost_ret (results_cell_two rfl _ _ rb 33 (tokCells 5 at_ X 0 0) (0, 0) _ rfl hr6 Tryd.underlying33 rfl hinfo _ rfl) rfl ?_
          rw [HE.out]
          exact ⟨rfl, hM6⟩
        · have hno := more (by cases hb : X.data.toList.isPrefixOf l with | false => rfl | true => exact absurd (prefix_take.1 hb) heq)
          have e2 : ¬ (s.extract at_ (at_ + X.size)).data.toList = X.data.toList := by rw [hel]; exact heq
          have e3 : ¬ (s.extract at_ (at_ + X.size)).toList = X.toList := by rw [ByteArray.toList_eq, ByteArray.toList_eq]; exact e2
          have e4 : ((s.extract at_ (at_ + X.size)).toList == X.toList) = false := by rw [beq_eq_false_iff_ne]; exact e3
          clear hit more hel heq HP e2
          go_upto_region 5 with fail
          go_quiet (fail)
          have hMy := hM.drewN nq
          generalize wr.drewN nq = wy at *
          clear hM hc hd
          go_wp2_with fail
          go_round
          case measure => simp [intOf]; omega
          case rel => exact ⟨k + 1, by omega, by go_num, hMy, hno⟩
      · have hno := more (by
          cases hb : X.data.toList.isPrefixOf l with
          | false => rfl
          | true =>
            have := congrArg List.length (prefix_take.1 hb)
            rw [List.length_take, ← size_list] at this
            omega)
        have hd : decide ((at_ : Int) + (X.size : Int) ≤ (s.size : Int)) = false := decide_eq_false (by omega)
        have hdz : ¬ (at_ : Int) + (X.size : Int) ≤ (s.size : Int) := by omega
        clear hit more hel HP
        go_upto_region 5 with fail
        go_quiet (fail)
        have hMy := hM.drewN nq
        generalize wr.drewN nq = wy at *
        clear hM hc hd
        go_wp2_with fail
        go_round
        case measure => simp [intOf]; omega
        case rel => exact ⟨k + 1, by omega, by go_num, hMy, hno⟩
    · obtain rfl : k = 14 := by omega
      have hE := Lib.hid (mark_miss HP.out)
      have hr := hM.heap HR1.out (by simp)
      have hMw := HM1.out.trans hM (by simp)
      go_wp2_with (refine wpList_store_row rfl 33 (.tmp 4) (.tmp 53) rfl rb (tokCells 0 0 ⟨#[]⟩ 0 0) rfl rfl 33 _ hr hinfo rfl (tok_one _ _ _ _ _) ?_)
      refine bodyPost_ret (results_cell_two rfl _ _ rb 33 (tokCells 0 0 ⟨#[]⟩ 0 0) (0, 0) _ rfl (row_set_same _ hr) Tryd.underlying33 rfl hinfo _ rfl) rfl ?_
      rw [hE.out]
      exact ⟨rfl, hMw.setRow (.inr (by rw [HRB.out]; exact Nat.le_refl _)) _⟩
end Go.Proofs.YtpghimiecigakaaDoor
