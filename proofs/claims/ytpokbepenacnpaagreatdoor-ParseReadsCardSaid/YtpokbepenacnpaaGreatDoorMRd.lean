/-
  The document's chapter 11: mark, walked. No condition.
-/
import Derived.Test.YtpokbepenacnpaaGreatDoorMRa
import Derived.StillTailTactics
namespace Go.Proofs.YtpokbepenacnpaaGreatDoor
open Go.RowKit
set_option linter.unusedVariables false

def markF (l : List UInt8) : Option (TokC × Nat) := (marksAll.find? (·.isPrefixOf l)).map fun m => (⟨5, m, 0, 0⟩, m.length)
theorem mark_one1 : ((List.range 256).all fun n => markL [UInt8.ofNat n] == markF [UInt8.ofNat n]) = true := by kernel_rfl
theorem markF_cons (c d : UInt8) (r : List UInt8) : markF (c :: d :: r) = markF [c, d] := by
  unfold markF
  congr 1
theorem markL_cons2 (c d : UInt8) (r : List UInt8) : markL (c :: d :: r) = markL [c, d] := rfl
theorem markL_F (l : List UInt8) : markL l = markF l := by
  match l with
  | [] => rfl
  | [c] =>
    have h := List.all_eq_true.1 mark_one1 c.toNat (List.mem_range.2 c.toNat_lt)
    rw [UInt8.ofNat_toNat] at h
    exact eq_of_beq h
  | c :: d :: r =>
    rw [markF_cons, markL_cons2]
    by_cases h60 : c = 60
    · subst h60
      by_cases h1 : d = 62
      · subst h1; rfl
      · by_cases h2 : d = 61
        · subst h2; rfl
        · have g1 : (62 == d) = false := by rw [beq_eq_false_iff_ne]; exact Ne.symm h1
          have g2 : (61 == d) = false := by rw [beq_eq_false_iff_ne]; exact Ne.symm h2
          simp [markL, markF, marks2, marks1, marksAll, List.find?, List.isPrefixOf, h1, h2, g1, g2]
    · by_cases h62 : c = 62
      · subst h62
        by_cases h2 : d = 61
        · subst h2; rfl
        · have g2 : (61 == d) = false := by rw [beq_eq_false_iff_ne]; exact Ne.symm h2
          simp [markL, markF, marks2, marks1, marksAll, List.find?, List.isPrefixOf, h2, g2]
      · have e1 : markL [c, d] = markL [c] := by
          simp [markL, marks2, h60, h62]
        have e2 : markF [c, d] = markF [c] := by
          have g1 : (60 == c) = false := by rw [beq_eq_false_iff_ne]; exact Ne.symm h60
          have g2 : (62 == c) = false := by rw [beq_eq_false_iff_ne]; exact Ne.symm h62
          simp [markF, marksAll, List.find?, List.isPrefixOf, g1, g2]
        rw [e1, e2]
        have h := List.all_eq_true.1 mark_one1 c.toNat (List.mem_range.2 c.toNat_lt)
        rw [UInt8.ofNat_toNat] at h
        exact eq_of_beq h
theorem mark_hit {l m : List UInt8} {k : Nat} (hk : marksAll[k]? = some m) (hp : m.isPrefixOf l = true) (hno : ∀ j m', j < k → marksAll[j]? = some m' → m'.isPrefixOf l = false) : markL l = some (⟨5, m, 0, 0⟩, m.length) := by
  rw [markL_F]
  unfold markF
  obtain ⟨h1, h2⟩ := List.getElem?_eq_some_iff.1 hk
  have : marksAll.find? (·.isPrefixOf l) = some m := by
    rw [List.find?_eq_some_iff_getElem]
    refine ⟨hp, k, h1, h2, fun j hj => ?_⟩
    rw [hno j _ hj (List.getElem?_eq_getElem _)]; rfl
  rw [this]; rfl
theorem mark_miss {l : List UInt8} (hno : ∀ j m', j < 14 → marksAll[j]? = some m' → m'.isPrefixOf l = false) : markL l = none := by
  rw [markL_F]
  unfold markF
  have : marksAll.find? (·.isPrefixOf l) = none := by
    rw [List.find?_eq_none]
    intro m hm
    obtain ⟨j, hj, he⟩ := List.mem_iff_getElem.1 hm
    rw [hno j m hj (by rw [List.getElem?_eq_getElem hj, he])]; decide
  rw [this]; rfl
theorem prefix_take {m l : List UInt8} : m.isPrefixOf l = true ↔ l.take m.length = m := by
  rw [List.isPrefixOf_iff_prefix, List.prefix_iff_eq_take]
  exact ⟨fun h => h.symm, fun h => h.symm⟩
theorem mark_len {m : List UInt8} (h : m ∈ marksAll) : 0 < m.length ∧ m.length ≤ 2 := by
  have h2 : (marksAll.all fun m => decide (0 < m.length) && decide (m.length ≤ 2)) = true := by decide
  simpa using List.all_eq_true.1 h2 m h

set_option maxRecDepth 100000 in
set_option maxHeartbeats 1000000 in
theorem mark_ref (w : World) (s : ByteArray) (hs : s.size ≤ 4096) (at_ : Nat) (hat : at_ < s.size) :
    Calls Tryz.prog 71 #[.string s, .int .i64 at_] w (TokPost w (markL (s.data.toList.drop at_)) at_) := by
  obtain ⟨l, hl⟩ : ∃ l, s.data.toList.drop at_ = l := ⟨_, rfl⟩
  have hll : l.length = s.size - at_ := by rw [← hl, List.length_drop]; rfl
  have HL := Lib.hid hl
  rw [hl]
  have hrb := heap_alloc_new w (.cells (tokCells 0 0 ⟨#[]⟩ 0 0) 165)
  have hM0 := (Mods.refl [] w).alloc (.cells (tokCells 0 0 ⟨#[]⟩ 0 0) 165)
  clear hl
  go_enter Tryz.func71, Tryz.ntmps71
  go_upto_region 1 with fail
  generalize w.alloc (.cells (tokCells 0 0 ⟨#[]⟩ 0 0) 165) = w0 at *
  generalize hrbn : w.heap.size = rb at *
  have HRB := Lib.hid hrbn
  clear hrbn
  have hMa := (Mods.refl [] w0).alloc (.cells markCells 9)
  have hM1 := hM0.alloc (.cells markCells 9)
  have hg := heap_alloc_new w0 (.cells markCells 9)
  have hr1 := hMa.heap hrb (by simp)
  have HNE : Hid (¬ rb = w0.heap.size) := Lib.hid (by have : rb < w0.heap.size := lt_of_cell (p := ⟨rb, 0, none⟩) (cell_of_heap hrb 0); omega)
  go_upto_region 2 with fail
  change Code.wp _ _ _ _ (w0.alloc (.cells markCells 9))
  generalize w0.alloc (.cells markCells 9) = w1 at *
  generalize w0.heap.size = gb at *
  have HG := Lib.hid hg
  have HR1 := Lib.hid hr1
  have HM1 := Lib.hid hM1
  clear hg hr1 hrb hM0 hMa hM1
  go_wp2_with fail
  have hinfo := tok_info_ref
  go_loopw [7] (fun t7 wx => ∃ k : Nat, k ≤ 14 ∧ t7 = .int .i64 k ∧ Mods [] w1 wx ∧ Hid (∀ j m', j < k → marksAll[j]? = some m' → m'.isPrefixOf l = false)) (fun t7 _ => 14 - (intOf t7).toNat)
  case atStart => exact ⟨0, by omega, rfl, Mods.refl [] _, Lib.hid (fun j m' hj => by omega)⟩
  case round =>
    obtain ⟨k, hk, rfl, hM, HP⟩ := hrel
    by_cases hlt : k < 14
    · obtain ⟨m, hm⟩ : ∃ m, marksAll[k]? = some m := ⟨_, List.getElem?_eq_getElem hlt⟩
      have hml := mark_len (List.mem_of_getElem? hm)
      have more : m.isPrefixOf l = false → Hid (∀ j m', j < k + 1 → marksAll[j]? = some m' → m'.isPrefixOf l = false) := fun h => Lib.hid fun j m' hj hj2 => by
        by_cases hjk : j = k
        · subst hjk; rw [hm] at hj2; cases hj2; exact h
        · exact HP.out j m' (by omega) hj2
      have hit := fun h => mark_hit hm h HP.out
      have hc0 : w1.cell? ⟨gb, k, none⟩ = some (.string ⟨m.toArray⟩) := by
        rw [cell_of_heap HG.out]
        show ((marksAll.map fun l => Value.string ⟨l.toArray⟩).toArray)[k]? = _
        rw [List.getElem?_toArray, List.getElem?_map, hm]; rfl
      obtain ⟨X, hX⟩ : ∃ X : ByteArray, X = ⟨m.toArray⟩ := ⟨_, rfl⟩
      have hXl : X.data.toList = m := by rw [hX]
      rw [← hX] at hc0
      clear hX hm
      subst hXl
      have hc := hM.cell hc0 (by simp)
      rw [← size_list] at hml
      have hel : (s.extract at_ (at_ + X.size)).data.toList = l.take X.size := by rw [ext_list, HL.out]
      have e1 : IntKind.i64.wrap ((at_ : Int) + (X.size : Int)) = (at_ : Int) + (X.size : Int) := IntWalk.i64_in _ (by omega)
      clear hc0
      by_cases hle : at_ + X.size ≤ s.size
      · have hd : decide ((at_ : Int) + (X.size : Int) ≤ (s.size : Int)) = true := decide_eq_true (by omega)
        have hdz : (at_ : Int) + (X.size : Int) ≤ (s.size : Int) := by omega
        by_cases heq : l.take X.size = X.data.toList
        · have hpre := hit (prefix_take.2 heq)
          have hEX : s.extract at_ (at_ + X.size) = X := bytes_eq (by rw [hel, heq])
          have HE := Lib.hid hpre
          clear hpre hit more hel heq HP
          go_upto_region 5 with fail
          go_quiet (fail)
          have hMy := hM.drewN nq
          have hcy : (wr.drewN nq).cell? ⟨gb, k, none⟩ = some (.string X) := hc
          generalize wr.drewN nq = wy at *
          have hr := hMy.heap HR1.out (by simp)
          have hMw := HM1.out.trans hMy (by simp)
          clear hM hc hd hMy
          go_upto_region 6 with fail
          have hMd := hMw.drew
          have r0 : wy.cell? ⟨rb, 0, none⟩ = some (.int .i64 0) := cell_of_heap hr 0
          have r1 : wy.cell? ⟨rb, 1, none⟩ = some (.int .i64 0) := cell_of_heap hr 1
          have r2 : wy.cell? ⟨rb, 2, none⟩ = some (.string ⟨#[]⟩) := cell_of_heap hr 2
          have r3 : wy.cell? ⟨rb, 3, none⟩ = some (.int .i64 0) := cell_of_heap hr 3
          have r4 : wy.cell? ⟨rb, 4, none⟩ = some (.int .i64 0) := cell_of_heap hr 4
          have f0 : wy.frozen? ⟨rb, 0, none⟩ = false := frozen_of_heap hr 0
          have f1 : wy.frozen? ⟨rb, 1, none⟩ = false := frozen_of_heap hr 1
          have f2 : wy.frozen? ⟨rb, 2, none⟩ = false := frozen_of_heap hr 2
          have f3 : wy.frozen? ⟨rb, 3, none⟩ = false := frozen_of_heap hr 3
          have f4 : wy.frozen? ⟨rb, 4, none⟩ = false := frozen_of_heap hr 4
          have hne := HNE.out
          have hne2 : ¬ gb = rb := fun h => hne h.symm
          have hrb2 : w.heap.size ≤ (⟨rb, 0, none⟩ : Addr).block := by rw [HRB.out]; exact Nat.le_refl _
          have hq5 := heap_setCell_same (heap_setCell_same (heap_setCell_same (heap_setCell_same (heap_setCell_same hr 0 (.int .i64 5)) 1 (.int .i64 at_)) 2 (.string X)) 3 (.int .i64 0)) 4 (.int .i64 0)
          have hM5 := ((((((hMw.setCell (p := ⟨rb, 0, none⟩) (.inr hrb2) (.int .i64 5)).setCell (p := ⟨rb, 1, none⟩) (.inr hrb2) (.int .i64 at_)).setCell (p := ⟨rb, 2, none⟩) (.inr hrb2) (.string X)).setCell (p := ⟨rb, 3, none⟩) (.inr hrb2) (.int .i64 0)).setCell (p := ⟨rb, 4, none⟩) (.inr hrb2) (.int .i64 0))).drew
          have HQ := Lib.hid (And.intro hq5 hM5)
          clear hq5 hM5 hrb2
          go_region
          have hr6 : (((((wy.setCell ⟨rb, 0, none⟩ (.int .i64 5)).setCell ⟨rb, 1, none⟩ (.int .i64 at_)).setCell ⟨rb, 2, none⟩ (.string X)).setCell ⟨rb, 3, none⟩ (.int .i64 0)).setCell ⟨rb, 4, none⟩ (.int .i64 0)).drew.heap[rb]? = some (.cells (tokCells 5 at_ X 0 0) 165 (0, 0)) := HQ.out.1
          have hM6 := HQ.out.2
          generalize (((((wy.setCell ⟨rb, 0, none⟩ (.int .i64 5)).setCell ⟨rb, 1, none⟩ (.int .i64 at_)).setCell ⟨rb, 2, none⟩ (.string X)).setCell ⟨rb, 3, none⟩ (.int .i64 0)).setCell ⟨rb, 4, none⟩ (.int .i64 0)).drew = wz at *
          clear HQ r0 r1 r2 r3 r4 f0 f1 f2 f3 f4
          go_wp2_with fail
          refine bodyPost_ret (results_cell_two rfl _ _ rb 165 (tokCells 5 at_ X 0 0) (0, 0) _ rfl hr6 Tryz.underlying165 rfl hinfo _ rfl) rfl ?_
          rw [HE.out]
          exact ⟨rfl, hM6⟩
        · have hno := more (by cases hb : X.data.toList.isPrefixOf l with | false => rfl | true => exact absurd (prefix_take.1 hb) heq)
          have e2 : ¬ (s.extract at_ (at_ + X.size)).data.toList = X.data.toList := by rw [hel]; exact heq
          have e3 : ¬ (s.extract at_ (at_ + X.size)).toList = X.toList := by rw [ByteArray.toList_eq, ByteArray.toList_eq]; exact e2
          have e4 : ((s.extract at_ (at_ + X.size)).toList == X.toList) = false := by rw [beq_eq_false_iff_ne]; exact e3
          clear hit more hel heq HP e2
          go_upto_region 5 with fail
          go_quiet (fail)
          have hMy := hM.drewN nq
          generalize wr.drewN nq = wy at *
          clear hM hc hd
          go_wp2_with fail
          go_round
          case measure => simp [intOf]; omega
          case rel => exact ⟨k + 1, by omega, by go_num, hMy, hno⟩
      · have hno := more (by
          cases hb : X.data.toList.isPrefixOf l with
          | false => rfl
          | true =>
            have := congrArg List.length (prefix_take.1 hb)
            rw [List.length_take, ← size_list] at this
            omega)
        have hd : decide ((at_ : Int) + (X.size : Int) ≤ (s.size : Int)) = false := decide_eq_false (by omega)
        have hdz : ¬ (at_ : Int) + (X.size : Int) ≤ (s.size : Int) := by omega
        clear hit more hel HP
        go_upto_region 5 with fail
        go_quiet (fail)
        have hMy := hM.drewN nq
        generalize wr.drewN nq = wy at *
        clear hM hc hd
        go_wp2_with fail
        go_round
        case measure => simp [intOf]; omega
        case rel => exact ⟨k + 1, by omega, by go_num, hMy, hno⟩
    · obtain rfl : k = 14 := by omega
      have hE := Lib.hid (mark_miss HP.out)
      have hr := hM.heap HR1.out (by simp)
      have hMw := HM1.out.trans hM (by simp)
      go_wp2_with (refine wpList_store_row rfl 165 (.tmp 4) (.tmp 53) rfl rb (tokCells 0 0 ⟨#[]⟩ 0 0) rfl rfl 165 _ hr hinfo rfl (tok_one _ _ _ _ _) ?_)
      refine bodyPost_ret (results_cell_two rfl _ _ rb 165 (tokCells 0 0 ⟨#[]⟩ 0 0) (0, 0) _ rfl (row_set_same _ hr) Tryz.underlying165 rfl hinfo _ rfl) rfl ?_
      rw [hE.out]
      exact ⟨rfl, hMw.setRow (.inr (by rw [HRB.out]; exact Nat.le_refl _)) _⟩
end Go.Proofs.YtpokbepenacnpaaGreatDoor

namespace Go.Proofs.YtpokbepenacnpaaGreatDoor
open Go.RowKit
set_option linter.unusedVariables false

theorem numVal_app (a b : List UInt8) : numVal (a ++ b) = numVal a * 10 ^ b.length + numVal b := by
  have h := numVal_fold b (numVal a)
  rw [← h]
  unfold numVal
  rw [List.foldl_append]
theorem numVal_take_le (D : List UInt8) (i : Nat) : numVal (D.take i) ≤ numVal D := by
  have h := numVal_app (D.take i) (D.drop i)
  rw [List.take_append_drop] at h
  rw [h]
  exact Nat.le_trans (Nat.le_mul_of_pos_right _ (Nat.pow_pos (by omega))) (Nat.le_add_right _ _)

set_option maxRecDepth 100000 in
set_option maxHeartbeats 2000000 in
theorem number_ref (w : World) (s : ByteArray) (hs : s.size ≤ 4096) (at_ : Nat) (hat : at_ ≤ s.size) :
    Calls Tryz.prog 75 #[.string s, .int .i64 at_] w (TokPost w (numberL (s.data.toList.drop at_)) at_) := by
  obtain ⟨n, hn⟩ : ∃ n, runL isDig s at_ = n := ⟨_, rfl⟩
  have hn1 := runL_le isDig s at_ hat
  rw [hn] at hn1
  obtain ⟨l, hl⟩ : ∃ l, s.data.toList.drop at_ = l := ⟨_, rfl⟩
  have hnl : (l.takeWhile isDig).length = n := by rw [← hl]; exact hn
  have hDl : (s.extract at_ (at_ + n)).data.toList = l.takeWhile isDig := by rw [ext_list, hl, ← hnl]; exact take_tw _ _
  have hRl : s.data.toList.drop (at_ + n) = l.dropWhile isDig := by rw [dropWhile_eq_drop, hnl, ← hl, List.drop_drop]
  have hdg := fun W => (digits_ref W s hs at_ hat).mono (fun e w' h => (⟨h.1, h.2.symm⟩ : _ ∧ W = w'))
  rw [hn] at hdg
  rw [hl]
  have HL := Lib.hid hl
  have HNL := Lib.hid hnl
  have HDL := Lib.hid hDl
  have HRL := Lib.hid hRl
  clear hnl hDl hRl hl hn
  have hrb := heap_alloc_new w (.cells (tokCells 0 0 ⟨#[]⟩ 0 0) 165)
  have hM0 := (Mods.refl [] w).alloc (.cells (tokCells 0 0 ⟨#[]⟩ 0 0) 165)
  go_enter Tryz.func75, Tryz.ntmps75
  go_wp2_with fail
  generalize w.alloc (.cells (tokCells 0 0 ⟨#[]⟩ 0 0) 165) = w0 at *
  generalize hrbn : w.heap.size = rb at *
  have HRB := Lib.hid hrbn
  have HR0 := Lib.hid hrb
  clear hrbn hrb
  (with_reducible refine (hdg _).mono ?_)
  rintro e w2 ⟨rfl, rfl⟩
  clear hdg
  have hki : (at_ : Int) + (n : Int) ≤ (s.size : Int) := by omega
  obtain ⟨PF, hPF⟩ : ∃ PF, decide ((l.dropWhile isDig).head? = some 46) = PF := ⟨_, rfl⟩
  have HPF := Lib.hid hPF
  clear hPF
  go_upto_region 5 with fail
  go_cut [36] from 23 to 36 (fun s36 wx => s36 = .bool PF ∧ w0 = wx)
  case first =>
    have hP := HPF.out
    rw [← HRL.out, List.head?_drop] at hP
    by_cases hlt : at_ + n < s.size
    · have hd : (at_ : Int) + (n : Int) < (s.size : Int) := by omega
      have hx := s_at s (at_ + n) hlt
      obtain ⟨x, hx'⟩ : ∃ x, s[at_ + n] = x := ⟨_, rfl⟩
      rw [hx'] at hx
      rw [hx] at hP
      by_cases h46 : x = 46
      · have hz : ((x.toNat : Int) == 46) = true := by rw [h46]; rfl
        rw [h46, decide_eq_true rfl] at hP
        subst hP
        clear hx h46
        go_wp2_with fail
        go_meet
        exact ⟨rfl, rfl⟩
      · have hz : ((x.toNat : Int) == 46) = false := by rw [beq_eq_false_iff_ne]; exact fun h => h46 (UInt8.toNat_inj.1 (by show x.toNat = 46; omega))
        rw [decide_eq_false (fun h => h46 (Option.some.inj h))] at hP
        subst hP
        clear hx h46
        go_wp2_with fail
        go_meet
        exact ⟨rfl, rfl⟩
    · have hd : ¬ (at_ : Int) + (n : Int) < (s.size : Int) := by omega
      rw [List.getElem?_eq_none (by show s.size ≤ _; omega), decide_eq_false (by simp)] at hP
      subst hP
      go_wp2_with fail
      go_meet
      exact ⟨rfl, rfl⟩
  case rest =>
    obtain ⟨rfl, rfl⟩ := hcut
    go_upto_if 36 with fail
    go_cut [7, 8, 9] (fun s7 s8 s9 wx => ∃ (D : ByteArray) (k sc : Nat), s7 = .string D ∧ s8 = .int .i64 k ∧ s9 = .int .i64 sc ∧ w0 = wx ∧ NumRel l D k sc)
    case first =>
      cases PF with
      | false =>
        have hf : fracL (l.dropWhile isDig) = [] := by unfold fracL; rw [if_neg (of_decide_eq_false HPF.out)]
        have fin : NumRel l (s.extract at_ (at_ + n)) n 0 := ⟨by rw [HDL.out]; unfold numDigits; rw [hf, List.append_nil], by unfold numLen; rw [if_pos hf]; exact HNL.out.symm, by rw [hf]; rfl⟩
        go_wp2_with fail
        go_meet
        exact ⟨s.extract at_ (at_ + n), n, 0, rfl, rfl, rfl, rfl, fin⟩
      | true =>
        have hh := of_decide_eq_true HPF.out
        obtain ⟨r, hr⟩ : ∃ r, l.dropWhile isDig = 46 :: r := by
          cases hd : l.dropWhile isDig with
          | nil => rw [hd] at hh; simp at hh
          | cons c r => rw [hd] at hh; simp at hh; exact ⟨r, by rw [hh]⟩
        have hr2 : s.data.toList.drop (at_ + n) = 46 :: r := by rw [HRL.out, hr]
        have hr3 : s.data.toList.drop (at_ + n + 1) = r := by rw [← List.drop_drop, hr2]; rfl
        have hlt : at_ + n < s.size := by
          have := congrArg List.length hr2
          rw [List.length_drop] at this
          have e1 : s.data.toList.length = s.size := rfl
          rw [e1] at this
          simp at this
          omega
        obtain ⟨sc, hsc⟩ : ∃ sc, runL isDig s (at_ + n + 1) = sc := ⟨_, rfl⟩
        have hsc1 := runL_le isDig s (at_ + n + 1) (by omega)
        rw [hsc] at hsc1
        have hf : fracL (l.dropWhile isDig) = r.takeWhile isDig := by rw [hr]; unfold fracL; rw [List.head?_cons, if_pos rfl]; rfl
        have hfl : (r.takeWhile isDig).length = sc := by rw [← hr3]; exact hsc
        have hrun := fun W => (digits_ref W s hs (at_ + n + 1) (by omega)).mono (fun e w' h => (⟨h.1, h.2.symm⟩ : _ ∧ W = w'))
        have e1 : ((at_ + n + 1 : Nat) : Int) = (at_ : Int) + (n : Int) + 1 := by omega
        rw [e1, hsc] at hrun
        have HF := Lib.hid hf
        have HFL := Lib.hid hfl
        have HR3 := Lib.hid hr3
        have hk2 : (at_ : Int) + (n : Int) + 1 + (sc : Int) ≤ (s.size : Int) := by omega
        clear hh hr hr2 hr3 hsc hf hfl e1
        go_wp2_with fail
        (with_reducible refine (hrun _).mono ?_)
        rintro e w2 ⟨rfl, rfl⟩
        clear hrun
        by_cases hs0 : sc = 0
        · subst hs0
          have hf0 : fracL (l.dropWhile isDig) = [] := by rw [HF.out]; exact List.length_eq_zero_iff.1 HFL.out
          have fin : NumRel l (s.extract at_ (at_ + n)) n 0 := ⟨by rw [HDL.out]; unfold numDigits; rw [hf0, List.append_nil], by unfold numLen; rw [if_pos hf0]; exact HNL.out.symm, by rw [hf0]; rfl⟩
          have FIN := Lib.hid fin
          clear fin hf0
          go_wp2_with fail
          go_meet
          exact ⟨s.extract at_ (at_ + n), n, 0, rfl, rfl, rfl, rfl, FIN.out⟩
        · have hs0z : (0 : Int) < (sc : Int) := by omega
          have hf0 : fracL (l.dropWhile isDig) ≠ [] := by rw [HF.out]; intro h; have := HFL.out; rw [h] at this; simp at this; omega
          have fin : NumRel l (s.extract at_ (at_ + n) ++ s.extract (at_ + n + 1) (at_ + n + 1 + sc)) (n + 1 + sc) sc := by
            refine ⟨?_, by unfold numLen; rw [if_neg hf0, HNL.out, HF.out, HFL.out], by rw [HF.out]; exact HFL.out.symm⟩
            rw [app_list, HDL.out, ext_list, HR3.out, ← HFL.out, take_tw, ← HF.out]
            rfl
          have FIN := Lib.hid fin
          have hsz1 : (s.extract at_ (at_ + n)).size ≤ 4096 := by rw [size_list, HDL.out, HNL.out]; omega
          have hsz2 : (s.extract (at_ + n + 1) (at_ + n + 1 + sc)).size ≤ 4096 := by rw [size_list, ext_list, List.length_take]; omega
          have hcat : ¬ 9223372036854775807 < (s.extract at_ (at_ + n)).size + (s.extract (at_ + n + 1) (at_ + n + 1 + sc)).size := by omega
          clear fin hf0
          go_wp2_with fail
          go_meet
          exact ⟨_, n + 1 + sc, sc, rfl, by go_num, rfl, rfl, by rw [show at_ + (n + 1 + sc) = at_ + n + 1 + sc by omega]; exact FIN.out⟩
    case rest =>
      obtain ⟨D, k, sc, rfl, rfl, rfl, rfl, hNum⟩ := hcut
      obtain ⟨hD, hk, hsc⟩ := hNum
      have hll : l.length = s.size - at_ := by rw [← HL.out, List.length_drop]; rfl
      have hkl := numLen_le l
      rw [← hk, hll] at hkl
      have hDs : D.size ≤ 4096 := by
        have := numDigits_le l
        rw [size_list, hD]; omega
      have hall := numDigits_dig l
      rw [← hD] at hall
      have hscl : sc ≤ 4096 := by
        rw [hsc]
        have h1 : (fracL (l.dropWhile isDig)).length ≤ (numDigits l).length := by unfold numDigits; rw [List.length_append]; omega
        rw [← hD, ← size_list] at h1
        omega
      obtain ⟨V, hV⟩ : ∃ V, numVal D.data.toList = V := ⟨_, rfl⟩
      obtain ⟨H, hH⟩ : ∃ H, headLet (l.drop k) = H := ⟨_, rfl⟩
      have fin : numberL l = if 9223372036854775807 < V ∨ 9 < sc ∨ H = true then none else some (⟨3, [], V, sc⟩, k) := by
        unfold numberL
        rw [← hD, ← hsc, ← hk, hV, hH]
      have hHx : headLet (s.data.toList.drop (at_ + k)) = H := by rw [← hH, ← HL.out, List.drop_drop]
      have FIN := Lib.hid fin
      have HALL := Lib.hid hall
      have HVV := Lib.hid hV
      have HHX := Lib.hid hHx
      have hk2 : (at_ : Int) + (k : Int) ≤ (s.size : Int) := by omega
      clear hD hk hsc fin hall hV hH hHx hll HL HNL HDL HRL HPF
      go_upto_region 10 with fail
      obtain ⟨BAD, hBAD⟩ : ∃ BAD, (decide (9 < sc) || H) = BAD := ⟨_, rfl⟩
      go_cut [77] from 60 to 77 (fun s77 wx => s77 = .bool BAD ∧ w0 = wx)
      case first =>
        by_cases h9 : 9 < sc
        · have h9z : (9 : Int) < (sc : Int) := by omega
          rw [decide_eq_true h9, Bool.true_or] at hBAD
          subst hBAD
          clear h9
          go_wp2_with fail
          go_meet
          exact ⟨rfl, rfl⟩
        · have h9z : ¬ (9 : Int) < (sc : Int) := by omega
          rw [decide_eq_false h9, Bool.false_or] at hBAD
          subst hBAD
          clear h9
          have hHx := HHX.out
          by_cases hlt : at_ + k < s.size
          · have hd : (at_ : Int) + (k : Int) < (s.size : Int) := by omega
            have hx := s_at s (at_ + k) hlt
            obtain ⟨x, hx'⟩ : ∃ x, s[at_ + k] = x := ⟨_, rfl⟩
            rw [hx'] at hx
            have hxl : isLet x = H := by
              rw [← hHx]
              obtain ⟨h2, h3⟩ := List.getElem?_eq_some_iff.1 hx
              rw [List.drop_eq_getElem_cons h2, h3]; rfl
            have hcall := fun W => (letter_ref W x _ rfl).mono (fun e w' h => (⟨h.1, h.2.symm⟩ : _ ∧ W = w'))
            rw [hxl] at hcall
            clear hx hxl hHx
            go_wp2_with fail
            (with_reducible refine (hcall _).mono ?_)
            rintro e w2 ⟨rfl, rfl⟩
            clear hcall
            go_wp2_with fail
            go_meet
            exact ⟨rfl, rfl⟩
          · have hd : ¬ (at_ : Int) + (k : Int) < (s.size : Int) := by omega
            rw [List.drop_eq_nil_of_le (show s.size ≤ at_ + k by omega)] at hHx
            have : H = false := hHx.symm
            subst this
            clear hHx
            go_wp2_with fail
            go_meet
            exact ⟨rfl, rfl⟩
      case rest =>
        obtain ⟨rfl, rfl⟩ := hcut
        have hinfo := tok_info_ref
        have hr := HR0.out
        cases BAD with
        | true =>
          have e := FIN.out
          rw [if_pos (by
            right
            rw [Bool.or_eq_true, decide_eq_true_eq] at hBAD
            exact hBAD)] at e
          have HE := Lib.hid e
          clear e
          go_wp2_with (refine wpList_store_row rfl 165 (.tmp 4) (.tmp 78) rfl rb (tokCells 0 0 ⟨#[]⟩ 0 0) rfl rfl 165 _ hr hinfo rfl (tok_one _ _ _ _ _) ?_)
          refine bodyPost_ret (results_cell_two rfl _ _ rb 165 (tokCells 0 0 ⟨#[]⟩ 0 0) (0, 0) _ rfl (row_set_same _ hr) Tryz.underlying165 rfl hinfo _ rfl) rfl ?_
          rw [HE.out]
          exact ⟨rfl, hM0.setRow (.inr (by rw [HRB.out]; exact Nat.le_refl _)) _⟩
        | false =>
          rw [Bool.or_eq_false_iff, decide_eq_false_iff_not] at hBAD
          have HBAD := Lib.hid hBAD
          clear hBAD hr
          go_wp2_with fail
          go_loop [10, 11] (fun t10 t11 => ∃ i v : Nat, i ≤ D.size ∧ t11 = .int .i64 i ∧ t10 = .int .i64 v ∧ v ≤ 9223372036854775807 ∧ Hid (numVal (D.data.toList.take i) = v)) (fun _ t11 => D.size - (intOf t11).toNat)
          case atStart => exact ⟨0, 0, by omega, rfl, rfl, by omega, Lib.hid rfl⟩
          case round =>
            obtain ⟨i, v, hi, rfl, rfl, hv, HV⟩ := hrel
            by_cases hlt : i < D.size
            · have hd : (i : Int) < (D.size : Int) := by omega
              have hx := s_at D i hlt
              obtain ⟨x, hx'⟩ : ∃ x, D[i] = x := ⟨_, rfl⟩
              rw [hx'] at hx
              have hdig : 48 ≤ x.toNat ∧ x.toNat ≤ 57 := by simpa [isDig] using HALL.out x (List.mem_of_getElem? hx)
              have htk : D.data.toList.take (i + 1) = D.data.toList.take i ++ [x] := by rw [List.take_add_one, hx]; rfl
              have hnv : numVal (D.data.toList.take (i + 1)) = v * 10 + (x.toNat - 48) := by rw [htk, numVal_snoc, HV.out]
              obtain ⟨d, hdx⟩ : ∃ d, x.toNat - 48 = d := ⟨_, rfl⟩
              rw [hdx] at hnv
              have hd9 : d ≤ 9 := by omega
              have hw1 : (x.toNat : Int) - 48 = (d : Int) := by omega
              have HNV := Lib.hid hnv
              clear hx htk hnv
              by_cases hov : 9223372036854775807 < v * 10 + d
              · have hz : decide ((9223372036854775807 - (d : Int)) / 10 < (v : Int)) = true := decide_eq_true (by omega)
                have hVbig : 9223372036854775807 < V := by
                  have := numVal_take_le D.data.toList (i + 1)
                  rw [HNV.out, HVV.out] at this
                  omega
                have e := FIN.out
                rw [if_pos (.inl hVbig)] at e
                have HE := Lib.hid e
                have hr := HR0.out
                clear e hVbig hov
                go_wp2_with (refine wpList_store_row rfl 165 (.tmp 4) (.tmp 95) rfl rb (tokCells 0 0 ⟨#[]⟩ 0 0) rfl rfl 165 _ hr hinfo rfl (tok_one _ _ _ _ _) ?_)
                refine bodyPost_ret (results_cell_two rfl _ _ rb 165 (tokCells 0 0 ⟨#[]⟩ 0 0) (0, 0) _ rfl (row_set_same _ hr) Tryz.underlying165 rfl hinfo _ rfl) rfl ?_
                rw [HE.out]
                exact ⟨rfl, hM0.setRow (.inr (by rw [HRB.out]; exact Nat.le_refl _)) _⟩
              · have hz : decide ((9223372036854775807 - (d : Int)) / 10 < (v : Int)) = false := decide_eq_false (by omega)
                have hz2 : (v : Int) * 10 + (d : Int) ≤ 9223372036854775807 := by omega
                have HNB : Hid (v * 10 + d ≤ 9223372036854775807) := Lib.hid (by omega)
                clear hov
                go_wp2_with fail
                go_round
                case measure => simp [intOf]; omega
                case rel => exact ⟨i + 1, v * 10 + d, by omega, by go_num, by go_num, HNB.out, HNV⟩
            · obtain rfl : i = D.size := by omega
              have hfull : D.data.toList.take D.size = D.data.toList := List.take_of_length_le (Nat.le_refl _)
              have hvV : v = V := by rw [← HV.out, hfull, HVV.out]
              subst hvV
              have e := FIN.out
              rw [if_neg (by
                rintro (h | h | h)
                · omega
                · exact HBAD.out.1 h
                · rw [HBAD.out.2] at h; cases h)] at e
              have HE := Lib.hid e
              have hr := HR0.out
              clear e hfull
              go_wp2_with (refine wpList_store_row rfl 165 (.tmp 4) (.tmp 103) rfl rb (tokCells 3 at_ ⟨#[]⟩ v sc) rfl rfl 165 _ hr hinfo rfl (tok_one _ _ _ _ _) ?_)
              refine bodyPost_ret (results_cell_two rfl _ _ rb 165 (tokCells 3 at_ ⟨#[]⟩ v sc) (0, 0) _ rfl (row_set_same _ hr) Tryz.underlying165 rfl hinfo _ rfl) rfl ?_
              rw [HE.out]
              exact ⟨rfl, hM0.setRow (.inr (by rw [HRB.out]; exact Nat.le_refl _)) _⟩
end Go.Proofs.YtpokbepenacnpaaGreatDoor

namespace Go.Proofs.YtpokbepenacnpaaGreatDoor
open Go.RowKit
set_option linter.unusedVariables false

theorem lexB_blank {c : UInt8} {r : List UInt8} {p : Nat} (h : isBl c = true) : lexB (c :: r) p = lexB r (p + 1) := by
  unfold lexB
  rw [List.dropWhile_cons, if_pos h, List.takeWhile_cons, if_pos h, List.length_cons]
  congr 1; omega
theorem lexB_not {c : UInt8} {r : List UInt8} {p : Nat} (h : isBl c = false) : lexB (c :: r) p = lexG (c :: r) p := by
  unfold lexB
  rw [List.dropWhile_cons, if_neg (by rw [h]; decide), List.takeWhile_cons, if_neg (by rw [h]; decide)]
  rfl
theorem drop_one {s : ByteArray} {p : Nat} {x : UInt8} (h : s.data.toList[p]? = some x) : s.data.toList.drop p = x :: s.data.toList.drop (p + 1) := by
  obtain ⟨h2, h3⟩ := List.getElem?_eq_some_iff.1 h
  rw [List.drop_eq_getElem_cons h2, h3]

theorem tokV_none {p : Nat} {k a : Int} {x : ByteArray} {n c len : Int} (h : tokV none p = .tuple #[.agg (tokCells k a x n c), .int .i64 len]) : len = 0 := by
  simp [tokV] at h
  omega
theorem tokV_some {t : TokC} {m p : Nat} {k a : Int} {x : ByteArray} {n c len : Int} (h : tokV (some (t, m)) p = .tuple #[.agg (tokCells k a x n c), .int .i64 len]) : k = t.kind ∧ a = p ∧ x = ⟨t.s.toArray⟩ ∧ n = t.n ∧ c = t.scale ∧ len = m := by
  simp [tokV] at h
  obtain ⟨⟨h1, h2, h3, h4, h5⟩, h6⟩ := h
  exact ⟨h1.symm, h2.symm, h3.symm, h4.symm, h5.symm, h6.symm⟩


set_option maxRecDepth 100000 in
set_option maxHeartbeats 4000000 in
theorem all_ref (w : World) (s : ByteArray) (hs : s.size ≤ 9223372036854775807) :
    Calls Tryz.prog 30 #[.string s] w (AllPost 165 w s) := by
  obtain ⟨i0, hi, hz0, hz1, hz2⟩ := info_parts (show (Tryz.prog.info? 165).map (fun i => (i.zero, i.size, i.bytes)) = some (some (.agg (tokCells 0 0 ⟨#[]⟩ 0 0)), 5, 48) by kernel_rfl)
  by_cases hbig : 4096 < s.size
  · have hbz : (4096 : Int) < (s.size : Int) := by omega
    have fin : ∀ w', Mods [] w w' → AllPost 165 w s (.returned (.tuple #[.slice none 0 0, .int .i64 0, .int .i64 5])) w' := fun w' h => by unfold AllPost; rw [if_pos hbig]; exact ⟨rfl, h⟩
    have FIN := Lib.hid fin
    clear fin hbig
    go_enter Tryz.func30, Tryz.ntmps30
    go_wp2_with fail
    go_returns
    exact FIN.out _ (Mods.refl _ _)
  · have hbz : ¬ (4096 : Int) < (s.size : Int) := by omega
    have hs4 : s.size ≤ 4096 := by omega
    have finb : ∀ p w', lexAll s.data.toList = .bad p → Mods [] w w' → AllPost 165 w s (.returned (.tuple #[.slice none 0 0, .int .i64 p, .int .i64 8])) w' := fun p w' hl h => by unfold AllPost; rw [if_neg hbig, hl]; exact ⟨rfl, h⟩
    have fing : ∀ ts t w', lexAll s.data.toList = .good ts → ToksOwn 165 w w' t ts → AllPost 165 w s (.returned (.tuple #[t, .int .i64 0, .int .i64 0])) w' := fun ts t w' hl h => by unfold AllPost; rw [if_neg hbig, hl]; exact ⟨t, rfl, h⟩
    have FINB := Lib.hid finb
    have FING := Lib.hid fing
    clear finb fing hbig
    have hst : Hid (lexAll s.data.toList = (lexB (s.data.toList.drop 0) 0).pre []) := Lib.hid (by rw [Lexed.pre_nil, List.drop_zero, lexB_zero])
    go_enter Tryz.func30, Tryz.ntmps30
    go_wp2_with fail
    go_loopw [5, 6] (fun t5 t6 wr => ∃ (p : Nat) (ts : List Tok), p ≤ s.size ∧ t6 = .int .i64 p ∧ ts.length ≤ p ∧ Hid (ToksOwn 165 w wr t5 ts) ∧ Hid (lexAll s.data.toList = (lexB (s.data.toList.drop p) p).pre ts)) (fun _ t6 _ => s.size - (intOf t6).toNat)
    case atStart => exact ⟨0, [], by omega, rfl, by simp, Lib.hid (ToksOwn.start _ _), hst⟩
    case round =>
      clear hst
      obtain ⟨p, ts, hp, rfl, hts, HO, HL⟩ := hrel
      obtain ⟨ao, cap, rfl⟩ := HO.out.slice
      by_cases hps : p < s.size
      · have hpz : (p : Int) < (s.size : Int) := by omega
        have hx := s_at s p hps
        obtain ⟨c, hc⟩ : ∃ c, s[p] = c := ⟨_, rfl⟩
        rw [hc] at hx
        have hdp := drop_one hx
        by_cases hbl : isBl c = true
        · have HN : Hid (lexAll s.data.toList = (lexB (s.data.toList.drop (p + 1)) (p + 1)).pre ts) := Lib.hid (by rw [HL.out, hdp, lexB_blank hbl])
          rcases bl_cases hbl with h | h | h | h
          all_goals
            subst h
            clear hx hdp hbl HL
            go_wp2_with fail
            go_roundw
            case measure => simp [intOf]; omega
            case rel => exact ⟨p + 1, ts, by omega, by go_num, by omega, HO, HN⟩
        · have hbl' : isBl c = false := by simpa using hbl
          have hbb : ¬ c.toNat = 32 ∧ ¬ c.toNat = 9 ∧ ¬ c.toNat = 10 ∧ ¬ c.toNat = 13 := by simpa [isBl, and_assoc] using hbl'
          have z1 : ((c.toNat : Int) == 32) = false := by rw [beq_eq_false_iff_ne]; omega
          have z2 : ((c.toNat : Int) == 9) = false := by rw [beq_eq_false_iff_ne]; omega
          have z3 : ((c.toNat : Int) == 10) = false := by rw [beq_eq_false_iff_ne]; omega
          have z4 : ((c.toNat : Int) == 13) = false := by rw [beq_eq_false_iff_ne]; omega
          have hLG : Hid (lexAll s.data.toList = (lexG (s.data.toList.drop p) p).pre ts) := Lib.hid (by rw [HL.out, hdp, lexB_not hbl'])
          have htk : tokL (s.data.toList.drop p) = if isLet c = true then wordL (s.data.toList.drop p) else if isDig c = true then numberL (s.data.toList.drop p) else if c = 39 then textT (s.data.toList.drop p) else markL (s.data.toList.drop p) := by rw [hdp]; rfl
          have hdne : s.data.toList.drop p ≠ [] := by rw [hdp]; simp
          have hdl : (s.data.toList.drop p).length = s.size - p := by rw [List.length_drop]; rfl
          have hmk := mark_ref wr s hs4 p hps
          have hwd := fun W => word_ref W s hs4 p (by omega)
          have hnm := fun W => number_ref W s hs4 p (by omega)
          have htx := fun W => text_ref W s hs4 p hps
          have hltr := fun W => (letter_ref W c _ rfl).mono (fun e w' h => (⟨h.1, h.2.symm⟩ : _ ∧ W = w'))
          have hdgr := fun W => (digit_ref W c _ rfl).mono (fun e w' h => (⟨h.1, h.2.symm⟩ : _ ∧ W = w'))
          obtain ⟨k0, a0, x0, n0, c0, l0, hf0⟩ := tokV_form (markL (s.data.toList.drop p)) p
          have HTK := Lib.hid htk
          have HDN := Lib.hid (And.intro hdne hdl)
          have HF0 := Lib.hid hf0
          have hinfo := tok_info_ref
          clear htk hdne hdl hdp hbl hbl' hbb hx HL hf0
          go_wp2_with fail
          (with_reducible refine hmk.mono ?_)
          rintro e w4 ⟨rfl, hM4⟩
          rw [HF0.out]
          clear hmk
          have hM5 := hM4.alloc (.cells (tokCells k0 a0 x0 n0 c0) 165)
          have hr5 := heap_alloc_new w4 (.cells (tokCells k0 a0 x0 n0 c0) 165)
          have htb := hM4.size
          go_upto_region 10 with fail
          generalize w4.alloc (.cells (tokCells k0 a0 x0 n0 c0) 165) = w5 at *
          generalize w4.heap.size = tb at *
          clear hM4
          have htk := HTK.out
          cases hL : isLet c with
          | true =>
            rw [hL] at hltr htk
            rw [if_pos rfl] at htk
            rw [← htk] at hwd
            have hdf : isDig c = false := by
              cases hd : isDig c with
              | false => rfl
              | true => rw [(dig_let hd).1] at hL; cases hL
            have h39 : c ≠ 39 := by intro h; rw [h] at hL; revert hL; decide
            have z5 : ((c.toNat : Int) == 39) = false := by rw [beq_eq_false_iff_ne]; exact fun h => h39 (UInt8.toNat_inj.1 (by show c.toNat = 39; omega))
            rw [hdf] at hdgr
            clear htk hnm htx hL hdf h39
            go_wp2_with fail
            (with_reducible refine (hltr _).mono ?_)
            rintro e w6 ⟨rfl, rfl⟩
            clear hltr
            go_wp2_with fail
            (with_reducible refine (hwd _).mono ?_)
            rintro e w6 ⟨rfl, hM6⟩
            obtain ⟨k1, a1, x1, n1, c1, l1, hf1⟩ := tokV_form (tokL (s.data.toList.drop p)) p
            rw [hf1]
            have hr6 := hM6.heap hr5 (by simp)
            have hM56 := hM5.trans hM6 (by simp)
            clear hM6 hM5 hr5
            go_upto_region 16 with (first | ((with_reducible refine (hdgr _).mono ?_); rintro e w9 ⟨rfl, rfl⟩) | refine wpList_store_row rfl 165 (.tmp 8) (.tmp 48) rfl tb (tokCells k1 a1 x1 n1 c1) rfl rfl 165 _ hr6 hinfo rfl (tok_one _ _ _ _ _) ?_)
            have hM7 := hM56.setRow (.inr htb) (tokCells k1 a1 x1 n1 c1)
            have hr7 := row_set_same (tokCells k1 a1 x1 n1 c1) hr6
            generalize w6.setRow tb (tokCells k1 a1 x1 n1 c1) = w7 at *
            clear hr6 hM56
            cases htk2 : tokL (s.data.toList.drop p) with
            | none =>
              have hf2 := hf1
              rw [htk2] at hf2
              have hl0 := tokV_none hf2
              subst hl0
              have fin := Lib.hid (fun w' => FINB.out p w' (hLG.out.trans (by rw [lexG_bad p HDN.out.1 htk2]; rfl)))
              have hMw := Lib.hid (HO.out.1.trans hM7 (by simp))
              clear hf2 htk2 hr7 hM7 HO hf1
              go_wp2_with fail
              go_returns
              exact fin.out _ hMw.out
            | some y =>
              obtain ⟨t, n⟩ := y
              have hf2 := hf1
              rw [htk2] at hf2
              obtain ⟨rfl, rfl, rfl, rfl, rfl, rfl⟩ := tokV_some hf2
              have hn := tokL_le htk2
              rw [HDN.out.2] at hn
              have hn0 : ((n : Int) == 0) = false := by rw [beq_eq_false_iff_ne]; omega
              have hstep : Hid (lexAll s.data.toList = (lexB (s.data.toList.drop (p + n)) (p + n)).pre (ts ++ [t.put p])) := Lib.hid (by rw [hLG.out, lexG_next p htk2, List.drop_drop, Lexed.pre_pre])
              have HO7 := Lib.hid (HO.out.quiet hM7)
              have hown := HO7.out.2.1
              have q0 := cell_of_heap hr7 0
              have q1 := cell_of_heap hr7 1
              have q2 := cell_of_heap hr7 2
              have q3 := cell_of_heap hr7 3
              have q4 := cell_of_heap hr7 4
              change w7.cell? _ = some (.int .i64 t.kind) at q0
              change w7.cell? _ = some (.int .i64 p) at q1
              change w7.cell? _ = some (.string ⟨t.s.toArray⟩) at q2
              change w7.cell? _ = some (.int .i64 t.n) at q3
              change w7.cell? _ = some (.int .i64 t.scale) at q4
              clear hf2 htk2 hr7 hM7 hf1 hLG HO
              go_wp2_with (at_builtin; refine wpList_app _ rfl _ _ 80 rfl 165 i0 _ 5 48 Tryz.underlying80 hi hz0 hz1 hz2 rfl (by decide) (.slice ao ts.length cap) ts.length (toksC ts) rfl (hown.alloc _) ⟨w7.heap.size, 0, none⟩ 1 1 (tokC1 (t.put p)) rfl rfl ?c1 (tokC1_one _) (by decide) ?c3 ?c4 ?_)
              case c1 => exact cells_new5 _ _ _ _ _ _ _
              case c3 => unfold maxLen; omega
              case c4 => omega
              intro g cap2 w8 hown8 hM8 hg8
              have hAA := (Mods.refl [] w7).alloc (.cells (tokCells t.kind p ⟨t.s.toArray⟩ t.n t.scale) 165)
              have hO8 := Lib.hid ((HO7.out.quiet hAA).push hown8 hM8 (by rw [size_alloc]; exact hg8))
              clear hown8 hM8 hg8 hAA hown q0 q1 q2 q3 q4
              go_wp2_with fail
              go_roundw
              case measure => simp [intOf]; omega
              case rel => exact ⟨p + n, ts ++ [t.put p], by omega, by go_num, by rw [List.length_append]; simp; omega, hO8, hstep⟩
          | false =>
            rw [hL] at hltr htk
            rw [if_neg (by decide)] at htk
            clear hwd hL
            go_wp2_with fail
            (with_reducible refine (hltr _).mono ?_)
            rintro e w6 ⟨rfl, rfl⟩
            clear hltr
            cases hdg : isDig c with
            | true =>
              rw [hdg] at hdgr
              rw [hdg, if_pos rfl] at htk
              rw [← htk] at hnm
              have h39 : c ≠ 39 := by intro h; rw [h] at hdg; revert hdg; decide
              have z5 : ((c.toNat : Int) == 39) = false := by rw [beq_eq_false_iff_ne]; exact fun h => h39 (UInt8.toNat_inj.1 (by show c.toNat = 39; omega))
              clear htk htx hdg h39
              go_wp2_with fail
              (with_reducible refine (hdgr _).mono ?_)
              rintro e w6 ⟨rfl, rfl⟩
              clear hdgr
              go_wp2_with fail
              (with_reducible refine (hnm _).mono ?_)
              rintro e w6 ⟨rfl, hM6⟩
              obtain ⟨k1, a1, x1, n1, c1, l1, hf1⟩ := tokV_form (tokL (s.data.toList.drop p)) p
              rw [hf1]
              have hr6 := hM6.heap hr5 (by simp)
              have hM56 := hM5.trans hM6 (by simp)
              clear hM6 hM5 hr5
              go_upto_region 16 with (refine wpList_store_row rfl 165 (.tmp 8) (.tmp 56) rfl tb (tokCells k1 a1 x1 n1 c1) rfl rfl 165 _ hr6 hinfo rfl (tok_one _ _ _ _ _) ?_)
              have hM7 := hM56.setRow (.inr htb) (tokCells k1 a1 x1 n1 c1)
              have hr7 := row_set_same (tokCells k1 a1 x1 n1 c1) hr6
              generalize w6.setRow tb (tokCells k1 a1 x1 n1 c1) = w7 at *
              clear hr6 hM56
              cases htk2 : tokL (s.data.toList.drop p) with
              | none =>
                have hf2 := hf1
                rw [htk2] at hf2
                have hl0 := tokV_none hf2
                subst hl0
                have fin := Lib.hid (fun w' => FINB.out p w' (hLG.out.trans (by rw [lexG_bad p HDN.out.1 htk2]; rfl)))
                have hMw := Lib.hid (HO.out.1.trans hM7 (by simp))
                clear hf2 htk2 hr7 hM7 HO hf1
                go_wp2_with fail
                go_returns
                exact fin.out _ hMw.out
              | some y =>
                obtain ⟨t, n⟩ := y
                have hf2 := hf1
                rw [htk2] at hf2
                obtain ⟨rfl, rfl, rfl, rfl, rfl, rfl⟩ := tokV_some hf2
                have hn := tokL_le htk2
                rw [HDN.out.2] at hn
                have hn0 : ((n : Int) == 0) = false := by rw [beq_eq_false_iff_ne]; omega
                have hstep : Hid (lexAll s.data.toList = (lexB (s.data.toList.drop (p + n)) (p + n)).pre (ts ++ [t.put p])) := Lib.hid (by rw [hLG.out, lexG_next p htk2, List.drop_drop, Lexed.pre_pre])
                have HO7 := Lib.hid (HO.out.quiet hM7)
                have hown := HO7.out.2.1
                have q0 := cell_of_heap hr7 0
                have q1 := cell_of_heap hr7 1
                have q2 := cell_of_heap hr7 2
                have q3 := cell_of_heap hr7 3
                have q4 := cell_of_heap hr7 4
                change w7.cell? _ = some (.int .i64 t.kind) at q0
                change w7.cell? _ = some (.int .i64 p) at q1
                change w7.cell? _ = some (.string ⟨t.s.toArray⟩) at q2
                change w7.cell? _ = some (.int .i64 t.n) at q3
                change w7.cell? _ = some (.int .i64 t.scale) at q4
                clear hf2 htk2 hr7 hM7 hf1 hLG HO
                go_wp2_with (at_builtin; refine wpList_app _ rfl _ _ 80 rfl 165 i0 _ 5 48 Tryz.underlying80 hi hz0 hz1 hz2 rfl (by decide) (.slice ao ts.length cap) ts.length (toksC ts) rfl (hown.alloc _) ⟨w7.heap.size, 0, none⟩ 1 1 (tokC1 (t.put p)) rfl rfl ?c1 (tokC1_one _) (by decide) ?c3 ?c4 ?_)
                case c1 => exact cells_new5 _ _ _ _ _ _ _
                case c3 => unfold maxLen; omega
                case c4 => omega
                intro g cap2 w8 hown8 hM8 hg8
                have hAA := (Mods.refl [] w7).alloc (.cells (tokCells t.kind p ⟨t.s.toArray⟩ t.n t.scale) 165)
                have hO8 := Lib.hid ((HO7.out.quiet hAA).push hown8 hM8 (by rw [size_alloc]; exact hg8))
                clear hown8 hM8 hg8 hAA hown q0 q1 q2 q3 q4
                go_wp2_with fail
                go_roundw
                case measure => simp [intOf]; omega
                case rel => exact ⟨p + n, ts ++ [t.put p], by omega, by go_num, by rw [List.length_append]; simp; omega, hO8, hstep⟩
            | false =>
              rw [hdg] at hdgr
              rw [hdg, if_neg (by decide)] at htk
              clear hnm hdg
              go_wp2_with fail
              (with_reducible refine (hdgr _).mono ?_)
              rintro e w6 ⟨rfl, rfl⟩
              clear hdgr
              by_cases h39 : c = 39
              · rw [if_pos h39] at htk
                rw [← htk] at htx
                have z5 : ((c.toNat : Int) == 39) = true := by rw [h39]; rfl
                clear htk h39
                go_wp2_with fail
                (with_reducible refine (htx _).mono ?_)
                rintro e w6 ⟨rfl, hM6⟩
                obtain ⟨k1, a1, x1, n1, c1, l1, hf1⟩ := tokV_form (tokL (s.data.toList.drop p)) p
                rw [hf1]
                have hr6 := hM6.heap hr5 (by simp)
                have hM56 := hM5.trans hM6 (by simp)
                clear hM6 hM5 hr5
                go_upto_region 16 with (refine wpList_store_row rfl 165 (.tmp 8) (.tmp 64) rfl tb (tokCells k1 a1 x1 n1 c1) rfl rfl 165 _ hr6 hinfo rfl (tok_one _ _ _ _ _) ?_)
                have hM7 := hM56.setRow (.inr htb) (tokCells k1 a1 x1 n1 c1)
                have hr7 := row_set_same (tokCells k1 a1 x1 n1 c1) hr6
                generalize w6.setRow tb (tokCells k1 a1 x1 n1 c1) = w7 at *
                clear hr6 hM56
                cases htk2 : tokL (s.data.toList.drop p) with
                | none =>
                  have hf2 := hf1
                  rw [htk2] at hf2
                  have hl0 := tokV_none hf2
                  subst hl0
                  have fin := Lib.hid (fun w' => FINB.out p w' (hLG.out.trans (by rw [lexG_bad p HDN.out.1 htk2]; rfl)))
                  have hMw := Lib.hid (HO.out.1.trans hM7 (by simp))
                  clear hf2 htk2 hr7 hM7 HO hf1
                  go_wp2_with fail
                  go_returns
                  exact fin.out _ hMw.out
                | some y =>
                  obtain ⟨t, n⟩ := y
                  have hf2 := hf1
                  rw [htk2] at hf2
                  obtain ⟨rfl, rfl, rfl, rfl, rfl, rfl⟩ := tokV_some hf2
                  have hn := tokL_le htk2
                  rw [HDN.out.2] at hn
                  have hn0 : ((n : Int) == 0) = false := by rw [beq_eq_false_iff_ne]; omega
                  have hstep : Hid (lexAll s.data.toList = (lexB (s.data.toList.drop (p + n)) (p + n)).pre (ts ++ [t.put p])) := Lib.hid (by rw [hLG.out, lexG_next p htk2, List.drop_drop, Lexed.pre_pre])
                  have HO7 := Lib.hid (HO.out.quiet hM7)
                  have hown := HO7.out.2.1
                  have q0 := cell_of_heap hr7 0
                  have q1 := cell_of_heap hr7 1
                  have q2 := cell_of_heap hr7 2
                  have q3 := cell_of_heap hr7 3
                  have q4 := cell_of_heap hr7 4
                  change w7.cell? _ = some (.int .i64 t.kind) at q0
                  change w7.cell? _ = some (.int .i64 p) at q1
                  change w7.cell? _ = some (.string ⟨t.s.toArray⟩) at q2
                  change w7.cell? _ = some (.int .i64 t.n) at q3
                  change w7.cell? _ = some (.int .i64 t.scale) at q4
                  clear hf2 htk2 hr7 hM7 hf1 hLG HO
                  go_wp2_with (at_builtin; refine wpList_app _ rfl _ _ 80 rfl 165 i0 _ 5 48 Tryz.underlying80 hi hz0 hz1 hz2 rfl (by decide) (.slice ao ts.length cap) ts.length (toksC ts) rfl (hown.alloc _) ⟨w7.heap.size, 0, none⟩ 1 1 (tokC1 (t.put p)) rfl rfl ?c1 (tokC1_one _) (by decide) ?c3 ?c4 ?_)
                  case c1 => exact cells_new5 _ _ _ _ _ _ _
                  case c3 => unfold maxLen; omega
                  case c4 => omega
                  intro g cap2 w8 hown8 hM8 hg8
                  have hAA := (Mods.refl [] w7).alloc (.cells (tokCells t.kind p ⟨t.s.toArray⟩ t.n t.scale) 165)
                  have hO8 := Lib.hid ((HO7.out.quiet hAA).push hown8 hM8 (by rw [size_alloc]; exact hg8))
                  clear hown8 hM8 hg8 hAA hown q0 q1 q2 q3 q4
                  go_wp2_with fail
                  go_roundw
                  case measure => simp [intOf]; omega
                  case rel => exact ⟨p + n, ts ++ [t.put p], by omega, by go_num, by rw [List.length_append]; simp; omega, hO8, hstep⟩
              · rw [if_neg h39] at htk
                have z5 : ((c.toNat : Int) == 39) = false := by rw [beq_eq_false_iff_ne]; exact fun h => h39 (UInt8.toNat_inj.1 (by show c.toNat = 39; omega))
                have hf1 := HF0.out
                rw [← htk] at hf1
                have hM7 := hM5
                have hr7 := hr5
                clear htk htx h39 hM5 hr5
                generalize w5 = w7 at *
                go_upto_region 16 with fail
                cases htk2 : tokL (s.data.toList.drop p) with
                | none =>
                  have hf2 := hf1
                  rw [htk2] at hf2
                  have hl0 := tokV_none hf2
                  subst hl0
                  have fin := Lib.hid (fun w' => FINB.out p w' (hLG.out.trans (by rw [lexG_bad p HDN.out.1 htk2]; rfl)))
                  have hMw := Lib.hid (HO.out.1.trans hM7 (by simp))
                  clear hf2 htk2 hr7 hM7 HO hf1
                  go_wp2_with fail
                  go_returns
                  exact fin.out _ hMw.out
                | some y =>
                  obtain ⟨t, n⟩ := y
                  have hf2 := hf1
                  rw [htk2] at hf2
                  obtain ⟨rfl, rfl, rfl, rfl, rfl, rfl⟩ := tokV_some hf2
                  have hn := tokL_le htk2
                  rw [HDN.out.2] at hn
                  have hn0 : ((n : Int) == 0) = false := by rw [beq_eq_false_iff_ne]; omega
                  have hstep : Hid (lexAll s.data.toList = (lexB (s.data.toList.drop (p + n)) (p + n)).pre (ts ++ [t.put p])) := Lib.hid (by rw [hLG.out, lexG_next p htk2, List.drop_drop, Lexed.pre_pre])
                  have HO7 := Lib.hid (HO.out.quiet hM7)
                  have hown := HO7.out.2.1
                  have q0 := cell_of_heap hr7 0
                  have q1 := cell_of_heap hr7 1
                  have q2 := cell_of_heap hr7 2
                  have q3 := cell_of_heap hr7 3
                  have q4 := cell_of_heap hr7 4
                  change w7.cell? _ = some (.int .i64 t.kind) at q0
                  change w7.cell? _ = some (.int .i64 p) at q1
                  change w7.cell? _ = some (.string ⟨t.s.toArray⟩) at q2
                  change w7.cell? _ = some (.int .i64 t.n) at q3
                  change w7.cell? _ = some (.int .i64 t.scale) at q4
                  clear hf2 htk2 hr7 hM7 hf1 hLG HO
                  go_wp2_with (at_builtin; refine wpList_app _ rfl _ _ 80 rfl 165 i0 _ 5 48 Tryz.underlying80 hi hz0 hz1 hz2 rfl (by decide) (.slice ao ts.length cap) ts.length (toksC ts) rfl (hown.alloc _) ⟨w7.heap.size, 0, none⟩ 1 1 (tokC1 (t.put p)) rfl rfl ?c1 (tokC1_one _) (by decide) ?c3 ?c4 ?_)
                  case c1 => exact cells_new5 _ _ _ _ _ _ _
                  case c3 => unfold maxLen; omega
                  case c4 => omega
                  intro g cap2 w8 hown8 hM8 hg8
                  have hAA := (Mods.refl [] w7).alloc (.cells (tokCells t.kind p ⟨t.s.toArray⟩ t.n t.scale) 165)
                  have hO8 := Lib.hid ((HO7.out.quiet hAA).push hown8 hM8 (by rw [size_alloc]; exact hg8))
                  clear hown8 hM8 hg8 hAA hown q0 q1 q2 q3 q4
                  go_wp2_with fail
                  go_roundw
                  case measure => simp [intOf]; omega
                  case rel => exact ⟨p + n, ts ++ [t.put p], by omega, by go_num, by rw [List.length_append]; simp; omega, hO8, hstep⟩
      · obtain rfl : p = s.size := by omega
        have hdn : s.data.toList.drop s.size = [] := List.drop_of_length_le (Nat.le_refl _)
        have fin := Lib.hid (fun t w' => FING.out (ts ++ [⟨0, s.size, [], 0, 0⟩]) t w' (HL.out.trans (by rw [hdn]; rfl)))
        have hown := HO.out.2.1
        clear hdn hps HL
        go_wp2_with (at_builtin; refine wpList_app _ rfl _ _ 80 rfl 165 i0 _ 5 48 Tryz.underlying80 hi hz0 hz1 hz2 rfl (by decide) (.slice ao ts.length cap) ts.length (toksC ts) rfl (hown.alloc _) ⟨wr.heap.size, 0, none⟩ 1 1 (tokC1 ⟨0, s.size, [], 0, 0⟩) rfl rfl ?c1 (tokC1_one _) (by decide) ?c3 ?c4 ?_)
        case c1 => exact cells_new5 _ _ _ _ _ _ _
        case c3 => unfold maxLen; omega
        case c4 => omega
        intro g cap2 w7 hown7 hM7 hg7
        have hAA := (Mods.refl [] wr).alloc (.cells (tokCells 0 s.size ⟨#[]⟩ 0 0) 165)
        have hO7 := Lib.hid ((HO.out.quiet hAA).push hown7 hM7 (by rw [size_alloc]; exact hg7))
        clear hown7 hM7 hg7 hAA
        go_wp2_with fail
        go_returns
        exact fin.out _ _ hO7.out
end Go.Proofs.YtpokbepenacnpaaGreatDoor
