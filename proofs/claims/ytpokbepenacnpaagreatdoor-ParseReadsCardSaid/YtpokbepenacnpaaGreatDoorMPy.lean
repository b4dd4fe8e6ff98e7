/-
  parse's query, walked. No condition but that the tokens end twice.
-/
import Derived.Test.YtpokbepenacnpaaGreatDoorMPt
import Derived.Deep.CutRange
import Derived.Test.YtpokbepenacnpaaGreatDoorMPq
import Derived.BigQuiet
namespace Go.Proofs.YtpokbepenacnpaaGreatDoor
open Go.RowKit
set_option linter.unusedVariables false

set_option maxRecDepth 100000 in
set_option maxHeartbeats 8000000 in
theorem query_any (w : World) (pb tg : Nat) (f : Nat) (s : PS) (h : PSt w pb tg s f) (hl : s.rest.length ≤ 10000) (hw2 : WfT s.rest.dropLast) :
    Calls Tryz.prog 29 #[PtrV pb] w fun e w' => ∃ qb, e = .returned (PtrV qb) ∧ Mods [pb] w w' ∧ PSt w' pb tg ((queryF (lvl f).expr s).2.of 0).2.2 f ∧ w.heap.size ≤ qb ∧ (((queryF (lvl f).expr s).2.of 0).2.2.e = 0 → QueryAt w' [pb] qb (queryF (lvl f).expr s).1) := by
  have hqs := QInv.start h hl
  have hexpr := fun W s1 (hP : PSt W pb tg s1 f) => expr_all W pb tg f s1 hP
  have hitem := fun W s1 (hP : PSt W pb tg s1 f) => item_any W pb tg f s1 hP
  have hgE : Goes (lvl f).expr := (goes_lvl f).expr
  generalize (lvl f).expr = E at *
  have hkey := fun W s1 (hP : PSt W pb tg s1 f) => key_any W pb tg f s1 hP
  have hcol := fun W s1 (hP : PSt W pb tg s1 f) => column_one W pb tg f s1 hP
  have HC := Lib.hid (And.intro hexpr (And.intro hitem (And.intro hgE (And.intro hkey hcol))))
  have HW := Lib.hid (And.intro h (And.intro hl hw2))
  have hinfo : (Tryz.prog.info? 75).map (·.size) = some 5 := by kernel_rfl
  unfold PtrV at *
  clear h hw2 hl hexpr hitem hgE hkey hcol
  obtain ⟨R, hR⟩ : ∃ R, queryF E s = R := ⟨_, rfl⟩
  rw [hR]
  have HR := Lib.hid hR
  clear hR
  have HQs := Lib.hid hqs
  clear hqs
  go_enter Tryz.func29, Tryz.ntmps29
  go_upto_region 2 with fail
  generalize w.alloc (.cells #[.bool false, .slice none 0 0, .string ⟨#[]⟩, .string ⟨#[]⟩, .int .i64 0, .int .i64 0, .pointer none, .pointer none, .slice none 0 0, .slice none 0 0, .int .i64 (-1), .int .i64 (-1)] 93) = V at *
  generalize hqb : w.heap.size = qb at *
  -- SELECT
  have hwa : Calls Tryz.prog 58 #[PtrV pb, .slice (some ⟨V.heap.size, 0, none⟩) 1 1] (V.alloc (.cells #[.string ⟨#[83, 69, 76, 69, 67, 84]⟩] 9)) _ := wants_one V pb tg _ f HQs.out.pst wSelect
  unfold PtrV at hwa
  go_wp2_with fail
  (with_reducible refine hwa.mono ?_)
  rintro e Va ⟨rfl, hMz, hPz⟩
  have hqz := HQs.out.go hMz hPz (Aft.wants _ _)
  have HQsw := Lib.hid hqz
  clear hwa hMz hPz hqz
  obtain ⟨x1, hx1⟩ : ∃ y, q1 E s = y := ⟨_, rfl⟩
  obtain ⟨⟨b, s1⟩, ht⟩ : ∃ y, (s.wants [wSelect]).takes wStar = y := ⟨_, rfl⟩
  have htk : Calls Tryz.prog 59 #[PtrV pb, .string ⟨#[42]⟩] Va _ := takes_any Va pb tg (s.wants [wSelect]) f HQsw.out.pst wStar
  have hta := Aft.takes (s.wants [wSelect]) wStar
  rw [ht] at htk hta
  unfold PtrV at htk
  have HX1 := Lib.hid hx1
  have HT := Lib.hid (And.intro ht hta)
  clear hx1 ht hta HQs
  go_wp2_with fail
  (with_reducible refine htk.mono ?_)
  rintro e Vb ⟨rfl, hMb, hPb⟩
  have hqb1 := HQsw.out.go hMb hPb HT.out.2
  obtain ⟨vy, hvy⟩ := hqb1.cell 0 (by decide)
  have hfy := hqb1.frozen 0
  have hqp := hqb1.putStar b
  have hcy := cell_setCell_same (v := .bool b) hvy
  have HQ := Lib.hid hqp
  clear htk hMb hPb hqb1 hqp HQsw
  go_upto_if 18 with fail
  generalize Vb.setCell ⟨qb, 0, none⟩ (.bool b) = W1 at *
  clear hvy hfy hcy
  go_cut [] from 19 to 25 (fun wx => QInv pb tg f w qb x1 wx)
  case first =>
    cases b with
    | true =>
      have fin : QInv pb tg f w qb x1 W1 := by
        have hx : x1 = ({ star := true }, s1) := by
          rw [← HX1.out]; unfold q1; simp only [HT.out.1]; rfl
        rw [hx]; exact HQ.out
      have HF := Lib.hid fin
      clear fin HQ HT
      rw [Bool.not_true]
      go_wp2_with fail
      go_meet
      exact HF.out
    | false =>
      rw [Bool.not_false]
      have hca := list_item W1 pb tg f s1 HQ.out.pst HQ.out.2.2.2.2.2.1 _ (goes_item HC.out.2.2.1) HC.out.2.1
      unfold PtrV at hca
      go_wp2_with fail
      (with_reducible refine hca.mono ?_)
      rintro e W2 ⟨g, cap, css, rfl, hMy, hPy, hgy, hgy2, hcy, hcells, hAy⟩
      have hqy := HQ.out.go hMy hPy (goes_list (goes_item HC.out.2.2.1) s1)
      obtain ⟨vy, hvy⟩ := hqy.cell 1 (by decide)
      have hfy := hqy.frozen 1
      have hqp := hqy.putItems (.slice (some ⟨g, 0, none⟩) (listF (itemF E) s1).1.length cap) (listF (itemF E) s1).1 (fun he => ListRes.listAt itemRep HQ.out.lts hgy hcy hcells (hAy he))
      clear hca hgy hgy2 hcy hcells hAy
      have hx : x1 = ({ items := (listF (itemF E) s1).1 }, (listF (itemF E) s1).2) := by
        rw [← HX1.out]; unfold q1; simp only [HT.out.1]; rfl
      have HF := Lib.hid (hqp.as hx)
      clear hx hqp HQ HT
      go_wp2_with fail
      go_meet
      exact HF.out
  case rest =>
  have HQ1 := Lib.hid hcut
  clear HQ HT hcut
  generalize wc = V1 at *
  -- FROM
  have hwa : Calls Tryz.prog 58 #[PtrV pb, .slice (some ⟨V1.heap.size, 0, none⟩) 1 1] (V1.alloc (.cells #[.string ⟨#[70, 82, 79, 77]⟩] 9)) _ := wants_one V1 pb tg _ f HQ1.out.pst wFrom
  unfold PtrV at hwa
  go_wp2_with fail
  (with_reducible refine hwa.mono ?_)
  rintro e Va ⟨rfl, hMz, hPz⟩
  have hqz := HQ1.out.go hMz hPz (Aft.wants _ _)
  have HQ1w := Lib.hid hqz
  clear hwa hMz hPz hqz
  have hnow := now_any Va pb tg _ f HQ1w.out.pst
  have hfd1 := tok_field1 (x1.2.wants [wFrom]).now
  unfold PtrV at hnow
  go_wp2_with fail
  (with_reducible refine hnow.mono ?_)
  rintro e Vb ⟨rfl, hMb⟩
  have hqb1 := HQ1w.out.later hMb
  obtain ⟨vy, hvy⟩ := hqb1.cell 4 (by decide)
  have hfy := hqb1.frozen 4
  have hqp := hqb1.putSrcAt (x1.2.wants [wFrom]).now.pos
  have HQ := Lib.hid hqp
  clear hnow hMb hqb1 hqp HQ1w
  go_upto_region 8 with fail
  generalize Vb.setCell ⟨qb, 4, none⟩ (.int .i64 (x1.2.wants [wFrom]).now.pos) = Vc at *
  clear hvy hfy
  have hca := name_any Vc pb tg _ f HQ.out.pst
  unfold PtrV at hca
  go_wp2_with fail
  (with_reducible refine hca.mono ?_)
  rintro e Vd ⟨rfl, hMy, hPy⟩
  have hqy := HQ.out.go hMy hPy (Aft.name _)
  obtain ⟨vy, hvy⟩ := hqy.cell 2 (by decide)
  have hfy := hqy.frozen 2
  have hqp := hqy.putSrc (x1.2.wants [wFrom]).name.1
  have HQ2 := Lib.hid hqp
  obtain ⟨x2, hx2⟩ : ∃ y, q2 x1 = y := ⟨_, rfl⟩
  have HX2 := Lib.hid hx2
  clear hca hMy hPy hqy hqp HQ hx2
  go_upto_region 9 with fail
  generalize Vd.setCell ⟨qb, 2, none⟩ (.string ⟨(x1.2.wants [wFrom]).name.1.toArray⟩) = V2 at *
  clear hvy hfy
  replace HQ2 : Hid (QInv pb tg f w qb x2 V2) := Lib.hid (by rw [← HX2.out]; exact HQ2.out)
  -- JOIN
  obtain ⟨x3, hx3⟩ : ∃ y, q3 E x2 = y := ⟨_, rfl⟩
  obtain ⟨⟨b, s1⟩, ht⟩ : ∃ y, x2.2.takes wJoin = y := ⟨_, rfl⟩
  have htk : Calls Tryz.prog 59 #[PtrV pb, .string ⟨#[74, 79, 73, 78]⟩] V2 _ := takes_any V2 pb tg x2.2 f HQ2.out.pst wJoin
  have hta := Aft.takes x2.2 wJoin
  rw [ht] at htk hta
  unfold PtrV at htk
  have HX3 := Lib.hid hx3
  have HT := Lib.hid (And.intro ht hta)
  clear hx3 ht hta
  go_upto_if 41 with ((with_reducible refine htk.mono ?_); rintro e W1 ⟨rfl, hM1, hP1⟩)
  have hq1 := HQ2.out.go hM1 hP1 HT.out.2
  have HQ := Lib.hid hq1
  clear htk hM1 hP1 hq1 HQ2
  go_cut [] from 42 to 60 (fun wx => QInv pb tg f w qb x3 wx)
  case first =>
    cases b with
    | false =>
      have fin : QInv pb tg f w qb x3 W1 := by
        have hx : x3 = (x2.1, s1) := by
          rw [← HX3.out]; unfold q3; simp only [HT.out.1]; rfl
        rw [hx]; exact HQ.out
      have HF := Lib.hid fin
      clear fin HQ HT
      go_wp2_with fail
      go_meet
      exact HF.out
    | true =>
      have hnow := now_any W1 pb tg s1 f HQ.out.pst
      have hfd1 := tok_field1 s1.now
      unfold PtrV at hnow
      go_wp2_with fail
      (with_reducible refine hnow.mono ?_)
      rintro e Vb ⟨rfl, hMb⟩
      have hqb1 := HQ.out.later hMb
      obtain ⟨vy, hvy⟩ := hqb1.cell 5 (by decide)
      have hfy := hqb1.frozen 5
      have hqp := hqb1.putJoinAt s1.now.pos
      have HQb := Lib.hid hqp
      clear hnow hMb hqb1 hqp HQ
      go_upto_region 11 with fail
      generalize Vb.setCell ⟨qb, 5, none⟩ (.int .i64 s1.now.pos) = Vc at *
      clear hvy hfy hfd1
      have hca := name_any Vc pb tg _ f HQb.out.pst
      unfold PtrV at hca
      go_wp2_with fail
      (with_reducible refine hca.mono ?_)
      rintro e Vd ⟨rfl, hMy, hPy⟩
      have hqy := HQb.out.go hMy hPy (Aft.name _)
      obtain ⟨vy, hvy⟩ := hqy.cell 3 (by decide)
      have hfy := hqy.frozen 3
      have hqp := hqy.putJoin s1.name.1
      have HQc := Lib.hid hqp
      clear hca hMy hPy hqy hqp HQb
      go_upto_region 12 with fail
      generalize Vd.setCell ⟨qb, 3, none⟩ (.string ⟨s1.name.1.toArray⟩) = Ve at *
      clear hvy hfy
      have hwa : Calls Tryz.prog 58 #[PtrV pb, .slice (some ⟨Ve.heap.size, 0, none⟩) 1 1] (Ve.alloc (.cells #[.string ⟨#[79, 78]⟩] 9)) _ := wants_one Ve pb tg _ f HQc.out.pst wOn
      unfold PtrV at hwa
      go_wp2_with fail
      (with_reducible refine hwa.mono ?_)
      rintro e Vf ⟨rfl, hMz, hPz⟩
      have hqz := HQc.out.go hMz hPz (Aft.wants _ _)
      have HQcw := Lib.hid hqz
      clear hwa hMz hPz hqz
      have hca := HC.out.1 Vf _ HQcw.out.pst
      unfold PtrV at hca
      go_wp2_with fail
      (with_reducible refine hca.mono ?_)
      rintro e Vg ⟨b2, rfl, hMy, hPy, hEy⟩
      have hqy := HQcw.out.go hMy hPy (HC.out.2.2.1 _)
      obtain ⟨vy, hvy⟩ := hqy.cell 6 (by decide)
      have hfy := hqy.frozen 6
      have hqp := hqy.putOn (PtrV b2) (E (s1.name.2.wants [wOn])).1 (fun he => PRes.optAt HQcw.out.lts (hEy he))
      unfold PtrV at *
      clear hca hEy HQc
      have HQ := HQcw
      clear HQcw
      have hx : x3 = ({ x2.1 with joinAt := s1.now.pos, join := s1.name.1, on := some (E (s1.name.2.wants [wOn])).1 }, (E (s1.name.2.wants [wOn])).2) := by
        rw [← HX3.out]; unfold q3; simp only [HT.out.1]; rfl
      have HF := Lib.hid (hqp.as hx)
      clear hx hqp HQ HT
      go_wp2_with fail
      go_meet
      exact HF.out
  case rest =>
  have HQ3 := Lib.hid hcut
  clear HQ HT hcut
  generalize wc = V3 at *
  -- WHERE
  obtain ⟨x4, hx4⟩ : ∃ y, q4 E x3 = y := ⟨_, rfl⟩
  obtain ⟨⟨b, s1⟩, ht⟩ : ∃ y, x3.2.takes wWhere = y := ⟨_, rfl⟩
  have htk : Calls Tryz.prog 59 #[PtrV pb, .string ⟨#[87, 72, 69, 82, 69]⟩] V3 _ := takes_any V3 pb tg x3.2 f HQ3.out.pst wWhere
  have hta := Aft.takes x3.2 wWhere
  rw [ht] at htk hta
  unfold PtrV at htk
  have HX4 := Lib.hid hx4
  have HT := Lib.hid (And.intro ht hta)
  clear hx4 ht hta
  go_upto_if 62 with ((with_reducible refine htk.mono ?_); rintro e W1 ⟨rfl, hM1, hP1⟩)
  have hq1 := HQ3.out.go hM1 hP1 HT.out.2
  have HQ := Lib.hid hq1
  clear htk hM1 hP1 hq1 HQ3
  go_cut [] from 63 to 67 (fun wx => QInv pb tg f w qb x4 wx)
  case first =>
    cases b with
    | false =>
      have fin : QInv pb tg f w qb x4 W1 := by
        have hx : x4 = (x3.1, s1) := by
          rw [← HX4.out]; unfold q4; simp only [HT.out.1]; rfl
        rw [hx]; exact HQ.out
      have HF := Lib.hid fin
      clear fin HQ HT
      go_wp2_with fail
      go_meet
      exact HF.out
    | true =>
      have hca := HC.out.1 W1 s1 HQ.out.pst
      unfold PtrV at hca
      go_wp2_with fail
      (with_reducible refine hca.mono ?_)
      rintro e Vg ⟨b2, rfl, hMy, hPy, hEy⟩
      have hqy := HQ.out.go hMy hPy (HC.out.2.2.1 _)
      obtain ⟨vy, hvy⟩ := hqy.cell 7 (by decide)
      have hfy := hqy.frozen 7
      have hqp := hqy.putWhr (PtrV b2) (E s1).1 (fun he => PRes.optAt HQ.out.lts (hEy he))
      unfold PtrV at *
      clear hca hEy
      have hx : x4 = ({ x3.1 with whr := some (E s1).1 }, (E s1).2) := by
        rw [← HX4.out]; unfold q4; simp only [HT.out.1]; rfl
      have HF := Lib.hid (hqp.as hx)
      clear hx hqp HQ HT
      go_wp2_with fail
      go_meet
      exact HF.out
  case rest =>
  have HQ4 := Lib.hid hcut
  clear HQ HT hcut
  generalize wc = V4 at *
  -- GROUP
  obtain ⟨x5, hx5⟩ : ∃ y, q5 x4 = y := ⟨_, rfl⟩
  obtain ⟨⟨b, s1⟩, ht⟩ : ∃ y, x4.2.takes wGroup = y := ⟨_, rfl⟩
  have htk : Calls Tryz.prog 59 #[PtrV pb, .string ⟨#[71, 82, 79, 85, 80]⟩] V4 _ := takes_any V4 pb tg x4.2 f HQ4.out.pst wGroup
  have hta := Aft.takes x4.2 wGroup
  rw [ht] at htk hta
  unfold PtrV at htk
  have HX5 := Lib.hid hx5
  have HT := Lib.hid (And.intro ht hta)
  clear hx5 ht hta
  go_upto_if 69 with ((with_reducible refine htk.mono ?_); rintro e W1 ⟨rfl, hM1, hP1⟩)
  have hq1 := HQ4.out.go hM1 hP1 HT.out.2
  have HQ := Lib.hid hq1
  clear htk hM1 hP1 hq1 HQ4
  go_cut [] from 70 to 79 (fun wx => QInv pb tg f w qb x5 wx)
  case first =>
    cases b with
    | false =>
      have fin : QInv pb tg f w qb x5 W1 := by
        have hx : x5 = (x4.1, s1) := by
          rw [← HX5.out]; unfold q5; simp only [HT.out.1]; rfl
        rw [hx]; exact HQ.out
      have HF := Lib.hid fin
      clear fin HQ HT
      go_wp2_with fail
      go_meet
      exact HF.out
    | true =>
      have hwa : Calls Tryz.prog 58 #[PtrV pb, .slice (some ⟨W1.heap.size, 0, none⟩) 1 1] (W1.alloc (.cells #[.string ⟨#[66, 89]⟩] 9)) _ := wants_one W1 pb tg _ f HQ.out.pst wBy
      unfold PtrV at hwa
      go_wp2_with fail
      (with_reducible refine hwa.mono ?_)
      rintro e Vf ⟨rfl, hMz, hPz⟩
      have hqz := HQ.out.go hMz hPz (Aft.wants _ _)
      have HQw := Lib.hid hqz
      clear hwa hMz hPz hqz
      have hca := list_column Vf pb tg f (s1.wants [wBy]) HQw.out.pst HQw.out.2.2.2.2.2.1 _ goes_column HC.out.2.2.2.2
      unfold PtrV at hca
      go_wp2_with fail
      (with_reducible refine hca.mono ?_)
      rintro e Vg ⟨g, cap, css, rfl, hMy, hPy, hgy, hgy2, hcy, hcells, hAy⟩
      have hqy := HQw.out.go hMy hPy (goes_list goes_column (s1.wants [wBy]))
      obtain ⟨vy, hvy⟩ := hqy.cell 8 (by decide)
      have hfy := hqy.frozen 8
      have hqp := hqy.putGroup (.slice (some ⟨g, 0, none⟩) (listF columnF (s1.wants [wBy])).1.length cap) (listF columnF (s1.wants [wBy])).1 (fun he => ListRes.listAt treeRep HQw.out.lts hgy hcy hcells (hAy he))
      clear hca hgy hgy2 hcy hcells hAy HQw
      have hx : x5 = ({ x4.1 with group := (listF columnF (s1.wants [wBy])).1 }, (listF columnF (s1.wants [wBy])).2) := by
        rw [← HX5.out]; unfold q5; simp only [HT.out.1]; rfl
      have HF := Lib.hid (hqp.as hx)
      clear hx hqp HQ HT
      go_wp2_with fail
      go_meet
      exact HF.out
  case rest =>
  have HQ5 := Lib.hid hcut
  clear HQ HT hcut
  generalize wc = V5 at *
  -- ORDER
  obtain ⟨x6, hx6⟩ : ∃ y, q6 x5 = y := ⟨_, rfl⟩
  obtain ⟨⟨b, s1⟩, ht⟩ : ∃ y, x5.2.takes wOrder = y := ⟨_, rfl⟩
  have htk : Calls Tryz.prog 59 #[PtrV pb, .string ⟨#[79, 82, 68, 69, 82]⟩] V5 _ := takes_any V5 pb tg x5.2 f HQ5.out.pst wOrder
  have hta := Aft.takes x5.2 wOrder
  rw [ht] at htk hta
  unfold PtrV at htk
  have HX6 := Lib.hid hx6
  have HT := Lib.hid (And.intro ht hta)
  clear hx6 ht hta
  go_upto_if 81 with ((with_reducible refine htk.mono ?_); rintro e W1 ⟨rfl, hM1, hP1⟩)
  have hq1 := HQ5.out.go hM1 hP1 HT.out.2
  have HQ := Lib.hid hq1
  clear htk hM1 hP1 hq1 HQ5
  go_cut [] from 82 to 91 (fun wx => QInv pb tg f w qb x6 wx)
  case first =>
    cases b with
    | false =>
      have fin : QInv pb tg f w qb x6 W1 := by
        have hx : x6 = (x5.1, s1) := by
          rw [← HX6.out]; unfold q6; simp only [HT.out.1]; rfl
        rw [hx]; exact HQ.out
      have HF := Lib.hid fin
      clear fin HQ HT
      go_wp2_with fail
      go_meet
      exact HF.out
    | true =>
      have hwa : Calls Tryz.prog 58 #[PtrV pb, .slice (some ⟨W1.heap.size, 0, none⟩) 1 1] (W1.alloc (.cells #[.string ⟨#[66, 89]⟩] 9)) _ := wants_one W1 pb tg _ f HQ.out.pst wBy
      unfold PtrV at hwa
      go_wp2_with fail
      (with_reducible refine hwa.mono ?_)
      rintro e Vf ⟨rfl, hMz, hPz⟩
      have hqz := HQ.out.go hMz hPz (Aft.wants _ _)
      have HQw := Lib.hid hqz
      clear hwa hMz hPz hqz
      have hca := list_key Vf pb tg f (s1.wants [wBy]) HQw.out.pst HQw.out.2.2.2.2.2.1 _ goes_key HC.out.2.2.2.1
      unfold PtrV at hca
      go_wp2_with fail
      (with_reducible refine hca.mono ?_)
      rintro e Vg ⟨g, cap, css, rfl, hMy, hPy, hgy, hgy2, hcy, hcells, hAy⟩
      have hqy := HQw.out.go hMy hPy (goes_list goes_key (s1.wants [wBy]))
      obtain ⟨vy, hvy⟩ := hqy.cell 9 (by decide)
      have hfy := hqy.frozen 9
      have hqp := hqy.putOrder (.slice (some ⟨g, 0, none⟩) (listF keyF (s1.wants [wBy])).1.length cap) (listF keyF (s1.wants [wBy])).1 (fun he => ListRes.listAt keyRep HQw.out.lts hgy hcy hcells (hAy he))
      clear hca hgy hgy2 hcy hcells hAy HQw
      have hx : x6 = ({ x5.1 with order := (listF keyF (s1.wants [wBy])).1 }, (listF keyF (s1.wants [wBy])).2) := by
        rw [← HX6.out]; unfold q6; simp only [HT.out.1]; rfl
      have HF := Lib.hid (hqp.as hx)
      clear hx hqp HQ HT
      go_wp2_with fail
      go_meet
      exact HF.out
  case rest =>
  have HQ6 := Lib.hid hcut
  clear HQ HT hcut
  generalize wc = V6 at *
  -- LIMIT
  obtain ⟨x7, hx7⟩ : ∃ y, q7 x6 = y := ⟨_, rfl⟩
  obtain ⟨⟨b, s1⟩, ht⟩ : ∃ y, x6.2.takes wLimit = y := ⟨_, rfl⟩
  have htk : Calls Tryz.prog 59 #[PtrV pb, .string ⟨#[76, 73, 77, 73, 84]⟩] V6 _ := takes_any V6 pb tg x6.2 f HQ6.out.pst wLimit
  have hta := Aft.takes x6.2 wLimit
  rw [ht] at htk hta
  unfold PtrV at htk
  have HX7 := Lib.hid hx7
  have HT := Lib.hid (And.intro ht hta)
  clear hx7 ht hta
  go_upto_if 93 with ((with_reducible refine htk.mono ?_); rintro e W1 ⟨rfl, hM1, hP1⟩)
  have hq1 := HQ6.out.go hM1 hP1 HT.out.2
  have HQ := Lib.hid hq1
  clear htk hM1 hP1 hq1 HQ6
  go_cut [] from 94 to 98 (fun wx => QInv pb tg f w qb x7 wx)
  case first =>
    cases b with
    | false =>
      have fin : QInv pb tg f w qb x7 W1 := by
        have hx : x7 = (x6.1, s1) := by
          rw [← HX7.out]; unfold q7; simp only [HT.out.1]; rfl
        rw [hx]; exact HQ.out
      have HF := Lib.hid fin
      clear fin HQ HT
      go_wp2_with fail
      go_meet
      exact HF.out
    | true =>
      have hca := count_any W1 pb tg s1 f HQ.out.pst
      unfold PtrV at hca
      go_wp2_with fail
      (with_reducible refine hca.mono ?_)
      rintro e W2 ⟨rfl, hMy, hPy⟩
      have hqy := HQ.out.go hMy hPy (aft_count s1)
      obtain ⟨vy, hvy⟩ := hqy.cell 10 (by decide)
      have hfy := hqy.frozen 10
      have hqp := hqy.putLimit s1.count.1
      clear hca
      have hx : x7 = ({ x6.1 with limit := s1.count.1 }, s1.count.2) := by
        rw [← HX7.out]; unfold q7; simp only [HT.out.1]; rfl
      have HF := Lib.hid (hqp.as hx)
      clear hx hqp HQ HT
      go_wp2_with fail
      go_meet
      exact HF.out
  case rest =>
  have HQ7 := Lib.hid hcut
  clear HQ HT hcut
  generalize wc = V7 at *
  -- OFFSET
  obtain ⟨x8, hx8⟩ : ∃ y, q8 x7 = y := ⟨_, rfl⟩
  obtain ⟨⟨b, s1⟩, ht⟩ : ∃ y, x7.2.takes wOffset = y := ⟨_, rfl⟩
  have htk : Calls Tryz.prog 59 #[PtrV pb, .string ⟨#[79, 70, 70, 83, 69, 84]⟩] V7 _ := takes_any V7 pb tg x7.2 f HQ7.out.pst wOffset
  have hta := Aft.takes x7.2 wOffset
  rw [ht] at htk hta
  unfold PtrV at htk
  have HX8 := Lib.hid hx8
  have HT := Lib.hid (And.intro ht hta)
  clear hx8 ht hta
  go_upto_if 100 with ((with_reducible refine htk.mono ?_); rintro e W1 ⟨rfl, hM1, hP1⟩)
  have hq1 := HQ7.out.go hM1 hP1 HT.out.2
  have HQ := Lib.hid hq1
  clear htk hM1 hP1 hq1 HQ7
  go_cut [] from 101 to 105 (fun wx => QInv pb tg f w qb x8 wx)
  case first =>
    cases b with
    | false =>
      have fin : QInv pb tg f w qb x8 W1 := by
        have hx : x8 = (x7.1, s1) := by
          rw [← HX8.out]; unfold q8; simp only [HT.out.1]; rfl
        rw [hx]; exact HQ.out
      have HF := Lib.hid fin
      clear fin HQ HT
      go_wp2_with fail
      go_meet
      exact HF.out
    | true =>
      have hca := count_any W1 pb tg s1 f HQ.out.pst
      unfold PtrV at hca
      go_wp2_with fail
      (with_reducible refine hca.mono ?_)
      rintro e W2 ⟨rfl, hMy, hPy⟩
      have hqy := HQ.out.go hMy hPy (aft_count s1)
      obtain ⟨vy, hvy⟩ := hqy.cell 11 (by decide)
      have hfy := hqy.frozen 11
      have hqp := hqy.putOffset s1.count.1
      clear hca
      have hx : x8 = ({ x7.1 with offset := s1.count.1 }, s1.count.2) := by
        rw [← HX8.out]; unfold q8; simp only [HT.out.1]; rfl
      have HF := Lib.hid (hqp.as hx)
      clear hx hqp HQ HT
      go_wp2_with fail
      go_meet
      exact HF.out
  case rest =>
  have HQ8 := Lib.hid hcut
  clear HQ HT hcut
  generalize wc = V8 at *
  -- the end
  have hxR : R = x8 := by rw [← HR.out, ← HX8.out, ← HX7.out, ← HX6.out, ← HX5.out, ← HX4.out, ← HX3.out, ← HX2.out, ← HX1.out]; rfl
  have hwfw : WfT x8.2.rest.tail := by
    have h1 : WfT x8.2.rest := by obtain ⟨l, -, -, h3, -⟩ := HQ8.out.pst; exact h3
    have h2 : WfT x8.2.rest.dropLast := by
      rw [← hxR, ← HR.out]
      exact (aft_query HC.out.2.2.1 s).wf2 HW.out.2.2
    exact wf_tail2 h1 h2
  have hof : Calls Tryz.prog 70 #[PtrV pb, .int .i64 0] V8 _ := of_any V8 pb tg x8.2 f HQ8.out.pst 0 (fun _ _ => hwfw)
  unfold PtrV at hof
  have hfail : (x8.2.of 0).2.2.e = 0 → x8.2.e = 0 := by
    unfold PS.of
    split
    · rename_i h1; exact fun _ => h1.1
    · intro h1
      unfold PS.fail at h1
      split at h1
      · cases h1
      · exact h1
  have HF := Lib.hid (And.intro hfail (And.intro hqb hxR))
  clear hfail hwfw hxR hqb
  go_wp2_with fail
  (with_reducible refine hof.mono ?_)
  rintro e Ve ⟨rfl, hMe, hPe⟩
  clear hof
  go_wp2_with fail
  go_ret
  rw [HF.out.2.2]
  obtain ⟨z1, z2, z3, z4, z5, z6, vi, von, vwh, vg, vo, z7, z8⟩ := HQ8.out
  refine ⟨qb, rfl, z1.trans hMe (by simp), hPe, z3, fun he => ⟨vi, von, vwh, vg, vo, hMe.heap z7 (by simp; omega), ?_⟩⟩
  have q := (z8 (HF.out.1 he)).mods (hMe.mono (by simp))
  exact ⟨q.1.weaken itemRep (by simp), q.2.1.weaken (by simp), q.2.2.1.weaken (by simp), q.2.2.2.1.weaken treeRep (by simp), q.2.2.2.2.weaken keyRep (by simp)⟩
end Go.Proofs.YtpokbepenacnpaaGreatDoor

namespace Go.Proofs.YtpokbepenacnpaaGreatDoor
open Go.RowKit
set_option linter.unusedVariables false

/-- A text's query, or where and how it fails: what is too long, too. -/
def parseV (l : Bs) : Parsed := if 4096 < l.length then .bad 0 5 else parseAll l
/-- What Parse hands back. -/
def ParsePost (w : World) (r : Parsed) (e : Ending) (w' : World) : Prop :=
  Mods [] w w' ∧ match r with
    | .bad p k => e = .returned (.tuple #[.pointer none, .int .i64 p, .int .i64 k])
    | .good q => QueryOk q ∧ ∃ qb, e = .returned (.tuple #[PtrV qb, .int .i64 0, .int .i64 0]) ∧ w.heap.size ≤ qb ∧ QueryAt w' [] qb q

theorem own_cap {w : World} {T : TypeId} {size g n cap : Nat} {xs : List Value} (h : w.ownsRow 0 T size (.slice (some ⟨g, 0, none⟩) n cap) n xs) : cap ≤ 9223372036854775807 := by
  rcases h.2 with ⟨hv, -⟩ | ⟨g', cap', cur, hv, -, -, hc, hm, -⟩
  · cases hv
  · simp only [Value.slice.injEq] at hv
    rw [hv.2.2]
    unfold maxLen at hm
    omega
theorem QueryAt.weaken {w : World} {L L' : List Nat} {qb : Nat} {q : QueryT} (h : QueryAt w L qb q) (hL : ∀ x ∈ L', x ∈ L) : QueryAt w L' qb q := by
  obtain ⟨vi, von, vwh, vg, vo, h1, h2⟩ := h
  exact ⟨vi, von, vwh, vg, vo, h1, h2.1.weaken itemRep hL, h2.2.1.weaken hL, h2.2.2.1.weaken hL, h2.2.2.2.1.weaken treeRep hL, h2.2.2.2.2.weaken keyRep hL⟩
theorem QueryAt.later {w w' : World} {qb : Nat} {q : QueryT} (h : QueryAt w [] qb q) (hM : Mods [] w w') : QueryAt w' [] qb q := by
  obtain ⟨vi, von, vwh, vg, vo, h1, h2⟩ := h
  exact ⟨vi, von, vwh, vg, vo, hM.heap h1 (by simp), h2.mods hM⟩
theorem parseT_split (ts : List Tok) : ∃ q s9, (queryF (lvl 64).expr ⟨ts ++ ts.drop (ts.length - 1), 0, 0⟩).1 = q ∧ ((queryF (lvl 64).expr ⟨ts ++ ts.drop (ts.length - 1), 0, 0⟩).2.of 0).2.2 = s9 ∧ parseT ts = if s9.e = 0 then .good q else .bad s9.pos s9.e := ⟨_, _, rfl, rfl, rfl⟩

set_option maxRecDepth 100000 in
set_option maxHeartbeats 4000000 in
theorem parse_any (w : World) (hT : Tabs w) (s : ByteArray) (hsz : s.size ≤ 9223372036854775807) :
    Calls Tryz.prog 10 #[.string s] w (ParsePost w (parseV s.data.toList)) := by
  have hall := all_any w hT s (by omega)
  obtain ⟨i0, hi, hz0, hz1, hz2⟩ := info_parts (show (Tryz.prog.info? 75).map (fun i => (i.zero, i.size, i.bytes)) = some (some (.agg (tokCells 0 0 ⟨#[]⟩ 0 0)), 5, 48) by kernel_rfl)
  have hlen : s.data.toList.length = s.size := rfl
  have HLEN := Lib.hid hlen
  by_cases hbig : 4096 < s.size
  · have hv : parseV s.data.toList = .bad 0 5 := by unfold parseV; rw [if_pos (by rw [hlen]; exact hbig)]
    have FIN : Hid (∀ w', Mods [] w w' → ParsePost w (parseV s.data.toList) (.returned (.tuple #[.pointer none, .int .i64 0, .int .i64 5])) w') := Lib.hid fun w' h => ⟨h, by rw [hv]; rfl⟩
    have ha : Calls Tryz.prog 28 #[.string s] w fun e w' => e = .returned (.tuple #[.slice none 0 0, .int .i64 0, .int .i64 5]) ∧ Mods [] w w' := hall.mono fun e w' h => by unfold AllPost at h; rw [if_pos hbig] at h; exact h
    clear hall hv hlen hbig
    go_enter Tryz.func10, Tryz.ntmps10
    go_wp2_with fail
    (with_reducible refine ha.mono ?_)
    rintro e w2 ⟨rfl, hM2⟩
    clear ha
    go_wp2_with fail
    go_returns
    exact FIN.out w2 hM2
  · cases hl : lexAll s.data.toList with
    | bad p =>
      have hv : parseV s.data.toList = .bad p 8 := by unfold parseV; rw [if_neg (by rw [hlen]; exact hbig)]; unfold parseAll; rw [hl]
      have FIN : Hid (∀ w', Mods [] w w' → ParsePost w (parseV s.data.toList) (.returned (.tuple #[.pointer none, .int .i64 p, .int .i64 8])) w') := Lib.hid fun w' h => ⟨h, by rw [hv]; rfl⟩
      have ha : Calls Tryz.prog 28 #[.string s] w fun e w' => e = .returned (.tuple #[.slice none 0 0, .int .i64 p, .int .i64 8]) ∧ Mods [] w w' := hall.mono fun e w' h => by unfold AllPost at h; rw [if_neg hbig, hl] at h; exact h
      clear hall hv hlen hbig hl
      go_enter Tryz.func10, Tryz.ntmps10
      go_wp2_with fail
      (with_reducible refine ha.mono ?_)
      rintro e w2 ⟨rfl, hM2⟩
      clear ha
      go_wp2_with fail
      go_returns
      exact FIN.out w2 hM2
    | good ts =>
      have hv : parseV s.data.toList = parseT ts := by unfold parseV; rw [if_neg (by rw [hlen]; exact hbig)]; unfold parseAll; rw [hl]
      have hbeg := begin_ok hl (by omega)
      have hts : ts.length ≤ 4097 := by have := lexAll_len hl; omega
      obtain ⟨qz, I, hI, -⟩ := lexAll_ok hl
      have ha : Calls Tryz.prog 28 #[.string s] w fun e w' => ∃ t, e = .returned (.tuple #[t, .int .i64 0, .int .i64 0]) ∧ ToksOwn 75 w w' t ts := hall.mono fun e w' h => by unfold AllPost at h; rw [if_neg hbig, hl] at h; exact h
      rw [hv]
      have hne := lexAll_ne hl
      have hpos : 0 < ts.length := List.length_pos_iff.2 hne
      obtain ⟨q, s9, hq, hs9, hpt⟩ := parseT_split ts
      obtain ⟨RR, hRR⟩ : ∃ RR, parseT ts = RR := ⟨_, rfl⟩
      rw [hRR]
      rw [hRR] at hpt
      have HQ := Lib.hid (And.intro hq (And.intro hs9 (And.intro hbeg (And.intro hI hpt))))
      clear hall hv hlen hbig hl hpt hq hs9 hbeg hI hRR
      go_enter Tryz.func10, Tryz.ntmps10
      go_wp2_with fail
      (with_reducible refine ha.mono ?_)
      rintro e w2 ⟨t, rfl, hO⟩
      obtain ⟨g, cap, rfl, hat, hcap⟩ := hO.at hne
      obtain ⟨k0, k1, k2, k3, k4⟩ := hat.tok (ts.length - 1) (by omega)
      obtain ⟨u, hu⟩ : ∃ u, ts[ts.length - 1] = u := ⟨_, rfl⟩
      rw [hu] at k0 k1 k2 k3 k4
      have hdr : ts.drop (ts.length - 1) = [u] := by
        rw [List.drop_eq_getElem_cons (by omega), hu]
        simp
        omega
      have HO := Lib.hid (And.intro hO (And.intro hu hdr))
      have hMw2 : Mods [] w w2 := hO.1
      have hown2 := hO.2.1
      clear ha hO hat hne hu hdr
      go_wp2_with (at_builtin; refine wpList_app _ rfl _ _ 71 rfl 75 i0 _ 5 48 Tryz.underlying71 hi hz0 hz1 hz2 rfl (by decide) (.slice (some ⟨g, 0, none⟩) ts.length cap) ts.length (toksC ts) rfl ((hown2.alloc _).alloc _) ⟨w2.heap.size + 1, 0, none⟩ 1 1 (tokC1 u) rfl rfl ?c1 (tokC1_one _) (by decide) ?c3 ?c4 ?_)
      case c1 => exact cells_new5b _ _ _ _ _ _ _ _
      case c3 => unfold maxLen; omega
      case c4 => omega
      intro g' cap2 w7 hown7 hM7 hg7
      have hMA := ((Mods.refl [] w2).alloc (.cells (tokCells u.kind u.pos ⟨u.s.toArray⟩ u.n u.scale) 75)).alloc (.cells (tokCells u.kind u.pos ⟨u.s.toArray⟩ u.n u.scale) 75)
      have hgw : w.heap.size ≤ g := HO.out.1.2.2 g rfl
      have hMw7 : Mods [] w w7 := (hMw2.trans hMA (by simp)).trans hM7 (fun x hx => .inr ((show x = g by simpa [Value.ownBlock] using hx) ▸ hgw))
      have hoo := own_out hown7
      have hcc := own_cap hown7
      have hhq := HQ.out
      rw [HO.out.2.2] at hhq
      obtain ⟨e1, e2, hbeg, hI, hpt⟩ := hhq
      have hpb := heap_alloc_new w7 (.cells #[.slice (some ⟨g', 0, none⟩) (ts.length + 1) cap2, .int .i64 0, .int .i64 0, .int .i64 0] 78)
      have hMb := (Mods.refl [] w7).alloc (.cells #[.slice (some ⟨g', 0, none⟩) (ts.length + 1) cap2, .int .i64 0, .int .i64 0, .int .i64 0] 78)
      have hps : PSt (w7.alloc (.cells #[.slice (some ⟨g', 0, none⟩) (ts.length + 1) cap2, .int .i64 0, .int .i64 0, .int .i64 0] 78)) w7.heap.size g' ⟨ts ++ [u], 0, 0⟩ 64 :=
        ⟨_, hpb, ⟨0, cap2, by simp, by simpa using hoo.2.1, hcc, fun j v hj => hMb.cell (by rw [Nat.zero_add]; exact hoo.2.2 j v (by rw [← toksC_snoc]; exact hj)) (by simp)⟩, hbeg.1, by decide, by omega⟩
      have hqa := query_any _ w7.heap.size g' 64 ⟨ts ++ [u], 0, 0⟩ hps hbeg.2.2.2 hbeg.2.1
      rw [e1, e2] at hqa
      have hqok : QueryOk q := by
        rw [← e1]
        exact (queryF_ok (goes_lvl 64).expr (fine_lvl 64).expr (s := ⟨ts ++ [u], 0, 0⟩) hbeg.2.2.1 hbeg.2.2.2).1
      have HF := Lib.hid (And.intro hMw7 (And.intro hMb (And.intro hqok (And.intro hpt hMw7.size))))
      unfold PtrV at hqa
      clear hps hpb hMb hMw7 hMA hoo hcc hbeg hI hpt hown7 hown2 hM7 hg7 HQ HO e1 e2 hqok hMw2 k0 k1 k2 k3 k4 hgw hcap
      go_wp2_with fail
      (with_reducible refine hqa.mono ?_)
      rintro e w9 ⟨qb, rfl, hM9, hP9, hqb, hQA⟩
      (try unfold PtrV)
      clear hqa
      obtain ⟨off, cap9, hb9, -⟩ := hP9.tok
      have c2 := cell_of_heap hb9 2
      have c3 := cell_of_heap hb9 3
      change w9.cell? _ = some (.int .i64 s9.pos) at c2
      change w9.cell? _ = some (.int .i64 s9.e) at c3
      have HG := Lib.hid (And.intro hM9 (And.intro hqb hQA))
      clear hb9 hP9 hM9 hqb hQA
      have hMf : Mods [] w w9 := (HF.out.1.trans HF.out.2.1 (by simp)).trans HG.out.1 (fun x hx => .inr (by
        obtain rfl : x = w7.heap.size := by simpa using hx
        exact HF.out.2.2.2.2))
      by_cases he : s9.e = 0
      · have z0 : ((s9.e : Int) != 0) = false := bne_eq_false_iff_eq.2 (by omega)
        have hfin : ParsePost w RR (.returned (.tuple #[PtrV qb, .int .i64 0, .int .i64 0])) w9 := by
          have hRR : RR = .good q := by rw [HF.out.2.2.2.1, if_pos he]
          rw [hRR]
          refine ⟨hMf, HF.out.2.2.1, qb, rfl, ?_, (HG.out.2.2 he).weaken (by simp)⟩
          have h1 := HG.out.2.1
          have h2 := HF.out.2.2.2.2
          rw [size_alloc] at h1
          omega
        have HFIN := Lib.hid hfin
        clear hfin he
        go_wp2_with fail
        go_returns
        exact HFIN.out
      · have z0 : ((s9.e : Int) != 0) = true := bne_iff_ne.2 (by omega)
        have hfin : ∀ n, ParsePost w RR (.returned (.tuple #[.pointer none, .int .i64 s9.pos, .int .i64 s9.e])) (w9.drewN n) := fun n => by
          have hRR : RR = .bad s9.pos s9.e := by rw [HF.out.2.2.2.1, if_neg he]
          rw [hRR]
          exact ⟨hMf.drewN n, rfl⟩
        have HFIN := Lib.hid hfin
        clear hfin he
        go_wp2_with fail
        go_quiet (fail)
        generalize hw : w9.drewN nq = wz
        go_wp2_with fail
        go_returns
        rw [← hw]
        exact HFIN.out _
end Go.Proofs.YtpokbepenacnpaaGreatDoor
