/-
  The law's same, walked: the places of the query and of the document's are the same. No condition.
-/
import Derived.Test.YtpokbepenacnpaaGreatDoorMQu
import Derived.Test.YtpokbepenacnpaaGreatDoorRpQ
import Derived.Deep.CutRange
import Derived.Deep.RegionLaw
import Derived.BigQuiet
namespace Go.Proofs.YtpokbepenacnpaaGreatDoor
open Go.RowKit
set_option linter.unusedVariables false

theorem IntsOwn.other {w wr w' : World} {t : Value} {l : List Int} (h : IntsOwn w wr t l) {L : List Nat} (hM : Mods L wr w') (hn : ∀ g, t.ownBlock = some g → g ∉ L) (hL : ∀ x ∈ L, w.heap.size ≤ x) : IntsOwn w w' t l :=
  ⟨h.1.trans hM (fun x hx => .inr (hL x hx)), ownsRow_mods h.2.1 hM hn, h.2.2⟩
/-- Two lists that grow, apart from one another. -/
def Two (w wr : World) (a b : Value) (l m : List Int) : Prop := IntsOwn w wr a l ∧ IntsOwn w wr b m ∧ ∀ g, a.ownBlock = some g → b.ownBlock ≠ some g
theorem Two.quiet {w wr w' : World} {a b : Value} {l m : List Int} (h : Two w wr a b l m) (hM : Mods [] wr w') : Two w w' a b l m := ⟨h.1.quiet hM, h.2.1.quiet hM, h.2.2⟩
theorem Two.turn {w wr : World} {a b : Value} {l m : List Int} (h : Two w wr a b l m) : Two w wr b a m l := ⟨h.2.1, h.1, fun g hg he => h.2.2 g he hg⟩
theorem Two.push {w wr w' : World} {a b : Value} {l m : List Int} (h : Two w wr a b l m) {l2 : List Int} {g cap k : Nat} (hk : l2.length = k) (hown : w'.ownsRow 0 3 1 (.slice (some ⟨g, 0, none⟩) (l.length + k) cap) (l.length + k) (intsV l ++ intsV l2))
    (hM : Mods a.ownBlock.toList wr w') (hg : a.ownBlock = some g ∨ wr.heap.size ≤ g) : Two w w' (.slice (some ⟨g, 0, none⟩) (l.length + k) cap) b (l ++ l2) m := by
  obtain ⟨h1, h2, h3⟩ := h
  have hb : ∀ x, b.ownBlock = some x → x < wr.heap.size := fun x hx => ownsRow_lt h2.2.1 x (by simp [hx])
  refine ⟨h1.push hk hown hM hg, h2.other hM (fun x hx hm => h3 x (by simpa using hm) hx) (fun x hx => h1.2.2 x (by simpa using hx)), fun x hx he => ?_⟩
  obtain rfl : g = x := by simpa [Value.ownBlock] using hx
  rcases hg with hg | hg
  · exact h3 _ hg he
  · have := hb _ he; omega
theorem placesO_ne (o : Option Tree) : placesO o ≠ [] := by
  cases o with
  | none => simp [placesO]
  | some t => cases t <;> simp [placesO, placesT]
theorem placesT_ne (t : Tree) : placesT t ≠ [] := by cases t <;> simp [placesT]

set_option maxRecDepth 100000 in
set_option maxHeartbeats 8000000 in
theorem same_any (w : World) (qb rb : Nat) (q : QueryT) (hq : QueryAt w [] qb q) (hr : QueryD w rb q) (hok : QueryOk q) :
    Calls Tryz.prog 12 #[PtrV qb, PtrV rb] w fun e w' => e = .returned (.bool true) ∧ Mods [] w w' := by
  obtain ⟨i0, hi, hz0, hz1, hz2⟩ := info_parts (show (Tryz.prog.info? 3).map (fun i => (i.zero, i.size, i.bytes)) = some (some (.int .i64 0), 1, 8) by kernel_rfl)
  obtain ⟨vi, von, vwh, vg, vo, hb, hp1, hp2, hp3, hp4, hp5⟩ := hq
  obtain ⟨wq, di, don, dwh, dgr, dor, hb2, hD⟩ := hr
  obtain ⟨ai, ci, rfl, hai⟩ := hp1.read itemLen
  obtain ⟨ao, co, rfl, hao⟩ := hp5.read keyLen
  obtain ⟨ei, ki, rfl, hei⟩ := hD.items.read itemDRep itemDLen
  obtain ⟨eo, ko, rfl, heo⟩ := hD.order.read keyRep keyLen
  obtain ⟨hq2, hq3⟩ := hD.opts rfl [] (by simp)
  have hn1 := hok.items
  have hn3 := hok.order
  have hl2 := placesO_len hok.on
  have hl3 := placesO_len hok.whr
  have hbi : ∀ i, (places0 q ++ placesI (q.items.take i)).length ≤ 300000000 := fun i => by
    have h1 := placesI_len (l := q.items.take i) (fun x hx => hn1.2 x (List.mem_of_mem_take hx))
    have h2 : (q.items.take i).length ≤ 10001 := by rw [List.length_take]; omega
    have h3 : (q.items.take i).length * 20001 ≤ 10001 * 20001 := Nat.mul_le_mul_right _ h2
    unfold places0
    rw [List.length_append, List.length_append]
    omega
  have hbo : ∀ i, (places0 q ++ placesI q.items ++ placesK (q.order.take i)).length ≤ 400000000 := fun i => by
    have h1 := hbi q.items.length
    rw [List.take_length] at h1
    have h2 : (placesK (q.order.take i)).length ≤ 10001 := by unfold placesK; rw [List.length_map, List.length_take]; omega
    rw [List.length_append]
    omega
  have HB : Hid (∀ W, Mods [] w W → W.heap[qb]? = some (.cells (queryC q (.slice ai q.items.length ci) von vwh vg (.slice ao q.order.length co)).toArray 93 (0, 0))) := Lib.hid fun W hM => hM.heap hb (by simp)
  have HD : Hid (∀ W, Mods [] w W → W.heap[rb]? = some (.cells (queryC q (.slice ei q.items.length ki) don dwh dgr (.slice eo q.order.length ko)).toArray 100 (0, 0))) := Lib.hid fun W hM => hM.heap hb2 (by simp)
  have h1 : ∀ W, Mods [] w W → Calls Tryz.prog 32 #[von] W fun e w' => ∃ r, e = .returned r ∧ IntsOwn W w' r (placesO q.on) := fun W hM => places_opt hp2 hM hok.on
  have h2 : ∀ W, Mods [] w W → Calls Tryz.prog 32 #[vwh] W fun e w' => ∃ r, e = .returned r ∧ IntsOwn W w' r (placesO q.whr) := fun W hM => places_opt hp3 hM hok.whr
  have h3 : ∀ W, Mods [] w W → Calls Tryz.prog 33 #[don] W fun e w' => ∃ r, e = .returned r ∧ IntsOwn W w' r (placesO q.on) := fun W hM => rplaces_opt hq2 hM hok.on
  have h4 : ∀ W, Mods [] w W → Calls Tryz.prog 33 #[dwh] W fun e w' => ∃ r, e = .returned r ∧ IntsOwn W w' r (placesO q.whr) := fun W hM => rplaces_opt hq3 hM hok.whr
  have HI := Lib.hid (And.intro hai (And.intro hao (And.intro hei (And.intro heo hn1.2))))
  have HC := Lib.hid (And.intro h1 (And.intro h2 (And.intro h3 h4)))
  have HL := Lib.hid (And.intro hbi hbo)
  have hn1 := hn1.1
  have hn3 := hn3.1
  unfold PtrV at *
  clear hb hb2 hp1 hp2 hp3 hp4 hp5 hD hok hai hao hei heo hq2 hq3 h1 h2 h3 h4 hbi hbo
  obtain ⟨n1, hnn1⟩ : ∃ n, q.items.length = n := ⟨_, rfl⟩
  obtain ⟨n3, hnn3⟩ : ∃ n, q.order.length = n := ⟨_, rfl⟩
  rw [hnn1] at HB HD hn1
  rw [hnn3] at HB HD hn3
  have HNN := Lib.hid (And.intro hnn1 hnn3)
  clear hnn1 hnn3
  obtain ⟨A, hA⟩ : ∃ A, placesO q.on = A := ⟨_, rfl⟩
  obtain ⟨B, hB⟩ : ∃ B, placesO q.whr = B := ⟨_, rfl⟩
  have hAB : places0 q = A ++ B := by unfold places0; rw [hA, hB]
  have hAn : A ≠ [] := by rw [← hA]; exact placesO_ne _
  have hBn : B ≠ [] := by rw [← hB]; exact placesO_ne _
  rw [hA] at hl2
  rw [hB] at hl3
  rw [hA, hB] at HC
  rw [hAB] at HL
  have HAB := Lib.hid (And.intro hAn hBn)
  clear hA hB hAB hAn hBn
  obtain ⟨na, hna⟩ : ∃ n, A.length = n := ⟨_, rfl⟩
  obtain ⟨nb, hnb⟩ : ∃ n, B.length = n := ⟨_, rfl⟩
  rw [hna] at hl2
  rw [hnb] at hl3
  have HN := Lib.hid (And.intro hna hnb)
  have hnp : 0 < nb := by rw [← hnb]; exact List.length_pos_iff.2 HAB.out.2
  clear hna hnb
  go_enter Tryz.func12, Tryz.ntmps12
  go_upto_region 1 with fail
  go_cut [5] from 10 to 20 (fun s5 wx => IntsOwn w wx s5 (A ++ B))
  case first =>
    have hd := (Mods.refl [] w).drew
    have c6 := cell_of_heap (HB.out w.drew hd) 6
    have c7 := cell_of_heap (HB.out w.drew hd) 7
    change w.drew.cell? _ = some von at c6
    change w.drew.cell? _ = some vwh at c7
    have hc1 := HC.out.1 w.drew hd
    have H2 := Lib.hid HC.out.2.1
    go_region_law (first | (go_simp; go_at_call 32; (with_reducible refine hc1.mono ?_); rintro e w2 ⟨r, rfl, hO2⟩; obtain ⟨g2, cap2, rfl, -, hg2, -⟩ := hO2.at HAB.out.1; rw [HN.out.1]; have e7 := hO2.1.cell c7 (by simp); have hc2 := H2.out w2 (hd.trans hO2.1 (by simp))) | (go_simp; go_at_call 32; (with_reducible refine hc2.mono ?_); rintro e w3 ⟨r, rfl, hO3⟩; obtain ⟨g3, cap3, rfl, -, hg3, hx3⟩ := hO3.at HAB.out.2; rw [HN.out.2]; have hown2 := (hO2.quiet hO3.1).2.1; rw [HN.out.1] at hown2) | ((refine step_app2 rfl (.tmp 14) (.tmp 19) 55 rfl 3 i0 (.int .i64 0) 1 8 Tryz.underlying55 hi hz0 hz1 hz2 rfl (by decide) (.slice (some ⟨g2, 0, none⟩) na cap2) na (intsV A) (by kernel_rfl) hown2 ⟨g3, 0, none⟩ nb cap3 (intsV B) (by kernel_rfl) (by rw [intsV_len, HN.out.2, Nat.mul_one]) (fun j u hu => by rw [addr_add, Nat.zero_add]; exact hx3 j u hu) (intsV_one _) hnp (by unfold maxLen; omega) (by omega) ?_); intro g5 cap5 w5 hown5 hM5 hg5))
    all_goals
      have hO5 := ((hO2.quiet hO3.1).push (l2 := B) HN.out.2 (by rw [HN.out.1]; exact hown5) (by rw [HN.out.1]; exact hM5) (by rw [HN.out.1]; exact hg5)).base hd
      have HO5 := Lib.hid hO5
      rw [HN.out.1] at HO5
      clear hown5 hM5 hg5 hO5 hown2 hx3 hO2 hO3
      go_wp2_with fail
      go_meet
      exact HO5.out
  case rest =>
  have HO1 := Lib.hid hcut
  clear hcut
  generalize wc = V1 at *
  obtain ⟨ga, ca, rfl, hca, hga, -⟩ := HO1.out.at (l := A ++ B) (by simpa using fun h => absurd h HAB.out.1)
  have hMV := HO1.out.1
  generalize hab : (A ++ B).length = nab at *
  have HNAB := Lib.hid hab
  clear hab
  go_upto_region 2 with fail
  go_cut [6] from 21 to 31 (fun s6 wx => IntsOwn V1 wx s6 (A ++ B))
  case first =>
    have hd := (Mods.refl [] V1).drew
    have hdw := hMV.trans hd (by simp)
    have c6 := cell_of_heap (HD.out V1.drew hdw) 6
    have c7 := cell_of_heap (HD.out V1.drew hdw) 7
    change V1.drew.cell? _ = some don at c6
    change V1.drew.cell? _ = some dwh at c7
    have hc1 := HC.out.2.2.1 V1.drew hdw
    have H2 := Lib.hid HC.out.2.2.2
    go_region_law (first | (go_simp; go_at_call 33; (with_reducible refine hc1.mono ?_); rintro e w2 ⟨r, rfl, hO2⟩; obtain ⟨g2, cap2, rfl, -, hg2, -⟩ := hO2.at HAB.out.1; rw [HN.out.1]; have e7 := hO2.1.cell c7 (by simp); have hc2 := H2.out w2 (hdw.trans hO2.1 (by simp))) | (go_simp; go_at_call 33; (with_reducible refine hc2.mono ?_); rintro e w3 ⟨r, rfl, hO3⟩; obtain ⟨g3, cap3, rfl, -, hg3, hx3⟩ := hO3.at HAB.out.2; rw [HN.out.2]; have hown2 := (hO2.quiet hO3.1).2.1; rw [HN.out.1] at hown2) | ((refine step_app2 rfl (.tmp 25) (.tmp 30) 55 rfl 3 i0 (.int .i64 0) 1 8 Tryz.underlying55 hi hz0 hz1 hz2 rfl (by decide) (.slice (some ⟨g2, 0, none⟩) na cap2) na (intsV A) (by kernel_rfl) hown2 ⟨g3, 0, none⟩ nb cap3 (intsV B) (by kernel_rfl) (by rw [intsV_len, HN.out.2, Nat.mul_one]) (fun j u hu => by rw [addr_add, Nat.zero_add]; exact hx3 j u hu) (intsV_one _) hnp (by unfold maxLen; omega) (by omega) ?_); intro g5 cap5 w5 hown5 hM5 hg5))
    all_goals
      have hO5 := ((hO2.quiet hO3.1).push (l2 := B) HN.out.2 (by rw [HN.out.1]; exact hown5) (by rw [HN.out.1]; exact hM5) (by rw [HN.out.1]; exact hg5)).base hd
      have HO5 := Lib.hid hO5
      rw [HN.out.1] at HO5
      clear hown5 hM5 hg5 hO5 hown2 hx3 hO2 hO3
      go_wp2_with fail
      go_meet
      exact HO5.out
  case rest =>
  have hO2 := hcut
  have hM2 := hcut.1
  clear hcut
  generalize wc = V2 at *
  obtain ⟨gb, cb, rfl, hcb, hgb, -⟩ := hO2.at (l := A ++ B) (by simpa using fun h => absurd h HAB.out.1)
  rw [HNAB.out] at hO2 hcb
  rw [HNAB.out]
  have hT : Two w V2 (.slice (some ⟨ga, 0, none⟩) nab ca) (.slice (some ⟨gb, 0, none⟩) nab cb) (A ++ B) (A ++ B) :=
    ⟨HO1.out.quiet hM2, hO2.base hMV, fun g hg he => by
      obtain rfl : ga = g := by simpa [Value.ownBlock] using hg
      obtain rfl : gb = ga := by simpa [Value.ownBlock] using he
      omega⟩
  have hMW := hMV.trans hM2 (by simp)
  have p1 := cell_of_heap (HB.out V2 hMW) 1
  have p4 := cell_of_heap (HB.out V2 hMW) 4
  have p5 := cell_of_heap (HB.out V2 hMW) 5
  have p9 := cell_of_heap (HB.out V2 hMW) 9
  have d1 := cell_of_heap (HD.out V2 hMW) 1
  have d4 := cell_of_heap (HD.out V2 hMW) 4
  have d5 := cell_of_heap (HD.out V2 hMW) 5
  have d9 := cell_of_heap (HD.out V2 hMW) 9
  change V2.cell? _ = some (.slice ai n1 ci) at p1
  change V2.cell? _ = some (.int .i64 q.srcAt) at p4
  change V2.cell? _ = some (.int .i64 q.joinAt) at p5
  change V2.cell? _ = some (.slice ao n3 co) at p9
  change V2.cell? _ = some (.slice ei n1 ki) at d1
  change V2.cell? _ = some (.int .i64 q.srcAt) at d4
  change V2.cell? _ = some (.int .i64 q.joinAt) at d5
  change V2.cell? _ = some (.slice eo n3 ko) at d9
  have HT := Lib.hid hT
  clear hT hO2 HO1 hM2 hMV hca hga hcb hgb
  go_upto_region 3 with fail
  go_quiet (fail)
  generalize hw3 : V2.drewN nq = V3
  have hM3 : Mods [] V2 V3 := by rw [← hw3]; exact (Mods.refl _ _).drewN _
  have HT3 := Lib.hid (HT.out.quiet hM3)
  have hMW3 := hMW.trans hM3 (by simp)
  have q1 := cell_of_heap (HB.out V3 hMW3) 1
  change V3.cell? _ = some (.slice ai n1 ci) at q1
  clear p1 p4 p5 p9 d1 d4 d5 d9 HT hM3 hMW hw3
  go_wp2_with fail
  go_loopg [5, 6, 7] n1 (fun gk t5 t6 t7 wr => ∃ i : Nat, i + gk = n1 ∧ t7 = .int .i64 i ∧ Two w wr t5 t6 (A ++ B ++ placesI (q.items.take i)) (A ++ B ++ placesI (q.items.take i)))
  case atStart => exact ⟨0, by omega, rfl, by simpa [placesI] using HT3.out⟩
  clear HT3 q1 hMW3
  obtain ⟨i, hin, rfl, hT⟩ := hrel
  have hMr := hT.1.1
  have q1 := cell_of_heap (HB.out wr hMr) 1
  change wr.cell? _ = some (.slice ai n1 ci) at q1
  by_cases hlt : i < n1
  · have hiq : i < q.items.length := by rw [HNN.out.1]; exact hlt
    obtain ⟨g, rfl, hcs⟩ := HI.out.1 (by omega)
    obtain ⟨c, ⟨b, hcb, hE⟩, hcell⟩ := hcs i hiq
    rw [hcb] at hcell
    obtain ⟨g', rfl, hcs'⟩ := HI.out.2.2.1 (by omega)
    obtain ⟨c', ⟨b', hcb', hE'⟩, hcell'⟩ := hcs' i hiq
    rw [hcb'] at hcell'
    have k0 := hMr.cell (hcell 0 _ rfl) (by simp)
    rw [Nat.add_zero] at k0
    have hfin := (HI.out.2.2.2.2 _ (List.getElem_mem hiq)).1.2
    have hpl := places_any _ wr (PtrV b) (hE.mods hMr) hfin
    have hrp : Hid (∀ W, Mods [] w W → _) := Lib.hid fun W hM => rplaces_any _ W (PtrV b') (hE'.mods hM) hfin
    have HK : Hid (∀ W, Mods [] w W → _) := Lib.hid fun W hM => hM.cell (hcell' 0 _ rfl) (by simp)
    have hxn := placesT_ne q.items[i].e
    have hxl : (placesT q.items[i].e).length ≤ 20001 := by rw [placesT_len]; exact hfin
    have htk := placesI_take hiq
    have hj := HL.out.1 i
    have hj2 := HL.out.1 (i + 1)
    rw [htk] at hj2 
    have ee : A ++ B ++ placesI (q.items.take (i + 1)) = (A ++ B ++ placesI (q.items.take i)) ++ placesT q.items[i].e := by rw [htk]; simp
    generalize placesT q.items[i].e = x at *
    generalize A ++ B ++ placesI (q.items.take i) = L at *
    have HE := Lib.hid (And.intro ee hxn)
    obtain ⟨nL, hnL⟩ : ∃ n, L.length = n := ⟨_, rfl⟩
    obtain ⟨nx, hnx⟩ : ∃ n, x.length = n := ⟨_, rfl⟩
    rw [hnL] at hj
    rw [hnx] at hxl
    have hnp2 : 0 < nx := by rw [← hnx]; exact List.length_pos_iff.2 hxn
    have HNL := Lib.hid (And.intro hnL hnx)
    have HT := Lib.hid hT
    unfold PtrV at *
    clear hcs hcs' hcell hcell' hcb hcb' hE hE' hfin htk ee hxn hnL hnx hT hj2
    go_wp2_with fail
    (with_reducible refine hpl.mono ?_)
    rintro e w2 ⟨r, rfl, hO2⟩
    obtain ⟨g2, cap2, rfl, -, -, hx2⟩ := hO2.at HE.out.2
    rw [HNL.out.2]
    have hT2 := HT.out.quiet hO2.1
    have hown := hT2.1.2.1
    rw [HNL.out.1] at hown
    have HT2 := Lib.hid hT2
    clear hpl k0 q1 hO2 hT2 hMr
    go_wp2_with (at_builtin; refine wpList_app _ rfl _ _ 55 rfl 3 i0 _ 1 8 Tryz.underlying55 hi hz0 hz1 hz2 rfl (by decide) u5 nL (intsV L) rfl hown ⟨g2, 0, none⟩ nx cap2 (intsV x) rfl ?c1 ?c2 (intsV_one _) hnp2 ?c3 ?c4 ?_)
    case c1 => rw [intsV_len, HNL.out.2, Nat.mul_one]
    case c2 => intro j u hu; rw [addr_add, Nat.zero_add]; exact hx2 j u hu
    case c3 => unfold maxLen; omega
    case c4 => omega
    intro g5 cap5 w5 hown5 hM5 hg5
    have hT5 := HT2.out.push (l2 := x) (k := nx) (g := g5) (cap := cap5) HNL.out.2 (by rw [HNL.out.1]; exact hown5) hM5 hg5
    rw [HNL.out.1] at hT5
    have hM5w := hT5.1.1
    have d1 := cell_of_heap (HD.out w5 hM5w) 1
    change w5.cell? _ = some (.slice (some ⟨g', 0, none⟩) n1 ki) at d1
    have k0 := HK.out w5 hM5w
    rw [Nat.add_zero] at k0
    have hpl := hrp.out w5 hM5w
    have HT5 := Lib.hid hT5
    clear hown5 hM5 hg5 hown hx2 hT5 hM5w
    go_wp2_with fail
    (with_reducible refine hpl.mono ?_)
    rintro e w6 ⟨r, rfl, hO6⟩
    obtain ⟨g6, cap6, rfl, -, -, hx6⟩ := hO6.at HE.out.2
    rw [HNL.out.2]
    have hT6 := (HT5.out.quiet hO6.1).turn
    have hown := hT6.1.2.1
    rw [HNL.out.1] at hown
    have HT6 := Lib.hid hT6
    clear hpl k0 d1 hO6 hT6
    go_wp2_with (at_builtin; refine wpList_app _ rfl _ _ 55 rfl 3 i0 _ 1 8 Tryz.underlying55 hi hz0 hz1 hz2 rfl (by decide) u6 nL (intsV L) rfl hown ⟨g6, 0, none⟩ nx cap6 (intsV x) rfl ?c5 ?c6 (intsV_one _) hnp2 ?c7 ?c8 ?_)
    case c5 => rw [intsV_len, HNL.out.2, Nat.mul_one]
    case c6 => intro j u hu; rw [addr_add, Nat.zero_add]; exact hx6 j u hu
    case c7 => unfold maxLen; omega
    case c8 => omega
    intro g7 cap7 w7 hown7 hM7 hg7
    have hT7 := (HT6.out.push (l2 := x) (k := nx) (g := g7) (cap := cap7) HNL.out.2 (by rw [HNL.out.1]; exact hown7) hM7 hg7).turn
    rw [HNL.out.1] at hT7
    have HT7 := Lib.hid hT7
    clear hown7 hM7 hg7 hown hx6 hT7
    go_wp2_with fail
    go_roundg (n1 - (i + 1))
    case measure => omega
    case rel => exact ⟨i + 1, by omega, by go_num, by rw [HE.out.1]; exact HT7.out⟩
  have hx : q.items.take i = q.items := List.take_of_length_le (by rw [HNN.out.1]; omega)
  rw [hx] at hT
  have HTI := Lib.hid hT
  obtain rfl : n1 = i := by omega
  clear hx hT hlt
  have p9 := cell_of_heap (HB.out wr hMr) 9
  change wr.cell? _ = some (.slice ao n3 co) at p9
  generalize wr = V4 at *
  go_wp2_with fail
  go_loopg [5, 6, 8] n3 (fun gk t5 t6 t8 wr => ∃ i : Nat, i + gk = n3 ∧ t8 = .int .i64 i ∧ Two w wr t5 t6 (A ++ B ++ placesI q.items ++ placesK (q.order.take i)) (A ++ B ++ placesI q.items ++ placesK (q.order.take i)))
  case atStart => exact ⟨0, by omega, rfl, by simpa [placesK] using HTI.out⟩
  clear HTI p9 hMr
  obtain ⟨i, hin3, rfl, hT⟩ := hrel
  have hMr := hT.1.1
  have p9 := cell_of_heap (HB.out wr hMr) 9
  change wr.cell? _ = some (.slice ao n3 co) at p9
  by_cases hlt : i < n3
  · have hiq : i < q.order.length := by rw [HNN.out.2]; exact hlt
    obtain ⟨g, rfl, hcs⟩ := HI.out.2.1 (by omega)
    obtain ⟨c, hcb, hcell⟩ := hcs i hiq
    obtain ⟨g', rfl, hcs'⟩ := HI.out.2.2.2.1 (by omega)
    obtain ⟨c', hcb', hcell'⟩ := hcs' i hiq
    unfold KeyR at hcb hcb'
    rw [hcb] at hcell
    rw [hcb'] at hcell'
    have k0 := hMr.cell (hcell 0 _ rfl) (by simp)
    rw [Nat.add_zero] at k0
    have HK : Hid (∀ W, Mods [] w W → _) := Lib.hid fun W hM => hM.cell (hcell' 0 _ rfl) (by simp)
    have htk := placesK_take hiq
    have hj := HL.out.2 i
    have ee : A ++ B ++ placesI q.items ++ placesK (q.order.take (i + 1)) = (A ++ B ++ placesI q.items ++ placesK (q.order.take i)) ++ [(q.order[i].pos : Int)] := by rw [htk]; simp
    generalize A ++ B ++ placesI q.items ++ placesK (q.order.take i) = L at *
    generalize q.order[i].pos = ps at *
    have HE := Lib.hid ee
    obtain ⟨nL, hnL⟩ : ∃ n, L.length = n := ⟨_, rfl⟩
    rw [hnL] at hj
    have HNL := Lib.hid hnL
    have hT1 := hT.quiet ((Mods.refl [] wr).alloc (.cells #[.int .i64 ps] 3))
    have hown := hT1.1.2.1
    rw [hnL] at hown
    have HT1 := Lib.hid hT1
    clear hcs hcs' hcell hcell' hcb hcb' htk ee hnL hT hT1
    go_wp2_with (at_builtin; refine wpList_app _ rfl _ _ 55 rfl 3 i0 _ 1 8 Tryz.underlying55 hi hz0 hz1 hz2 rfl (by decide) u5 nL (intsV L) rfl hown ⟨wr.heap.size, 0, none⟩ 1 1 (intsV [(ps : Int)]) rfl rfl ?c1 (intsV_one _) (by decide) ?c3 ?c4 ?_)
    case c1 => exact cells_lit wr #[.int .i64 ps] _
    case c3 => unfold maxLen; omega
    case c4 => omega
    intro g5 cap5 w5 hown5 hM5 hg5
    have hT5 := HT1.out.push (l2 := [(ps : Int)]) (k := 1) (g := g5) (cap := cap5) rfl (by rw [HNL.out]; exact hown5) hM5 (by rw [size_alloc]; exact hg5)
    rw [HNL.out] at hT5
    have hM5w := hT5.1.1
    have d9 := cell_of_heap (HD.out w5 hM5w) 9
    change w5.cell? _ = some (.slice (some ⟨g', 0, none⟩) n3 ko) at d9
    have k5 := HK.out w5 hM5w
    rw [Nat.add_zero] at k5
    have hT6 := (hT5.quiet ((Mods.refl [] w5).alloc (.cells #[.int .i64 ps] 3))).turn
    have hown6 := hT6.1.2.1
    rw [HNL.out] at hown6
    have HT6 := Lib.hid hT6
    clear hown5 hM5 hg5 hown hT5 hT6 p9 k0 hMr
    go_wp2_with (at_builtin; refine wpList_app _ rfl _ _ 55 rfl 3 i0 _ 1 8 Tryz.underlying55 hi hz0 hz1 hz2 rfl (by decide) u6 nL (intsV L) rfl hown6 ⟨w5.heap.size, 0, none⟩ 1 1 (intsV [(ps : Int)]) rfl rfl ?c5 (intsV_one _) (by decide) ?c7 ?c8 ?_)
    case c5 => exact cells_lit w5 #[.int .i64 ps] _
    case c7 => unfold maxLen; omega
    case c8 => omega
    intro g7 cap7 w7 hown7 hM7 hg7
    have hT7 := (HT6.out.push (l2 := [(ps : Int)]) (k := 1) (g := g7) (cap := cap7) rfl (by rw [HNL.out]; exact hown7) hM7 (by rw [size_alloc]; exact hg7)).turn
    rw [HNL.out] at hT7
    have HT7 := Lib.hid hT7
    clear hown7 hM7 hg7 hown6 hT7
    go_wp2_with fail
    go_roundg (n3 - (i + 1))
    case measure => omega
    case rel => exact ⟨i + 1, by omega, by go_num, by rw [HE.out]; exact HT7.out⟩
  obtain rfl : n3 = i := by omega
  have hx : q.order.take n3 = q.order := List.take_of_length_le (by rw [HNN.out.2]; exact Nat.le_refl _)
  rw [hx] at hT
  have hL := HL.out.2 q.order.length
  rw [List.take_length] at hL
  have hLn : A ++ B ++ placesI q.items ++ placesK q.order ≠ [] := by simp [HAB.out.1]
  generalize A ++ B ++ placesI q.items ++ placesK q.order = L at *
  obtain ⟨ga2, ca2, rfl, hc1, -, hx1⟩ := hT.1.at hLn
  obtain ⟨gb2, cb2, rfl, hc2, -, hx2⟩ := hT.2.1.at hLn
  obtain ⟨nL, hnL⟩ : ∃ n, L.length = n := ⟨_, rfl⟩
  rw [hnL] at hL hc1 hc2
  rw [hnL]
  have hM4 := hT.1.1
  have HX := Lib.hid (And.intro hx1 (And.intro hx2 hnL))
  clear hx hx1 hx2 hnL hT hLn hMr
  generalize wr = V5 at *
  have hzz : ((nL : Int) != (nL : Int)) = false := by simp
  go_wp2_with fail
  clear hzz p9 hlt
  go_loopg [9] nL (fun gk t9 wr => ∃ i : Nat, i + gk = nL ∧ t9 = .int .i64 i ∧ Mods [] V5 wr)
  case atStart => exact ⟨0, by omega, rfl, Mods.refl _ _⟩
  obtain ⟨i, hin4, rfl, hMr⟩ := hrel
  by_cases hlt : i < nL
  · have hiL : i < L.length := by rw [HX.out.2.2]; exact hlt
    have hg : (intsV L)[i]? = some (.int .i64 L[i]) := by unfold intsV; rw [List.getElem?_map, List.getElem?_eq_getElem hiL]; rfl
    have k1 := hMr.cell (HX.out.1 i _ hg) (by simp)
    have k2 := hMr.cell (HX.out.2.1 i _ hg) (by simp)
    generalize L[i] = x at *
    clear hg hiL
    go_upto_region 20 with fail
    go_quiet (fail)
    have hMq := hMr.drewN nq
    generalize wr.drewN nq = wy at *
    clear k1 k2
    go_wp2_with fail
    go_roundg (nL - (i + 1))
    case measure => omega
    case rel => exact ⟨i + 1, by omega, by go_num, hMq⟩
  · go_wp2_with fail
    go_ret
    exact ⟨rfl, hM4.trans hMr (by simp)⟩
end Go.Proofs.YtpokbepenacnpaaGreatDoor
