/-
  The document's parser: items, walked. No condition.
-/
import Derived.Test.YtpokbepenacnpaaGreatDoorMQl
import Derived.Deep.RegionLaw
import Derived.Test.YtpokbepenacnpaaGreatDoorMPt
namespace Go.Proofs.YtpokbepenacnpaaGreatDoor
open Go.RowKit
set_option linter.unusedVariables false

theorem item_oneD (b : Nat) (s : ByteArray) : ([.pointer (some ⟨b, 0, none⟩), .string s] : List Value).all (·.oneCell') = true := by simp [Value.oneCell']
theorem aft_item2 (E : PF) (s : PS) : Aft (E s).2 (itemF E s).2 := by
  unfold itemF
  split
  · exact (Aft.takes _ _).trans (Aft.name _)
  · exact Aft.takes _ _
/-- Where the loop of items stands. -/
def ItemsGo (pb tg : Nat) (ts : List Tok) (f qb : Nat) (qc2 qc3 qc4 qc5 qc6 qc7 qc8 qc9 qc10 qc11 : Value) (w : World) (fin : List ItemT × PS) (E : PF) (gk : Nat) (wr : World) : Prop :=
  ∃ l st v, Mods [pb, qb] w wr ∧ RSt wr pb tg ts st f ∧ wr.heap[qb]? = some (.cells #[.bool false, v, qc2, qc3, qc4, qc5, qc6, qc7, qc8, qc9, qc10, qc11] 100 (0, 0)) ∧ LRef ItemD 104 2 w wr v l st.e ∧ ListGo (itemF E) fin gk l st ∧ l.length + gk ≤ 10001
set_option maxRecDepth 100000 in
set_option maxHeartbeats 8000000 in
theorem items_ref (w : World) (pb tg : Nat) (ts : List Tok) (f : Nat) (s : PS) (h : RSt w pb tg ts s f) (qb : Nat) (hqp : qb ≠ pb) (hqt : qb ≠ tg) (qc2 qc3 qc4 qc5 qc6 qc7 qc8 qc9 qc10 qc11 : Value) (hq : w.heap[qb]? = some (.cells #[.bool false, .slice none 0 0, qc2, qc3, qc4, qc5, qc6, qc7, qc8, qc9, qc10, qc11] 100 (0, 0))) :
    Calls Tryz.prog 78 #[PtrV pb, PtrV qb] w fun e w' => e = .returned (.tuple #[]) ∧ Mods [pb, qb] w w' ∧ RSt w' pb tg ts (itemsF (lvl f).expr s).2 f ∧ ∃ v, w'.heap[qb]? = some (.cells #[.bool (itemsF (lvl f).expr s).1.1, v, qc2, qc3, qc4, qc5, qc6, qc7, qc8, qc9, qc10, qc11] 100 (0, 0)) ∧ LRef ItemD 104 2 w w' v (itemsF (lvl f).expr s).1.2 (itemsF (lvl f).expr s).2.e := by
  obtain ⟨i0, hi0, hz0, hz1, hz2⟩ := info_parts (show (Tryz.prog.info? 104).map (fun i => (i.zero, i.size, i.bytes)) = some (some (.agg #[.pointer none, .string ⟨#[]⟩]), 2, 24) by kernel_rfl)
  have hts : Calls Tryz.prog 80 #[PtrV pb, .string ⟨#[42]⟩] w _ := takes_ref w pb tg ts s f h wStar
  have hlt := h.lt
  have hql : qb < w.heap.size := lt_size_of_heap hq
  obtain ⟨E, hE⟩ : ∃ E, (lvl f).expr = E := ⟨_, rfl⟩
  have hor := fun w s h => or_all w pb tg ts s f h
  have hgo : Goes E := by rw [← hE]; exact (goes_lvl f).expr
  rw [hE] at hor ⊢
  have hdef : itemsF E s = if (s.takes wStar).1 = true then ((true, []), (s.takes wStar).2) else ((false, (listF (itemF E) (s.takes wStar).2).1), (listF (itemF E) (s.takes wStar).2).2) := rfl
  generalize itemsF E s = r at *
  obtain ⟨⟨tk, s1⟩, hs1⟩ : ∃ x, s.takes wStar = x := ⟨_, rfl⟩
  rw [hs1] at hts hdef
  simp only at hts hdef
  have HD := Lib.hid hdef
  have HOR := Lib.hid hor
  have HGO := Lib.hid (goes_item hgo)
  unfold PtrV at *
  clear h hE hor hgo hdef hs1
  go_enter Tryz.func78, Tryz.ntmps78
  go_wp2_with fail
  (with_reducible refine hts.mono ?_)
  rintro e w1 ⟨rfl, hM1, hR1⟩
  clear hts
  have hq1 := hM1.heap hq (by simpa using hqp)
  cases tk with
  | true =>
    have hd := HD.out
    rw [if_pos rfl] at hd
    have HD2 := Lib.hid hd
    have c0 := cell_of_heap hq1 0
    change w1.cell? _ = some (.bool false) at c0
    have f0 := frozen_of_heap hq1 0
    have hMs : Mods [qb] w1 (w1.setCell ⟨qb, 0, none⟩ (.bool true)) := (Mods.refl _ _).setCell (.inl (by simp)) _
    have hq2 := heap_setCell_same hq1 0 (.bool true)
    have hR2 := hR1.mods hMs (by simpa using hqp.symm) (by simpa using hqt.symm)
    have hM2 := (hM1.mono (L' := [pb, qb]) (by simp)).trans hMs (by simp)
    clear hd HD
    go_wp2_with fail
    refine bodyPost_ret (results_none rfl _ _ _) rfl ?_
    refine ⟨rfl, hM2, by rw [HD2.out]; exact hR2, .slice none 0 0, by rw [HD2.out]; exact hq2, ?_⟩
    rw [HD2.out]
    exact LRef.start _ _ _ _ _ _
  | false =>
    have hd := HD.out
    rw [if_neg (by decide)] at hd
    obtain ⟨fin, hfin⟩ : ∃ x, listF (itemF E) s1 = x := ⟨_, rfl⟩
    rw [hfin] at hd
    have hLG := ListGo.start (itemF E) s1
    rw [hfin] at hLG
    have hn : (itemF E s1).2.rest.length ≤ 10001 := by
      have h1 := (HGO.out s1).len
      obtain ⟨i, cap, d, -, -, hi, hr, ⟨-, -, hl⟩, -⟩ := hR1
      rw [hr, List.length_append, List.length_drop, List.length_drop] at h1
      omega
    have HIG : Hid (ItemsGo pb tg ts f qb qc2 qc3 qc4 qc5 qc6 qc7 qc8 qc9 qc10 qc11 w fin E (itemF E s1).2.rest.length w1) := Lib.hid ⟨[], s1, .slice none 0 0, hM1.mono (by simp), hR1, hq1, LRef.start _ _ _ _ _ _, hLG, by simpa using hn⟩
    have HD2 := Lib.hid hd
    generalize (itemF E s1).2.rest.length = n0 at *
    clear hd HD hLG hn hfin hq1 hR1 hM1 hq
    go_wp2_with fail
    go_loopg [4] n0 (fun gk t4 wr => Hid (ItemsGo pb tg ts f qb qc2 qc3 qc4 qc5 qc6 qc7 qc8 qc9 qc10 qc11 w fin E gk wr))
    case atStart => exact HIG
    clear HIG
    obtain ⟨l, st, v, hMr, hRr, hqr, hLR, hLG, hnn⟩ := hrel.out
    have HLR := Lib.hid hLR
    have HLRR := Lib.hid hLR
    have HLG := Lib.hid (And.intro hLG hnn)
    clear hrel hLR hLG hnn
    have ho := HOR.out wr st hRr
    unfold PtrV at ho
    go_wp2_with fail
    (with_reducible refine ho.mono ?_)
    rintro e w2 ⟨b1, rfl, hM2, hR2, hE2⟩
    dsimp only [PtrV]
    have HE2 : Hid ((E st).2.e = 0 → ∀ L : List Nat, (∀ x ∈ L, x < wr.heap.size) → ExprAt 174 96 w2 L (.pointer (some ⟨b1, 0, none⟩)) (E st).1) := Lib.hid hE2
    clear ho hE2 hRr
    have hdi : itemF E st = if ((E st).2.takes wAs).1 = true then (⟨(E st).1, ((E st).2.takes wAs).2.name.1⟩, ((E st).2.takes wAs).2.name.2) else (⟨(E st).1, []⟩, ((E st).2.takes wAs).2) := rfl
    have HAI : Hid ((itemF E st).2.e = 0 → (E st).2.e = 0 ∧ st.e = 0) := Lib.hid fun h0 => by
      constructor
      · rcases Nat.eq_zero_or_pos (E st).2.e with h | h
        · exact h
        · have := (aft_item2 E st).err (by omega)
          rw [this] at h0
          exact h0
      · rcases Nat.eq_zero_or_pos st.e with h | h
        · exact h
        · have := (HGO.out st).err (by omega)
          rw [this] at h0
          exact h0
    have hqr2 := hM2.heap hqr (by simpa using hqp)
    have hMw2 := hMr.trans hM2 (by simp)
    have HL2 : Hid (LRef ItemD 104 2 w w2 v l (itemF E st).2.e) := Lib.hid (HLR.out.go itemDRep hM2 (fun x hx => by simp at hx; omega) (fun h0 => (HAI.out h0).2))
    have hsr := hMr.size
    obtain ⟨es, hes⟩ : ∃ es, E st = es := ⟨_, rfl⟩
    rw [hes] at hdi hR2
    have HES := Lib.hid hes
    have HDI := Lib.hid hdi
    have hil := heap_alloc_new w2 (.cells #[.pointer (some ⟨b1, 0, none⟩), .string ⟨#[]⟩] 104)
    have hMa := (Mods.refl [] w2).alloc (.cells #[.pointer (some ⟨b1, 0, none⟩), .string ⟨#[]⟩] 104)
    have hR3 := hR2.later hMa
    have hq3 := hMa.heap hqr2 (by simp)
    have hMz3 : Mods [pb] w2 (w2.alloc (.cells #[.pointer (some ⟨b1, 0, none⟩), .string ⟨#[]⟩] 104)) := hMa.mono (by simp)
    have hs2 := hM2.size
    have hip : w2.heap.size ≠ pb ∧ w2.heap.size ≠ tg ∧ w2.heap.size ≠ qb ∧ wr.heap.size ≤ w2.heap.size := by omega
    have h4 : Calls Tryz.prog 80 #[PtrV pb, .string ⟨#[65, 83]⟩] (w2.alloc (.cells #[.pointer (some ⟨b1, 0, none⟩), .string ⟨#[]⟩] 104)) _ := takes_ref (w2.alloc (.cells #[.pointer (some ⟨b1, 0, none⟩), .string ⟨#[]⟩] 104)) pb tg ts es.2 f hR3 wAs
    unfold PtrV at h4
    obtain ⟨⟨ta, s3⟩, hs3⟩ : ∃ x, es.2.takes wAs = x := ⟨_, rfl⟩
    have hdi := HDI.out
    rw [hs3] at h4 hdi
    simp only at h4 hdi
    have HDI := Lib.hid hdi
    have HMW2 := Lib.hid hMw2
    clear hdi hs3 hR3 hMa hMw2 hqr2 HLR hqr hM2 hR2 hes
    go_upto_region 3 with fail
    generalize w2.alloc (.cells #[.pointer (some ⟨b1, 0, none⟩), .string ⟨#[]⟩] 104) = w3 at *
    obtain ⟨ib, hib⟩ : ∃ ib, w2.heap.size = ib := ⟨_, rfl⟩
    rw [hib] at hip hil
    rw [hib]
    have HIB := Lib.hid hib
    clear hib
    go_wp2_with fail
    (with_reducible refine h4.mono ?_)
    rintro e w4 ⟨rfl, hM4, hR4⟩
    have hi4 := hM4.heap hil (by simpa using hip.1)
    have hq4 := hM4.heap hq3 (by simpa using hqp)
    have hMz4 := hMz3.trans hM4 (by simp)
    clear h4 hil hq3 hMz3 hM4
    cases ta with
    | true =>
      have hdi := HDI.out
      simp only [if_true] at hdi
      have h5 := name_ref w4 pb tg ts s3 f hR4
      unfold PtrV at h5
      obtain ⟨⟨nm, s5⟩, hs5⟩ : ∃ x, s3.name = x := ⟨_, rfl⟩
      rw [hs5] at h5 hdi
      simp only at h5 hdi
      have HDN := Lib.hid hdi
      clear hdi hs5 hR4 HDI
      go_wp2_with fail
      (with_reducible refine h5.mono ?_)
      rintro e w5 ⟨rfl, hM5, hR5⟩
      have hi5 := hM5.heap hi4 (by simpa using hip.1)
      have hq5 := hM5.heap hq4 (by simpa using hqp)
      have y1 := cell_of_heap hi5 1
      change w5.cell? _ = some (.string ⟨#[]⟩) at y1
      have j1 := frozen_of_heap hi5 1
      have hMs : Mods [ib] w5 (w5.setCell ⟨ib, 1, none⟩ (.string ⟨nm.toArray⟩)) := (Mods.refl _ _).setCell (.inl (by simp)) _
      have hi6 : (w5.setCell ⟨ib, 1, none⟩ (.string ⟨nm.toArray⟩)).heap[ib]? = some (.cells #[.pointer (some ⟨b1, 0, none⟩), .string ⟨nm.toArray⟩] 104 (0, 0)) := heap_setCell_same hi5 1 (.string ⟨nm.toArray⟩)
      have hq6 := hMs.heap hq5 (by simpa using hip.2.2.1.symm)
      have hR6 := hR5.mods hMs (by simpa using hip.1.symm) (by simpa using hip.2.1.symm)
      have hMz6 := (hMz4.trans hM5 (by simp)).trans hMs (fun x hx => .inr (x_ge HIB.out (Nat.le_refl _) hx))
      clear h5 hi4 hq4 hMz4 hM5 hi5 hq5 hMs hR5
      go_upto_region 5 with fail
      generalize w5.setCell ⟨ib, 1, none⟩ (.string ⟨nm.toArray⟩) = w6 at *
      clear y1 j1
      have hdi := HDN.out
      have HDI2 : Hid (itemF E st = (⟨es.1, nm⟩, s5)) := Lib.hid hdi
      have HL6 : Hid (LRef ItemD 104 2 w w6 v l (itemF E st).2.e) := Lib.hid (HL2.out.go itemDRep hMz6 (fun x hx => by simp at hx; omega) id)
      have hMw6 := HMW2.out.trans hMz6 (by simp)
      have hsz6 := hMz6.size
      have HX6 : Hid ((itemF E st).2.e = 0 → ∀ L : List Nat, (∀ y ∈ L, y < w.heap.size) → ItemD w6 (v.ownBlock.toList ++ L) [.pointer (some ⟨b1, 0, none⟩), .string ⟨nm.toArray⟩] (itemF E st).1) := Lib.hid fun h0 L hL => by
        have hgl : ∀ g, v.ownBlock = some g → g < wr.heap.size := fun g hg => by
          obtain ⟨css, h1, h2, h3⟩ := HLRR.out
          exact (h1.lt g hg).2
        have := HE2.out (HAI.out h0).1 (pb :: (v.ownBlock.toList ++ L)) (fun x hx => by
          rcases List.mem_cons.1 hx with rfl | hx
          · omega
          · rcases List.mem_append.1 hx with hx | hx
            · exact hgl x (by simpa using hx)
            · have := hL x hx; omega)
        rw [HDI2.out]
        refine ⟨b1, rfl, ?_⟩
        have h2 := (this.mods (hMz6.mono (by simp))).weaken (L' := v.ownBlock.toList ++ L) (fun x hx => List.mem_cons_of_mem _ hx)
        rw [HES.out] at h2
        exact h2
      have hLe := HL6.out
      obtain ⟨css, hown, hog, hall⟩ := hLe
      have HLO := Lib.hid (And.intro hown (And.intro hog hall))
      have k0 := cell_of_heap hi6 0
      have k1 := cell_of_heap hi6 1
      change w6.cell? _ = some (.pointer (some ⟨b1, 0, none⟩)) at k0
      change w6.cell? _ = some (.string ⟨nm.toArray⟩) at k1
      have k2 := cell_of_heap hq6 1
      change w6.cell? _ = some v at k2
      have hd := (Mods.refl [] w6).drew
      have D0 := hd.cell k0 (by simp)
      have D1 := hd.cell k1 (by simp)
      have D2 := hd.cell k2 (by simp)
      have hz := (Mods.refl [] w6).alloc (.cells #[.pointer (some ⟨b1, 0, none⟩), .string ⟨nm.toArray⟩] 104 (0, 0))
      have Z2 := hz.cell k2 (by simp)
      have Z0 := hz.cell k0 (by simp)
      have Z1 := hz.cell k1 (by simp)
      have hownA := ownsRow_mods hown hz (by simp)
      have hqA := hz.heap hq6 (by simp)
      have hqn : ∀ g, v.ownBlock = some g → g ≠ qb := fun g hg => by have := hog g hg; omega
      have hnl : (l.length + 1) * 24 ≤ 140737488355328 := by have := HLG.out.2; omega
      have hn63 : l.length + 1 ≤ maxLen := by have := HLG.out.2; unfold maxLen; omega
      clear hown hog hall hdi
      go_region_law (refine step_app2 rfl (.tmp 22) (.tmp 24) 95 rfl 104 i0 (.agg #[.pointer none, .string ⟨#[]⟩]) 2 24 Tryz.underlying95 hi0 hz0 hz1 hz2 rfl (by decide) v l.length css.flatten (by kernel_rfl) hownA ⟨w6.heap.size, 0, none⟩ 1 1 [.pointer (some ⟨b1, 0, none⟩), .string ⟨nm.toArray⟩] (by kernel_rfl) rfl (cells_lit w6 #[.pointer (some ⟨b1, 0, none⟩), .string ⟨nm.toArray⟩] _) (List.all_eq_true.1 (item_oneD b1 _)) (by decide) hn63 hnl ?_; intro g cap w7 hown7 hM7 hg7; have hq7 := hM7.heap hqA (fun hm => hqn _ (by simpa using hm) rfl); have e7 := cell_of_heap hq7 1; have f7 := frozen_of_heap hq7 1)
      all_goals
        have hMq : Mods [qb] w7 (w7.setCell ⟨qb, 1, none⟩ (.slice (some ⟨g, 0, none⟩) (l.length + 1) cap)) := (Mods.refl _ _).setCell (.inl (by simp)) _
        have hq8 := heap_setCell_same hq7 1 (.slice (some ⟨g, 0, none⟩) (l.length + 1) cap)
        have hownP := HLO.out
        have HL8 : Hid (LRef ItemD 104 2 w (w7.setCell ⟨qb, 1, none⟩ (.slice (some ⟨g, 0, none⟩) (l.length + 1) cap)) (.slice (some ⟨g, 0, none⟩) (l.length + 1) cap) (l ++ [(itemF E st).1]) (itemF E st).2.e) := Lib.hid (by
          have hA : Mods [] w6 (w6.alloc (.cells #[.pointer (some ⟨b1, 0, none⟩), .string ⟨nm.toArray⟩] 104 (0, 0))).drew := hz.drew
          have h1 := LRef.push itemDRep (HL6.out.go itemDRep hA (by simp) id) (by have := hA.size; omega) (fun h0 L hL => itemDRep.mods (HX6.out h0 L hL) (hA.mono (by simp))) css hown7
            ⟨ownsRow_mods hownP.1 hA (by simp), hownP.2.1, fun h0 L hL => (hownP.2.2 h0 L hL).map fun c x hx => itemDRep.mods hx (hA.mono (by simp))⟩ hM7 (by first | exact hg7 | (rw [size_alloc]; exact hg7))
          exact h1.go itemDRep hMq (fun x hx => by have : x = qb := by simpa using hx
                                                   omega) id)
        have hR7 := (hR6.later hz.drew).mods hM7 (fun hm => by have := HLO.out.2.1 _ (by simpa using hm); omega) (fun hm => by have := HLO.out.2.1 _ (by simpa using hm); omega)
        have hR8 := hR7.mods hMq (by simpa using hqp.symm) (by simpa using hqt.symm)
        have hMw8 := ((hMw6.trans hz.drew (by simp)).trans hM7 (fun x hx => .inr (HLO.out.2.1 _ (by simpa using hx)))).trans hMq (by simp)
        clear hMq hR7 hownP hown7 hM7 hg7 hq7 hz hd D0 D1 D2 Z0 Z1 Z2 k0 k1 k2 hownA hqA hqn hnl hn63 hMw6 HX6 HLO HL6
        go_upto_region 6 with fail
        clear e7 f7
        generalize w7.setCell ⟨qb, 1, none⟩ (.slice (some ⟨g, 0, none⟩) (l.length + 1) cap) = w8 at *
        have h9 : Calls Tryz.prog 80 #[PtrV pb, .string ⟨#[44]⟩] w8 _ := takes_ref w8 pb tg ts s5 f hR8 wComma
        unfold PtrV at h9
        have hst9 : (itemF E st).2 = s5 := by rw [HDI2.out]
        have HGS : Hid ((((itemF E st).2.takes wComma).1 = false → fin = (l ++ [(itemF E st).1], (itemF E st).2) ∧ ((itemF E st).2.takes wComma).2 = (itemF E st).2) ∧ (((itemF E st).2.takes wComma).1 = true → ∃ m, gk = m + 1 ∧ ListGo (itemF E) fin m (l ++ [(itemF E st).1]) ((itemF E st).2.takes wComma).2)) := Lib.hid ⟨fun ht => HLG.out.1.stop ht, fun ht => HLG.out.1.next HGO.out ht⟩
        have hte : ((s5).takes wComma).2.e = (s5).e := by rw [takes_eq]; simp only; split <;> rfl
        obtain ⟨⟨tc, s9⟩, hs9⟩ : ∃ x, (s5).takes wComma = x := ⟨_, rfl⟩
        rw [hs9] at h9 hte
        simp only at h9 hte
        have HS9 := Lib.hid (And.intro hst9 (And.intro hs9 hte))
        clear hst9 hs9 hte hR8
        go_wp2_with fail
        (with_reducible refine h9.mono ?_)
        rintro e w9 ⟨rfl, hM9, hR9⟩
        have hq9 := hM9.heap hq8 (by simpa using hqp)
        have hMw9 := hMw8.trans hM9 (by simp)
        have HL9 : Hid (LRef ItemD 104 2 w w9 (.slice (some ⟨g, 0, none⟩) (l.length + 1) cap) (l ++ [(itemF E st).1]) s9.e) := Lib.hid (HL8.out.go itemDRep hM9 (fun x hx => by simp at hx; omega) (fun h0 => by rw [HS9.out.1, ← HS9.out.2.2]; exact h0))
        clear h9 hM9 hMw8 HL8 hq8
        cases tc with
        | false =>
          have hg := HGS.out.1 (by rw [HS9.out.1, HS9.out.2.1])
          rw [HS9.out.1, HS9.out.2.1] at hg
          have HFI := Lib.hid hg
          clear hg
          go_wp2_with fail
          refine bodyPost_ret (results_none rfl _ _ _) rfl ?_
          have hr := HD2.out
          rw [HFI.out.1] at hr
          have hs9' : s9 = s5 := HFI.out.2
          refine ⟨rfl, hMw9, by rw [hr, ← hs9']; exact hR9, .slice (some ⟨g, 0, none⟩) (l.length + 1) cap, by rw [hr]; exact hq9, ?_⟩
          rw [hr, ← hs9']
          exact HL9.out
        | true =>
          obtain ⟨m, rfl, hg⟩ := HGS.out.2 (by rw [HS9.out.1, HS9.out.2.1])
          rw [HS9.out.1, HS9.out.2.1] at hg
          have HIG : Hid (ItemsGo pb tg ts f qb qc2 qc3 qc4 qc5 qc6 qc7 qc8 qc9 qc10 qc11 w fin E m w9) := Lib.hid ⟨l ++ [(itemF E st).1], s9, .slice (some ⟨g, 0, none⟩) (l.length + 1) cap, hMw9, hR9, hq9, HL9.out, hg, by rw [List.length_append]; have := HLG.out.2; simp; omega⟩
          clear hg
          go_wp2_with fail
          go_roundg m
          case measure => omega
          case rel => exact HIG
    | false =>
      have hdi := HDI.out
      simp only [Bool.false_eq_true, if_false] at hdi
      have HDN := Lib.hid hdi
      clear hdi HDI
      go_upto_region 5 with fail
      have hdi := HDN.out
      have HDI2 : Hid (itemF E st = (⟨es.1, ([] : Bs)⟩, s3)) := Lib.hid hdi
      have HL6 : Hid (LRef ItemD 104 2 w w4 v l (itemF E st).2.e) := Lib.hid (HL2.out.go itemDRep hMz4 (fun x hx => by simp at hx; omega) id)
      have hMw6 := HMW2.out.trans hMz4 (by simp)
      have hsz6 := hMz4.size
      have HX6 : Hid ((itemF E st).2.e = 0 → ∀ L : List Nat, (∀ y ∈ L, y < w.heap.size) → ItemD w4 (v.ownBlock.toList ++ L) [.pointer (some ⟨b1, 0, none⟩), .string ⟨#[]⟩] (itemF E st).1) := Lib.hid fun h0 L hL => by
        have hgl : ∀ g, v.ownBlock = some g → g < wr.heap.size := fun g hg => by
          obtain ⟨css, h1, h2, h3⟩ := HLRR.out
          exact (h1.lt g hg).2
        have := HE2.out (HAI.out h0).1 (pb :: (v.ownBlock.toList ++ L)) (fun x hx => by
          rcases List.mem_cons.1 hx with rfl | hx
          · omega
          · rcases List.mem_append.1 hx with hx | hx
            · exact hgl x (by simpa using hx)
            · have := hL x hx; omega)
        rw [HDI2.out]
        refine ⟨b1, rfl, ?_⟩
        have h2 := (this.mods (hMz4.mono (by simp))).weaken (L' := v.ownBlock.toList ++ L) (fun x hx => List.mem_cons_of_mem _ hx)
        rw [HES.out] at h2
        exact h2
      have hLe := HL6.out
      obtain ⟨css, hown, hog, hall⟩ := hLe
      have HLO := Lib.hid (And.intro hown (And.intro hog hall))
      have k0 := cell_of_heap hi4 0
      have k1 := cell_of_heap hi4 1
      change w4.cell? _ = some (.pointer (some ⟨b1, 0, none⟩)) at k0
      change w4.cell? _ = some (.string ⟨#[]⟩) at k1
      have k2 := cell_of_heap hq4 1
      change w4.cell? _ = some v at k2
      have hd := (Mods.refl [] w4).drew
      have D0 := hd.cell k0 (by simp)
      have D1 := hd.cell k1 (by simp)
      have D2 := hd.cell k2 (by simp)
      have hz := (Mods.refl [] w4).alloc (.cells #[.pointer (some ⟨b1, 0, none⟩), .string ⟨#[]⟩] 104)
      have Z2 := hz.cell k2 (by simp)
      have Z0 := hz.cell k0 (by simp)
      have Z1 := hz.cell k1 (by simp)
      have hownA := ownsRow_mods hown hz (by simp)
      have hqA := hz.heap hq4 (by simp)
      have hqn : ∀ g, v.ownBlock = some g → g ≠ qb := fun g hg => by have := hog g hg; omega
      have hnl : (l.length + 1) * 24 ≤ 140737488355328 := by have := HLG.out.2; omega
      have hn63 : l.length + 1 ≤ maxLen := by have := HLG.out.2; unfold maxLen; omega
      clear hown hog hall hdi
      go_region_law (refine step_app2 rfl (.tmp 22) (.tmp 24) 95 rfl 104 i0 (.agg #[.pointer none, .string ⟨#[]⟩]) 2 24 Tryz.underlying95 hi0 hz0 hz1 hz2 rfl (by decide) v l.length css.flatten (by kernel_rfl) hownA ⟨w4.heap.size, 0, none⟩ 1 1 [.pointer (some ⟨b1, 0, none⟩), .string ⟨#[]⟩] (by kernel_rfl) rfl (cells_lit w4 #[.pointer (some ⟨b1, 0, none⟩), .string ⟨#[]⟩] _) (List.all_eq_true.1 (item_oneD b1 _)) (by decide) hn63 hnl ?_; intro g cap w7 hown7 hM7 hg7; have hq7 := hM7.heap hqA (fun hm => hqn _ (by simpa using hm) rfl); have e7 := cell_of_heap hq7 1; have f7 := frozen_of_heap hq7 1)
      all_goals
        have hMq : Mods [qb] w7 (w7.setCell ⟨qb, 1, none⟩ (.slice (some ⟨g, 0, none⟩) (l.length + 1) cap)) := (Mods.refl _ _).setCell (.inl (by simp)) _
        have hq8 := heap_setCell_same hq7 1 (.slice (some ⟨g, 0, none⟩) (l.length + 1) cap)
        have hownP := HLO.out
        have HL8 : Hid (LRef ItemD 104 2 w (w7.setCell ⟨qb, 1, none⟩ (.slice (some ⟨g, 0, none⟩) (l.length + 1) cap)) (.slice (some ⟨g, 0, none⟩) (l.length + 1) cap) (l ++ [(itemF E st).1]) (itemF E st).2.e) := Lib.hid (by
          have hA : Mods [] w4 (w4.alloc (.cells #[.pointer (some ⟨b1, 0, none⟩), .string ⟨#[]⟩] 104)).drew := hz.drew
          have h1 := LRef.push itemDRep (HL6.out.go itemDRep hA (by simp) id) (by have := hA.size; omega) (fun h0 L hL => itemDRep.mods (HX6.out h0 L hL) (hA.mono (by simp))) css hown7
            ⟨ownsRow_mods hownP.1 hA (by simp), hownP.2.1, fun h0 L hL => (hownP.2.2 h0 L hL).map fun c x hx => itemDRep.mods hx (hA.mono (by simp))⟩ hM7 (by first | exact hg7 | (rw [size_alloc]; exact hg7))
          exact h1.go itemDRep hMq (fun x hx => by have : x = qb := by simpa using hx
                                                   omega) id)
        have hR7 := (hR4.later hz.drew).mods hM7 (fun hm => by have := HLO.out.2.1 _ (by simpa using hm); omega) (fun hm => by have := HLO.out.2.1 _ (by simpa using hm); omega)
        have hR8 := hR7.mods hMq (by simpa using hqp.symm) (by simpa using hqt.symm)
        have hMw8 := ((hMw6.trans hz.drew (by simp)).trans hM7 (fun x hx => .inr (HLO.out.2.1 _ (by simpa using hx)))).trans hMq (by simp)
        clear hMq hR7 hownP hown7 hM7 hg7 hq7 hz hd D0 D1 D2 Z0 Z1 Z2 k0 k1 k2 hownA hqA hqn hnl hn63 hMw6 HX6 HLO HL6
        go_upto_region 6 with fail
        clear e7 f7
        generalize w7.setCell ⟨qb, 1, none⟩ (.slice (some ⟨g, 0, none⟩) (l.length + 1) cap) = w8 at *
        have h9 : Calls Tryz.prog 80 #[PtrV pb, .string ⟨#[44]⟩] w8 _ := takes_ref w8 pb tg ts s3 f hR8 wComma
        unfold PtrV at h9
        have hst9 : (itemF E st).2 = s3 := by rw [HDI2.out]
        have HGS : Hid ((((itemF E st).2.takes wComma).1 = false → fin = (l ++ [(itemF E st).1], (itemF E st).2) ∧ ((itemF E st).2.takes wComma).2 = (itemF E st).2) ∧ (((itemF E st).2.takes wComma).1 = true → ∃ m, gk = m + 1 ∧ ListGo (itemF E) fin m (l ++ [(itemF E st).1]) ((itemF E st).2.takes wComma).2)) := Lib.hid ⟨fun ht => HLG.out.1.stop ht, fun ht => HLG.out.1.next HGO.out ht⟩
        have hte : ((s3).takes wComma).2.e = (s3).e := by rw [takes_eq]; simp only; split <;> rfl
        obtain ⟨⟨tc, s9⟩, hs9⟩ : ∃ x, (s3).takes wComma = x := ⟨_, rfl⟩
        rw [hs9] at h9 hte
        simp only at h9 hte
        have HS9 := Lib.hid (And.intro hst9 (And.intro hs9 hte))
        clear hst9 hs9 hte hR8
        go_wp2_with fail
        (with_reducible refine h9.mono ?_)
        rintro e w9 ⟨rfl, hM9, hR9⟩
        have hq9 := hM9.heap hq8 (by simpa using hqp)
        have hMw9 := hMw8.trans hM9 (by simp)
        have HL9 : Hid (LRef ItemD 104 2 w w9 (.slice (some ⟨g, 0, none⟩) (l.length + 1) cap) (l ++ [(itemF E st).1]) s9.e) := Lib.hid (HL8.out.go itemDRep hM9 (fun x hx => by simp at hx; omega) (fun h0 => by rw [HS9.out.1, ← HS9.out.2.2]; exact h0))
        clear h9 hM9 hMw8 HL8 hq8
        cases tc with
        | false =>
          have hg := HGS.out.1 (by rw [HS9.out.1, HS9.out.2.1])
          rw [HS9.out.1, HS9.out.2.1] at hg
          have HFI := Lib.hid hg
          clear hg
          go_wp2_with fail
          refine bodyPost_ret (results_none rfl _ _ _) rfl ?_
          have hr := HD2.out
          rw [HFI.out.1] at hr
          have hs9' : s9 = s3 := HFI.out.2
          refine ⟨rfl, hMw9, by rw [hr, ← hs9']; exact hR9, .slice (some ⟨g, 0, none⟩) (l.length + 1) cap, by rw [hr]; exact hq9, ?_⟩
          rw [hr, ← hs9']
          exact HL9.out
        | true =>
          obtain ⟨m, rfl, hg⟩ := HGS.out.2 (by rw [HS9.out.1, HS9.out.2.1])
          rw [HS9.out.1, HS9.out.2.1] at hg
          have HIG : Hid (ItemsGo pb tg ts f qb qc2 qc3 qc4 qc5 qc6 qc7 qc8 qc9 qc10 qc11 w fin E m w9) := Lib.hid ⟨l ++ [(itemF E st).1], s9, .slice (some ⟨g, 0, none⟩) (l.length + 1) cap, hMw9, hR9, hq9, HL9.out, hg, by rw [List.length_append]; have := HLG.out.2; simp; omega⟩
          clear hg
          go_wp2_with fail
          go_roundg m
          case measure => omega
          case rel => exact HIG
end Go.Proofs.YtpokbepenacnpaaGreatDoor

namespace Go.Proofs.YtpokbepenacnpaaGreatDoor
open Go.RowKit
set_option linter.unusedVariables false

def OptD (w : World) (L : List Nat) (v : Value) : Option Tree → Prop
  | none => v = .pointer none
  | some t => ∃ b, v = PtrV b ∧ ExprAt 174 96 w L (PtrV b) t
theorem OptD.mods {w w' : World} {L : List Nat} {v : Value} {o : Option Tree} (h : OptD w L v o) (hM : Mods L w w') : OptD w' L v o := by
  cases o with
  | none => exact h
  | some t => obtain ⟨b, h1, h2⟩ := h; exact ⟨b, h1, h2.mods hM⟩
theorem OptD.weaken {w : World} {L L' : List Nat} (hL : ∀ x ∈ L', x ∈ L) {v : Value} {o : Option Tree} (h : OptD w L v o) : OptD w L' v o := by
  cases o with
  | none => exact h
  | some t => obtain ⟨b, h1, h2⟩ := h; exact ⟨b, h1, h2.weaken hL⟩
/-- What the query's cells point to. -/
structure DParts (wq w : World) (q : QueryT) (e : Nat) (vi von vwh vg vo : Value) : Prop where
  items : LRef ItemD 104 2 wq w vi q.items e
  group : LRef TreeD 96 1 wq w vg q.group e
  order : LRef KeyR 107 4 wq w vo q.order e
  gnil : q.group = [] → vg = .slice none 0 0
  onil : q.order = [] → vo = .slice none 0 0
  opts : e = 0 → ∀ L : List Nat, (∀ x ∈ L, x < wq.heap.size) → OptD w L von q.on ∧ OptD w L vwh q.whr
theorem DParts.go {wq w w2 : World} {q : QueryT} {e e2 : Nat} {vi von vwh vg vo : Value} {P : List Nat} (h : DParts wq w q e vi von vwh vg vo) (hM : Mods P w w2) (hP : ∀ x ∈ P, x < wq.heap.size) (he : e2 = 0 → e = 0) : DParts wq w2 q e2 vi von vwh vg vo :=
  ⟨h.items.go itemDRep hM hP he, h.group.go treeDRep hM hP he, h.order.go keyRep hM hP he, h.gnil, h.onil, fun h0 L hL => by
    obtain ⟨h1, h2⟩ := h.opts (he h0) (P ++ L) (fun x hx => by
      rcases List.mem_append.1 hx with hx | hx
      · exact hP x hx
      · exact hL x hx)
    have hm : Mods (P ++ L) w w2 := hM.mono (fun y hy => .inl (by simp [hy]))
    exact ⟨(h1.mods hm).weaken (fun x hx => List.mem_append_right _ hx), (h2.mods hm).weaken (fun x hx => List.mem_append_right _ hx)⟩⟩
theorem LRef.base {α : Type} {R : RepR α} {T : TypeId} {size : Nat} {w0 w1 wr : World} {v : Value} {l : List α} {e : Nat} (h : LRef R T size w1 wr v l e) (hs : w0.heap.size ≤ w1.heap.size) : LRef R T size w0 wr v l e := by
  obtain ⟨css, h1, h2, h3⟩ := h
  exact ⟨css, h1, fun g hg => by have := h2 g hg; omega, fun h0 L hL => h3 h0 L (fun x hx => by have := hL x hx; omega)⟩
/-- The document's parser and query between two of query's stages. -/
def DInv (pb tg : Nat) (ts : List Tok) (f : Nat) (w0 wq : World) (qb : Nat) (x : QS) (w : World) : Prop :=
  Mods [pb] w0 w ∧ RSt w pb tg ts x.2 f ∧ (w0.heap.size ≤ qb ∧ qb < wq.heap.size ∧ pb < w0.heap.size ∧ tg < w0.heap.size ∧ wq.heap.size ≤ w.heap.size) ∧
    ∃ vi von vwh vg vo, w.heap[qb]? = some (.cells (queryC x.1 vi von vwh vg vo).toArray 100 (0, 0)) ∧ DParts wq w x.1 x.2.e vi von vwh vg vo
theorem DInv.go {pb tg : Nat} {ts : List Tok} {f : Nat} {w0 wq : World} {qb : Nat} {x : QS} {w w' : World} {s' : PS} (h : DInv pb tg ts f w0 wq qb x w) (hM : Mods [pb] w w') (hR : RSt w' pb tg ts s' f) (hA : Aft x.2 s') : DInv pb tg ts f w0 wq qb (x.1, s') w' := by
  obtain ⟨h1, h2, ⟨h3, h4, h5, h6, h7⟩, vi, von, vwh, vg, vo, h8, h9⟩ := h
  have hs := hM.size
  refine ⟨h1.trans hM (by simp), hR, ⟨h3, h4, h5, h6, by omega⟩, vi, von, vwh, vg, vo, hM.heap h8 (by simp; omega), h9.go hM (fun x hx => by simp at hx; omega) (fun h0 => ?_)⟩
  rcases Nat.eq_zero_or_pos x.2.e with h | h
  · exact h
  · have := hA.err (by omega)
    rw [this] at h0; exact h0
/-- A plain field is put. -/
theorem DInv.put {pb tg : Nat} {ts : List Tok} {f : Nat} {w0 wq : World} {qb : Nat} {x : QS} {w : World} (h : DInv pb tg ts f w0 wq qb x w) (k : Nat) (u : Value) (q' : QueryT)
    (hc : ∀ vi von vwh vg vo, (queryC x.1 vi von vwh vg vo).toArray.setIfInBounds k u = (queryC q' vi von vwh vg vo).toArray) (hi : q'.items = x.1.items ∧ q'.group = x.1.group ∧ q'.order = x.1.order ∧ q'.on = x.1.on ∧ q'.whr = x.1.whr) :
    DInv pb tg ts f w0 wq qb (q', x.2) (w.setCell ⟨qb, k, none⟩ u) := by
  obtain ⟨h1, h2, ⟨h3, h4, h5, h6, h7⟩, vi, von, vwh, vg, vo, h8, h9⟩ := h
  have hMs : Mods [qb] w (w.setCell ⟨qb, k, none⟩ u) := (Mods.refl _ _).setCell (.inl (by simp)) _
  have hb := heap_setCell_same h8 k u
  rw [hc] at hb
  have hp := h9.go hMs (fun x hx => by have : x = qb := by simpa using hx
                                       omega) id
  refine ⟨h1.trans hMs (fun x hx => .inr (by have : x = qb := by simpa using hx
                                             omega)), h2.mods hMs (by simp; omega) (by simp; omega), ⟨h3, h4, h5, h6, by have := hMs.size; omega⟩, vi, von, vwh, vg, vo, hb, ?_⟩
  obtain ⟨e1, e2, e3, e4, e5⟩ := hi
  exact ⟨by rw [e1]; exact hp.items, by rw [e2]; exact hp.group, by rw [e3]; exact hp.order, by rw [e2]; exact hp.gnil, by rw [e3]; exact hp.onil, fun h0 L hL => by rw [e4, e5]; exact hp.opts h0 L hL⟩
/-- What a plain field's cell holds. -/
theorem DInv.cell {pb tg : Nat} {ts : List Tok} {f : Nat} {w0 wq : World} {qb : Nat} {x : QS} {w : World} (h : DInv pb tg ts f w0 wq qb x w) : (w.cell? ⟨qb, 2, none⟩ = some (.string ⟨x.1.src.toArray⟩) ∧ w.cell? ⟨qb, 3, none⟩ = some (.string ⟨x.1.join.toArray⟩) ∧ w.cell? ⟨qb, 4, none⟩ = some (.int .i64 x.1.srcAt) ∧ w.cell? ⟨qb, 5, none⟩ = some (.int .i64 x.1.joinAt) ∧
    w.cell? ⟨qb, 10, none⟩ = some (.int .i64 x.1.limit) ∧ w.cell? ⟨qb, 11, none⟩ = some (.int .i64 x.1.offset)) ∧ (∀ k, w.frozen? ⟨qb, k, none⟩ = false) ∧ (∃ v, w.cell? ⟨qb, 6, none⟩ = some v) ∧ (∃ v, w.cell? ⟨qb, 7, none⟩ = some v) := by
  obtain ⟨h1, h2, h3, vi, von, vwh, vg, vo, h8, h9⟩ := h
  exact ⟨⟨cell_of_heap h8 2, cell_of_heap h8 3, cell_of_heap h8 4, cell_of_heap h8 5, cell_of_heap h8 10, cell_of_heap h8 11⟩, fun k => frozen_of_heap h8 k, ⟨von, cell_of_heap h8 6⟩, ⟨vwh, cell_of_heap h8 7⟩⟩
/-- ON's, or WHERE's, expr is put. -/
theorem DInv.opt {pb tg : Nat} {ts : List Tok} {f : Nat} {w0 wq : World} {qb : Nat} {x : QS} {w w2 : World} (h : DInv pb tg ts f w0 wq qb x w) {b : Nat} {F : PF} (hgo : Goes F) (hM : Mods [pb] w w2) (hR : RSt w2 pb tg ts (F x.2).2 f)
    (hE : (F x.2).2.e = 0 → ∀ L : List Nat, (∀ y ∈ L, y < w.heap.size) → ExprAt 174 96 w2 L (PtrV b) (F x.2).1) (on : Bool) :
    DInv pb tg ts f w0 wq qb (if on then { x.1 with on := some (F x.2).1 } else { x.1 with whr := some (F x.2).1 }, (F x.2).2) (w2.setCell ⟨qb, if on then 6 else 7, none⟩ (PtrV b)) := by
  have hg := h.go hM hR (hgo x.2)
  obtain ⟨-, -, ⟨-, -, hpb, -, hqw⟩, -⟩ := h
  obtain ⟨h1, h2, ⟨h3, h4, h5, h6, h7⟩, vi, von, vwh, vg, vo, h8, h9⟩ := hg
  have hMs : Mods [qb] w2 (w2.setCell ⟨qb, if on then 6 else 7, none⟩ (PtrV b)) := (Mods.refl _ _).setCell (.inl (by simp)) _
  have hb := heap_setCell_same h8 (if on then 6 else 7) (PtrV b)
  have hp := h9.go hMs (fun x hx => by have : x = qb := by simpa using hx
                                       omega) id
  refine ⟨h1.trans hMs (fun x hx => .inr (by have : x = qb := by simpa using hx
                                             omega)), h2.mods hMs (by simp; omega) (by simp; omega), ⟨h3, h4, h5, h6, by have := hMs.size; omega⟩, ?_⟩
  have hN : (F x.2).2.e = 0 → ∀ L : List Nat, (∀ y ∈ L, y < wq.heap.size) → OptD (w2.setCell ⟨qb, if on then 6 else 7, none⟩ (PtrV b)) L (PtrV b) (some (F x.2).1) := fun h0 L hL =>
    ⟨b, rfl, ((hE h0 (qb :: L) (fun y hy => by
      rcases List.mem_cons.1 hy with rfl | hy
      · omega
      · have := hL y hy; omega)).mods (hMs.mono (by simp))).weaken (fun y hy => List.mem_cons_of_mem _ hy)⟩
  cases on with
  | true => exact ⟨vi, PtrV b, vwh, vg, vo, hb, hp.items, hp.group, hp.order, hp.gnil, hp.onil, fun h0 L hL => ⟨hN h0 L hL, (hp.opts h0 L hL).2⟩⟩
  | false => exact ⟨vi, von, PtrV b, vg, vo, hb, hp.items, hp.group, hp.order, hp.gnil, hp.onil, fun h0 L hL => ⟨(hp.opts h0 L hL).1, hN h0 L hL⟩⟩
end Go.Proofs.YtpokbepenacnpaaGreatDoor
