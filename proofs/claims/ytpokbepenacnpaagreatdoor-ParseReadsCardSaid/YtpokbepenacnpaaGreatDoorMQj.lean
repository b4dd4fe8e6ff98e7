/-
  The document's parser: test, walked. No condition but the contract of the level below.
-/
import Derived.Test.YtpokbepenacnpaaGreatDoorRpG
import Derived.Test.YtpokbepenacnpaaGreatDoorMQh
namespace Go.Proofs.YtpokbepenacnpaaGreatDoor
open Go.RowKit
set_option linter.unusedVariables false

def relW (i : Nat) : Bs := relWords.getD i []
theorem rel6 {i : Nat} (h : i < 6) : i = 0 ∨ i = 1 ∨ i = 2 ∨ i = 3 ∨ i = 4 ∨ i = 5 := by omega
theorem rel_at (w : World) (i : Nat) (h : i < 6) : (w.alloc (.cells #[.string ⟨#[61]⟩, .string ⟨#[60, 62]⟩, .string ⟨#[60]⟩, .string ⟨#[60, 61]⟩, .string ⟨#[62]⟩, .string ⟨#[62, 61]⟩] 9)).cell? ⟨w.heap.size, i, none⟩ = some (.string ⟨(relW i).toArray⟩) := by
  rw [cell_of_heap (heap_alloc_new w _) i]
  rcases rel6 h with rfl | rfl | rfl | rfl | rfl | rfl <;> rfl
theorem is_rel {s : PS} : s.is relWords = true ↔ ∃ i, i < 6 ∧ s.is [relW i] = true := by
  unfold PS.is isTok
  constructor
  · intro h
    simp only [Bool.and_eq_true, Bool.or_eq_true, decide_eq_true_eq] at h
    obtain ⟨h1, h2, h3⟩ := h
    obtain ⟨i, hi, e⟩ := List.getElem_of_mem (List.contains_iff_mem.1 h3)
    refine ⟨i, hi, ?_⟩
    simp only [Bool.and_eq_true, Bool.or_eq_true, decide_eq_true_eq]
    refine ⟨h1, h2, ?_⟩
    have : relW i = s.now.s := by
      unfold relW
      rw [List.getD_eq_getElem?_getD, List.getElem?_eq_getElem hi, e]; rfl
    rw [this]
    simp
  · rintro ⟨i, hi, h⟩
    simp only [Bool.and_eq_true, Bool.or_eq_true, decide_eq_true_eq, List.contains_cons, List.contains_nil, Bool.or_false, beq_iff_eq] at h ⊢
    refine ⟨h.1, h.2.1, ?_⟩
    rw [h.2.2]
    rcases rel6 hi with rfl | rfl | rfl | rfl | rfl | rfl <;> decide

set_option maxRecDepth 100000 in
set_option maxHeartbeats 8000000 in
theorem test_ref (f : Nat) (hpart : RC 214 (sumF (subOf f)) f) : RC 193 (testF (subOf f)) f := by
  intro w pb tg ts s h
  have hp := hpart w pb tg ts s h
  have hlt := h.lt
  obtain ⟨part, hpe⟩ : ∃ F, sumF (subOf f) = F := ⟨_, rfl⟩
  have hdef : testF (subOf f) s = (if (part s).2.is relWords = true then ((.bin { op := (part s).2.now.s, pos := (part s).2.now.pos } (part s).1 (part (part s).2.next).1 : Tree), (part (part s).2.next).2)
      else if ((part s).2.takes wIs).1 = true then (.un { op := if (((part s).2.takes wIs).2.takes wNot).1 = true then oIsNot else oIs, pos := (part s).2.now.pos } (part s).1, (((part s).2.takes wIs).2.takes wNot).2.wants [wNull])
      else ((part s).1, (part s).2)) := by rw [← hpe]; rfl
  rw [hpe] at hp hpart
  obtain ⟨fin, hfe⟩ : ∃ r, testF (subOf f) s = r := ⟨_, rfl⟩
  have HFE := Lib.hid hfe
  rw [hfe] at hdef
  obtain ⟨⟨x1, s1⟩, hps⟩ : ∃ r, part s = r := ⟨_, rfl⟩
  rw [hps] at hdef
  simp only at hdef
  have HD := Lib.hid hdef
  have HPS := Lib.hid hps
  have HFIN : Hid (∀ w' e, RRes pb tg ts f (fun _ => fin) s w e w' → RRes pb tg ts f (testF (subOf f)) s w e w') := Lib.hid fun w' e h => by
    obtain ⟨b, h1, h2, h3, h4⟩ := h
    exact ⟨b, h1, h2, by rw [HFE.out]; exact h3, by rw [HFE.out]; exact h4⟩
  unfold PtrV at *
  clear h hpe hdef hps hfe HFE
  go_enter Tryz.func193, Tryz.ntmps193
  go_wp2_with fail
  (with_reducible refine hp.mono ?_)
  rintro e w1 ⟨b1, rfl, hM1, hR1, hE1⟩
  rw [HPS.out] at hR1 hE1
  simp only at hR1 hE1
  have HE1 : Hid (s1.e = 0 → ∀ L : List Nat, (∀ x ∈ L, x < w.heap.size) → ExprAt 174 96 w1 L (.pointer (some ⟨b1, 0, none⟩)) x1) := Lib.hid hE1
  unfold PtrV
  clear hp hE1
  obtain ⟨i, cap, d, hb, hd, hi, ⟨hl, htp, hf⟩, ⟨c0, c1, c2, c3, c4⟩, -, -⟩ := hR1.tok
  have a0 := cell_of_heap hb 0
  have a1 := cell_of_heap hb 1
  change w1.cell? _ = some (.slice (some ⟨tg, 0, none⟩) ts.length cap) at a0
  change w1.cell? _ = some (.int .i64 i) at a1
  have hii : (i : Int) < (ts.length : Int) := by omega
  obtain ⟨n, hn⟩ : ∃ n, ts.length = n := ⟨_, rfl⟩
  rw [hn] at a0 hii
  obtain ⟨pos, hpos⟩ : ∃ pos, s1.now.pos = pos := ⟨_, rfl⟩
  rw [hpos] at c1
  have HPOS := Lib.hid hpos
  clear hb hd hn hpos c0 c2 c3 c4
  go_upto_region 2 with fail
  go_cut [4] from 9 to 21 (fun s4 wx => CutNode w1 (nodeA ⟨#[]⟩ pos ⟨#[]⟩ ⟨#[]⟩ 0 0 ⟨#[]⟩ (.slice none 0 0)) s4 wx)
  case first =>
    go_region_law (fail)
    all_goals
      go_wp2_with fail
      go_meet
      exact CutNode.made w1 _
  case rest =>
    obtain ⟨rfl, hMn, hsz, hxn⟩ := hcut
    obtain ⟨xb, hxbe⟩ : ∃ xb, w1.heap.size = xb := ⟨_, rfl⟩
    have hwx : w.heap.size ≤ xb := by rw [← hxbe]; exact hM1.size
    rw [hxbe] at hsz hxn
    rw [hxbe]
    have hR2 := hR1.later hMn
    have hMw2 := hM1.trans hMn (by simp)
    have hpx := hR1.lt
    have hxp : xb ≠ pb := by omega
    have hxt : xb ≠ tg := by omega
    have HE2 : Hid (s1.e = 0 → ∀ L : List Nat, (∀ x ∈ L, x < w.heap.size) → ExprAt 174 96 wc (pb :: xb :: L) (.pointer (some ⟨b1, 0, none⟩)) x1) := Lib.hid fun he L hL => by
      have hE := HE1.out he (pb :: L) (fun x hx => by
        rcases List.mem_cons.1 hx with rfl | hx
        · exact hlt.1
        · exact hL x hx)
      have hE2 := ExprAt.fresh13 (xb := xb) (Nat.le_of_eq hxbe) hE
      exact (hE2.mods (hMn.mono (by simp))).weaken (fun x hx => by
        simp only [List.mem_cons] at hx ⊢
        rcases hx with h | h | h
        · exact .inr (.inl h)
        · exact .inl h
        · exact .inr (.inr h))
    clear hR1 hMn hM1 a0 a1 c1 hii HE1
    have hrl := rel_at wc
    have hMa := (Mods.refl [] wc).alloc (.cells #[.string ⟨#[61]⟩, .string ⟨#[60, 62]⟩, .string ⟨#[60]⟩, .string ⟨#[60, 61]⟩, .string ⟨#[62]⟩, .string ⟨#[62, 61]⟩] 9)
    have hx3 := hMa.heap hxn (by simp)
    have hR3 := hR2.later hMa
    have hMw3 := hMw2.trans hMa (by simp)
    have HE3 : Hid (s1.e = 0 → ∀ L : List Nat, (∀ x ∈ L, x < w.heap.size) → ExprAt 174 96 (wc.alloc (.cells #[.string ⟨#[61]⟩, .string ⟨#[60, 62]⟩, .string ⟨#[60]⟩, .string ⟨#[60, 61]⟩, .string ⟨#[62]⟩, .string ⟨#[62, 61]⟩] 9)) (pb :: xb :: L) (.pointer (some ⟨b1, 0, none⟩)) x1) := Lib.hid fun he L hL => (HE2.out he L hL).mods (hMa.mono (by simp))
    have hgx : xb < wc.heap.size := hsz
    have hgp : pb < wc.heap.size := by omega
    clear hMa hMw2 HE2 hxn hR2
    go_upto_region 4 with fail
    generalize wc.alloc (.cells #[.string ⟨#[61]⟩, .string ⟨#[60, 62]⟩, .string ⟨#[60]⟩, .string ⟨#[60, 61]⟩, .string ⟨#[62]⟩, .string ⟨#[62, 61]⟩] 9) = w3 at *
    obtain ⟨ga, hga⟩ : ∃ ga, wc.heap.size = ga := ⟨_, rfl⟩
    rw [hga] at hrl hgx hgp
    rw [hga]
    clear hga hsz
    have HRL := Lib.hid hrl
    have hM33 := Mods.refl [pb] w3
    clear hrl
    go_wp2_with fail
    go_loopg [6] 6 (fun gk t6 wr => ∃ i : Nat, i + gk = 6 ∧ t6 = .int .i64 i ∧ Mods [pb] w3 wr ∧ RSt wr pb tg ts s1 f ∧ ∀ j, j < i → s1.is [relW j] = false)
    case atStart => exact ⟨0, by omega, rfl, hM33, hR3, fun j hj => by omega⟩
    obtain ⟨i, hi, rfl, hMr, hRr, hno⟩ := hrel
    have HNO := Lib.hid hno
    clear hno hM33
    rcases Nat.lt_or_ge i 6 with hlt6 | hge6
    · have hli : (i : Int) < 6 := by omega
      have k0 := hMr.cell (HRL.out i hlt6) (by simp; omega)
      have hta := takes_ref wr pb tg ts s1 f hRr (relW i)
      rw [takes_eq] at hta
      cases hq : s1.is [relW i] with
      | false =>
        rw [hq] at hta
        simp only at hta
        rw [if_neg (by decide)] at hta
        have HN2 : Hid (∀ j, j < i + 1 → s1.is [relW j] = false) := Lib.hid fun j hj => by
          rcases Nat.lt_or_ge j i with h | h
          · exact HNO.out j h
          · obtain rfl : j = i := by omega
            exact hq
        unfold PtrV at hta
        clear hq
        go_wp2_with fail
        (with_reducible refine hta.mono ?_)
        rintro e w4 ⟨rfl, hM4, hR4⟩
        have hM34 := hMr.trans hM4 (by simp)
        clear hta hM4 hMr hRr
        go_wp2_with fail
        go_roundg (6 - (i + 1))
        case measure => omega
        case rel => exact ⟨i + 1, by omega, by go_num, hM34, hR4, HN2.out⟩
      | true =>
        rw [hq] at hta
        simp only at hta
        rw [if_pos trivial] at hta
        have hyes : s1.is relWords = true := is_rel.2 ⟨i, hlt6, hq⟩
        have hst := is_str hq
        obtain ⟨he, hkn⟩ := is_kind hq
        have HE := Lib.hid he
        have hfin := HD.out
        rw [if_pos hyes, hst] at hfin
        have HF := Lib.hid hfin
        have hRd := hRr
        have hMwr0 := hMw3.mono (L' := [pb]) (by simp)
        have hMwr := hMwr0.trans hMr (by simp)
        have hxr := hMr.heap hx3 (by simpa using hxp)
        have HEr : Hid (s1.e = 0 → ∀ L : List Nat, (∀ x ∈ L, x < w.heap.size) → ExprAt 174 96 wr (pb :: xb :: L) (.pointer (some ⟨b1, 0, none⟩)) x1) := Lib.hid fun he L hL => (HE3.out he L hL).mods (hMr.mono (by simp))
        unfold PtrV at hta
        clear hyes hq hst he hfin HD HNO hRd hMwr0 HE3 hx3 hMw3
        go_wp2_with fail
        (with_reducible refine hta.mono ?_)
        rintro e w4 ⟨rfl, hM4, hR4⟩
        have k1 := hM4.cell k0 (by simp; omega)
        have hx4 := hM4.heap hxr (by simpa using hxp)
        have hMw4 := hMwr.trans hM4 (by simp)
        have HE4 : Hid (s1.e = 0 → ∀ L : List Nat, (∀ x ∈ L, x < w.heap.size) → ExprAt 174 96 w4 (pb :: xb :: L) (.pointer (some ⟨b1, 0, none⟩)) x1) := Lib.hid fun he L hL => (HEr.out he L hL).mods (hM4.mono (by simp))
        clear hta hM4 hMwr hxr HEr hRr hMr hR3 k0
        have q0 := cell_of_heap hx4 0
        change w4.cell? _ = some (.string ⟨#[]⟩) at q0
        have g0 := frozen_of_heap hx4 0
        have hx5 := heap_setCell_same hx4 0 (.string ⟨(relW i).toArray⟩)
        have hMs : Mods [xb] w4 (w4.setCell ⟨xb, 0, none⟩ (.string ⟨(relW i).toArray⟩)) := (Mods.refl _ _).setCell (.inl (by simp)) _
        have hR5 := hR4.mods hMs (by simpa using hxp.symm) (by simpa using hxt.symm)
        have hMw5 := hMw4.trans hMs (fun x hx => .inr (x_ge rfl hwx hx))
        have HE5 : Hid (s1.e = 0 → ∀ L : List Nat, (∀ x ∈ L, x < w.heap.size) → ExprAt 174 96 (w4.setCell ⟨xb, 0, none⟩ (.string ⟨(relW i).toArray⟩)) (pb :: xb :: L) (.pointer (some ⟨b1, 0, none⟩)) x1) := Lib.hid fun he L hL => (HE4.out he L hL).mods (hMs.mono (by simp))
        clear hMs
        go_upto_region 9 with fail
        generalize w4.setCell ⟨xb, 0, none⟩ (.string ⟨(relW i).toArray⟩) = w5 at *
        clear q0 g0
        clear k1
        have ho := hpart w5 pb tg ts s1.next hR5
        unfold PtrV at ho
        go_wp2_with fail
        (with_reducible refine ho.mono ?_)
        rintro e w6 ⟨yb, rfl, hM6, hR6, hE6⟩
        dsimp only [PtrV]
        clear ho hR5
        have hfin := HF.out
        generalize part s1.next = es at *
        have HF := Lib.hid hfin
        clear hfin
        have hMw6 := hMw5.trans hM6 (by simp)
        have hx6 := hM6.heap hx5 (by simpa using hxp)
        have hsz6 : w.heap.size ≤ w6.heap.size := hMw6.size
        have hE7 : es.2.e = 0 → ∀ L : List Nat, (∀ x ∈ L, x < w.heap.size) → ExprAt 174 96 (w6.alloc (.cells #[.pointer (some ⟨b1, 0, none⟩), PtrV yb] 96)) (pb :: xb :: L) (PtrV yb) es.1 ∧ ExprAt 174 96 (w6.alloc (.cells #[.pointer (some ⟨b1, 0, none⟩), PtrV yb] 96)) (pb :: xb :: L) (.pointer (some ⟨b1, 0, none⟩)) x1 := fun he L hL => by
          have hM7 := (Mods.refl [] w6).alloc (.cells #[.pointer (some ⟨b1, 0, none⟩), PtrV yb] 96)
          refine ⟨(hE6 he (pb :: xb :: L) (fun x hx => ?_)).mods (hM7.mono (by simp)), ((HE5.out HE.out L hL).mods (hM6.mono (by simp))).mods (hM7.mono (by simp))⟩
          have h5 := hMw5.size
          have hpl := hlt.1
          have hxl := lt_size_of_heap hx5
          rcases List.mem_cons.1 hx with rfl | hx
          · omega
          · rcases List.mem_cons.1 hx with rfl | hx
            · omega
            · have := hL x hx; omega
        have HE7 := Lib.hid hE7
        have hcl := heap_alloc_new w6 (.cells #[.pointer (some ⟨b1, 0, none⟩), PtrV yb] 96)
        have hMd := (Mods.refl [] w6).alloc (.cells #[.pointer (some ⟨b1, 0, none⟩), PtrV yb] 96)
        have hx7 := hMd.heap hx6 (by simp)
        have hR7 := hR6.later hMd
        have hMw7 := hMw6.trans hMd (by simp)
        have HX6 := Lib.hid (lt_size_of_heap hx6)
        unfold PtrV at hcl hMd hx7 hR7 hMw7 HE7
        have y7 := cell_of_heap hx7 7
        have j7 := frozen_of_heap hx7 7
        change World.cell? _ _ = some (.slice none 0 0) at y7
        clear hE7 hE6 hx6 hR6 hMd hM6 hMw6 hMw5 hx5 HE5
        go_upto_region 10 with fail
        have hx6l := HX6.out
        clear HX6
        generalize w6.alloc (.cells #[.pointer (some ⟨b1, 0, none⟩), .pointer (some ⟨yb, 0, none⟩)] 96) = w7 at *
        generalize w6.heap.size = cb at *
        have hx8 := heap_setCell_same hx7 7 (.slice (some ⟨cb, 0, none⟩) 2 2)
        have hMs : Mods [xb] w7 (w7.setCell ⟨xb, 7, none⟩ (.slice (some ⟨cb, 0, none⟩) 2 2)) := (Mods.refl _ _).setCell (.inl (by simp)) _
        have hR8 := hR7.mods hMs (by simpa using hxp.symm) (by simpa using hxt.symm)
        have hMw8 := hMw7.trans hMs (fun x hx => .inr (x_ge rfl hwx hx))
        have hcl8 := hMs.heap hcl (by simp; omega)
        have HRET : Hid (RRes pb tg ts f (fun _ => fin) s w (.returned (.pointer (some ⟨xb, 0, none⟩))) (w7.setCell ⟨xb, 7, none⟩ (.slice (some ⟨cb, 0, none⟩) 2 2))) := Lib.hid (by
          refine ⟨xb, rfl, hMw8, by rw [HF.out]; exact hR8, ?_⟩
          rw [HF.out]
          intro h0 L hL
          have hE := HE7.out h0 L hL
          rw [HPOS.out]
          refine ⟨xb, cb, .pointer (some ⟨b1, 0, none⟩), .pointer (some ⟨yb, 0, none⟩), rfl, fun hm => by have := hL _ hm; omega, fun hm => by have := hL _ hm; omega, hx8, hcl8, ?_, ?_⟩
          · exact (hE.2.mods (hMs.mono (by simp))).weaken (fun x hx => by simp [hx])
          · exact (hE.1.mods (hMs.mono (by simp))).weaken (fun x hx => by simp [hx]))
        clear hMs hR7 hMw7 hcl hx7 HE7 y7 j7 hx8 hR8 hMw8 hcl8
        generalize w7.setCell ⟨xb, 7, none⟩ (.slice (some ⟨cb, 0, none⟩) 2 2) = w8 at *
        go_wp2_with fail
        go_ret
        exact HFIN.out _ _ HRET.out
    · obtain rfl : i = 6 := by omega
      have hnr : s1.is relWords = false := Bool.eq_false_iff.2 (fun h => by
        obtain ⟨j, hj, h2⟩ := is_rel.1 h
        rw [HNO.out j hj] at h2; cases h2)
      have hfin := HD.out
      rw [if_neg (by rw [hnr]; decide)] at hfin
      have hMwr0 := hMw3.mono (L' := [pb]) (by simp)
      have hMwr := hMwr0.trans hMr (by simp)
      have hxr := hMr.heap hx3 (by simpa using hxp)
      have HEr : Hid (s1.e = 0 → ∀ L : List Nat, (∀ x ∈ L, x < w.heap.size) → ExprAt 174 96 wr (pb :: xb :: L) (.pointer (some ⟨b1, 0, none⟩)) x1) := Lib.hid fun he L hL => (HE3.out he L hL).mods (hMr.mono (by simp))
      have h2 : Calls Tryz.prog 80 #[PtrV pb, .string ⟨#[73, 83]⟩] wr _ := takes_ref wr pb tg ts s1 f hRr wIs
      have hte := takes_eq s1 wIs
      have hai := (Aft.takes s1 wIs).err
      obtain ⟨⟨tk, s2⟩, hs2⟩ : ∃ x, s1.takes wIs = x := ⟨_, rfl⟩
      rw [hs2] at h2 hfin hte hai
      simp only at h2 hfin hai
      have HF := Lib.hid hfin
      have HTE := Lib.hid hte
      have HAI := Lib.hid hai
      unfold PtrV at h2
      clear hnr hfin hs2 hte hai HD HNO hMwr0 HE3 hx3 hMw3 hRr hR3
      go_wp2_with fail
      (with_reducible refine h2.mono ?_)
      rintro e w4 ⟨rfl, hM4, hR4⟩
      have hx4 := hM4.heap hxr (by simpa using hxp)
      have hMw4 := hMwr.trans hM4 (by simp)
      have HE4 : Hid (s1.e = 0 → ∀ L : List Nat, (∀ x ∈ L, x < w.heap.size) → ExprAt 174 96 w4 (pb :: xb :: L) (.pointer (some ⟨b1, 0, none⟩)) x1) := Lib.hid fun he L hL => (HEr.out he L hL).mods (hM4.mono (by simp))
      clear h2 hM4 hMwr hxr HEr hMr
      cases tk with
      | false =>
        have hfin := HF.out
        simp only [Bool.false_eq_true, if_false] at hfin
        have he := HTE.out
        have hs12 : s2 = s1 := by
          injection he with h1 h2
          rw [← h1] at h2
          rw [if_neg (by decide)] at h2
          exact h2
        subst hs12
        have HF := Lib.hid hfin
        clear hfin he
        go_wp2_with fail
        go_ret
        refine HFIN.out _ _ ⟨b1, rfl, hMw4, by rw [HF.out]; exact hR4, ?_⟩
        rw [HF.out]
        exact fun h0 L hL => (HE4.out h0 L hL).weaken (fun x hx => by simp [hx])
      | true =>
        have hfin := HF.out
        simp only [if_true] at hfin
        have HF := Lib.hid hfin
        have he := HTE.out
        have he1 : s1.e = 0 := by
          injection he with h1 h2
          exact (is_kind h1.symm).1
        have HE := Lib.hid he1
        clear hfin he he1
        have q0 := cell_of_heap hx4 0
        change w4.cell? _ = some (.string ⟨#[]⟩) at q0
        have g0 := frozen_of_heap hx4 0
        have hx5 := heap_setCell_same hx4 0 (.string ⟨#[105, 115, 110, 117, 108, 108]⟩)
        have hMs : Mods [xb] w4 (w4.setCell ⟨xb, 0, none⟩ (.string ⟨#[105, 115, 110, 117, 108, 108]⟩)) := (Mods.refl _ _).setCell (.inl (by simp)) _
        have hR5 := hR4.mods hMs (by simpa using hxp.symm) (by simpa using hxt.symm)
        have hMw5 := hMw4.trans hMs (fun x hx => .inr (x_ge rfl hwx hx))
        have HE5 : Hid (s1.e = 0 → ∀ L : List Nat, (∀ x ∈ L, x < w.heap.size) → ExprAt 174 96 (w4.setCell ⟨xb, 0, none⟩ (.string ⟨#[105, 115, 110, 117, 108, 108]⟩)) (pb :: xb :: L) (.pointer (some ⟨b1, 0, none⟩)) x1) := Lib.hid fun he L hL => (HE4.out he L hL).mods (hMs.mono (by simp))
        clear hMs
        go_upto_region 14 with fail
        generalize w4.setCell ⟨xb, 0, none⟩ (.string ⟨#[105, 115, 110, 117, 108, 108]⟩) = w5 at *
        clear q0 g0
        have h6 : Calls Tryz.prog 80 #[PtrV pb, .string ⟨#[78, 79, 84]⟩] w5 _ := takes_ref w5 pb tg ts s2 f hR5 wNot
        obtain ⟨⟨nt, s3⟩, hs3⟩ : ∃ x, s2.takes wNot = x := ⟨_, rfl⟩
        have hfin := HF.out
        rw [hs3] at h6 hfin
        simp only at h6 hfin
        have HF := Lib.hid hfin
        unfold PtrV at h6
        clear hfin hs3 hR5
        go_wp2_with fail
        (with_reducible refine h6.mono ?_)
        rintro e w6 ⟨rfl, hM6, hR6⟩
        have hx6 := hM6.heap hx5 (by simpa using hxp)
        have hMw6 := hMw5.trans hM6 (by simp)
        have HE6 : Hid (s1.e = 0 → ∀ L : List Nat, (∀ x ∈ L, x < w.heap.size) → ExprAt 174 96 w6 (pb :: xb :: L) (.pointer (some ⟨b1, 0, none⟩)) x1) := Lib.hid fun he L hL => (HE5.out he L hL).mods (hM6.mono (by simp))
        clear h6 hM6 hMw5 hx5 HE5
        cases nt with
        | true =>
          have hfin := HF.out
          simp only [if_true] at hfin
          have HF := Lib.hid hfin
          clear hfin
          have q0 := cell_of_heap hx6 0
          change w6.cell? _ = some (.string ⟨#[105, 115, 110, 117, 108, 108]⟩) at q0
          have g0 := frozen_of_heap hx6 0
          have hx7 := heap_setCell_same hx6 0 (.string ⟨#[110, 111, 116, 110, 117, 108, 108]⟩)
          have hMs : Mods [xb] w6 (w6.setCell ⟨xb, 0, none⟩ (.string ⟨#[110, 111, 116, 110, 117, 108, 108]⟩)) := (Mods.refl _ _).setCell (.inl (by simp)) _
          have hR7 := hR6.mods hMs (by simpa using hxp.symm) (by simpa using hxt.symm)
          have hMw7 := hMw6.trans hMs (fun x hx => .inr (x_ge rfl hwx hx))
          have HE7 : Hid (s1.e = 0 → ∀ L : List Nat, (∀ x ∈ L, x < w.heap.size) → ExprAt 174 96 (w6.setCell ⟨xb, 0, none⟩ (.string ⟨#[110, 111, 116, 110, 117, 108, 108]⟩)) (pb :: xb :: L) (.pointer (some ⟨b1, 0, none⟩)) x1) := Lib.hid fun he L hL => (HE6.out he L hL).mods (hMs.mono (by simp))
          clear hMs
          go_upto_region 16 with fail
          generalize w6.setCell ⟨xb, 0, none⟩ (.string ⟨#[110, 111, 116, 110, 117, 108, 108]⟩) = w7 at *
          clear q0 g0
          have h8 : Calls Tryz.prog 77 #[PtrV pb, .string ⟨#[78, 85, 76, 76]⟩] w7 _ := wants_ref w7 pb tg ts s3 f hR7 wNull
          have hfin := HF.out
          generalize s3.wants [wNull] = s4 at *
          have HF := Lib.hid hfin
          unfold PtrV at h8
          clear hfin hR7
          go_wp2_with fail
          (with_reducible refine h8.mono ?_)
          rintro e w8 ⟨rfl, hM8, hR8⟩
          have hx8 := hM8.heap hx7 (by simpa using hxp)
          have hMw8 := hMw7.trans hM8 (by simp)
          have HE8 : Hid (s1.e = 0 → ∀ L : List Nat, (∀ x ∈ L, x < w.heap.size) → ExprAt 174 96 w8 (pb :: xb :: L) (.pointer (some ⟨b1, 0, none⟩)) x1) := Lib.hid fun he L hL => (HE7.out he L hL).mods (hM8.mono (by simp))
          clear h8 hM8 hMw7 hx7 HE7
          have hsz8 : w.heap.size ≤ w8.heap.size := hMw8.size
          have hcl := heap_alloc_new w8 (.cells #[.pointer (some ⟨b1, 0, none⟩)] 96)
          have hMd := (Mods.refl [] w8).alloc (.cells #[.pointer (some ⟨b1, 0, none⟩)] 96)
          have hx9 := hMd.heap hx8 (by simp)
          have hR9 := hR8.later hMd
          have hMw9 := hMw8.trans hMd (by simp)
          have HE9 : Hid (s1.e = 0 → ∀ L : List Nat, (∀ x ∈ L, x < w.heap.size) → ExprAt 174 96 (w8.alloc (.cells #[.pointer (some ⟨b1, 0, none⟩)] 96)) (pb :: xb :: L) (.pointer (some ⟨b1, 0, none⟩)) x1) := Lib.hid fun he L hL => (HE8.out he L hL).mods (hMd.mono (by simp))
          have HX8 := Lib.hid (lt_size_of_heap hx8)
          have y7 := cell_of_heap hx9 7
          have j7 := frozen_of_heap hx9 7
          change World.cell? _ _ = some (.slice none 0 0) at y7
          clear hx8 hR8 hMd hMw8 HE8
          go_upto_region 18 with fail
          have hx8l := HX8.out
          clear HX8
          generalize w8.alloc (.cells #[.pointer (some ⟨b1, 0, none⟩)] 96) = w9 at *
          generalize w8.heap.size = cb at *
          have hxa := heap_setCell_same hx9 7 (.slice (some ⟨cb, 0, none⟩) 1 1)
          have hMs : Mods [xb] w9 (w9.setCell ⟨xb, 7, none⟩ (.slice (some ⟨cb, 0, none⟩) 1 1)) := (Mods.refl _ _).setCell (.inl (by simp)) _
          have hRa := hR9.mods hMs (by simpa using hxp.symm) (by simpa using hxt.symm)
          have hMwa := hMw9.trans hMs (fun x hx => .inr (x_ge rfl hwx hx))
          have hcla := hMs.heap hcl (by simp; omega)
          have HRET : Hid (RRes pb tg ts f (fun _ => fin) s w (.returned (.pointer (some ⟨xb, 0, none⟩))) (w9.setCell ⟨xb, 7, none⟩ (.slice (some ⟨cb, 0, none⟩) 1 1))) := Lib.hid (by
            refine ⟨xb, rfl, hMwa, by rw [HF.out]; exact hRa, ?_⟩
            rw [HF.out]
            intro h0 L hL
            have hE := HE9.out HE.out L hL
            rw [HPOS.out]
            refine ⟨xb, cb, .pointer (some ⟨b1, 0, none⟩), rfl, fun hm => by have := hL _ hm; omega, fun hm => by have := hL _ hm; omega, hxa, hcla, ?_⟩
            exact (hE.mods (hMs.mono (by simp))).weaken (fun x hx => by simp [hx]))
          clear hMs hR9 hMw9 hcl hx9 HE9 y7 j7 hxa hRa hMwa hcla
          generalize w9.setCell ⟨xb, 7, none⟩ (.slice (some ⟨cb, 0, none⟩) 1 1) = wz at *
          go_wp2_with fail
          go_ret
          exact HFIN.out _ _ HRET.out
        | false =>
          have hfin := HF.out
          simp only [Bool.false_eq_true, if_false] at hfin
          have HF := Lib.hid hfin
          clear hfin
          have hx7 := hx6
          have hR7 := hR6
          have hMw7 := hMw6
          have HE7 := HE6
          have hw67 : w6 = w6 := rfl
          clear hx6 hR6 hMw6 HE6 hw67
          have h8 : Calls Tryz.prog 77 #[PtrV pb, .string ⟨#[78, 85, 76, 76]⟩] w6 _ := wants_ref w6 pb tg ts s3 f hR7 wNull
          have hfin := HF.out
          generalize s3.wants [wNull] = s4 at *
          have HF := Lib.hid hfin
          unfold PtrV at h8
          clear hfin hR7
          go_wp2_with fail
          (with_reducible refine h8.mono ?_)
          rintro e w8 ⟨rfl, hM8, hR8⟩
          have hx8 := hM8.heap hx7 (by simpa using hxp)
          have hMw8 := hMw7.trans hM8 (by simp)
          have HE8 : Hid (s1.e = 0 → ∀ L : List Nat, (∀ x ∈ L, x < w.heap.size) → ExprAt 174 96 w8 (pb :: xb :: L) (.pointer (some ⟨b1, 0, none⟩)) x1) := Lib.hid fun he L hL => (HE7.out he L hL).mods (hM8.mono (by simp))
          clear h8 hM8 hMw7 hx7 HE7
          have hsz8 : w.heap.size ≤ w8.heap.size := hMw8.size
          have hcl := heap_alloc_new w8 (.cells #[.pointer (some ⟨b1, 0, none⟩)] 96)
          have hMd := (Mods.refl [] w8).alloc (.cells #[.pointer (some ⟨b1, 0, none⟩)] 96)
          have hx9 := hMd.heap hx8 (by simp)
          have hR9 := hR8.later hMd
          have hMw9 := hMw8.trans hMd (by simp)
          have HE9 : Hid (s1.e = 0 → ∀ L : List Nat, (∀ x ∈ L, x < w.heap.size) → ExprAt 174 96 (w8.alloc (.cells #[.pointer (some ⟨b1, 0, none⟩)] 96)) (pb :: xb :: L) (.pointer (some ⟨b1, 0, none⟩)) x1) := Lib.hid fun he L hL => (HE8.out he L hL).mods (hMd.mono (by simp))
          have HX8 := Lib.hid (lt_size_of_heap hx8)
          have y7 := cell_of_heap hx9 7
          have j7 := frozen_of_heap hx9 7
          change World.cell? _ _ = some (.slice none 0 0) at y7
          clear hx8 hR8 hMd hMw8 HE8
          go_upto_region 18 with fail
          have hx8l := HX8.out
          clear HX8
          generalize w8.alloc (.cells #[.pointer (some ⟨b1, 0, none⟩)] 96) = w9 at *
          generalize w8.heap.size = cb at *
          have hxa := heap_setCell_same hx9 7 (.slice (some ⟨cb, 0, none⟩) 1 1)
          have hMs : Mods [xb] w9 (w9.setCell ⟨xb, 7, none⟩ (.slice (some ⟨cb, 0, none⟩) 1 1)) := (Mods.refl _ _).setCell (.inl (by simp)) _
          have hRa := hR9.mods hMs (by simpa using hxp.symm) (by simpa using hxt.symm)
          have hMwa := hMw9.trans hMs (fun x hx => .inr (x_ge rfl hwx hx))
          have hcla := hMs.heap hcl (by simp; omega)
          have HRET : Hid (RRes pb tg ts f (fun _ => fin) s w (.returned (.pointer (some ⟨xb, 0, none⟩))) (w9.setCell ⟨xb, 7, none⟩ (.slice (some ⟨cb, 0, none⟩) 1 1))) := Lib.hid (by
            refine ⟨xb, rfl, hMwa, by rw [HF.out]; exact hRa, ?_⟩
            rw [HF.out]
            intro h0 L hL
            have hE := HE9.out HE.out L hL
            rw [HPOS.out]
            refine ⟨xb, cb, .pointer (some ⟨b1, 0, none⟩), rfl, fun hm => by have := hL _ hm; omega, fun hm => by have := hL _ hm; omega, hxa, hcla, ?_⟩
            exact (hE.mods (hMs.mono (by simp))).weaken (fun x hx => by simp [hx]))
          clear hMs hR9 hMw9 hcl hx9 HE9 y7 j7 hxa hRa hMwa hcla
          generalize w9.setCell ⟨xb, 7, none⟩ (.slice (some ⟨cb, 0, none⟩) 1 1) = wz at *
          go_wp2_with fail
          go_ret
          exact HFIN.out _ _ HRET.out
end Go.Proofs.YtpokbepenacnpaaGreatDoor

namespace Go.Proofs.YtpokbepenacnpaaGreatDoor
open Go.RowKit
set_option linter.unusedVariables false

theorem ref_levels (f : Nat) (hm : ∀ g, f = g + 1 → RC 228 (lvl g).minus g) (hn : ∀ g, f = g + 1 → RC 161 (lvl g).not g) (ho : ∀ g, f = g + 1 → RC 81 (lvl g).expr g) :
    RC 228 (lvl f).minus f ∧ RC 161 (lvl f).not f ∧ RC 81 (lvl f).expr f := by
  have hp := primary_ref f ho
  have h1 := minus_ref f hp hm
  have h2 := term_ref f h1 (goes_minus (goes_sub f))
  have h3 := sum_ref f h2 (goes_term (goes_sub f))
  have h4 := test_ref f h3
  have h5 := not_ref f h4 hn
  have h6 := and_ref f h5 (goes_not (goes_sub f))
  have h7 := or_ref f h6 (goes_and (goes_sub f))
  rw [lvl_eq]
  exact ⟨h1, h5, h7⟩
theorem ref_lvl : ∀ f, RC 228 (lvl f).minus f ∧ RC 161 (lvl f).not f ∧ RC 81 (lvl f).expr f := by
  intro f
  induction f with
  | zero => exact ref_levels 0 (fun g h => by cases h) (fun g h => by cases h) (fun g h => by cases h)
  | succ f ih => exact ref_levels (f + 1) (fun g h => by cases h; exact ih.1) (fun g h => by cases h; exact ih.2.1) (fun g h => by cases h; exact ih.2.2)
/-- An expr, as the document reads it. -/
theorem or_all (w : World) (pb tg : Nat) (ts : List Tok) (s : PS) (f : Nat) (h : RSt w pb tg ts s f) : Calls Tryz.prog 81 #[PtrV pb] w (RRes pb tg ts f (lvl f).expr s w) := (ref_lvl f).2.2 w pb tg ts s h
end Go.Proofs.YtpokbepenacnpaaGreatDoor
