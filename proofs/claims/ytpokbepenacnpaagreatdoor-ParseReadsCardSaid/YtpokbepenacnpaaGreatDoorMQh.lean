/-
  The document's parser: term, walked. No condition but the contract of the level below.
-/
import Derived.StillTailTactics
import Derived.Test.YtpokbepenacnpaaGreatDoorRpG
import Derived.Test.YtpokbepenacnpaaGreatDoorMPq
namespace Go.Proofs.YtpokbepenacnpaaGreatDoor
open Go.RowKit
set_option linter.unusedVariables false

set_option maxRecDepth 100000 in
set_option maxHeartbeats 8000000 in
theorem term_ref (f : Nat) (hpart : RC 228 (minusF (subOf f)) f) (hgoes : Goes (minusF (subOf f))) : RC 225 (termF (subOf f)) f := by
  intro w pb tg ts s h
  have hp := hpart w pb tg ts s h
  have hlt := h.lt
  obtain ⟨part, hpe⟩ : ∃ F, minusF (subOf f) = F := ⟨_, rfl⟩
  have hF : termF (subOf f) s = joinG part [wStar, [47]] (part s).2.rest.length (part s).1 (part s).2 := by rw [← hpe]; rfl
  rw [hpe] at hp hpart hgoes
  have HF := Lib.hid hF
  unfold PtrV at *
  clear h hpe hF
  go_enter Tryz.func225, Tryz.ntmps225
  go_wp2_with fail
  (with_reducible refine hp.mono ?_)
  rintro e w1 ⟨b1, rfl, hM1, hR1, hE1⟩
  unfold PtrV
  clear hp
  have HJ : Hid (JoinAt pb tg ts f w part [wStar, [47]] (termF (subOf f) s) (part s).2.rest.length w1 (.pointer (some ⟨b1, 0, none⟩))) := Lib.hid ⟨(part s).1, (part s).2, b1, rfl, hM1, hR1, fun h0 L hL => hE1 h0 L hL, Nat.le_refl _, HF.out.symm⟩
  clear hE1 hR1 hM1
  go_wp2_with fail
  go_loopg [3] (part s).2.rest.length (fun gk t3 wr => Hid (JoinAt pb tg ts f w part [wStar, [47]] (termF (subOf f) s) gk wr t3))
  case atStart => exact HJ
  clear HJ
  obtain ⟨x1, s1, b1, rfl, hMr, hRr, hEr, hlen, hfin⟩ := hrel.out
  have HS := Lib.hid (And.intro hEr (And.intro hlen hfin))
  clear hrel hEr hlen hfin
  unfold PtrV
  cases hq : s1.is [wStar] with
  | true =>
    have hi : Calls Tryz.prog 124 #[PtrV pb, .string ⟨#[42]⟩] wr _ := is_ref wr pb tg ts s1 f hRr wStar
    rw [hq] at hi
    unfold PtrV at hi
    go_wp2_with fail
    (with_reducible refine hi.mono ?_)
    rintro e wq ⟨rfl, hMi⟩
    clear hi
    have hMr := hMr.trans hMi (by simp)
    have hRr := hRr.later hMi
    have hEs := HS.out.1
    have HS : Hid ((s1.e = 0 → ∀ L : List Nat, (∀ x ∈ L, x < w.heap.size) → ExprAt 174 96 wq L (.pointer (some ⟨b1, 0, none⟩)) x1) ∧ _ ∧ _) := Lib.hid ⟨fun h0 L hL => (hEs h0 L hL).mods (hMi.mono (by simp)), HS.out.2⟩
    have hyes : s1.is [wStar, [47]] = true := is_or.2 (.inl hq)
    have hword : s1.now.s = wStar := is_str hq
    clear hEs hMi hq
    obtain ⟨he, hkn⟩ := is_kind hyes
    have HE := Lib.hid he
    obtain ⟨opb, hopb⟩ : ∃ opb, s1.now.s = opb := ⟨_, rfl⟩
    have hlow : s1.now.s.map lowc = opb := by rw [← hopb]; exact by rw [hword]; decide
    have HLOW := Lib.hid hlow
    have HY := Lib.hid hyes
    clear hyes he hword
    obtain ⟨i, cap, d, hb, hd, hi, ⟨hl, htp, hf⟩, ⟨c0, c1, c2, c3, c4⟩, -, -⟩ := hRr.tok
    have a0 := cell_of_heap hb 0
    have a1 := cell_of_heap hb 1
    change wq.cell? _ = some (.slice (some ⟨tg, 0, none⟩) ts.length cap) at a0
    change wq.cell? _ = some (.int .i64 i) at a1
    have hii : (i : Int) < (ts.length : Int) := by omega
    rw [hopb] at c2
    clear hopb hlow
    obtain ⟨n, hn⟩ : ∃ n, ts.length = n := ⟨_, rfl⟩
    rw [hn] at a0 hii
    obtain ⟨pos, hpos⟩ : ∃ pos, s1.now.pos = pos := ⟨_, rfl⟩
    rw [hpos] at c1
    have HPOS := Lib.hid hpos
    clear hb hd hn hpos c0 c3 c4
    go_upto_region 3 with fail
    go_cut [4] from 13 to 36 (fun s4 wx => CutNode wq (nodeA ⟨opb.toArray⟩ pos ⟨#[]⟩ ⟨#[]⟩ 0 0 ⟨#[]⟩ (.slice none 0 0)) s4 wx)
    case first =>
      have A0 : wq.drew.cell? ⟨pb, 0, none⟩ = _ := a0
      have A1 : wq.drew.cell? ⟨pb, 1, none⟩ = _ := a1
      have C1 : wq.drew.cell? ⟨tg, i * 5 + 1, none⟩ = _ := c1
      have C2 : wq.drew.cell? ⟨tg, i * 5 + 2, none⟩ = _ := c2
      have hi0 : (0 : Int) ≤ (i : Int) ∧ (i : Int) < (n : Int) := by omega
      have hit : (i : Int).toNat = i := by omega
      clear hkn hpart hgoes
      go_still_tail 23, (by kernel_rfl)
      change wpList _ _ _ _ _ wq.drew
      go_wp2_with fail
      go_meet
      first | exact CutNode.made wq _ | exact CutNode.made2 wq _
    case rest =>
      obtain ⟨rfl, hMn, hsz, hxn⟩ := hcut
      obtain ⟨xb, hxbe⟩ : ∃ xb, wq.heap.size = xb := ⟨_, rfl⟩
      have hwx : w.heap.size ≤ xb := by rw [← hxbe]; exact hMr.size
      rw [hxbe] at hsz hxn
      rw [hxbe]
      have hR3 := hRr.later hMn
      have hMw3 := hMr.trans hMn (by simp)
      have hpx := hRr.lt
      have hxp : xb ≠ pb := by omega
      have hxt : xb ≠ tg := by omega
      have HEr : Hid (∀ L : List Nat, (∀ x ∈ L, x < w.heap.size) → ExprAt 174 96 wc (pb :: xb :: L) (.pointer (some ⟨b1, 0, none⟩)) x1) := Lib.hid fun L hL => by
        have hE := HS.out.1 HE.out (pb :: L) (fun x hx => by
          rcases List.mem_cons.1 hx with rfl | hx
          · exact hlt.1
          · exact hL x hx)
        have hE2 := ExprAt.fresh13 (xb := xb) (Nat.le_of_eq hxbe) hE
        exact (hE2.mods (hMn.mono (by simp))).weaken (fun x hx => by
          simp only [List.mem_cons] at hx ⊢
          rcases hx with h | h | h
          · exact .inr (.inl h)
          · exact .inl h
          · exact .inr (.inr h))
      clear hRr hMn hMr a0 a1 c1 c2 hii
      obtain ⟨ix, hix, bb, gg, hwz, hMs, hR5⟩ := hR3.pass hkn
      have hMw5 := hMw3.trans hMs (by simp)
      have hx5 := hMs.heap hxn (by simpa using hxp)
      have HE5 : Hid (∀ L : List Nat, (∀ x ∈ L, x < w.heap.size) → ExprAt 174 96 (wc.setCell ⟨pb, 1, none⟩ (.int .i64 ((ix : Int) + 1))) (pb :: xb :: L) (.pointer (some ⟨b1, 0, none⟩)) x1) := Lib.hid fun L hL => (HEr.out L hL).mods (hMs.mono (by simp))
      clear hMs hR3 hMw3 hxn HEr
      go_upto_region 5 with fail
      generalize wc.setCell ⟨pb, 1, none⟩ (.int .i64 ((ix : Int) + 1)) = w5 at *
      clear bb gg hwz hix
      have ho := hpart w5 pb tg ts s1.next hR5
      unfold PtrV at ho
      go_wp2_with fail
      (with_reducible refine ho.mono ?_)
      rintro e w6 ⟨yb, rfl, hM6, hR6, hE6⟩
      dsimp only [PtrV]
      clear ho hR5
      obtain ⟨es, hes⟩ : ∃ es, part s1.next = es := ⟨_, rfl⟩
      rw [hes] at hR6 hE6
      have HES := Lib.hid hes
      clear hes
      have hMw6 := hMw5.trans hM6 (by simp)
      have hx6 := hM6.heap hx5 (by simpa using hxp)
      have hsz6 : w.heap.size ≤ w6.heap.size := hMw6.size
      have hE7 : es.2.e = 0 → ∀ L : List Nat, (∀ x ∈ L, x < w.heap.size) → ExprAt 174 96 (w6.alloc (.cells #[.pointer (some ⟨b1, 0, none⟩), PtrV yb] 96)) (pb :: xb :: L) (PtrV yb) es.1 ∧ ExprAt 174 96 (w6.alloc (.cells #[.pointer (some ⟨b1, 0, none⟩), PtrV yb] 96)) (pb :: xb :: L) (.pointer (some ⟨b1, 0, none⟩)) x1 := fun he L hL => by
        have hM7 := (Mods.refl [] w6).alloc (.cells #[.pointer (some ⟨b1, 0, none⟩), PtrV yb] 96)
        refine ⟨(hE6 he (pb :: xb :: L) (fun x hx => ?_)).mods (hM7.mono (by simp)), ((HE5.out L hL).mods (hM6.mono (by simp))).mods (hM7.mono (by simp))⟩
        have h5 := hMw5.size
        have hpl := hlt.1
        have hxl := lt_size_of_heap hx5
        rcases List.mem_cons.1 hx with rfl | hx
        · omega
        · rcases List.mem_cons.1 hx with rfl | hx
          · omega
          · have := hL x hx; omega
      have HE7 := Lib.hid hE7
      have hcl := heap_alloc_new w6 (.cells #[.pointer (some ⟨b1, 0, none⟩), PtrV yb] 96)
      have hMd := (Mods.refl [] w6).alloc (.cells #[.pointer (some ⟨b1, 0, none⟩), PtrV yb] 96)
      have hx7 := hMd.heap hx6 (by simp)
      have hR7 := hR6.later hMd
      have hMw7 := hMw6.trans hMd (by simp)
      have HX6 := Lib.hid (lt_size_of_heap hx6)
      unfold PtrV at hcl hMd hx7 hR7 hMw7 HE7
      have y7 := cell_of_heap hx7 7
      have j7 := frozen_of_heap hx7 7
      change World.cell? _ _ = some (.slice none 0 0) at y7
      clear hE7 hE6 hx6 hR6 hMd hM6 hMw6 hMw5 hx5 HE5
      go_upto_region 6 with fail
      have hx6l := HX6.out
      clear HX6
      generalize w6.alloc (.cells #[.pointer (some ⟨b1, 0, none⟩), .pointer (some ⟨yb, 0, none⟩)] 96) = w7 at *
      generalize w6.heap.size = cb at *
      have hx8 := heap_setCell_same hx7 7 (.slice (some ⟨cb, 0, none⟩) 2 2)
      have hMs : Mods [xb] w7 (w7.setCell ⟨xb, 7, none⟩ (.slice (some ⟨cb, 0, none⟩) 2 2)) := (Mods.refl _ _).setCell (.inl (by simp)) _
      have hR8 := hR7.mods hMs (by simpa using hxp.symm) (by simpa using hxt.symm)
      have hMw8 := hMw7.trans hMs (fun x hx => .inr (x_ge rfl hwx hx))
      have hcl8 := hMs.heap hcl (by simp; omega)
      have HJ : Hid (JoinAt pb tg ts f w part [wStar, [47]] (termF (subOf f) s) (gk - 1) (w7.setCell ⟨xb, 7, none⟩ (.slice (some ⟨cb, 0, none⟩) 2 2)) (.pointer (some ⟨xb, 0, none⟩))) := Lib.hid (by
        obtain ⟨-, hlen, hfin⟩ := HS.out
        have hnl := next_len hkn
        have hgl := (hgoes s1.next).len
        obtain ⟨k, rfl⟩ : ∃ k, gk = k + 1 := ⟨gk - 1, by omega⟩
        refine ⟨.bin { op := s1.now.s.map lowc, pos := s1.now.pos } x1 es.1, es.2, xb, rfl, hMw8, hR8, fun h0 L hL => ?_, by rw [HES.out] at hgl; omega, ?_⟩
        · have hE := HE7.out h0 L hL
          rw [HPOS.out, HLOW.out]
          refine ⟨xb, cb, .pointer (some ⟨b1, 0, none⟩), .pointer (some ⟨yb, 0, none⟩), rfl, fun hm => by have := hL _ hm; omega, fun hm => by have := hL _ hm; omega, hx8, hcl8, ?_, ?_⟩
          · exact (hE.2.mods (hMs.mono (by simp))).weaken (fun x hx => by simp [hx])
          · exact (hE.1.mods (hMs.mono (by simp))).weaken (fun x hx => by simp [hx])
        · rw [← hfin]
          conv => rhs; unfold joinG
          rw [if_pos HY.out, HES.out]
          rfl)
      have hgk : gk - 1 < gk := by
        obtain ⟨-, hlen, -⟩ := HS.out
        have hnl := next_len hkn
        omega
      clear hMs hR7 hMw7 hcl hx7 HE7 y7 j7 hx8 hR8 hMw8 hcl8
      generalize w7.setCell ⟨xb, 7, none⟩ (.slice (some ⟨cb, 0, none⟩) 2 2) = w8 at *
      go_wp2_with fail
      go_roundg (gk - 1)
      case measure => exact hgk
      case rel => exact HJ
  | false =>
    have hi : Calls Tryz.prog 124 #[PtrV pb, .string ⟨#[42]⟩] wr _ := is_ref wr pb tg ts s1 f hRr wStar
    rw [hq] at hi
    unfold PtrV at hi
    go_wp2_with fail
    (with_reducible refine hi.mono ?_)
    rintro e wp ⟨rfl, hMi⟩
    clear hi
    have hRp := hRr.later hMi
    cases hq2 : s1.is [[47]] with
    | true =>
      have hi : Calls Tryz.prog 124 #[PtrV pb, .string ⟨#[47]⟩] wp _ := is_ref wp pb tg ts s1 f hRp [47]
      rw [hq2] at hi
      unfold PtrV at hi
      go_wp2_with fail
      (with_reducible refine hi.mono ?_)
      rintro e wq ⟨rfl, hMj⟩
      clear hi
      have hMij := hMi.trans hMj (by simp)
      have hMr := hMr.trans hMij (by simp)
      have hRr := hRr.later hMij
      have hEs := HS.out.1
      have HS : Hid ((s1.e = 0 → ∀ L : List Nat, (∀ x ∈ L, x < w.heap.size) → ExprAt 174 96 wq L (.pointer (some ⟨b1, 0, none⟩)) x1) ∧ _ ∧ _) := Lib.hid ⟨fun h0 L hL => (hEs h0 L hL).mods (hMij.mono (by simp)), HS.out.2⟩
      have hyes : s1.is [wStar, [47]] = true := is_or.2 (.inr hq2)
      have hword : s1.now.s = [47] := is_str hq2
      clear hEs hMi hMj hMij hq hq2 hRp
      obtain ⟨he, hkn⟩ := is_kind hyes
      have HE := Lib.hid he
      obtain ⟨opb, hopb⟩ : ∃ opb, s1.now.s = opb := ⟨_, rfl⟩
      have hlow : s1.now.s.map lowc = opb := by rw [← hopb]; exact by rw [hword]; decide
      have HLOW := Lib.hid hlow
      have HY := Lib.hid hyes
      clear hyes he hword
      obtain ⟨i, cap, d, hb, hd, hi, ⟨hl, htp, hf⟩, ⟨c0, c1, c2, c3, c4⟩, -, -⟩ := hRr.tok
      have a0 := cell_of_heap hb 0
      have a1 := cell_of_heap hb 1
      change wq.cell? _ = some (.slice (some ⟨tg, 0, none⟩) ts.length cap) at a0
      change wq.cell? _ = some (.int .i64 i) at a1
      have hii : (i : Int) < (ts.length : Int) := by omega
      rw [hopb] at c2
      clear hopb hlow
      obtain ⟨n, hn⟩ : ∃ n, ts.length = n := ⟨_, rfl⟩
      rw [hn] at a0 hii
      obtain ⟨pos, hpos⟩ : ∃ pos, s1.now.pos = pos := ⟨_, rfl⟩
      rw [hpos] at c1
      have HPOS := Lib.hid hpos
      clear hb hd hn hpos c0 c3 c4
      go_upto_region 3 with fail
      go_cut [4] from 13 to 36 (fun s4 wx => CutNode wq (nodeA ⟨opb.toArray⟩ pos ⟨#[]⟩ ⟨#[]⟩ 0 0 ⟨#[]⟩ (.slice none 0 0)) s4 wx)
      case first =>
        have A0 : wq.drew.cell? ⟨pb, 0, none⟩ = _ := a0
        have A1 : wq.drew.cell? ⟨pb, 1, none⟩ = _ := a1
        have C1 : wq.drew.cell? ⟨tg, i * 5 + 1, none⟩ = _ := c1
        have C2 : wq.drew.cell? ⟨tg, i * 5 + 2, none⟩ = _ := c2
        have hi0 : (0 : Int) ≤ (i : Int) ∧ (i : Int) < (n : Int) := by omega
        have hit : (i : Int).toNat = i := by omega
        clear hkn hpart hgoes
        go_still_tail 23, (by kernel_rfl)
        change wpList _ _ _ _ _ wq.drew
        go_wp2_with fail
        go_meet
        first | exact CutNode.made wq _ | exact CutNode.made2 wq _
      case rest =>
        obtain ⟨rfl, hMn, hsz, hxn⟩ := hcut
        obtain ⟨xb, hxbe⟩ : ∃ xb, wq.heap.size = xb := ⟨_, rfl⟩
        have hwx : w.heap.size ≤ xb := by rw [← hxbe]; exact hMr.size
        rw [hxbe] at hsz hxn
        rw [hxbe]
        have hR3 := hRr.later hMn
        have hMw3 := hMr.trans hMn (by simp)
        have hpx := hRr.lt
        have hxp : xb ≠ pb := by omega
        have hxt : xb ≠ tg := by omega
        have HEr : Hid (∀ L : List Nat, (∀ x ∈ L, x < w.heap.size) → ExprAt 174 96 wc (pb :: xb :: L) (.pointer (some ⟨b1, 0, none⟩)) x1) := Lib.hid fun L hL => by
          have hE := HS.out.1 HE.out (pb :: L) (fun x hx => by
            rcases List.mem_cons.1 hx with rfl | hx
            · exact hlt.1
            · exact hL x hx)
          have hE2 := ExprAt.fresh13 (xb := xb) (Nat.le_of_eq hxbe) hE
          exact (hE2.mods (hMn.mono (by simp))).weaken (fun x hx => by
            simp only [List.mem_cons] at hx ⊢
            rcases hx with h | h | h
            · exact .inr (.inl h)
            · exact .inl h
            · exact .inr (.inr h))
        clear hRr hMn hMr a0 a1 c1 c2 hii
        obtain ⟨ix, hix, bb, gg, hwz, hMs, hR5⟩ := hR3.pass hkn
        have hMw5 := hMw3.trans hMs (by simp)
        have hx5 := hMs.heap hxn (by simpa using hxp)
        have HE5 : Hid (∀ L : List Nat, (∀ x ∈ L, x < w.heap.size) → ExprAt 174 96 (wc.setCell ⟨pb, 1, none⟩ (.int .i64 ((ix : Int) + 1))) (pb :: xb :: L) (.pointer (some ⟨b1, 0, none⟩)) x1) := Lib.hid fun L hL => (HEr.out L hL).mods (hMs.mono (by simp))
        clear hMs hR3 hMw3 hxn HEr
        go_upto_region 5 with fail
        generalize wc.setCell ⟨pb, 1, none⟩ (.int .i64 ((ix : Int) + 1)) = w5 at *
        clear bb gg hwz hix
        have ho := hpart w5 pb tg ts s1.next hR5
        unfold PtrV at ho
        go_wp2_with fail
        (with_reducible refine ho.mono ?_)
        rintro e w6 ⟨yb, rfl, hM6, hR6, hE6⟩
        dsimp only [PtrV]
        clear ho hR5
        obtain ⟨es, hes⟩ : ∃ es, part s1.next = es := ⟨_, rfl⟩
        rw [hes] at hR6 hE6
        have HES := Lib.hid hes
        clear hes
        have hMw6 := hMw5.trans hM6 (by simp)
        have hx6 := hM6.heap hx5 (by simpa using hxp)
        have hsz6 : w.heap.size ≤ w6.heap.size := hMw6.size
        have hE7 : es.2.e = 0 → ∀ L : List Nat, (∀ x ∈ L, x < w.heap.size) → ExprAt 174 96 (w6.alloc (.cells #[.pointer (some ⟨b1, 0, none⟩), PtrV yb] 96)) (pb :: xb :: L) (PtrV yb) es.1 ∧ ExprAt 174 96 (w6.alloc (.cells #[.pointer (some ⟨b1, 0, none⟩), PtrV yb] 96)) (pb :: xb :: L) (.pointer (some ⟨b1, 0, none⟩)) x1 := fun he L hL => by
          have hM7 := (Mods.refl [] w6).alloc (.cells #[.pointer (some ⟨b1, 0, none⟩), PtrV yb] 96)
          refine ⟨(hE6 he (pb :: xb :: L) (fun x hx => ?_)).mods (hM7.mono (by simp)), ((HE5.out L hL).mods (hM6.mono (by simp))).mods (hM7.mono (by simp))⟩
          have h5 := hMw5.size
          have hpl := hlt.1
          have hxl := lt_size_of_heap hx5
          rcases List.mem_cons.1 hx with rfl | hx
          · omega
          · rcases List.mem_cons.1 hx with rfl | hx
            · omega
            · have := hL x hx; omega
        have HE7 := Lib.hid hE7
        have hcl := heap_alloc_new w6 (.cells #[.pointer (some ⟨b1, 0, none⟩), PtrV yb] 96)
        have hMd := (Mods.refl [] w6).alloc (.cells #[.pointer (some ⟨b1, 0, none⟩), PtrV yb] 96)
        have hx7 := hMd.heap hx6 (by simp)
        have hR7 := hR6.later hMd
        have hMw7 := hMw6.trans hMd (by simp)
        have HX6 := Lib.hid (lt_size_of_heap hx6)
        unfold PtrV at hcl hMd hx7 hR7 hMw7 HE7
        have y7 := cell_of_heap hx7 7
        have j7 := frozen_of_heap hx7 7
        change World.cell? _ _ = some (.slice none 0 0) at y7
        clear hE7 hE6 hx6 hR6 hMd hM6 hMw6 hMw5 hx5 HE5
        go_upto_region 6 with fail
        have hx6l := HX6.out
        clear HX6
        generalize w6.alloc (.cells #[.pointer (some ⟨b1, 0, none⟩), .pointer (some ⟨yb, 0, none⟩)] 96) = w7 at *
        generalize w6.heap.size = cb at *
        have hx8 := heap_setCell_same hx7 7 (.slice (some ⟨cb, 0, none⟩) 2 2)
        have hMs : Mods [xb] w7 (w7.setCell ⟨xb, 7, none⟩ (.slice (some ⟨cb, 0, none⟩) 2 2)) := (Mods.refl _ _).setCell (.inl (by simp)) _
        have hR8 := hR7.mods hMs (by simpa using hxp.symm) (by simpa using hxt.symm)
        have hMw8 := hMw7.trans hMs (fun x hx => .inr (x_ge rfl hwx hx))
        have hcl8 := hMs.heap hcl (by simp; omega)
        have HJ : Hid (JoinAt pb tg ts f w part [wStar, [47]] (termF (subOf f) s) (gk - 1) (w7.setCell ⟨xb, 7, none⟩ (.slice (some ⟨cb, 0, none⟩) 2 2)) (.pointer (some ⟨xb, 0, none⟩))) := Lib.hid (by
          obtain ⟨-, hlen, hfin⟩ := HS.out
          have hnl := next_len hkn
          have hgl := (hgoes s1.next).len
          obtain ⟨k, rfl⟩ : ∃ k, gk = k + 1 := ⟨gk - 1, by omega⟩
          refine ⟨.bin { op := s1.now.s.map lowc, pos := s1.now.pos } x1 es.1, es.2, xb, rfl, hMw8, hR8, fun h0 L hL => ?_, by rw [HES.out] at hgl; omega, ?_⟩
          · have hE := HE7.out h0 L hL
            rw [HPOS.out, HLOW.out]
            refine ⟨xb, cb, .pointer (some ⟨b1, 0, none⟩), .pointer (some ⟨yb, 0, none⟩), rfl, fun hm => by have := hL _ hm; omega, fun hm => by have := hL _ hm; omega, hx8, hcl8, ?_, ?_⟩
            · exact (hE.2.mods (hMs.mono (by simp))).weaken (fun x hx => by simp [hx])
            · exact (hE.1.mods (hMs.mono (by simp))).weaken (fun x hx => by simp [hx])
          · rw [← hfin]
            conv => rhs; unfold joinG
            rw [if_pos HY.out, HES.out]
            rfl)
        have hgk : gk - 1 < gk := by
          obtain ⟨-, hlen, -⟩ := HS.out
          have hnl := next_len hkn
          omega
        clear hMs hR7 hMw7 hcl hx7 HE7 y7 j7 hx8 hR8 hMw8 hcl8
        generalize w7.setCell ⟨xb, 7, none⟩ (.slice (some ⟨cb, 0, none⟩) 2 2) = w8 at *
        go_wp2_with fail
        go_roundg (gk - 1)
        case measure => exact hgk
        case rel => exact HJ
    | false =>
      have hi : Calls Tryz.prog 124 #[PtrV pb, .string ⟨#[47]⟩] wp _ := is_ref wp pb tg ts s1 f hRp [47]
      rw [hq2] at hi
      unfold PtrV at hi
      go_wp2_with fail
      (with_reducible refine hi.mono ?_)
      rintro e wq ⟨rfl, hMj⟩
      clear hi
      have hMij := hMi.trans hMj (by simp)
      have hno : s1.is [wStar, [47]] = false := Bool.eq_false_iff.2 (fun h => by rcases is_or.1 h with h | h <;> simp_all)
      clear hq2
      clear hq
      go_wp2_with fail
      go_ret
      have hf := HS.out.2.2
      rw [joinR_stop hno] at hf
      refine ⟨b1, rfl, hMr.trans hMij (by simp), by rw [← hf]; exact hRr.later hMij, ?_⟩
      rw [← hf]
      exact fun h0 L hL => (HS.out.1 h0 L hL).mods (hMij.mono (by simp))
end Go.Proofs.YtpokbepenacnpaaGreatDoor

namespace Go.Proofs.YtpokbepenacnpaaGreatDoor
open Go.RowKit
set_option linter.unusedVariables false

set_option maxRecDepth 100000 in
set_option maxHeartbeats 8000000 in
theorem sum_ref (f : Nat) (hpart : RC 225 (termF (subOf f)) f) (hgoes : Goes (termF (subOf f))) : RC 214 (sumF (subOf f)) f := by
  intro w pb tg ts s h
  have hp := hpart w pb tg ts s h
  have hlt := h.lt
  obtain ⟨part, hpe⟩ : ∃ F, termF (subOf f) = F := ⟨_, rfl⟩
  have hF : sumF (subOf f) s = joinG part [[43], wMinus] (part s).2.rest.length (part s).1 (part s).2 := by rw [← hpe]; rfl
  rw [hpe] at hp hpart hgoes
  have HF := Lib.hid hF
  unfold PtrV at *
  clear h hpe hF
  go_enter Tryz.func214, Tryz.ntmps214
  go_wp2_with fail
  (with_reducible refine hp.mono ?_)
  rintro e w1 ⟨b1, rfl, hM1, hR1, hE1⟩
  unfold PtrV
  clear hp
  have HJ : Hid (JoinAt pb tg ts f w part [[43], wMinus] (sumF (subOf f) s) (part s).2.rest.length w1 (.pointer (some ⟨b1, 0, none⟩))) := Lib.hid ⟨(part s).1, (part s).2, b1, rfl, hM1, hR1, fun h0 L hL => hE1 h0 L hL, Nat.le_refl _, HF.out.symm⟩
  clear hE1 hR1 hM1
  go_wp2_with fail
  go_loopg [3] (part s).2.rest.length (fun gk t3 wr => Hid (JoinAt pb tg ts f w part [[43], wMinus] (sumF (subOf f) s) gk wr t3))
  case atStart => exact HJ
  clear HJ
  obtain ⟨x1, s1, b1, rfl, hMr, hRr, hEr, hlen, hfin⟩ := hrel.out
  have HS := Lib.hid (And.intro hEr (And.intro hlen hfin))
  clear hrel hEr hlen hfin
  unfold PtrV
  cases hq : s1.is [[43]] with
  | true =>
    have hi : Calls Tryz.prog 124 #[PtrV pb, .string ⟨#[43]⟩] wr _ := is_ref wr pb tg ts s1 f hRr [43]
    rw [hq] at hi
    unfold PtrV at hi
    go_wp2_with fail
    (with_reducible refine hi.mono ?_)
    rintro e wq ⟨rfl, hMi⟩
    clear hi
    have hMr := hMr.trans hMi (by simp)
    have hRr := hRr.later hMi
    have hEs := HS.out.1
    have HS : Hid ((s1.e = 0 → ∀ L : List Nat, (∀ x ∈ L, x < w.heap.size) → ExprAt 174 96 wq L (.pointer (some ⟨b1, 0, none⟩)) x1) ∧ _ ∧ _) := Lib.hid ⟨fun h0 L hL => (hEs h0 L hL).mods (hMi.mono (by simp)), HS.out.2⟩
    have hyes : s1.is [[43], wMinus] = true := is_or.2 (.inl hq)
    have hword : s1.now.s = [43] := is_str hq
    clear hEs hMi hq
    obtain ⟨he, hkn⟩ := is_kind hyes
    have HE := Lib.hid he
    obtain ⟨opb, hopb⟩ : ∃ opb, s1.now.s = opb := ⟨_, rfl⟩
    have hlow : s1.now.s.map lowc = opb := by rw [← hopb]; exact by rw [hword]; decide
    have HLOW := Lib.hid hlow
    have HY := Lib.hid hyes
    clear hyes he hword
    obtain ⟨i, cap, d, hb, hd, hi, ⟨hl, htp, hf⟩, ⟨c0, c1, c2, c3, c4⟩, -, -⟩ := hRr.tok
    have a0 := cell_of_heap hb 0
    have a1 := cell_of_heap hb 1
    change wq.cell? _ = some (.slice (some ⟨tg, 0, none⟩) ts.length cap) at a0
    change wq.cell? _ = some (.int .i64 i) at a1
    have hii : (i : Int) < (ts.length : Int) := by omega
    rw [hopb] at c2
    clear hopb hlow
    obtain ⟨n, hn⟩ : ∃ n, ts.length = n := ⟨_, rfl⟩
    rw [hn] at a0 hii
    obtain ⟨pos, hpos⟩ : ∃ pos, s1.now.pos = pos := ⟨_, rfl⟩
    rw [hpos] at c1
    have HPOS := Lib.hid hpos
    clear hb hd hn hpos c0 c3 c4
    go_upto_region 3 with fail
    go_cut [4] from 13 to 36 (fun s4 wx => CutNode wq (nodeA ⟨opb.toArray⟩ pos ⟨#[]⟩ ⟨#[]⟩ 0 0 ⟨#[]⟩ (.slice none 0 0)) s4 wx)
    case first =>
      have A0 : wq.drew.cell? ⟨pb, 0, none⟩ = _ := a0
      have A1 : wq.drew.cell? ⟨pb, 1, none⟩ = _ := a1
      have C1 : wq.drew.cell? ⟨tg, i * 5 + 1, none⟩ = _ := c1
      have C2 : wq.drew.cell? ⟨tg, i * 5 + 2, none⟩ = _ := c2
      have hi0 : (0 : Int) ≤ (i : Int) ∧ (i : Int) < (n : Int) := by omega
      have hit : (i : Int).toNat = i := by omega
      clear hkn hpart hgoes
      go_still_tail 23, (by kernel_rfl)
      change wpList _ _ _ _ _ wq.drew
      go_wp2_with fail
      go_meet
      first | exact CutNode.made wq _ | exact CutNode.made2 wq _
    case rest =>
      obtain ⟨rfl, hMn, hsz, hxn⟩ := hcut
      obtain ⟨xb, hxbe⟩ : ∃ xb, wq.heap.size = xb := ⟨_, rfl⟩
      have hwx : w.heap.size ≤ xb := by rw [← hxbe]; exact hMr.size
      rw [hxbe] at hsz hxn
      rw [hxbe]
      have hR3 := hRr.later hMn
      have hMw3 := hMr.trans hMn (by simp)
      have hpx := hRr.lt
      have hxp : xb ≠ pb := by omega
      have hxt : xb ≠ tg := by omega
      have HEr : Hid (∀ L : List Nat, (∀ x ∈ L, x < w.heap.size) → ExprAt 174 96 wc (pb :: xb :: L) (.pointer (some ⟨b1, 0, none⟩)) x1) := Lib.hid fun L hL => by
        have hE := HS.out.1 HE.out (pb :: L) (fun x hx => by
          rcases List.mem_cons.1 hx with rfl | hx
          · exact hlt.1
          · exact hL x hx)
        have hE2 := ExprAt.fresh13 (xb := xb) (Nat.le_of_eq hxbe) hE
        exact (hE2.mods (hMn.mono (by simp))).weaken (fun x hx => by
          simp only [List.mem_cons] at hx ⊢
          rcases hx with h | h | h
          · exact .inr (.inl h)
          · exact .inl h
          · exact .inr (.inr h))
      clear hRr hMn hMr a0 a1 c1 c2 hii
      obtain ⟨ix, hix, bb, gg, hwz, hMs, hR5⟩ := hR3.pass hkn
      have hMw5 := hMw3.trans hMs (by simp)
      have hx5 := hMs.heap hxn (by simpa using hxp)
      have HE5 : Hid (∀ L : List Nat, (∀ x ∈ L, x < w.heap.size) → ExprAt 174 96 (wc.setCell ⟨pb, 1, none⟩ (.int .i64 ((ix : Int) + 1))) (pb :: xb :: L) (.pointer (some ⟨b1, 0, none⟩)) x1) := Lib.hid fun L hL => (HEr.out L hL).mods (hMs.mono (by simp))
      clear hMs hR3 hMw3 hxn HEr
      go_upto_region 5 with fail
      generalize wc.setCell ⟨pb, 1, none⟩ (.int .i64 ((ix : Int) + 1)) = w5 at *
      clear bb gg hwz hix
      have ho := hpart w5 pb tg ts s1.next hR5
      unfold PtrV at ho
      go_wp2_with fail
      (with_reducible refine ho.mono ?_)
      rintro e w6 ⟨yb, rfl, hM6, hR6, hE6⟩
      dsimp only [PtrV]
      clear ho hR5
      obtain ⟨es, hes⟩ : ∃ es, part s1.next = es := ⟨_, rfl⟩
      rw [hes] at hR6 hE6
      have HES := Lib.hid hes
      clear hes
      have hMw6 := hMw5.trans hM6 (by simp)
      have hx6 := hM6.heap hx5 (by simpa using hxp)
      have hsz6 : w.heap.size ≤ w6.heap.size := hMw6.size
      have hE7 : es.2.e = 0 → ∀ L : List Nat, (∀ x ∈ L, x < w.heap.size) → ExprAt 174 96 (w6.alloc (.cells #[.pointer (some ⟨b1, 0, none⟩), PtrV yb] 96)) (pb :: xb :: L) (PtrV yb) es.1 ∧ ExprAt 174 96 (w6.alloc (.cells #[.pointer (some ⟨b1, 0, none⟩), PtrV yb] 96)) (pb :: xb :: L) (.pointer (some ⟨b1, 0, none⟩)) x1 := fun he L hL => by
        have hM7 := (Mods.refl [] w6).alloc (.cells #[.pointer (some ⟨b1, 0, none⟩), PtrV yb] 96)
        refine ⟨(hE6 he (pb :: xb :: L) (fun x hx => ?_)).mods (hM7.mono (by simp)), ((HE5.out L hL).mods (hM6.mono (by simp))).mods (hM7.mono (by simp))⟩
        have h5 := hMw5.size
        have hpl := hlt.1
        have hxl := lt_size_of_heap hx5
        rcases List.mem_cons.1 hx with rfl | hx
        · omega
        · rcases List.mem_cons.1 hx with rfl | hx
          · omega
          · have := hL x hx; omega
      have HE7 := Lib.hid hE7
      have hcl := heap_alloc_new w6 (.cells #[.pointer (some ⟨b1, 0, none⟩), PtrV yb] 96)
      have hMd := (Mods.refl [] w6).alloc (.cells #[.pointer (some ⟨b1, 0, none⟩), PtrV yb] 96)
      have hx7 := hMd.heap hx6 (by simp)
      have hR7 := hR6.later hMd
      have hMw7 := hMw6.trans hMd (by simp)
      have HX6 := Lib.hid (lt_size_of_heap hx6)
      unfold PtrV at hcl hMd hx7 hR7 hMw7 HE7
      have y7 := cell_of_heap hx7 7
      have j7 := frozen_of_heap hx7 7
      change World.cell? _ _ = some (.slice none 0 0) at y7
      clear hE7 hE6 hx6 hR6 hMd hM6 hMw6 hMw5 hx5 HE5
      go_upto_region 6 with fail
      have hx6l := HX6.out
      clear HX6
      generalize w6.alloc (.cells #[.pointer (some ⟨b1, 0, none⟩), .pointer (some ⟨yb, 0, none⟩)] 96) = w7 at *
      generalize w6.heap.size = cb at *
      have hx8 := heap_setCell_same hx7 7 (.slice (some ⟨cb, 0, none⟩) 2 2)
      have hMs : Mods [xb] w7 (w7.setCell ⟨xb, 7, none⟩ (.slice (some ⟨cb, 0, none⟩) 2 2)) := (Mods.refl _ _).setCell (.inl (by simp)) _
      have hR8 := hR7.mods hMs (by simpa using hxp.symm) (by simpa using hxt.symm)
      have hMw8 := hMw7.trans hMs (fun x hx => .inr (x_ge rfl hwx hx))
      have hcl8 := hMs.heap hcl (by simp; omega)
      have HJ : Hid (JoinAt pb tg ts f w part [[43], wMinus] (sumF (subOf f) s) (gk - 1) (w7.setCell ⟨xb, 7, none⟩ (.slice (some ⟨cb, 0, none⟩) 2 2)) (.pointer (some ⟨xb, 0, none⟩))) := Lib.hid (by
        obtain ⟨-, hlen, hfin⟩ := HS.out
        have hnl := next_len hkn
        have hgl := (hgoes s1.next).len
        obtain ⟨k, rfl⟩ : ∃ k, gk = k + 1 := ⟨gk - 1, by omega⟩
        refine ⟨.bin { op := s1.now.s.map lowc, pos := s1.now.pos } x1 es.1, es.2, xb, rfl, hMw8, hR8, fun h0 L hL => ?_, by rw [HES.out] at hgl; omega, ?_⟩
        · have hE := HE7.out h0 L hL
          rw [HPOS.out, HLOW.out]
          refine ⟨xb, cb, .pointer (some ⟨b1, 0, none⟩), .pointer (some ⟨yb, 0, none⟩), rfl, fun hm => by have := hL _ hm; omega, fun hm => by have := hL _ hm; omega, hx8, hcl8, ?_, ?_⟩
          · exact (hE.2.mods (hMs.mono (by simp))).weaken (fun x hx => by simp [hx])
          · exact (hE.1.mods (hMs.mono (by simp))).weaken (fun x hx => by simp [hx])
        · rw [← hfin]
          conv => rhs; unfold joinG
          rw [if_pos HY.out, HES.out]
          rfl)
      have hgk : gk - 1 < gk := by
        obtain ⟨-, hlen, -⟩ := HS.out
        have hnl := next_len hkn
        omega
      clear hMs hR7 hMw7 hcl hx7 HE7 y7 j7 hx8 hR8 hMw8 hcl8
      generalize w7.setCell ⟨xb, 7, none⟩ (.slice (some ⟨cb, 0, none⟩) 2 2) = w8 at *
      go_wp2_with fail
      go_roundg (gk - 1)
      case measure => exact hgk
      case rel => exact HJ
  | false =>
    have hi : Calls Tryz.prog 124 #[PtrV pb, .string ⟨#[43]⟩] wr _ := is_ref wr pb tg ts s1 f hRr [43]
    rw [hq] at hi
    unfold PtrV at hi
    go_wp2_with fail
    (with_reducible refine hi.mono ?_)
    rintro e wp ⟨rfl, hMi⟩
    clear hi
    have hRp := hRr.later hMi
    cases hq2 : s1.is [wMinus] with
    | true =>
      have hi : Calls Tryz.prog 124 #[PtrV pb, .string ⟨#[45]⟩] wp _ := is_ref wp pb tg ts s1 f hRp wMinus
      rw [hq2] at hi
      unfold PtrV at hi
      go_wp2_with fail
      (with_reducible refine hi.mono ?_)
      rintro e wq ⟨rfl, hMj⟩
      clear hi
      have hMij := hMi.trans hMj (by simp)
      have hMr := hMr.trans hMij (by simp)
      have hRr := hRr.later hMij
      have hEs := HS.out.1
      have HS : Hid ((s1.e = 0 → ∀ L : List Nat, (∀ x ∈ L, x < w.heap.size) → ExprAt 174 96 wq L (.pointer (some ⟨b1, 0, none⟩)) x1) ∧ _ ∧ _) := Lib.hid ⟨fun h0 L hL => (hEs h0 L hL).mods (hMij.mono (by simp)), HS.out.2⟩
      have hyes : s1.is [[43], wMinus] = true := is_or.2 (.inr hq2)
      have hword : s1.now.s = wMinus := is_str hq2
      clear hEs hMi hMj hMij hq hq2 hRp
      obtain ⟨he, hkn⟩ := is_kind hyes
      have HE := Lib.hid he
      obtain ⟨opb, hopb⟩ : ∃ opb, s1.now.s = opb := ⟨_, rfl⟩
      have hlow : s1.now.s.map lowc = opb := by rw [← hopb]; exact by rw [hword]; decide
      have HLOW := Lib.hid hlow
      have HY := Lib.hid hyes
      clear hyes he hword
      obtain ⟨i, cap, d, hb, hd, hi, ⟨hl, htp, hf⟩, ⟨c0, c1, c2, c3, c4⟩, -, -⟩ := hRr.tok
      have a0 := cell_of_heap hb 0
      have a1 := cell_of_heap hb 1
      change wq.cell? _ = some (.slice (some ⟨tg, 0, none⟩) ts.length cap) at a0
      change wq.cell? _ = some (.int .i64 i) at a1
      have hii : (i : Int) < (ts.length : Int) := by omega
      rw [hopb] at c2
      clear hopb hlow
      obtain ⟨n, hn⟩ : ∃ n, ts.length = n := ⟨_, rfl⟩
      rw [hn] at a0 hii
      obtain ⟨pos, hpos⟩ : ∃ pos, s1.now.pos = pos := ⟨_, rfl⟩
      rw [hpos] at c1
      have HPOS := Lib.hid hpos
      clear hb hd hn hpos c0 c3 c4
      go_upto_region 3 with fail
      go_cut [4] from 13 to 36 (fun s4 wx => CutNode wq (nodeA ⟨opb.toArray⟩ pos ⟨#[]⟩ ⟨#[]⟩ 0 0 ⟨#[]⟩ (.slice none 0 0)) s4 wx)
      case first =>
        have A0 : wq.drew.cell? ⟨pb, 0, none⟩ = _ := a0
        have A1 : wq.drew.cell? ⟨pb, 1, none⟩ = _ := a1
        have C1 : wq.drew.cell? ⟨tg, i * 5 + 1, none⟩ = _ := c1
        have C2 : wq.drew.cell? ⟨tg, i * 5 + 2, none⟩ = _ := c2
        have hi0 : (0 : Int) ≤ (i : Int) ∧ (i : Int) < (n : Int) := by omega
        have hit : (i : Int).toNat = i := by omega
        clear hkn hpart hgoes
        go_still_tail 23, (by kernel_rfl)
        change wpList _ _ _ _ _ wq.drew
        go_wp2_with fail
        go_meet
        first | exact CutNode.made wq _ | exact CutNode.made2 wq _
      case rest =>
        obtain ⟨rfl, hMn, hsz, hxn⟩ := hcut
        obtain ⟨xb, hxbe⟩ : ∃ xb, wq.heap.size = xb := ⟨_, rfl⟩
        have hwx : w.heap.size ≤ xb := by rw [← hxbe]; exact hMr.size
        rw [hxbe] at hsz hxn
        rw [hxbe]
        have hR3 := hRr.later hMn
        have hMw3 := hMr.trans hMn (by simp)
        have hpx := hRr.lt
        have hxp : xb ≠ pb := by omega
        have hxt : xb ≠ tg := by omega
        have HEr : Hid (∀ L : List Nat, (∀ x ∈ L, x < w.heap.size) → ExprAt 174 96 wc (pb :: xb :: L) (.pointer (some ⟨b1, 0, none⟩)) x1) := Lib.hid fun L hL => by
          have hE := HS.out.1 HE.out (pb :: L) (fun x hx => by
            rcases List.mem_cons.1 hx with rfl | hx
            · exact hlt.1
            · exact hL x hx)
          have hE2 := ExprAt.fresh13 (xb := xb) (Nat.le_of_eq hxbe) hE
          exact (hE2.mods (hMn.mono (by simp))).weaken (fun x hx => by
            simp only [List.mem_cons] at hx ⊢
            rcases hx with h | h | h
            · exact .inr (.inl h)
            · exact .inl h
            · exact .inr (.inr h))
        clear hRr hMn hMr a0 a1 c1 c2 hii
        obtain ⟨ix, hix, bb, gg, hwz, hMs, hR5⟩ := hR3.pass hkn
        have hMw5 := hMw3.trans hMs (by simp)
        have hx5 := hMs.heap hxn (by simpa using hxp)
        have HE5 : Hid (∀ L : List Nat, (∀ x ∈ L, x < w.heap.size) → ExprAt 174 96 (wc.setCell ⟨pb, 1, none⟩ (.int .i64 ((ix : Int) + 1))) (pb :: xb :: L) (.pointer (some ⟨b1, 0, none⟩)) x1) := Lib.hid fun L hL => (HEr.out L hL).mods (hMs.mono (by simp))
        clear hMs hR3 hMw3 hxn HEr
        go_upto_region 5 with fail
        generalize wc.setCell ⟨pb, 1, none⟩ (.int .i64 ((ix : Int) + 1)) = w5 at *
        clear bb gg hwz hix
        have ho := hpart w5 pb tg ts s1.next hR5
        unfold PtrV at ho
        go_wp2_with fail
        (with_reducible refine ho.mono ?_)
        rintro e w6 ⟨yb, rfl, hM6, hR6, hE6⟩
        dsimp only [PtrV]
        clear ho hR5
        obtain ⟨es, hes⟩ : ∃ es, part s1.next = es := ⟨_, rfl⟩
        rw [hes] at hR6 hE6
        have HES := Lib.hid hes
        clear hes
        have hMw6 := hMw5.trans hM6 (by simp)
        have hx6 := hM6.heap hx5 (by simpa using hxp)
        have hsz6 : w.heap.size ≤ w6.heap.size := hMw6.size
        have hE7 : es.2.e = 0 → ∀ L : List Nat, (∀ x ∈ L, x < w.heap.size) → ExprAt 174 96 (w6.alloc (.cells #[.pointer (some ⟨b1, 0, none⟩), PtrV yb] 96)) (pb :: xb :: L) (PtrV yb) es.1 ∧ ExprAt 174 96 (w6.alloc (.cells #[.pointer (some ⟨b1, 0, none⟩), PtrV yb] 96)) (pb :: xb :: L) (.pointer (some ⟨b1, 0, none⟩)) x1 := fun he L hL => by
          have hM7 := (Mods.refl [] w6).alloc (.cells #[.pointer (some ⟨b1, 0, none⟩), PtrV yb] 96)
          refine ⟨(hE6 he (pb :: xb :: L) (fun x hx => ?_)).mods (hM7.mono (by simp)), ((HE5.out L hL).mods (hM6.mono (by simp))).mods (hM7.mono (by simp))⟩
          have h5 := hMw5.size
          have hpl := hlt.1
          have hxl := lt_size_of_heap hx5
          rcases List.mem_cons.1 hx with rfl | hx
          · omega
          · rcases List.mem_cons.1 hx with rfl | hx
            · omega
            · have := hL x hx; omega
        have HE7 := Lib.hid hE7
        have hcl := heap_alloc_new w6 (.cells #[.pointer (some ⟨b1, 0, none⟩), PtrV yb] 96)
        have hMd := (Mods.refl [] w6).alloc (.cells #[.pointer (some ⟨b1, 0, none⟩), PtrV yb] 96)
        have hx7 := hMd.heap hx6 (by simp)
        have hR7 := hR6.later hMd
        have hMw7 := hMw6.trans hMd (by simp)
        have HX6 := Lib.hid (lt_size_of_heap hx6)
        unfold PtrV at hcl hMd hx7 hR7 hMw7 HE7
        have y7 := cell_of_heap hx7 7
        have j7 := frozen_of_heap hx7 7
        change World.cell? _ _ = some (.slice none 0 0) at y7
        clear hE7 hE6 hx6 hR6 hMd hM6 hMw6 hMw5 hx5 HE5
        go_upto_region 6 with fail
        have hx6l := HX6.out
        clear HX6
        generalize w6.alloc (.cells #[.pointer (some ⟨b1, 0, none⟩), .pointer (some ⟨yb, 0, none⟩)] 96) = w7 at *
        generalize w6.heap.size = cb at *
        have hx8 := heap_setCell_same hx7 7 (.slice (some ⟨cb, 0, none⟩) 2 2)
        have hMs : Mods [xb] w7 (w7.setCell ⟨xb, 7, none⟩ (.slice (some ⟨cb, 0, none⟩) 2 2)) := (Mods.refl _ _).setCell (.inl (by simp)) _
        have hR8 := hR7.mods hMs (by simpa using hxp.symm) (by simpa using hxt.symm)
        have hMw8 := hMw7.trans hMs (fun x hx => .inr (x_ge rfl hwx hx))
        have hcl8 := hMs.heap hcl (by simp; omega)
        have HJ : Hid (JoinAt pb tg ts f w part [[43], wMinus] (sumF (subOf f) s) (gk - 1) (w7.setCell ⟨xb, 7, none⟩ (.slice (some ⟨cb, 0, none⟩) 2 2)) (.pointer (some ⟨xb, 0, none⟩))) := Lib.hid (by
          obtain ⟨-, hlen, hfin⟩ := HS.out
          have hnl := next_len hkn
          have hgl := (hgoes s1.next).len
          obtain ⟨k, rfl⟩ : ∃ k, gk = k + 1 := ⟨gk - 1, by omega⟩
          refine ⟨.bin { op := s1.now.s.map lowc, pos := s1.now.pos } x1 es.1, es.2, xb, rfl, hMw8, hR8, fun h0 L hL => ?_, by rw [HES.out] at hgl; omega, ?_⟩
          · have hE := HE7.out h0 L hL
            rw [HPOS.out, HLOW.out]
            refine ⟨xb, cb, .pointer (some ⟨b1, 0, none⟩), .pointer (some ⟨yb, 0, none⟩), rfl, fun hm => by have := hL _ hm; omega, fun hm => by have := hL _ hm; omega, hx8, hcl8, ?_, ?_⟩
            · exact (hE.2.mods (hMs.mono (by simp))).weaken (fun x hx => by simp [hx])
            · exact (hE.1.mods (hMs.mono (by simp))).weaken (fun x hx => by simp [hx])
          · rw [← hfin]
            conv => rhs; unfold joinG
            rw [if_pos HY.out, HES.out]
            rfl)
        have hgk : gk - 1 < gk := by
          obtain ⟨-, hlen, -⟩ := HS.out
          have hnl := next_len hkn
          omega
        clear hMs hR7 hMw7 hcl hx7 HE7 y7 j7 hx8 hR8 hMw8 hcl8
        generalize w7.setCell ⟨xb, 7, none⟩ (.slice (some ⟨cb, 0, none⟩) 2 2) = w8 at *
        go_wp2_with fail
        go_roundg (gk - 1)
        case measure => exact hgk
        case rel => exact HJ
    | false =>
      have hi : Calls Tryz.prog 124 #[PtrV pb, .string ⟨#[45]⟩] wp _ := is_ref wp pb tg ts s1 f hRp wMinus
      rw [hq2] at hi
      unfold PtrV at hi
      go_wp2_with fail
      (with_reducible refine hi.mono ?_)
      rintro e wq ⟨rfl, hMj⟩
      clear hi
      have hMij := hMi.trans hMj (by simp)
      have hno : s1.is [[43], wMinus] = false := Bool.eq_false_iff.2 (fun h => by rcases is_or.1 h with h | h <;> simp_all)
      clear hq2
      clear hq
      go_wp2_with fail
      go_ret
      have hf := HS.out.2.2
      rw [joinR_stop hno] at hf
      refine ⟨b1, rfl, hMr.trans hMij (by simp), by rw [← hf]; exact hRr.later hMij, ?_⟩
      rw [← hf]
      exact fun h0 L hL => (HS.out.1 h0 L hL).mods (hMij.mono (by simp))
end Go.Proofs.YtpokbepenacnpaaGreatDoor

namespace Go.Proofs.YtpokbepenacnpaaGreatDoor
open Go.RowKit
set_option linter.unusedVariables false

set_option maxRecDepth 100000 in
set_option maxHeartbeats 8000000 in
theorem and_ref (f : Nat) (hpart : RC 161 (notF (subOf f)) f) (hgoes : Goes (notF (subOf f))) : RC 125 (andF (subOf f)) f := by
  intro w pb tg ts s h
  have hp := hpart w pb tg ts s h
  have hlt := h.lt
  obtain ⟨part, hpe⟩ : ∃ F, notF (subOf f) = F := ⟨_, rfl⟩
  have hF : andF (subOf f) s = joinG part [[65, 78, 68]] (part s).2.rest.length (part s).1 (part s).2 := by rw [← hpe]; rfl
  rw [hpe] at hp hpart hgoes
  have HF := Lib.hid hF
  unfold PtrV at *
  clear h hpe hF
  go_enter Tryz.func125, Tryz.ntmps125
  go_wp2_with fail
  (with_reducible refine hp.mono ?_)
  rintro e w1 ⟨b1, rfl, hM1, hR1, hE1⟩
  unfold PtrV
  clear hp
  have HJ : Hid (JoinAt pb tg ts f w part [[65, 78, 68]] (andF (subOf f) s) (part s).2.rest.length w1 (.pointer (some ⟨b1, 0, none⟩))) := Lib.hid ⟨(part s).1, (part s).2, b1, rfl, hM1, hR1, fun h0 L hL => hE1 h0 L hL, Nat.le_refl _, HF.out.symm⟩
  clear hE1 hR1 hM1
  go_wp2_with fail
  go_loopg [3] (part s).2.rest.length (fun gk t3 wr => Hid (JoinAt pb tg ts f w part [[65, 78, 68]] (andF (subOf f) s) gk wr t3))
  case atStart => exact HJ
  clear HJ
  obtain ⟨x1, s1, b1, rfl, hMr, hRr, hEr, hlen, hfin⟩ := hrel.out
  have HS := Lib.hid (And.intro hEr (And.intro hlen hfin))
  clear hrel hEr hlen hfin
  unfold PtrV
  cases hq : s1.is [[65, 78, 68]] with
  | true =>
    have hi : Calls Tryz.prog 124 #[PtrV pb, .string ⟨#[65, 78, 68]⟩] wr _ := is_ref wr pb tg ts s1 f hRr [65, 78, 68]
    rw [hq] at hi
    unfold PtrV at hi
    go_wp2_with fail
    (with_reducible refine hi.mono ?_)
    rintro e wq ⟨rfl, hMi⟩
    clear hi
    have hMr := hMr.trans hMi (by simp)
    have hRr := hRr.later hMi
    have hEs := HS.out.1
    have HS : Hid ((s1.e = 0 → ∀ L : List Nat, (∀ x ∈ L, x < w.heap.size) → ExprAt 174 96 wq L (.pointer (some ⟨b1, 0, none⟩)) x1) ∧ _ ∧ _) := Lib.hid ⟨fun h0 L hL => (hEs h0 L hL).mods (hMi.mono (by simp)), HS.out.2⟩
    have hyes : s1.is [[65, 78, 68]] = true := hq
    have hword : s1.now.s = [65, 78, 68] := is_str hq
    clear hEs hMi hq
    obtain ⟨he, hkn⟩ := is_kind hyes
    have HE := Lib.hid he
    have hlow : s1.now.s.map lowc = [97, 110, 100] := by rw [hword]; decide
    have HLOW := Lib.hid hlow
    clear hlow hword
    have HY := Lib.hid hyes
    clear hyes he
    obtain ⟨i, cap, d, hb, hd, hi, ⟨hl, htp, hf⟩, ⟨c0, c1, c2, c3, c4⟩, -, -⟩ := hRr.tok
    have a0 := cell_of_heap hb 0
    have a1 := cell_of_heap hb 1
    change wq.cell? _ = some (.slice (some ⟨tg, 0, none⟩) ts.length cap) at a0
    change wq.cell? _ = some (.int .i64 i) at a1
    have hii : (i : Int) < (ts.length : Int) := by omega
    obtain ⟨n, hn⟩ : ∃ n, ts.length = n := ⟨_, rfl⟩
    rw [hn] at a0 hii
    obtain ⟨pos, hpos⟩ : ∃ pos, s1.now.pos = pos := ⟨_, rfl⟩
    rw [hpos] at c1
    have HPOS := Lib.hid hpos
    clear hb hd hn hpos c0 c3 c4
    go_upto_region 3 with fail
    go_cut [4] from 9 to 21 (fun s4 wx => CutNode wq (nodeA ⟨#[97, 110, 100]⟩ pos ⟨#[]⟩ ⟨#[]⟩ 0 0 ⟨#[]⟩ (.slice none 0 0)) s4 wx)
    case first =>
      go_region_law (fail)
      all_goals
        go_wp2_with fail
        go_meet
        exact CutNode.made wq _
    case rest =>
      obtain ⟨rfl, hMn, hsz, hxn⟩ := hcut
      obtain ⟨xb, hxbe⟩ : ∃ xb, wq.heap.size = xb := ⟨_, rfl⟩
      have hwx : w.heap.size ≤ xb := by rw [← hxbe]; exact hMr.size
      rw [hxbe] at hsz hxn
      rw [hxbe]
      have hR3 := hRr.later hMn
      have hMw3 := hMr.trans hMn (by simp)
      have hpx := hRr.lt
      have hxp : xb ≠ pb := by omega
      have hxt : xb ≠ tg := by omega
      have HEr : Hid (∀ L : List Nat, (∀ x ∈ L, x < w.heap.size) → ExprAt 174 96 wc (pb :: xb :: L) (.pointer (some ⟨b1, 0, none⟩)) x1) := Lib.hid fun L hL => by
        have hE := HS.out.1 HE.out (pb :: L) (fun x hx => by
          rcases List.mem_cons.1 hx with rfl | hx
          · exact hlt.1
          · exact hL x hx)
        have hE2 := ExprAt.fresh13 (xb := xb) (Nat.le_of_eq hxbe) hE
        exact (hE2.mods (hMn.mono (by simp))).weaken (fun x hx => by
          simp only [List.mem_cons] at hx ⊢
          rcases hx with h | h | h
          · exact .inr (.inl h)
          · exact .inl h
          · exact .inr (.inr h))
      clear hRr hMn hMr a0 a1 c1 c2 hii
      obtain ⟨ix, hix, bb, gg, hwz, hMs, hR5⟩ := hR3.pass hkn
      have hMw5 := hMw3.trans hMs (by simp)
      have hx5 := hMs.heap hxn (by simpa using hxp)
      have HE5 : Hid (∀ L : List Nat, (∀ x ∈ L, x < w.heap.size) → ExprAt 174 96 (wc.setCell ⟨pb, 1, none⟩ (.int .i64 ((ix : Int) + 1))) (pb :: xb :: L) (.pointer (some ⟨b1, 0, none⟩)) x1) := Lib.hid fun L hL => (HEr.out L hL).mods (hMs.mono (by simp))
      clear hMs hR3 hMw3 hxn HEr
      go_upto_region 5 with fail
      generalize wc.setCell ⟨pb, 1, none⟩ (.int .i64 ((ix : Int) + 1)) = w5 at *
      clear bb gg hwz hix
      have ho := hpart w5 pb tg ts s1.next hR5
      unfold PtrV at ho
      go_wp2_with fail
      (with_reducible refine ho.mono ?_)
      rintro e w6 ⟨yb, rfl, hM6, hR6, hE6⟩
      dsimp only [PtrV]
      clear ho hR5
      obtain ⟨es, hes⟩ : ∃ es, part s1.next = es := ⟨_, rfl⟩
      rw [hes] at hR6 hE6
      have HES := Lib.hid hes
      clear hes
      have hMw6 := hMw5.trans hM6 (by simp)
      have hx6 := hM6.heap hx5 (by simpa using hxp)
      have hsz6 : w.heap.size ≤ w6.heap.size := hMw6.size
      have hE7 : es.2.e = 0 → ∀ L : List Nat, (∀ x ∈ L, x < w.heap.size) → ExprAt 174 96 (w6.alloc (.cells #[.pointer (some ⟨b1, 0, none⟩), PtrV yb] 96)) (pb :: xb :: L) (PtrV yb) es.1 ∧ ExprAt 174 96 (w6.alloc (.cells #[.pointer (some ⟨b1, 0, none⟩), PtrV yb] 96)) (pb :: xb :: L) (.pointer (some ⟨b1, 0, none⟩)) x1 := fun he L hL => by
        have hM7 := (Mods.refl [] w6).alloc (.cells #[.pointer (some ⟨b1, 0, none⟩), PtrV yb] 96)
        refine ⟨(hE6 he (pb :: xb :: L) (fun x hx => ?_)).mods (hM7.mono (by simp)), ((HE5.out L hL).mods (hM6.mono (by simp))).mods (hM7.mono (by simp))⟩
        have h5 := hMw5.size
        have hpl := hlt.1
        have hxl := lt_size_of_heap hx5
        rcases List.mem_cons.1 hx with rfl | hx
        · omega
        · rcases List.mem_cons.1 hx with rfl | hx
          · omega
          · have := hL x hx; omega
      have HE7 := Lib.hid hE7
      have hcl := heap_alloc_new w6 (.cells #[.pointer (some ⟨b1, 0, none⟩), PtrV yb] 96)
      have hMd := (Mods.refl [] w6).alloc (.cells #[.pointer (some ⟨b1, 0, none⟩), PtrV yb] 96)
      have hx7 := hMd.heap hx6 (by simp)
      have hR7 := hR6.later hMd
      have hMw7 := hMw6.trans hMd (by simp)
      have HX6 := Lib.hid (lt_size_of_heap hx6)
      unfold PtrV at hcl hMd hx7 hR7 hMw7 HE7
      have y7 := cell_of_heap hx7 7
      have j7 := frozen_of_heap hx7 7
      change World.cell? _ _ = some (.slice none 0 0) at y7
      clear hE7 hE6 hx6 hR6 hMd hM6 hMw6 hMw5 hx5 HE5
      go_upto_region 6 with fail
      have hx6l := HX6.out
      clear HX6
      generalize w6.alloc (.cells #[.pointer (some ⟨b1, 0, none⟩), .pointer (some ⟨yb, 0, none⟩)] 96) = w7 at *
      generalize w6.heap.size = cb at *
      have hx8 := heap_setCell_same hx7 7 (.slice (some ⟨cb, 0, none⟩) 2 2)
      have hMs : Mods [xb] w7 (w7.setCell ⟨xb, 7, none⟩ (.slice (some ⟨cb, 0, none⟩) 2 2)) := (Mods.refl _ _).setCell (.inl (by simp)) _
      have hR8 := hR7.mods hMs (by simpa using hxp.symm) (by simpa using hxt.symm)
      have hMw8 := hMw7.trans hMs (fun x hx => .inr (x_ge rfl hwx hx))
      have hcl8 := hMs.heap hcl (by simp; omega)
      have HJ : Hid (JoinAt pb tg ts f w part [[65, 78, 68]] (andF (subOf f) s) (gk - 1) (w7.setCell ⟨xb, 7, none⟩ (.slice (some ⟨cb, 0, none⟩) 2 2)) (.pointer (some ⟨xb, 0, none⟩))) := Lib.hid (by
        obtain ⟨-, hlen, hfin⟩ := HS.out
        have hnl := next_len hkn
        have hgl := (hgoes s1.next).len
        obtain ⟨k, rfl⟩ : ∃ k, gk = k + 1 := ⟨gk - 1, by omega⟩
        refine ⟨.bin { op := s1.now.s.map lowc, pos := s1.now.pos } x1 es.1, es.2, xb, rfl, hMw8, hR8, fun h0 L hL => ?_, by rw [HES.out] at hgl; omega, ?_⟩
        · have hE := HE7.out h0 L hL
          rw [HPOS.out, HLOW.out]
          refine ⟨xb, cb, .pointer (some ⟨b1, 0, none⟩), .pointer (some ⟨yb, 0, none⟩), rfl, fun hm => by have := hL _ hm; omega, fun hm => by have := hL _ hm; omega, hx8, hcl8, ?_, ?_⟩
          · exact (hE.2.mods (hMs.mono (by simp))).weaken (fun x hx => by simp [hx])
          · exact (hE.1.mods (hMs.mono (by simp))).weaken (fun x hx => by simp [hx])
        · rw [← hfin]
          conv => rhs; unfold joinG
          rw [if_pos HY.out, HES.out]
          rfl)
      have hgk : gk - 1 < gk := by
        obtain ⟨-, hlen, -⟩ := HS.out
        have hnl := next_len hkn
        omega
      clear hMs hR7 hMw7 hcl hx7 HE7 y7 j7 hx8 hR8 hMw8 hcl8
      generalize w7.setCell ⟨xb, 7, none⟩ (.slice (some ⟨cb, 0, none⟩) 2 2) = w8 at *
      go_wp2_with fail
      go_roundg (gk - 1)
      case measure => exact hgk
      case rel => exact HJ
  | false =>
    have hi : Calls Tryz.prog 124 #[PtrV pb, .string ⟨#[65, 78, 68]⟩] wr _ := is_ref wr pb tg ts s1 f hRr [65, 78, 68]
    rw [hq] at hi
    unfold PtrV at hi
    go_wp2_with fail
    (with_reducible refine hi.mono ?_)
    rintro e wq ⟨rfl, hMi⟩
    clear hi
    have hno : s1.is [[65, 78, 68]] = false := hq
    clear hq
    go_wp2_with fail
    go_ret
    have hf := HS.out.2.2
    rw [joinR_stop hno] at hf
    refine ⟨b1, rfl, hMr.trans hMi (by simp), by rw [← hf]; exact hRr.later hMi, ?_⟩
    rw [← hf]
    exact fun h0 L hL => (HS.out.1 h0 L hL).mods (hMi.mono (by simp))
end Go.Proofs.YtpokbepenacnpaaGreatDoor

namespace Go.Proofs.YtpokbepenacnpaaGreatDoor
open Go.RowKit
set_option linter.unusedVariables false

set_option maxRecDepth 100000 in
set_option maxHeartbeats 8000000 in
theorem or_ref (f : Nat) (hpart : RC 125 (andF (subOf f)) f) (hgoes : Goes (andF (subOf f))) : RC 81 (exprF (subOf f)) f := by
  intro w pb tg ts s h
  have hp := hpart w pb tg ts s h
  have hlt := h.lt
  obtain ⟨part, hpe⟩ : ∃ F, andF (subOf f) = F := ⟨_, rfl⟩
  have hF : exprF (subOf f) s = joinG part [[79, 82]] (part s).2.rest.length (part s).1 (part s).2 := by rw [← hpe]; rfl
  rw [hpe] at hp hpart hgoes
  have HF := Lib.hid hF
  unfold PtrV at *
  clear h hpe hF
  go_enter Tryz.func81, Tryz.ntmps81
  go_wp2_with fail
  (with_reducible refine hp.mono ?_)
  rintro e w1 ⟨b1, rfl, hM1, hR1, hE1⟩
  unfold PtrV
  clear hp
  have HJ : Hid (JoinAt pb tg ts f w part [[79, 82]] (exprF (subOf f) s) (part s).2.rest.length w1 (.pointer (some ⟨b1, 0, none⟩))) := Lib.hid ⟨(part s).1, (part s).2, b1, rfl, hM1, hR1, fun h0 L hL => hE1 h0 L hL, Nat.le_refl _, HF.out.symm⟩
  clear hE1 hR1 hM1
  go_wp2_with fail
  go_loopg [3] (part s).2.rest.length (fun gk t3 wr => Hid (JoinAt pb tg ts f w part [[79, 82]] (exprF (subOf f) s) gk wr t3))
  case atStart => exact HJ
  clear HJ
  obtain ⟨x1, s1, b1, rfl, hMr, hRr, hEr, hlen, hfin⟩ := hrel.out
  have HS := Lib.hid (And.intro hEr (And.intro hlen hfin))
  clear hrel hEr hlen hfin
  unfold PtrV
  cases hq : s1.is [[79, 82]] with
  | true =>
    have hi : Calls Tryz.prog 124 #[PtrV pb, .string ⟨#[79, 82]⟩] wr _ := is_ref wr pb tg ts s1 f hRr [79, 82]
    rw [hq] at hi
    unfold PtrV at hi
    go_wp2_with fail
    (with_reducible refine hi.mono ?_)
    rintro e wq ⟨rfl, hMi⟩
    clear hi
    have hMr := hMr.trans hMi (by simp)
    have hRr := hRr.later hMi
    have hEs := HS.out.1
    have HS : Hid ((s1.e = 0 → ∀ L : List Nat, (∀ x ∈ L, x < w.heap.size) → ExprAt 174 96 wq L (.pointer (some ⟨b1, 0, none⟩)) x1) ∧ _ ∧ _) := Lib.hid ⟨fun h0 L hL => (hEs h0 L hL).mods (hMi.mono (by simp)), HS.out.2⟩
    have hyes : s1.is [[79, 82]] = true := hq
    have hword : s1.now.s = [79, 82] := is_str hq
    clear hEs hMi hq
    obtain ⟨he, hkn⟩ := is_kind hyes
    have HE := Lib.hid he
    have hlow : s1.now.s.map lowc = [111, 114] := by rw [hword]; decide
    have HLOW := Lib.hid hlow
    clear hlow hword
    have HY := Lib.hid hyes
    clear hyes he
    obtain ⟨i, cap, d, hb, hd, hi, ⟨hl, htp, hf⟩, ⟨c0, c1, c2, c3, c4⟩, -, -⟩ := hRr.tok
    have a0 := cell_of_heap hb 0
    have a1 := cell_of_heap hb 1
    change wq.cell? _ = some (.slice (some ⟨tg, 0, none⟩) ts.length cap) at a0
    change wq.cell? _ = some (.int .i64 i) at a1
    have hii : (i : Int) < (ts.length : Int) := by omega
    obtain ⟨n, hn⟩ : ∃ n, ts.length = n := ⟨_, rfl⟩
    rw [hn] at a0 hii
    obtain ⟨pos, hpos⟩ : ∃ pos, s1.now.pos = pos := ⟨_, rfl⟩
    rw [hpos] at c1
    have HPOS := Lib.hid hpos
    clear hb hd hn hpos c0 c3 c4
    go_upto_region 3 with fail
    go_cut [4] from 9 to 21 (fun s4 wx => CutNode wq (nodeA ⟨#[111, 114]⟩ pos ⟨#[]⟩ ⟨#[]⟩ 0 0 ⟨#[]⟩ (.slice none 0 0)) s4 wx)
    case first =>
      go_region_law (fail)
      all_goals
        go_wp2_with fail
        go_meet
        exact CutNode.made wq _
    case rest =>
      obtain ⟨rfl, hMn, hsz, hxn⟩ := hcut
      obtain ⟨xb, hxbe⟩ : ∃ xb, wq.heap.size = xb := ⟨_, rfl⟩
      have hwx : w.heap.size ≤ xb := by rw [← hxbe]; exact hMr.size
      rw [hxbe] at hsz hxn
      rw [hxbe]
      have hR3 := hRr.later hMn
      have hMw3 := hMr.trans hMn (by simp)
      have hpx := hRr.lt
      have hxp : xb ≠ pb := by omega
      have hxt : xb ≠ tg := by omega
      have HEr : Hid (∀ L : List Nat, (∀ x ∈ L, x < w.heap.size) → ExprAt 174 96 wc (pb :: xb :: L) (.pointer (some ⟨b1, 0, none⟩)) x1) := Lib.hid fun L hL => by
        have hE := HS.out.1 HE.out (pb :: L) (fun x hx => by
          rcases List.mem_cons.1 hx with rfl | hx
          · exact hlt.1
          · exact hL x hx)
        have hE2 := ExprAt.fresh13 (xb := xb) (Nat.le_of_eq hxbe) hE
        exact (hE2.mods (hMn.mono (by simp))).weaken (fun x hx => by
          simp only [List.mem_cons] at hx ⊢
          rcases hx with h | h | h
          · exact .inr (.inl h)
          · exact .inl h
          · exact .inr (.inr h))
      clear hRr hMn hMr a0 a1 c1 c2 hii
      obtain ⟨ix, hix, bb, gg, hwz, hMs, hR5⟩ := hR3.pass hkn
      have hMw5 := hMw3.trans hMs (by simp)
      have hx5 := hMs.heap hxn (by simpa using hxp)
      have HE5 : Hid (∀ L : List Nat, (∀ x ∈ L, x < w.heap.size) → ExprAt 174 96 (wc.setCell ⟨pb, 1, none⟩ (.int .i64 ((ix : Int) + 1))) (pb :: xb :: L) (.pointer (some ⟨b1, 0, none⟩)) x1) := Lib.hid fun L hL => (HEr.out L hL).mods (hMs.mono (by simp))
      clear hMs hR3 hMw3 hxn HEr
      go_upto_region 5 with fail
      generalize wc.setCell ⟨pb, 1, none⟩ (.int .i64 ((ix : Int) + 1)) = w5 at *
      clear bb gg hwz hix
      have ho := hpart w5 pb tg ts s1.next hR5
      unfold PtrV at ho
      go_wp2_with fail
      (with_reducible refine ho.mono ?_)
      rintro e w6 ⟨yb, rfl, hM6, hR6, hE6⟩
      dsimp only [PtrV]
      clear ho hR5
      obtain ⟨es, hes⟩ : ∃ es, part s1.next = es := ⟨_, rfl⟩
      rw [hes] at hR6 hE6
      have HES := Lib.hid hes
      clear hes
      have hMw6 := hMw5.trans hM6 (by simp)
      have hx6 := hM6.heap hx5 (by simpa using hxp)
      have hsz6 : w.heap.size ≤ w6.heap.size := hMw6.size
      have hE7 : es.2.e = 0 → ∀ L : List Nat, (∀ x ∈ L, x < w.heap.size) → ExprAt 174 96 (w6.alloc (.cells #[.pointer (some ⟨b1, 0, none⟩), PtrV yb] 96)) (pb :: xb :: L) (PtrV yb) es.1 ∧ ExprAt 174 96 (w6.alloc (.cells #[.pointer (some ⟨b1, 0, none⟩), PtrV yb] 96)) (pb :: xb :: L) (.pointer (some ⟨b1, 0, none⟩)) x1 := fun he L hL => by
        have hM7 := (Mods.refl [] w6).alloc (.cells #[.pointer (some ⟨b1, 0, none⟩), PtrV yb] 96)
        refine ⟨(hE6 he (pb :: xb :: L) (fun x hx => ?_)).mods (hM7.mono (by simp)), ((HE5.out L hL).mods (hM6.mono (by simp))).mods (hM7.mono (by simp))⟩
        have h5 := hMw5.size
        have hpl := hlt.1
        have hxl := lt_size_of_heap hx5
        rcases List.mem_cons.1 hx with rfl | hx
        · omega
        · rcases List.mem_cons.1 hx with rfl | hx
          · omega
          · have := hL x hx; omega
      have HE7 := Lib.hid hE7
      have hcl := heap_alloc_new w6 (.cells #[.pointer (some ⟨b1, 0, none⟩), PtrV yb] 96)
      have hMd := (Mods.refl [] w6).alloc (.cells #[.pointer (some ⟨b1, 0, none⟩), PtrV yb] 96)
      have hx7 := hMd.heap hx6 (by simp)
      have hR7 := hR6.later hMd
      have hMw7 := hMw6.trans hMd (by simp)
      have HX6 := Lib.hid (lt_size_of_heap hx6)
      unfold PtrV at hcl hMd hx7 hR7 hMw7 HE7
      have y7 := cell_of_heap hx7 7
      have j7 := frozen_of_heap hx7 7
      change World.cell? _ _ = some (.slice none 0 0) at y7
      clear hE7 hE6 hx6 hR6 hMd hM6 hMw6 hMw5 hx5 HE5
      go_upto_region 6 with fail
      have hx6l := HX6.out
      clear HX6
      generalize w6.alloc (.cells #[.pointer (some ⟨b1, 0, none⟩), .pointer (some ⟨yb, 0, none⟩)] 96) = w7 at *
      generalize w6.heap.size = cb at *
      have hx8 := heap_setCell_same hx7 7 (.slice (some ⟨cb, 0, none⟩) 2 2)
      have hMs : Mods [xb] w7 (w7.setCell ⟨xb, 7, none⟩ (.slice (some ⟨cb, 0, none⟩) 2 2)) := (Mods.refl _ _).setCell (.inl (by simp)) _
      have hR8 := hR7.mods hMs (by simpa using hxp.symm) (by simpa using hxt.symm)
      have hMw8 := hMw7.trans hMs (fun x hx => .inr (x_ge rfl hwx hx))
      have hcl8 := hMs.heap hcl (by simp; omega)
      have HJ : Hid (JoinAt pb tg ts f w part [[79, 82]] (exprF (subOf f) s) (gk - 1) (w7.setCell ⟨xb, 7, none⟩ (.slice (some ⟨cb, 0, none⟩) 2 2)) (.pointer (some ⟨xb, 0, none⟩))) := Lib.hid (by
        obtain ⟨-, hlen, hfin⟩ := HS.out
        have hnl := next_len hkn
        have hgl := (hgoes s1.next).len
        obtain ⟨k, rfl⟩ : ∃ k, gk = k + 1 := ⟨gk - 1, by omega⟩
        refine ⟨.bin { op := s1.now.s.map lowc, pos := s1.now.pos } x1 es.1, es.2, xb, rfl, hMw8, hR8, fun h0 L hL => ?_, by rw [HES.out] at hgl; omega, ?_⟩
        · have hE := HE7.out h0 L hL
          rw [HPOS.out, HLOW.out]
          refine ⟨xb, cb, .pointer (some ⟨b1, 0, none⟩), .pointer (some ⟨yb, 0, none⟩), rfl, fun hm => by have := hL _ hm; omega, fun hm => by have := hL _ hm; omega, hx8, hcl8, ?_, ?_⟩
          · exact (hE.2.mods (hMs.mono (by simp))).weaken (fun x hx => by simp [hx])
          · exact (hE.1.mods (hMs.mono (by simp))).weaken (fun x hx => by simp [hx])
        · rw [← hfin]
          conv => rhs; unfold joinG
          rw [if_pos HY.out, HES.out]
          rfl)
      have hgk : gk - 1 < gk := by
        obtain ⟨-, hlen, -⟩ := HS.out
        have hnl := next_len hkn
        omega
      clear hMs hR7 hMw7 hcl hx7 HE7 y7 j7 hx8 hR8 hMw8 hcl8
      generalize w7.setCell ⟨xb, 7, none⟩ (.slice (some ⟨cb, 0, none⟩) 2 2) = w8 at *
      go_wp2_with fail
      go_roundg (gk - 1)
      case measure => exact hgk
      case rel => exact HJ
  | false =>
    have hi : Calls Tryz.prog 124 #[PtrV pb, .string ⟨#[79, 82]⟩] wr _ := is_ref wr pb tg ts s1 f hRr [79, 82]
    rw [hq] at hi
    unfold PtrV at hi
    go_wp2_with fail
    (with_reducible refine hi.mono ?_)
    rintro e wq ⟨rfl, hMi⟩
    clear hi
    have hno : s1.is [[79, 82]] = false := hq
    clear hq
    go_wp2_with fail
    go_ret
    have hf := HS.out.2.2
    rw [joinR_stop hno] at hf
    refine ⟨b1, rfl, hMr.trans hMi (by simp), by rw [← hf]; exact hRr.later hMi, ?_⟩
    rw [← hf]
    exact fun h0 L hL => (HS.out.1 h0 L hL).mods (hMi.mono (by simp))
end Go.Proofs.YtpokbepenacnpaaGreatDoor
