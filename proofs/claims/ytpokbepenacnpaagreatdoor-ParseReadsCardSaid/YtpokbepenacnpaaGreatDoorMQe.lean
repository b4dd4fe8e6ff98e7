/-
  The document's parser: aggregate, walked. No condition but the contract of what stands within.
-/
import Derived.Test.YtpokbepenacnpaaGreatDoorMQa
namespace Go.Proofs.YtpokbepenacnpaaGreatDoor
open Go.RowKit
set_option linter.unusedVariables false

def aggW (i : Nat) : Bs := ([wCount, wSum, wMin, wMax] : List Bs).getD i []
def aggL (i : Nat) : Bs := ([oCount, [115, 117, 109], [109, 105, 110], [109, 97, 120]] : List Bs).getD i []
theorem agg4 {i : Nat} (h : i < 4) : i = 0 ∨ i = 1 ∨ i = 2 ∨ i = 3 := by omega
theorem aggW_low {i : Nat} (h : i < 4) : (aggW i).map lowc = aggL i := by
  rcases agg4 h with rfl | rfl | rfl | rfl <;> decide
theorem aggW_eq {i j : Nat} (h : i < 4) (hj : j < 4) : (aggW i == aggW j) = decide (i = j) := by
  rcases agg4 h with rfl | rfl | rfl | rfl <;> rcases agg4 hj with rfl | rfl | rfl | rfl <;> decide
theorem aggW_count {i : Nat} (h : i < 4) : (aggW i == [67, 79, 85, 78, 84]) = decide (i = 0) := aggW_eq (j := 0) h (by decide)
theorem aggWs_at (w : World) (i : Nat) (h : i < 4) : (w.alloc (.cells #[.string ⟨#[67, 79, 85, 78, 84]⟩, .string ⟨#[83, 85, 77]⟩, .string ⟨#[77, 73, 78]⟩, .string ⟨#[77, 65, 88]⟩] 9)).cell? ⟨w.heap.size, i, none⟩ = some (.string ⟨(aggW i).toArray⟩) := by
  rw [cell_of_heap (heap_alloc_new w _) i]
  rcases agg4 h with rfl | rfl | rfl | rfl <;> rfl
theorem aggLs_at (w : World) (i : Nat) (h : i < 4) : (w.alloc (.cells #[.string ⟨#[99, 111, 117, 110, 116]⟩, .string ⟨#[115, 117, 109]⟩, .string ⟨#[109, 105, 110]⟩, .string ⟨#[109, 97, 120]⟩] 9)).cell? ⟨w.heap.size, i, none⟩ = some (.string ⟨(aggL i).toArray⟩) := by
  rw [cell_of_heap (heap_alloc_new w _) i]
  rcases agg4 h with rfl | rfl | rfl | rfl <;> rfl
/-- What the function of the document that is numbered so does at this depth. -/
def RC (fn : Nat) (F : PF) (f : Nat) : Prop := ∀ (w : World) (pb tg : Nat) (ts : List Tok) (s : PS), RSt w pb tg ts s f → Calls Tryz.prog fn #[PtrV pb] w (RRes pb tg ts f F s w)
/-- What aggregate leaves of the node that it is handed. -/
def AggR (pb tg : Nat) (ts : List Tok) (f xb : Nat) (r : Tree × PS) (w : World) (e : Ending) (w' : World) : Prop :=
  e = .returned (.tuple #[]) ∧ Mods [pb, xb] w w' ∧ RSt w' pb tg ts r.2 f ∧ (r.2.e = 0 → ∀ L : List Nat, (∀ x ∈ L, x < w.heap.size) → xb ∉ L → ExprAt 174 96 w' L (PtrV xb) r.1)
theorem agg_eq (g : Nat) (s : PS) (he : s.e = 0) : aggregateF (some (lvl g)) s =
    (if s.now.s.map lowc = oCount ∧ ((s.next.wants [wOpen]).takes wStar).1 = true then ((.leaf { op := oAll, pos := s.now.pos } : Tree), ((s.next.wants [wOpen]).takes wStar).2.wants [wShut])
    else (.un { op := s.now.s.map lowc, pos := s.now.pos } ((lvl g).expr (if s.now.s.map lowc = oCount then ((s.next.wants [wOpen]).takes wStar).2 else s.next.wants [wOpen])).1, ((lvl g).expr (if s.now.s.map lowc = oCount then ((s.next.wants [wOpen]).takes wStar).2 else s.next.wants [wOpen])).2.wants [wShut])) := by
  unfold aggregateF inF
  simp only [he, if_true]

set_option maxRecDepth 100000 in
set_option maxHeartbeats 8000000 in
theorem aggregate_ref (f : Nat) (hor : ∀ g, f = g + 1 → RC 81 (lvl g).expr g) (w : World) (pb tg : Nat) (ts : List Tok) (s : PS) (h : RSt w pb tg ts s f) (he : s.e = 0) (hk : s.now.kind = 1) (wi : Nat) (hwi : wi < 4) (hw : s.now.s = aggW wi) (xb : Nat) (hxp : xb ≠ pb) (hxt : xb ≠ tg)
    (hxb : w.heap[xb]? = some (.cells (nodeA ⟨#[]⟩ s.now.pos ⟨#[]⟩ ⟨#[]⟩ 0 0 ⟨#[]⟩ (.slice none 0 0)) 174 (0, 0))) :
    Calls Tryz.prog 234 #[PtrV pb, PtrV xb] w (AggR pb tg ts f xb (aggregateF (subOf f) s) w) := by
  obtain ⟨i, cap, d, hb, hd, hi, ⟨hl, htp, hf⟩, ⟨c0, c1, c2, c3, c4⟩, -, -⟩ := h.tok
  have a0 := cell_of_heap hb 0
  have a1 := cell_of_heap hb 1
  change w.cell? _ = some (.slice (some ⟨tg, 0, none⟩) ts.length cap) at a0
  change w.cell? _ = some (.int .i64 i) at a1
  have hii : (i : Int) < (ts.length : Int) := by omega
  rw [hw] at c2
  cases f with
  | zero =>
    have h2 := fun n => down_no (w.drewN n) pb tg ts s (h.later ((Mods.refl [] w).drewN n)) he
    have hag : (aggregateF (subOf 0) s).2 = s.fail 9 := rfl
    have HF : Hid (∀ n w', Mods [pb] (w.drewN n) w' → RSt w' pb tg ts (s.fail 9) 0 → AggR pb tg ts 0 xb (aggregateF (subOf 0) s) w (.returned (.tuple #[])) w') := Lib.hid fun n w' hM hR => by
      refine ⟨rfl, (((Mods.refl [] w).drewN n).mono (L' := [pb, xb]) (by simp)).trans hM (by simp), by rw [hag]; exact hR, fun he => ?_⟩
      rw [hag] at he
      exact absurd he (fail_e (by decide))
    have H2 := Lib.hid h2
    unfold PtrV at *
    clear h hb hd h2 hag hxb hw hor
    obtain ⟨n, hn⟩ : ∃ n, ts.length = n := ⟨_, rfl⟩
    rw [hn] at a0 hii
    clear hn
    go_enter Tryz.func234, Tryz.ntmps234
    go_upto_region 0 with fail
    go_quiet (fail)
    have h3 := H2.out nq
    have hfin := HF.out nq
    generalize w.drewN nq = w2 at *
    go_wp2_with fail
    (with_reducible refine h3.mono ?_)
    rintro e w3 ⟨rfl, hM3, hR3⟩
    clear h3
    go_wp2_with fail
    refine bodyPost_ret (results_none rfl _ _ _) rfl ?_
    exact hfin w3 hM3 hR3
  | succ g =>
    have hor2 := hor g rfl
    have hag := agg_eq g s he
    change aggregateF (subOf (g + 1)) s = _ at hag
    rw [hw, aggW_low hwi] at hag
    obtain ⟨r, hr⟩ : ∃ r, aggregateF (subOf (g + 1)) s = r := ⟨_, rfl⟩
    rw [hr] at hag
    rw [hr]
    have hkn : s.now.kind ≠ 0 := by omega
    have h2 := fun n => down_go (w.drewN n) pb tg ts s g (h.later ((Mods.refl [] w).drewN n)) he
    have H2 := Lib.hid h2
    have HOR := Lib.hid hor2
    have HAG := Lib.hid hag
    have HX := Lib.hid hxb
    have hcw := aggW_count hwi
    have hlt := h.lt
    have hxl : xb < w.heap.size := lt_size_of_heap hxb
    generalize s.now.pos = pos at *
    unfold PtrV at *
    clear h hb hd h2 hag hxb hw hor hor2 hr
    obtain ⟨n, hn⟩ : ∃ n, ts.length = n := ⟨_, rfl⟩
    rw [hn] at a0 hii
    clear hn
    go_enter Tryz.func234, Tryz.ntmps234
    go_upto_region 0 with fail
    go_quiet (fail)
    have h3 := H2.out nq
    have hM0 := (Mods.refl [] w).drewN nq
    generalize w.drewN nq = w2 at *
    go_wp2_with fail
    (with_reducible refine h3.mono ?_)
    rintro e w3 ⟨rfl, hM3, hR3⟩
    have hMw3 := (hM0.mono (L' := [pb]) (by simp)).trans hM3 (by simp)
    clear h3 H2 hM3 hM0 a0 a1 c0 c1 c2 c3 c4
    obtain ⟨i, hi, b1, g1, hwz, hMs, hR4⟩ := hR3.pass hkn
    have hMw4 := hMw3.trans hMs (by simp)
    clear hR3 hMs hMw3
    go_upto_region 3 with fail
    generalize w3.setCell ⟨pb, 1, none⟩ (.int .i64 ((i : Int) + 1)) = w4 at *
    have h5 : Calls Tryz.prog 77 #[PtrV pb, .string ⟨#[40]⟩] w4 _ := wants_ref w4 pb tg ts s.next g hR4 wOpen
    generalize s.next.wants [wOpen] = s2 at *
    unfold PtrV at h5
    clear hR4 b1 g1 hwz hi
    go_wp2_with fail
    (with_reducible refine h5.mono ?_)
    rintro e w5 ⟨rfl, hM5, hR5⟩
    have hMw5 := hMw4.trans hM5 (by simp)
    clear h5 hM5 hMw4
    by_cases h0 : wi = 0
    · rw [decide_eq_true h0] at hcw
      have hcz : aggL wi = oCount := by rw [h0]; rfl
      have h6 : Calls Tryz.prog 80 #[PtrV pb, .string ⟨#[42]⟩] w5 _ := takes_ref w5 pb tg ts s2 g hR5 wStar
      obtain ⟨⟨tk, s3⟩, hs3⟩ : ∃ x, s2.takes wStar = x := ⟨_, rfl⟩
      have hag := HAG.out
      rw [hs3] at h6 hag
      simp only at h6 hag
      unfold PtrV at h6
      have HA2 := Lib.hid hag
      clear hR5 hs3 hag HAG
      go_wp2_with fail
      (with_reducible refine h6.mono ?_)
      rintro e w6 ⟨rfl, hM6, hR6⟩
      have hMw6 := hMw5.trans hM6 (by simp)
      clear h6 hM6 hMw5
      cases tk with
      | true =>
        have hag := HA2.out
        rw [if_pos ⟨hcz, rfl⟩] at hag
        have HA3 := Lib.hid hag
        clear hag HA2 hcw
        have hx6 := hMw6.heap HX.out (by simpa using hxp)
        have y0 := cell_of_heap hx6 0
        change w6.cell? _ = some (.string ⟨#[]⟩) at y0
        have j0 := frozen_of_heap hx6 0
        have hx7 := heap_setCell_same hx6 0 (.string ⟨#[99, 111, 117, 110, 116, 97, 108, 108]⟩)
        have hMs : Mods [xb] w6 (w6.setCell ⟨xb, 0, none⟩ (.string ⟨#[99, 111, 117, 110, 116, 97, 108, 108]⟩)) := (Mods.refl _ _).setCell (.inl (by simp)) _
        have hR7 := hR6.mods hMs (by simpa using hxp.symm) (by simpa using hxt.symm)
        have hMw7 := (hMw6.mono (L' := [pb, xb]) (by simp)).trans hMs (by simp)
        clear hMs hx6 hR6 hMw6
        go_upto_region 14 with fail
        generalize w6.setCell ⟨xb, 0, none⟩ (.string ⟨#[99, 111, 117, 110, 116, 97, 108, 108]⟩) = w7 at *
        have h8 : Calls Tryz.prog 77 #[PtrV pb, .string ⟨#[41]⟩] w7 _ := wants_ref w7 pb tg ts s3 g hR7 wShut
        have HA4 := HA3
        unfold PtrV at h8
        clear hR7 y0 j0
        go_wp2_with fail
        (with_reducible refine h8.mono ?_)
        rintro e w8 ⟨rfl, hM8, hR8⟩
        have hMw8 := hMw7.trans hM8 (by simp)
        have hx8 := hM8.heap hx7 (by simpa using hxp)
        clear h8 hx7 hM8 hMw7
        obtain ⟨dd, b2, g2, hMs, hR9⟩ := hR8.up (by omega)
        have hMw9 := hMw8.trans hMs (by simp)
        have hx9 := hMs.heap hx8 (by simpa using hxp)
        clear hR8 hMs hMw8 hx8
        go_wp2_with fail
        refine bodyPost_end (results_none rfl _ _ _) rfl ?_
        have hag := HA3.out
        rw [hag]
        exact ⟨rfl, hMw9, hR9, fun _ L hL hn => ⟨xb, rfl, hn, hx9⟩⟩
      | false =>
        have hag := HA2.out
        rw [if_neg (by simp), if_pos hcz] at hag
        have HA3 := Lib.hid hag
        clear hag HA2
        have oc0 := aggWs_at w6
        have hMa := hMw6.alloc (.cells #[.string ⟨#[67, 79, 85, 78, 84]⟩, .string ⟨#[83, 85, 77]⟩, .string ⟨#[77, 73, 78]⟩, .string ⟨#[77, 65, 88]⟩] 9)
        have hRa := hR6.later ((Mods.refl [] w6).alloc (.cells #[.string ⟨#[67, 79, 85, 78, 84]⟩, .string ⟨#[83, 85, 77]⟩, .string ⟨#[77, 73, 78]⟩, .string ⟨#[77, 65, 88]⟩] 9))
        go_upto_region 7 with fail
        have hga : w.heap.size ≤ w6.heap.size := hMw6.size
        clear hcw hMw6 hR6
        generalize w6.alloc (.cells #[.string ⟨#[67, 79, 85, 78, 84]⟩, .string ⟨#[83, 85, 77]⟩, .string ⟨#[77, 73, 78]⟩, .string ⟨#[77, 65, 88]⟩] 9) = wa at *
        generalize w6.heap.size = ga at *
        have oc1 := aggLs_at wa
        have hMb := hMa.alloc (.cells #[.string ⟨#[99, 111, 117, 110, 116]⟩, .string ⟨#[115, 117, 109]⟩, .string ⟨#[109, 105, 110]⟩, .string ⟨#[109, 97, 120]⟩] 9)
        have hab := (Mods.refl [] wa).alloc (.cells #[.string ⟨#[99, 111, 117, 110, 116]⟩, .string ⟨#[115, 117, 109]⟩, .string ⟨#[109, 105, 110]⟩, .string ⟨#[109, 97, 120]⟩] 9)
        have hRb := hRa.later hab
        have HO0 : Hid (∀ i, i < 4 → (wa.alloc (.cells #[.string ⟨#[99, 111, 117, 110, 116]⟩, .string ⟨#[115, 117, 109]⟩, .string ⟨#[109, 105, 110]⟩, .string ⟨#[109, 97, 120]⟩] 9)).cell? ⟨ga, i, none⟩ = some (.string ⟨(aggW i).toArray⟩)) := Lib.hid fun i hi => hab.cell (oc0 i hi) (by simp)
        have hgb := hMa.size
        go_upto_region 8 with fail
        generalize wa.alloc (.cells #[.string ⟨#[99, 111, 117, 110, 116]⟩, .string ⟨#[115, 117, 109]⟩, .string ⟨#[109, 105, 110]⟩, .string ⟨#[109, 97, 120]⟩] 9) = wb at *
        generalize wa.heap.size = gb at *
        have HO1 := Lib.hid oc1
        have hxb := hMb.heap HX.out (by simpa using hxp)
        have HXB : Hid (wb.heap[xb]? = some (.cells (nodeA ⟨(if wi < 0 then aggL wi else [] : Bs).toArray⟩ pos ⟨#[]⟩ ⟨#[]⟩ 0 0 ⟨#[]⟩ (.slice none 0 0)) 174 (0, 0))) := Lib.hid (by rw [if_neg (by omega)]; exact hxb)
        clear oc0 oc1 hMa hRa hab hxb
        have hbb := Mods.refl [xb] wb
        go_wp2_with fail
        go_loopg [7] 4 (fun gk t7 wr => ∃ i : Nat, i + gk = 4 ∧ t7 = .int .i64 i ∧ Mods [xb] wb wr ∧ Hid (wr.heap[xb]? = some (.cells (nodeA ⟨(if wi < i then aggL wi else [] : Bs).toArray⟩ pos ⟨#[]⟩ ⟨#[]⟩ 0 0 ⟨#[]⟩ (.slice none 0 0)) 174 (0, 0))))
        case atStart => exact ⟨0, by omega, rfl, hbb, HXB⟩
        obtain ⟨i, hi, rfl, hMr, HXr⟩ := hrel
        rcases Nat.lt_or_ge i 4 with hlt4 | hge4
        · have hli : (i : Int) < 4 := by omega
          have k0 := hMr.cell (HO0.out i hlt4) (by simp; omega)
          have k1 := hMr.cell (HO1.out i hlt4) (by simp; omega)
          have hq : (aggW i == [67, 79, 85, 78, 84]) = decide (i = wi) := by rw [h0]; exact aggW_count hlt4
          have y0 := cell_of_heap HXr.out 0
          change wr.cell? _ = some (.string ⟨(if wi < i then aggL wi else [] : Bs).toArray⟩) at y0
          have j0 := frozen_of_heap HXr.out 0
          by_cases hiw : i = wi
          · rw [decide_eq_true hiw] at hq
            have hx2 := heap_setCell_same HXr.out 0 (.string ⟨(aggL i).toArray⟩)
            have HX2 : Hid ((wr.setCell ⟨xb, 0, none⟩ (.string ⟨(aggL i).toArray⟩)).heap[xb]? = some (.cells (nodeA ⟨(if wi < i + 1 then aggL wi else [] : Bs).toArray⟩ pos ⟨#[]⟩ ⟨#[]⟩ 0 0 ⟨#[]⟩ (.slice none 0 0)) 174 (0, 0))) := Lib.hid (by rw [if_pos (by omega), ← hiw]; exact hx2)
            have hMs := hMr.setCell (p := ⟨xb, 0, none⟩) (.inl (by simp)) (.string ⟨(aggL i).toArray⟩)
            generalize (if wi < i then aggL wi else [] : Bs) = OP at *
            clear hx2 hiw hMr HXr
            go_wp2_with fail
            go_roundg (4 - (i + 1))
            case measure => omega
            case rel => exact ⟨i + 1, by omega, by go_num, hMs, HX2⟩
          · rw [decide_eq_false hiw] at hq
            have HX2 : Hid (wr.heap[xb]? = some (.cells (nodeA ⟨(if wi < i + 1 then aggL wi else [] : Bs).toArray⟩ pos ⟨#[]⟩ ⟨#[]⟩ 0 0 ⟨#[]⟩ (.slice none 0 0)) 174 (0, 0))) := Lib.hid (by
              have := HXr.out
              by_cases h1 : wi < i
              · rw [if_pos h1] at this; rw [if_pos (by omega)]; exact this
              · rw [if_neg h1] at this; rw [if_neg (by omega)]; exact this)
            generalize (if wi < i then aggL wi else [] : Bs) = OP at *
            clear hiw HXr
            go_wp2_with fail
            go_roundg (4 - (i + 1))
            case measure => omega
            case rel => exact ⟨i + 1, by omega, by go_num, hMr, HX2⟩
        · obtain rfl : i = 4 := by omega
          have hxr := HXr.out
          rw [if_pos (by omega)] at hxr
          have hRr := hRb.mods hMr (by simpa using hxp.symm) (by simpa using hxt.symm)
          have hMwr := (hMb.mono (L' := [pb, xb]) (by simp)).trans hMr (by simp)
          have ho := HOR.out wr pb tg ts s3 hRr
          have hwr := hMwr.size
          unfold PtrV at ho
          clear hRb hMb hbb HXB HXr hMr HO0 HO1 hge4 hi
          go_wp2_with fail
          (with_reducible refine ho.mono ?_)
          rintro e wc ⟨yb, rfl, hMc, hRc, hEc⟩
          dsimp only [PtrV]
          clear ho
          generalize hes : (lvl g).expr s3 = es at *
          have HES := Lib.hid hes
          clear hes
          have hMwc := hMwr.trans hMc (by simp)
          have hxc := hMc.heap hxr (by simpa using hxp)
          have hcl := heap_alloc_new wc (.cells #[PtrV yb] 96)
          have hMd := (Mods.refl [] wc).alloc (.cells #[PtrV yb] 96)
          have hxd := hMd.heap hxc (by simp)
          have hRd := hRc.later hMd
          have hMwd := hMwc.trans hMd (by simp)
          have hEd : es.2.e = 0 → ∀ L : List Nat, (∀ x ∈ L, x < w.heap.size) → ExprAt 174 96 (wc.alloc (.cells #[PtrV yb] 96)) (xb :: L) (PtrV yb) es.1 := fun he L hL => (hEc he (xb :: L) (fun x hx => by
            rcases List.mem_cons.1 hx with rfl | hx
            · omega
            · have := hL x hx; omega)).mods (hMd.mono (by simp))
          have hcz : w.heap.size ≤ wc.heap.size := hMwc.size
          have HE := Lib.hid hEd
          unfold PtrV at hcl hMd hxd hRd hMwd HE
          have y7 := cell_of_heap hxd 7
          have j7 := frozen_of_heap hxd 7
          change World.cell? _ _ = some (.slice none 0 0) at y7
          clear hEd hEc hxc hRc hMd hMc hMwc hxr hMwr
          go_upto_region 14 with fail
          generalize wc.alloc (.cells #[.pointer (some ⟨yb, 0, none⟩)] 96) = wd at *
          generalize wc.heap.size = cb at *
          have hx8 := heap_setCell_same hxd 7 (.slice (some ⟨cb, 0, none⟩) 1 1)
          have hMs : Mods [xb] wd (wd.setCell ⟨xb, 7, none⟩ (.slice (some ⟨cb, 0, none⟩) 1 1)) := (Mods.refl _ _).setCell (.inl (by simp)) _
          have hRe := hRd.mods hMs (by simpa using hxp.symm) (by simpa using hxt.symm)
          have hMwe := hMwd.trans hMs (by simp)
          have hcl2 := hMs.heap hcl (by simp; omega)
          have HE2 : Hid (es.2.e = 0 → ∀ L : List Nat, (∀ x ∈ L, x < w.heap.size) → ExprAt 174 96 (wd.setCell ⟨xb, 7, none⟩ (.slice (some ⟨cb, 0, none⟩) 1 1)) (xb :: L) (.pointer (some ⟨yb, 0, none⟩)) es.1) := Lib.hid fun he L hL => (HE.out he L hL).mods (hMs.mono (by simp))
          clear hMs hRd hMwd hcl hxd HE y7 j7
          generalize wd.setCell ⟨xb, 7, none⟩ (.slice (some ⟨cb, 0, none⟩) 1 1) = we at *
          have h8 : Calls Tryz.prog 77 #[PtrV pb, .string ⟨#[41]⟩] we _ := wants_ref we pb tg ts es.2 g hRe wShut
          unfold PtrV at h8
          clear hRe
          go_wp2_with fail
          (with_reducible refine h8.mono ?_)
          rintro e wf ⟨rfl, hMf, hRf⟩
          have hMwf := hMwe.trans hMf (by simp)
          have hxf := hMf.heap hx8 (by simpa using hxp)
          have hcf := hMf.heap hcl2 (by simp; omega)
          clear h8 hx8 hMwe hcl2
          obtain ⟨dd, b2, g2, hMs, hRg⟩ := hRf.up (by omega)
          have hMwg := hMwf.trans hMs (by simp)
          have hxg := hMs.heap hxf (by simpa using hxp)
          have hcg := hMs.heap hcf (by simp; omega)
          have hMfs := hMf.trans hMs (by simp)
          clear hRf hMwf hxf hcf hMf
          go_wp2_with fail
          refine bodyPost_end (results_none rfl _ _ _) rfl ?_
          have hag := HA3.out
          subst hag
          refine ⟨rfl, hMwg, hRg, fun hez L hL hn => ?_⟩
          have hes0 : es.2.e = 0 := by
            rcases Nat.eq_zero_or_pos es.2.e with h0 | h0
            · exact h0
            · have := (Aft.wants [wShut] es.2).err (by omega)
              rw [this] at hez
              exact hez
          refine ⟨xb, cb, .pointer (some ⟨yb, 0, none⟩), rfl, hn, fun hm => ?_, hxg, hcg, ?_⟩
          · have := hL cb hm; omega
          · have hE := HE2.out hes0 (pb :: L) (fun x hx => by
              rcases List.mem_cons.1 hx with rfl | hx
              · exact hlt.1
              · exact hL x hx)
            have hE2 := hE.mods (hMfs.mono (by simp))
            exact hE2.weaken (by intro x hx; simp [hx])
    · rw [decide_eq_false h0] at hcw
      have hag := HAG.out
      have hne : ¬ aggL wi = oCount := by
        rcases agg4 hwi with rfl | rfl | rfl | rfl
        · exact absurd rfl h0
        · decide
        · decide
        · decide
      rw [if_neg (fun h => hne h.1), if_neg hne] at hag
      have HA3 := Lib.hid hag
      clear hag HAG hne h0
      have oc0 := aggWs_at w5
      have hMa := hMw5.alloc (.cells #[.string ⟨#[67, 79, 85, 78, 84]⟩, .string ⟨#[83, 85, 77]⟩, .string ⟨#[77, 73, 78]⟩, .string ⟨#[77, 65, 88]⟩] 9)
      have hRa := hR5.later ((Mods.refl [] w5).alloc (.cells #[.string ⟨#[67, 79, 85, 78, 84]⟩, .string ⟨#[83, 85, 77]⟩, .string ⟨#[77, 73, 78]⟩, .string ⟨#[77, 65, 88]⟩] 9))
      go_upto_region 7 with fail
      have hga : w.heap.size ≤ w5.heap.size := hMw5.size
      clear hcw hMw5 hR5
      generalize w5.alloc (.cells #[.string ⟨#[67, 79, 85, 78, 84]⟩, .string ⟨#[83, 85, 77]⟩, .string ⟨#[77, 73, 78]⟩, .string ⟨#[77, 65, 88]⟩] 9) = wa at *
      generalize w5.heap.size = ga at *
      have oc1 := aggLs_at wa
      have hMb := hMa.alloc (.cells #[.string ⟨#[99, 111, 117, 110, 116]⟩, .string ⟨#[115, 117, 109]⟩, .string ⟨#[109, 105, 110]⟩, .string ⟨#[109, 97, 120]⟩] 9)
      have hab := (Mods.refl [] wa).alloc (.cells #[.string ⟨#[99, 111, 117, 110, 116]⟩, .string ⟨#[115, 117, 109]⟩, .string ⟨#[109, 105, 110]⟩, .string ⟨#[109, 97, 120]⟩] 9)
      have hRb := hRa.later hab
      have HO0 : Hid (∀ i, i < 4 → (wa.alloc (.cells #[.string ⟨#[99, 111, 117, 110, 116]⟩, .string ⟨#[115, 117, 109]⟩, .string ⟨#[109, 105, 110]⟩, .string ⟨#[109, 97, 120]⟩] 9)).cell? ⟨ga, i, none⟩ = some (.string ⟨(aggW i).toArray⟩)) := Lib.hid fun i hi => hab.cell (oc0 i hi) (by simp)
      have hgb := hMa.size
      go_upto_region 8 with fail
      generalize wa.alloc (.cells #[.string ⟨#[99, 111, 117, 110, 116]⟩, .string ⟨#[115, 117, 109]⟩, .string ⟨#[109, 105, 110]⟩, .string ⟨#[109, 97, 120]⟩] 9) = wb at *
      generalize wa.heap.size = gb at *
      have HO1 := Lib.hid oc1
      have hxb := hMb.heap HX.out (by simpa using hxp)
      have HXB : Hid (wb.heap[xb]? = some (.cells (nodeA ⟨(if wi < 0 then aggL wi else [] : Bs).toArray⟩ pos ⟨#[]⟩ ⟨#[]⟩ 0 0 ⟨#[]⟩ (.slice none 0 0)) 174 (0, 0))) := Lib.hid (by rw [if_neg (by omega)]; exact hxb)
      clear oc0 oc1 hMa hRa hab hxb
      have hbb := Mods.refl [xb] wb
      go_wp2_with fail
      go_loopg [7] 4 (fun gk t7 wr => ∃ i : Nat, i + gk = 4 ∧ t7 = .int .i64 i ∧ Mods [xb] wb wr ∧ Hid (wr.heap[xb]? = some (.cells (nodeA ⟨(if wi < i then aggL wi else [] : Bs).toArray⟩ pos ⟨#[]⟩ ⟨#[]⟩ 0 0 ⟨#[]⟩ (.slice none 0 0)) 174 (0, 0))))
      case atStart => exact ⟨0, by omega, rfl, hbb, HXB⟩
      obtain ⟨i, hi, rfl, hMr, HXr⟩ := hrel
      rcases Nat.lt_or_ge i 4 with hlt4 | hge4
      · have hli : (i : Int) < 4 := by omega
        have k0 := hMr.cell (HO0.out i hlt4) (by simp; omega)
        have k1 := hMr.cell (HO1.out i hlt4) (by simp; omega)
        have hq := aggW_eq hlt4 hwi
        have y0 := cell_of_heap HXr.out 0
        change wr.cell? _ = some (.string ⟨(if wi < i then aggL wi else [] : Bs).toArray⟩) at y0
        have j0 := frozen_of_heap HXr.out 0
        by_cases hiw : i = wi
        · rw [decide_eq_true hiw] at hq
          have hx2 := heap_setCell_same HXr.out 0 (.string ⟨(aggL i).toArray⟩)
          have HX2 : Hid ((wr.setCell ⟨xb, 0, none⟩ (.string ⟨(aggL i).toArray⟩)).heap[xb]? = some (.cells (nodeA ⟨(if wi < i + 1 then aggL wi else [] : Bs).toArray⟩ pos ⟨#[]⟩ ⟨#[]⟩ 0 0 ⟨#[]⟩ (.slice none 0 0)) 174 (0, 0))) := Lib.hid (by rw [if_pos (by omega), ← hiw]; exact hx2)
          have hMs := hMr.setCell (p := ⟨xb, 0, none⟩) (.inl (by simp)) (.string ⟨(aggL i).toArray⟩)
          generalize (if wi < i then aggL wi else [] : Bs) = OP at *
          clear hx2 hiw hMr HXr
          go_wp2_with fail
          go_roundg (4 - (i + 1))
          case measure => omega
          case rel => exact ⟨i + 1, by omega, by go_num, hMs, HX2⟩
        · rw [decide_eq_false hiw] at hq
          have HX2 : Hid (wr.heap[xb]? = some (.cells (nodeA ⟨(if wi < i + 1 then aggL wi else [] : Bs).toArray⟩ pos ⟨#[]⟩ ⟨#[]⟩ 0 0 ⟨#[]⟩ (.slice none 0 0)) 174 (0, 0))) := Lib.hid (by
            have := HXr.out
            by_cases h1 : wi < i
            · rw [if_pos h1] at this; rw [if_pos (by omega)]; exact this
            · rw [if_neg h1] at this; rw [if_neg (by omega)]; exact this)
          generalize (if wi < i then aggL wi else [] : Bs) = OP at *
          clear hiw HXr
          go_wp2_with fail
          go_roundg (4 - (i + 1))
          case measure => omega
          case rel => exact ⟨i + 1, by omega, by go_num, hMr, HX2⟩
      · obtain rfl : i = 4 := by omega
        have hxr := HXr.out
        rw [if_pos (by omega)] at hxr
        have hRr := hRb.mods hMr (by simpa using hxp.symm) (by simpa using hxt.symm)
        have hMwr := (hMb.mono (L' := [pb, xb]) (by simp)).trans hMr (by simp)
        have ho := HOR.out wr pb tg ts s2 hRr
        have hwr := hMwr.size
        unfold PtrV at ho
        clear hRb hMb hbb HXB HXr hMr HO0 HO1 hge4 hi
        go_wp2_with fail
        (with_reducible refine ho.mono ?_)
        rintro e wc ⟨yb, rfl, hMc, hRc, hEc⟩
        dsimp only [PtrV]
        clear ho
        generalize hes : (lvl g).expr s2 = es at *
        have HES := Lib.hid hes
        clear hes
        have hMwc := hMwr.trans hMc (by simp)
        have hxc := hMc.heap hxr (by simpa using hxp)
        have hcl := heap_alloc_new wc (.cells #[PtrV yb] 96)
        have hMd := (Mods.refl [] wc).alloc (.cells #[PtrV yb] 96)
        have hxd := hMd.heap hxc (by simp)
        have hRd := hRc.later hMd
        have hMwd := hMwc.trans hMd (by simp)
        have hEd : es.2.e = 0 → ∀ L : List Nat, (∀ x ∈ L, x < w.heap.size) → ExprAt 174 96 (wc.alloc (.cells #[PtrV yb] 96)) (xb :: L) (PtrV yb) es.1 := fun he L hL => (hEc he (xb :: L) (fun x hx => by
          rcases List.mem_cons.1 hx with rfl | hx
          · omega
          · have := hL x hx; omega)).mods (hMd.mono (by simp))
        have hcz : w.heap.size ≤ wc.heap.size := hMwc.size
        have HE := Lib.hid hEd
        unfold PtrV at hcl hMd hxd hRd hMwd HE
        have y7 := cell_of_heap hxd 7
        have j7 := frozen_of_heap hxd 7
        change World.cell? _ _ = some (.slice none 0 0) at y7
        clear hEd hEc hxc hRc hMd hMc hMwc hxr hMwr
        go_upto_region 14 with fail
        generalize wc.alloc (.cells #[.pointer (some ⟨yb, 0, none⟩)] 96) = wd at *
        generalize wc.heap.size = cb at *
        have hx8 := heap_setCell_same hxd 7 (.slice (some ⟨cb, 0, none⟩) 1 1)
        have hMs : Mods [xb] wd (wd.setCell ⟨xb, 7, none⟩ (.slice (some ⟨cb, 0, none⟩) 1 1)) := (Mods.refl _ _).setCell (.inl (by simp)) _
        have hRe := hRd.mods hMs (by simpa using hxp.symm) (by simpa using hxt.symm)
        have hMwe := hMwd.trans hMs (by simp)
        have hcl2 := hMs.heap hcl (by simp; omega)
        have HE2 : Hid (es.2.e = 0 → ∀ L : List Nat, (∀ x ∈ L, x < w.heap.size) → ExprAt 174 96 (wd.setCell ⟨xb, 7, none⟩ (.slice (some ⟨cb, 0, none⟩) 1 1)) (xb :: L) (.pointer (some ⟨yb, 0, none⟩)) es.1) := Lib.hid fun he L hL => (HE.out he L hL).mods (hMs.mono (by simp))
        clear hMs hRd hMwd hcl hxd HE y7 j7
        generalize wd.setCell ⟨xb, 7, none⟩ (.slice (some ⟨cb, 0, none⟩) 1 1) = we at *
        have h8 : Calls Tryz.prog 77 #[PtrV pb, .string ⟨#[41]⟩] we _ := wants_ref we pb tg ts es.2 g hRe wShut
        unfold PtrV at h8
        clear hRe
        go_wp2_with fail
        (with_reducible refine h8.mono ?_)
        rintro e wf ⟨rfl, hMf, hRf⟩
        have hMwf := hMwe.trans hMf (by simp)
        have hxf := hMf.heap hx8 (by simpa using hxp)
        have hcf := hMf.heap hcl2 (by simp; omega)
        clear h8 hx8 hMwe hcl2
        obtain ⟨dd, b2, g2, hMs, hRg⟩ := hRf.up (by omega)
        have hMwg := hMwf.trans hMs (by simp)
        have hxg := hMs.heap hxf (by simpa using hxp)
        have hcg := hMs.heap hcf (by simp; omega)
        have hMfs := hMf.trans hMs (by simp)
        clear hRf hMwf hxf hcf hMf
        go_wp2_with fail
        refine bodyPost_end (results_none rfl _ _ _) rfl ?_
        have hag := HA3.out
        subst hag
        refine ⟨rfl, hMwg, hRg, fun hez L hL hn => ?_⟩
        have hes0 : es.2.e = 0 := by
          rcases Nat.eq_zero_or_pos es.2.e with h0 | h0
          · exact h0
          · have := (Aft.wants [wShut] es.2).err (by omega)
            rw [this] at hez
            exact hez
        refine ⟨xb, cb, .pointer (some ⟨yb, 0, none⟩), rfl, hn, fun hm => ?_, hxg, hcg, ?_⟩
        · have := hL cb hm; omega
        · have hE := HE2.out hes0 (pb :: L) (fun x hx => by
            rcases List.mem_cons.1 hx with rfl | hx
            · exact hlt.1
            · exact hL x hx)
          have hE2 := hE.mods (hMfs.mono (by simp))
          exact hE2.weaken (by intro x hx; simp [hx])
end Go.Proofs.YtpokbepenacnpaaGreatDoor

namespace Go.Proofs.YtpokbepenacnpaaGreatDoor
open Go.RowKit
set_option linter.unusedVariables false

theorem is_word {s : PS} {W : Bs} (h : s.is [W] = true) (ht : TokW s.now) (hl : 2 < W.length) : s.now.kind = 1 ∧ s.now.s = W := by
  rw [is_one] at h
  simp only [Bool.and_eq_true, Bool.or_eq_true, decide_eq_true_eq, beq_iff_eq] at h
  obtain ⟨h1, h2 | h2, h3⟩ := h
  · exact ⟨h2, h3⟩
  · have := ht.2 h2
    rw [h3] at this
    omega
theorem is_open {s : PS} (h : s.is [wOpen] = true) (ht : TokW s.now) : s.now.kind = 5 ∧ s.now.s = wOpen := by
  rw [is_one] at h
  simp only [Bool.and_eq_true, Bool.or_eq_true, decide_eq_true_eq, beq_iff_eq] at h
  obtain ⟨h1, h2 | h2, h3⟩ := h
  · have := ht.1 h2
    rw [h3] at this
    exact absurd this (by decide)
  · exact ⟨h2, h3⟩
theorem is_not {s : PS} {W : Bs} (h : s.is [W] = false) (he : s.e = 0) : ¬ (s.now.kind = 1 ∧ s.now.s = W) ∧ ¬ (s.now.kind = 5 ∧ s.now.s = W) := by
  rw [is_one, decide_eq_true he, Bool.true_and] at h
  constructor
  · rintro ⟨h1, h2⟩
    rw [decide_eq_true h1, h2] at h
    simp at h
  · rintro ⟨h1, h2⟩
    rw [decide_eq_true h1, h2] at h
    simp at h
theorem prim_def (sub : Option Lvl) (s : PS) (he : s.e = 0) : primaryF sub s = (if s.now.kind = 3 then ((.leaf { op := oNumber, pos := s.now.pos, n := s.now.n, scale := s.now.scale } : Tree), s.next)
  else if s.now.kind = 4 then (.leaf { op := oText, pos := s.now.pos, s := s.now.s }, s.next)
  else if s.now.kind = 2 then columnF s
  else if s.now.kind = 1 ∧ s.now.s = wTrue then (.leaf { op := oBool, pos := s.now.pos, n := 1 }, s.next)
  else if s.now.kind = 1 ∧ s.now.s = wFalse then (.leaf { op := oBool, pos := s.now.pos }, s.next)
  else if s.now.kind = 1 ∧ s.now.s = wNull then (.leaf { op := oNull, pos := s.now.pos }, s.next)
  else if s.now.kind = 5 ∧ s.now.s = wOpen then bracketsF sub s
  else if s.now.kind = 1 ∧ (s.now.s = wCount ∨ s.now.s = wSum ∨ s.now.s = wMin ∨ s.now.s = wMax) then aggregateF sub s
  else (emp, s.fail 8)) := by
  unfold primaryF
  rw [if_neg (by simpa using he)]
theorem x_ge {a b xb x : Nat} (h : a = b) (h2 : b ≤ xb) (hx : x ∈ [xb]) : a ≤ x := by
  have : x = xb := by simpa using hx
  omega
/-- The token's own place, and what stands in it. -/
def CutTok (w : World) (t : Tok) (v : Value) (wx : World) : Prop := v = .pointer (some ⟨w.heap.size, 0, none⟩) ∧ Mods [] w wx ∧ w.heap.size < wx.heap.size ∧ wx.heap[w.heap.size]? = some (.cells #[.int .i64 t.kind, .int .i64 t.pos, .string ⟨t.s.toArray⟩, .int .i64 t.n, .int .i64 t.scale] 165 (0, 0))

set_option maxRecDepth 100000 in
set_option maxHeartbeats 8000000 in
theorem primary_ref (f : Nat) (hor : ∀ g, f = g + 1 → RC 81 (lvl g).expr g) : RC 230 (primaryF (subOf f)) f := by
  intro w pb tg ts s h
  obtain ⟨i, cap, d, hb, hd, hi, ⟨hl, htp, hf⟩, ⟨c0, c1, c2, c3, c4⟩, -, -⟩ := h.tok
  have a0 := cell_of_heap hb 0
  have a1 := cell_of_heap hb 1
  change w.cell? _ = some (.slice (some ⟨tg, 0, none⟩) ts.length cap) at a0
  change w.cell? _ = some (.int .i64 i) at a1
  have hii : (i : Int) < (ts.length : Int) := by omega
  have htw := h.tokw
  obtain ⟨t, ht⟩ : ∃ t, s.now = t := ⟨_, rfl⟩
  rw [ht] at c0 c1 c2 c3 c4
  have HT := Lib.hid ht
  have HH := Lib.hid h
  have hlt := h.lt
  have HTW := Lib.hid htw
  have HOR := Lib.hid hor
  clear h hb hd htw ht hor
  obtain ⟨n, hn⟩ : ∃ n, ts.length = n := ⟨_, rfl⟩
  rw [hn] at a0 hii
  clear hn
  have hM1 : Mods [] w w.drew := (Mods.refl [] w).drew
  have x0 := hM1.cell a0 (by simp)
  have x1 := hM1.cell a1 (by simp)
  have y0 := hM1.cell c0 (by simp)
  have y1 := hM1.cell c1 (by simp)
  have y2 := hM1.cell c2 (by simp)
  have y3 := hM1.cell c3 (by simp)
  have y4 := hM1.cell c4 (by simp)
  have hz := (Mods.refl [] w).alloc (.cells (tokCells 0 0 ⟨#[]⟩ 0 0) 165)
  have b0 := hz.cell a0 (by simp)
  have b1 := hz.cell a1 (by simp)
  have d0 := hz.cell c0 (by simp)
  have d1 := hz.cell c1 (by simp)
  have d2 := hz.cell c2 (by simp)
  have d3 := hz.cell c3 (by simp)
  have d4 := hz.cell c4 (by simp)
  have hrow := heap_alloc_new w (.cells (tokCells 0 0 ⟨#[]⟩ 0 0) 165)
  have hinfo : (Tryz.prog.info? 165).map (·.size) = some 5 := by kernel_rfl
  have hCUT : Hid (CutTok w t (.pointer (some ⟨w.heap.size, 0, none⟩)) (w.alloc (.cells #[.int .i64 t.kind, .int .i64 t.pos, .string ⟨t.s.toArray⟩, .int .i64 t.n, .int .i64 t.scale] 165)).drew) := Lib.hid
    ⟨rfl, ((Mods.refl [] w).alloc _).drew, by show w.heap.size < (w.heap.push _).size; rw [Array.size_push]; exact Nat.lt_succ_self _, heap_alloc_new w _⟩
  unfold tokCells at *
  unfold PtrV
  go_enter Tryz.func230, Tryz.ntmps230
  go_upto_region 1 with fail
  go_cut [3] from 5 to 14 (fun s3 wx => CutTok w t s3 wx)
  case first =>
    go_region_law (refine wpList_store_row rfl 165 (.tmp 3) (.tmp 14) rfl w.heap.size (tokCells t.kind t.pos ⟨t.s.toArray⟩ t.n t.scale) rfl rfl 165 _ hrow hinfo rfl (tok_one _ _ _ _ _) ?_)
    all_goals
      go_wp2_with fail
      go_meet
      exact hCUT.out
  case rest =>
    obtain ⟨rfl, hM, hsz, hrw⟩ := hcut
    clear hCUT hrow hinfo hz x0 x1 y0 y1 y2 y3 y4 b0 b1 d0 d1 d2 d3 d4 a0 a1 c0 c1 c2 c3 c4 hM1 hii
    have hR1 := HH.out.later hM
    have t1 := cell_of_heap hrw 1
    change wc.cell? _ = some (.int .i64 t.pos) at t1
    have hMn := hM.alloc (.cells (nodeA ⟨#[]⟩ t.pos ⟨#[]⟩ ⟨#[]⟩ 0 0 ⟨#[]⟩ (.slice none 0 0)) 174)
    have hMx := (Mods.refl [] wc).alloc (.cells (nodeA ⟨#[]⟩ t.pos ⟨#[]⟩ ⟨#[]⟩ 0 0 ⟨#[]⟩ (.slice none 0 0)) 174)
    have hxn := heap_alloc_new wc (.cells (nodeA ⟨#[]⟩ t.pos ⟨#[]⟩ ⟨#[]⟩ 0 0 ⟨#[]⟩ (.slice none 0 0)) 174)
    have hrx := hMx.heap hrw (by simp)
    have hR2 := hR1.later hMx
    go_upto_region 3 with fail
    clear hM hR1 hrw t1 hMx
    have hwx : w.heap.size ≤ wc.heap.size := by omega
    have htb : w.heap.size ≠ pb ∧ w.heap.size ≠ tg ∧ w.heap.size ≠ wc.heap.size := by omega
    generalize wc.alloc (.cells (nodeA ⟨#[]⟩ t.pos ⟨#[]⟩ ⟨#[]⟩ 0 0 ⟨#[]⟩ (.slice none 0 0)) 174) = w2 at *
    obtain ⟨xb, hxb⟩ : ∃ xb, wc.heap.size = xb := ⟨_, rfl⟩
    rw [hxb] at hxn hwx htb hsz
    rw [hxb]
    have hxp : xb ≠ pb := by omega
    have hxt : xb ≠ tg := by omega
    clear hxb
    have e0 : w2.cell? ⟨w.heap.size, 0, none⟩ = some (.int .i64 t.kind) := cell_of_heap hrx 0
    have e2 : w2.cell? ⟨w.heap.size, 2, none⟩ = some (.string ⟨t.s.toArray⟩) := cell_of_heap hrx 2
    have e3 : w2.cell? ⟨w.heap.size, 3, none⟩ = some (.int .i64 t.n) := cell_of_heap hrx 3
    have e4 : w2.cell? ⟨w.heap.size, 4, none⟩ = some (.int .i64 t.scale) := cell_of_heap hrx 4
    have hee : w2.cell? ⟨pb, 3, none⟩ = some (.int .i64 s.e) := by
      obtain ⟨i, cap, d, hb, -⟩ := hR2.tok
      exact cell_of_heap hb 3
    by_cases he : s.e = 0
    · have z0 : ((s.e : Int) != 0) = false := bne_eq_false_iff_eq.2 (by omega)
      have hpd := prim_def (subOf f) s he
      have HPD := Lib.hid hpd
      have HE := Lib.hid he
      clear hpd he
      obtain ⟨tb, htbe⟩ : ∃ tb, w.heap.size = tb := ⟨_, rfl⟩
      have HTB := Lib.hid htbe
      rw [htbe] at htb hsz hwx hrx e0 e2 e3 e4
      rw [htbe]
      clear htbe
      -- what a leaf is
      have HLEAF : Hid (∀ (w' : World) (st : PS) (op str : Bs) (nn sc : Nat), Mods [pb] w w' → RSt w' pb tg ts st f → w'.heap[xb]? = some (.cells (nodeA ⟨op.toArray⟩ t.pos ⟨#[]⟩ ⟨#[]⟩ nn sc ⟨str.toArray⟩ (.slice none 0 0)) 174 (0, 0)) → primaryF (subOf f) s = (.leaf { op := op, pos := t.pos, n := nn, scale := sc, s := str }, st) →
          RRes pb tg ts f (primaryF (subOf f)) s w (.returned (.pointer (some ⟨xb, 0, none⟩))) w') := Lib.hid fun w' st op str nn sc hM hR hb hc => by
        refine ⟨xb, rfl, hM, by rw [hc]; exact hR, fun _ L hL => ?_⟩
        rw [hc]
        exact ⟨xb, rfl, fun hm => by have := hL _ hm; rw [HTB.out] at this; omega, hb⟩
      by_cases hk3 : t.kind = 3
      · have z3 : ((t.kind : Int) == 3) = true := by rw [beq_iff_eq]; omega
        have hpr := HPD.out
        rw [HT.out, if_pos hk3] at hpr
        have HPR := Lib.hid hpr
        have hkn : s.now.kind ≠ 0 := by rw [HT.out]; omega
        clear hpr hk3 HPD
        obtain ⟨ix, hix, bb, gg, hwz, hMs, hR3⟩ := hR2.pass hkn
        have hx3 := hMs.heap hxn (by simpa using hxp)
        have hk3 := hMs.heap hrx (by simpa using htb.1)
        have hMw3 := (hMn.mono (L' := [pb]) (by simp)).trans hMs (by simp)
        clear hMs
        go_upto_region 8 with fail
        generalize w2.setCell ⟨pb, 1, none⟩ (.int .i64 ((ix : Int) + 1)) = w3 at *
        clear bb gg hwz hix
        have q0 := cell_of_heap hx3 0
        change w3.cell? _ = some (.string ⟨#[]⟩) at q0
        have g0 := frozen_of_heap hx3 0
        have f2 : w3.cell? ⟨tb, 2, none⟩ = some (.string ⟨t.s.toArray⟩) := cell_of_heap hk3 2
        have f3 : w3.cell? ⟨tb, 3, none⟩ = some (.int .i64 t.n) := cell_of_heap hk3 3
        have f4 : w3.cell? ⟨tb, 4, none⟩ = some (.int .i64 t.scale) := cell_of_heap hk3 4
        have hx4 := heap_setCell_same hx3 0 (.string ⟨#[110, 117, 109, 98, 101, 114]⟩)
        have hMs : Mods [xb] w3 (w3.setCell ⟨xb, 0, none⟩ (.string ⟨#[110, 117, 109, 98, 101, 114]⟩)) := (Mods.refl _ _).setCell (.inl (by simp)) _
        have hk4 := hMs.heap hk3 (by simpa using htb.2.2)
        have hR4 := hR3.mods hMs (by simpa using hxp.symm) (by simpa using hxt.symm)
        have hMw4 := hMw3.trans hMs (fun x hx => .inr (x_ge HTB.out hwx hx))
        clear hMs
        go_upto_region 9 with fail
        generalize w3.setCell ⟨xb, 0, none⟩ (.string ⟨#[110, 117, 109, 98, 101, 114]⟩) = w4 at *
        clear q0 g0 f2 f3 f4
        have q4 := cell_of_heap hx4 4
        change w4.cell? _ = some (.int .i64 0) at q4
        have g4 := frozen_of_heap hx4 4
        have f2 : w4.cell? ⟨tb, 2, none⟩ = some (.string ⟨t.s.toArray⟩) := cell_of_heap hk4 2
        have f3 : w4.cell? ⟨tb, 3, none⟩ = some (.int .i64 t.n) := cell_of_heap hk4 3
        have f4 : w4.cell? ⟨tb, 4, none⟩ = some (.int .i64 t.scale) := cell_of_heap hk4 4
        have hx5 := heap_setCell_same hx4 4 (.int .i64 t.n)
        have hMs : Mods [xb] w4 (w4.setCell ⟨xb, 4, none⟩ (.int .i64 t.n)) := (Mods.refl _ _).setCell (.inl (by simp)) _
        have hk5 := hMs.heap hk4 (by simpa using htb.2.2)
        have hR5 := hR4.mods hMs (by simpa using hxp.symm) (by simpa using hxt.symm)
        have hMw5 := hMw4.trans hMs (fun x hx => .inr (x_ge HTB.out hwx hx))
        clear hMs
        go_upto_region 10 with fail
        generalize w4.setCell ⟨xb, 4, none⟩ (.int .i64 t.n) = w5 at *
        clear q4 g4 f2 f3 f4
        have q5 := cell_of_heap hx5 5
        change w5.cell? _ = some (.int .i64 0) at q5
        have g5 := frozen_of_heap hx5 5
        have f2 : w5.cell? ⟨tb, 2, none⟩ = some (.string ⟨t.s.toArray⟩) := cell_of_heap hk5 2
        have f3 : w5.cell? ⟨tb, 3, none⟩ = some (.int .i64 t.n) := cell_of_heap hk5 3
        have f4 : w5.cell? ⟨tb, 4, none⟩ = some (.int .i64 t.scale) := cell_of_heap hk5 4
        have hx6 := heap_setCell_same hx5 5 (.int .i64 t.scale)
        have hMs : Mods [xb] w5 (w5.setCell ⟨xb, 5, none⟩ (.int .i64 t.scale)) := (Mods.refl _ _).setCell (.inl (by simp)) _
        have hk6 := hMs.heap hk5 (by simpa using htb.2.2)
        have hR6 := hR5.mods hMs (by simpa using hxp.symm) (by simpa using hxt.symm)
        have hMw6 := hMw5.trans hMs (fun x hx => .inr (x_ge HTB.out hwx hx))
        clear hMs
        go_upto_region 37 with fail
        generalize w5.setCell ⟨xb, 5, none⟩ (.int .i64 t.scale) = w6 at *
        clear q5 g5 f2 f3 f4
        go_wp2_with fail
        go_ret
        exact HLEAF.out w6 s.next oNumber [] t.n t.scale hMw6 hR6 hx6 HPR.out
      have z3 : ((t.kind : Int) == 3) = false := by rw [beq_eq_false_iff_ne]; omega
      by_cases hk4 : t.kind = 4
      · have z4 : ((t.kind : Int) == 4) = true := by rw [beq_iff_eq]; omega
        have hpr := HPD.out
        rw [HT.out, if_neg hk3, if_pos hk4] at hpr
        have HPR := Lib.hid hpr
        have hkn : s.now.kind ≠ 0 := by rw [HT.out]; omega
        clear hpr hk3 hk4 HPD
        obtain ⟨ix, hix, bb, gg, hwz, hMs, hR3⟩ := hR2.pass hkn
        have hx3 := hMs.heap hxn (by simpa using hxp)
        have hk3 := hMs.heap hrx (by simpa using htb.1)
        have hMw3 := (hMn.mono (L' := [pb]) (by simp)).trans hMs (by simp)
        clear hMs
        go_upto_region 13 with fail
        generalize w2.setCell ⟨pb, 1, none⟩ (.int .i64 ((ix : Int) + 1)) = w3 at *
        clear bb gg hwz hix
        have q0 := cell_of_heap hx3 0
        change w3.cell? _ = some (.string ⟨#[]⟩) at q0
        have g0 := frozen_of_heap hx3 0
        have f2 : w3.cell? ⟨tb, 2, none⟩ = some (.string ⟨t.s.toArray⟩) := cell_of_heap hk3 2
        have f3 : w3.cell? ⟨tb, 3, none⟩ = some (.int .i64 t.n) := cell_of_heap hk3 3
        have f4 : w3.cell? ⟨tb, 4, none⟩ = some (.int .i64 t.scale) := cell_of_heap hk3 4
        have hx4 := heap_setCell_same hx3 0 (.string ⟨#[116, 101, 120, 116]⟩)
        have hMs : Mods [xb] w3 (w3.setCell ⟨xb, 0, none⟩ (.string ⟨#[116, 101, 120, 116]⟩)) := (Mods.refl _ _).setCell (.inl (by simp)) _
        have hk4 := hMs.heap hk3 (by simpa using htb.2.2)
        have hR4 := hR3.mods hMs (by simpa using hxp.symm) (by simpa using hxt.symm)
        have hMw4 := hMw3.trans hMs (fun x hx => .inr (x_ge HTB.out hwx hx))
        clear hMs
        go_upto_region 14 with fail
        generalize w3.setCell ⟨xb, 0, none⟩ (.string ⟨#[116, 101, 120, 116]⟩) = w4 at *
        clear q0 g0 f2 f3 f4
        have q6 := cell_of_heap hx4 6
        change w4.cell? _ = some (.string ⟨#[]⟩) at q6
        have g6 := frozen_of_heap hx4 6
        have f2 : w4.cell? ⟨tb, 2, none⟩ = some (.string ⟨t.s.toArray⟩) := cell_of_heap hk4 2
        have f3 : w4.cell? ⟨tb, 3, none⟩ = some (.int .i64 t.n) := cell_of_heap hk4 3
        have f4 : w4.cell? ⟨tb, 4, none⟩ = some (.int .i64 t.scale) := cell_of_heap hk4 4
        have hx5 := heap_setCell_same hx4 6 (.string ⟨t.s.toArray⟩)
        have hMs : Mods [xb] w4 (w4.setCell ⟨xb, 6, none⟩ (.string ⟨t.s.toArray⟩)) := (Mods.refl _ _).setCell (.inl (by simp)) _
        have hk5 := hMs.heap hk4 (by simpa using htb.2.2)
        have hR5 := hR4.mods hMs (by simpa using hxp.symm) (by simpa using hxt.symm)
        have hMw5 := hMw4.trans hMs (fun x hx => .inr (x_ge HTB.out hwx hx))
        clear hMs
        go_upto_region 37 with fail
        generalize w4.setCell ⟨xb, 6, none⟩ (.string ⟨t.s.toArray⟩) = w5 at *
        clear q6 g6 f2 f3 f4
        go_wp2_with fail
        go_ret
        exact HLEAF.out w5 s.next oText t.s 0 0 hMw5 hR5 hx5 HPR.out
      have z4 : ((t.kind : Int) == 4) = false := by rw [beq_eq_false_iff_ne]; omega
      by_cases hk2 : t.kind = 2
      · have z2 : ((t.kind : Int) == 2) = true := by rw [beq_iff_eq]; omega
        have hpr := HPD.out
        rw [HT.out, if_neg hk3, if_neg hk4, if_pos hk2] at hpr
        have HPR := Lib.hid hpr
        have hc := column_ref w2 pb tg ts s f hR2
        unfold PtrV at hc
        clear hpr hk3 hk4 hk2 HPD e2 e3 e4
        go_wp2_with fail
        (with_reducible refine hc.mono ?_)
        rintro e w3 ⟨b, rfl, hM3, hR3, hE3⟩
        unfold PtrV
        clear hc
        go_wp2_with fail
        go_ret
        refine ⟨b, rfl, (hMn.mono (by simp)).trans hM3 (by simp), by rw [HPR.out]; exact hR3, ?_⟩
        rw [HPR.out]
        intro h0 L hL
        exact hE3 h0 L (fun x hx => by have := hL x hx; have := hMn.size; omega)
      have z2 : ((t.kind : Int) == 2) = false := by rw [beq_eq_false_iff_ne]; omega
      have hpr := HPD.out
      rw [HT.out, if_neg hk3, if_neg hk4, if_neg hk2] at hpr
      have HPR := Lib.hid hpr
      have HIS : Hid (∀ w', Mods [] w2 w' → ∀ W : Bs, Calls Tryz.prog 124 #[PtrV pb, .string ⟨W.toArray⟩] w' fun e w'' => e = .returned (.bool (s.is [W])) ∧ Mods [] w' w'') := Lib.hid fun w' hM W => is_ref w' pb tg ts s f (hR2.later hM) W
      have hR20 := Mods.refl [] w2
      clear hpr hk3 hk4 hk2 HPD
      by_cases hT : s.is [wTrue] = true
      · have hw := is_word hT HTW.out (by decide)
        rw [HT.out] at hw
        have hpr := HPR.out
        rw [if_pos hw] at hpr
        have HPR := Lib.hid hpr
        have hkn : s.now.kind ≠ 0 := by rw [HT.out]; omega
        have hts : (t.s == [84, 82, 85, 69]) = true := by rw [hw.2]; rfl
        clear hpr
        have hi : Calls Tryz.prog 124 #[PtrV pb, .string ⟨#[84, 82, 85, 69]⟩] w2 _ := HIS.out w2 hR20 wTrue
        rw [hT] at hi
        unfold PtrV at hi
        go_wp2_with fail
        (with_reducible refine hi.mono ?_)
        rintro e wy0 ⟨rfl, hMi⟩
        have hMyy0 := hR20.trans hMi (by simp)
        clear hi hMi
        have hxn := hMyy0.heap hxn (by simp)
        have hrx := hMyy0.heap hrx (by simp)
        have hMn := hMn.trans hMyy0 (by simp)
        have hR2 := hR2.later hMyy0
        have e0 : wy0.cell? ⟨tb, 0, none⟩ = some (.int .i64 t.kind) := cell_of_heap hrx 0
        have e2 : wy0.cell? ⟨tb, 2, none⟩ = some (.string ⟨t.s.toArray⟩) := cell_of_heap hrx 2
        generalize wy0 = w9 at *
        clear hw
        obtain ⟨ix, hix, bb, gg, hwz, hMs, hR3⟩ := hR2.pass hkn
        have hx3 := hMs.heap hxn (by simpa using hxp)
        have hk3 := hMs.heap hrx (by simpa using htb.1)
        have hMw3 := (hMn.mono (L' := [pb]) (by simp)).trans hMs (by simp)
        clear hMs
        go_upto_region 20 with fail
        generalize w9.setCell ⟨pb, 1, none⟩ (.int .i64 ((ix : Int) + 1)) = w3 at *
        clear bb gg hwz hix
        have q0 := cell_of_heap hx3 0
        change w3.cell? _ = some (.string ⟨#[]⟩) at q0
        have g0 := frozen_of_heap hx3 0
        have f2 : w3.cell? ⟨tb, 2, none⟩ = some (.string ⟨t.s.toArray⟩) := cell_of_heap hk3 2
        have f3 : w3.cell? ⟨tb, 3, none⟩ = some (.int .i64 t.n) := cell_of_heap hk3 3
        have f4 : w3.cell? ⟨tb, 4, none⟩ = some (.int .i64 t.scale) := cell_of_heap hk3 4
        have hx4 := heap_setCell_same hx3 0 (.string ⟨#[98, 111, 111, 108]⟩)
        have hMs : Mods [xb] w3 (w3.setCell ⟨xb, 0, none⟩ (.string ⟨#[98, 111, 111, 108]⟩)) := (Mods.refl _ _).setCell (.inl (by simp)) _
        have hk4 := hMs.heap hk3 (by simpa using htb.2.2)
        have hR4 := hR3.mods hMs (by simpa using hxp.symm) (by simpa using hxt.symm)
        have hMw4 := hMw3.trans hMs (fun x hx => .inr (x_ge HTB.out hwx hx))
        clear hMs
        go_upto_region 21 with fail
        generalize w3.setCell ⟨xb, 0, none⟩ (.string ⟨#[98, 111, 111, 108]⟩) = w4 at *
        clear q0 g0 f2 f3 f4
        have f2 : w4.cell? ⟨tb, 2, none⟩ = some (.string ⟨t.s.toArray⟩) := cell_of_heap hk4 2
        go_upto_region 22 with fail
        have q4 := cell_of_heap hx4 4
        change w4.cell? _ = some (.int .i64 0) at q4
        have g4 := frozen_of_heap hx4 4
        have f2 : w4.cell? ⟨tb, 2, none⟩ = some (.string ⟨t.s.toArray⟩) := cell_of_heap hk4 2
        have f3 : w4.cell? ⟨tb, 3, none⟩ = some (.int .i64 t.n) := cell_of_heap hk4 3
        have f4 : w4.cell? ⟨tb, 4, none⟩ = some (.int .i64 t.scale) := cell_of_heap hk4 4
        have hx5 := heap_setCell_same hx4 4 (.int .i64 1)
        have hMs : Mods [xb] w4 (w4.setCell ⟨xb, 4, none⟩ (.int .i64 1)) := (Mods.refl _ _).setCell (.inl (by simp)) _
        have hk5 := hMs.heap hk4 (by simpa using htb.2.2)
        have hR5 := hR4.mods hMs (by simpa using hxp.symm) (by simpa using hxt.symm)
        have hMw5 := hMw4.trans hMs (fun x hx => .inr (x_ge HTB.out hwx hx))
        clear hMs
        go_upto_region 37 with fail
        generalize w4.setCell ⟨xb, 4, none⟩ (.int .i64 1) = w5 at *
        clear q4 g4 f2 f3 f4
        go_wp2_with fail
        go_ret
        exact HLEAF.out w5 s.next oBool [] 1 0 hMw5 hR5 hx5 HPR.out
      have hT : s.is [wTrue] = false := by simpa using hT
      have nT := is_not hT HE.out
      rw [HT.out] at nT
      by_cases hF : s.is [wFalse] = true
      · have hw := is_word hF HTW.out (by decide)
        rw [HT.out] at hw
        have hpr := HPR.out
        rw [if_neg nT.1, if_pos hw] at hpr
        have HPR := Lib.hid hpr
        have hkn : s.now.kind ≠ 0 := by rw [HT.out]; omega
        have hts : (t.s == [84, 82, 85, 69]) = false := by rw [hw.2]; rfl
        clear hpr
        have hi : Calls Tryz.prog 124 #[PtrV pb, .string ⟨#[84, 82, 85, 69]⟩] w2 _ := HIS.out w2 hR20 wTrue
        rw [hT] at hi
        unfold PtrV at hi
        go_wp2_with fail
        (with_reducible refine hi.mono ?_)
        rintro e wy0 ⟨rfl, hMi⟩
        have hMyy0 := hR20.trans hMi (by simp)
        clear hi hMi
        have hi : Calls Tryz.prog 124 #[PtrV pb, .string ⟨#[70, 65, 76, 83, 69]⟩] wy0 _ := HIS.out wy0 hMyy0 wFalse
        rw [hF] at hi
        unfold PtrV at hi
        go_wp2_with fail
        (with_reducible refine hi.mono ?_)
        rintro e wy1 ⟨rfl, hMi⟩
        have hMyy1 := hMyy0.trans hMi (by simp)
        clear hi hMi
        have hxn := hMyy1.heap hxn (by simp)
        have hrx := hMyy1.heap hrx (by simp)
        have hMn := hMn.trans hMyy1 (by simp)
        have hR2 := hR2.later hMyy1
        have e0 : wy1.cell? ⟨tb, 0, none⟩ = some (.int .i64 t.kind) := cell_of_heap hrx 0
        have e2 : wy1.cell? ⟨tb, 2, none⟩ = some (.string ⟨t.s.toArray⟩) := cell_of_heap hrx 2
        generalize wy1 = w9 at *
        clear hw nT
        obtain ⟨ix, hix, bb, gg, hwz, hMs, hR3⟩ := hR2.pass hkn
        have hx3 := hMs.heap hxn (by simpa using hxp)
        have hk3 := hMs.heap hrx (by simpa using htb.1)
        have hMw3 := (hMn.mono (L' := [pb]) (by simp)).trans hMs (by simp)
        clear hMs
        go_upto_region 20 with fail
        generalize w9.setCell ⟨pb, 1, none⟩ (.int .i64 ((ix : Int) + 1)) = w3 at *
        clear bb gg hwz hix
        have q0 := cell_of_heap hx3 0
        change w3.cell? _ = some (.string ⟨#[]⟩) at q0
        have g0 := frozen_of_heap hx3 0
        have f2 : w3.cell? ⟨tb, 2, none⟩ = some (.string ⟨t.s.toArray⟩) := cell_of_heap hk3 2
        have f3 : w3.cell? ⟨tb, 3, none⟩ = some (.int .i64 t.n) := cell_of_heap hk3 3
        have f4 : w3.cell? ⟨tb, 4, none⟩ = some (.int .i64 t.scale) := cell_of_heap hk3 4
        have hx4 := heap_setCell_same hx3 0 (.string ⟨#[98, 111, 111, 108]⟩)
        have hMs : Mods [xb] w3 (w3.setCell ⟨xb, 0, none⟩ (.string ⟨#[98, 111, 111, 108]⟩)) := (Mods.refl _ _).setCell (.inl (by simp)) _
        have hk4 := hMs.heap hk3 (by simpa using htb.2.2)
        have hR4 := hR3.mods hMs (by simpa using hxp.symm) (by simpa using hxt.symm)
        have hMw4 := hMw3.trans hMs (fun x hx => .inr (x_ge HTB.out hwx hx))
        clear hMs
        go_upto_region 21 with fail
        generalize w3.setCell ⟨xb, 0, none⟩ (.string ⟨#[98, 111, 111, 108]⟩) = w4 at *
        clear q0 g0 f2 f3 f4
        have f2 : w4.cell? ⟨tb, 2, none⟩ = some (.string ⟨t.s.toArray⟩) := cell_of_heap hk4 2
        go_wp2_with fail
        go_ret
        exact HLEAF.out w4 s.next oBool [] 0 0 hMw4 hR4 hx4 HPR.out
      have hF : s.is [wFalse] = false := by simpa using hF
      have nF := is_not hF HE.out
      rw [HT.out] at nF
      by_cases hN : s.is [wNull] = true
      · have hw := is_word hN HTW.out (by decide)
        rw [HT.out] at hw
        have hpr := HPR.out
        rw [if_neg nT.1, if_neg nF.1, if_pos hw] at hpr
        have HPR := Lib.hid hpr
        have hkn : s.now.kind ≠ 0 := by rw [HT.out]; omega
        clear hpr
        have hi : Calls Tryz.prog 124 #[PtrV pb, .string ⟨#[84, 82, 85, 69]⟩] w2 _ := HIS.out w2 hR20 wTrue
        rw [hT] at hi
        unfold PtrV at hi
        go_wp2_with fail
        (with_reducible refine hi.mono ?_)
        rintro e wy0 ⟨rfl, hMi⟩
        have hMyy0 := hR20.trans hMi (by simp)
        clear hi hMi
        have hi : Calls Tryz.prog 124 #[PtrV pb, .string ⟨#[70, 65, 76, 83, 69]⟩] wy0 _ := HIS.out wy0 hMyy0 wFalse
        rw [hF] at hi
        unfold PtrV at hi
        go_wp2_with fail
        (with_reducible refine hi.mono ?_)
        rintro e wy1 ⟨rfl, hMi⟩
        have hMyy1 := hMyy0.trans hMi (by simp)
        clear hi hMi
        have hi : Calls Tryz.prog 124 #[PtrV pb, .string ⟨#[78, 85, 76, 76]⟩] wy1 _ := HIS.out wy1 hMyy1 wNull
        rw [hN] at hi
        unfold PtrV at hi
        go_wp2_with fail
        (with_reducible refine hi.mono ?_)
        rintro e wy2 ⟨rfl, hMi⟩
        have hMyy2 := hMyy1.trans hMi (by simp)
        clear hi hMi
        have hxn := hMyy2.heap hxn (by simp)
        have hrx := hMyy2.heap hrx (by simp)
        have hMn := hMn.trans hMyy2 (by simp)
        have hR2 := hR2.later hMyy2
        have e0 : wy2.cell? ⟨tb, 0, none⟩ = some (.int .i64 t.kind) := cell_of_heap hrx 0
        have e2 : wy2.cell? ⟨tb, 2, none⟩ = some (.string ⟨t.s.toArray⟩) := cell_of_heap hrx 2
        generalize wy2 = w9 at *
        clear hw nT nF
        obtain ⟨ix, hix, bb, gg, hwz, hMs, hR3⟩ := hR2.pass hkn
        have hx3 := hMs.heap hxn (by simpa using hxp)
        have hk3 := hMs.heap hrx (by simpa using htb.1)
        have hMw3 := (hMn.mono (L' := [pb]) (by simp)).trans hMs (by simp)
        clear hMs
        go_upto_region 25 with fail
        generalize w9.setCell ⟨pb, 1, none⟩ (.int .i64 ((ix : Int) + 1)) = w3 at *
        clear bb gg hwz hix
        have q0 := cell_of_heap hx3 0
        change w3.cell? _ = some (.string ⟨#[]⟩) at q0
        have g0 := frozen_of_heap hx3 0
        have f2 : w3.cell? ⟨tb, 2, none⟩ = some (.string ⟨t.s.toArray⟩) := cell_of_heap hk3 2
        have f3 : w3.cell? ⟨tb, 3, none⟩ = some (.int .i64 t.n) := cell_of_heap hk3 3
        have f4 : w3.cell? ⟨tb, 4, none⟩ = some (.int .i64 t.scale) := cell_of_heap hk3 4
        have hx4 := heap_setCell_same hx3 0 (.string ⟨#[110, 117, 108, 108]⟩)
        have hMs : Mods [xb] w3 (w3.setCell ⟨xb, 0, none⟩ (.string ⟨#[110, 117, 108, 108]⟩)) := (Mods.refl _ _).setCell (.inl (by simp)) _
        have hk4 := hMs.heap hk3 (by simpa using htb.2.2)
        have hR4 := hR3.mods hMs (by simpa using hxp.symm) (by simpa using hxt.symm)
        have hMw4 := hMw3.trans hMs (fun x hx => .inr (x_ge HTB.out hwx hx))
        clear hMs
        go_upto_region 37 with fail
        generalize w3.setCell ⟨xb, 0, none⟩ (.string ⟨#[110, 117, 108, 108]⟩) = w4 at *
        clear q0 g0 f2 f3 f4
        go_wp2_with fail
        go_ret
        exact HLEAF.out w4 s.next oNull [] 0 0 hMw4 hR4 hx4 HPR.out
      have hN : s.is [wNull] = false := by simpa using hN
      have nN := is_not hN HE.out
      rw [HT.out] at nN
      by_cases hO : s.is [wOpen] = true
      · have hw := is_open hO HTW.out
        rw [HT.out] at hw
        have hpr := HPR.out
        rw [if_neg nT.1, if_neg nF.1, if_neg nN.1, if_pos hw] at hpr
        have HPR := Lib.hid hpr
        have hkn : s.now.kind ≠ 0 := by rw [HT.out]; omega
        clear hpr
        have hi : Calls Tryz.prog 124 #[PtrV pb, .string ⟨#[84, 82, 85, 69]⟩] w2 _ := HIS.out w2 hR20 wTrue
        rw [hT] at hi
        unfold PtrV at hi
        go_wp2_with fail
        (with_reducible refine hi.mono ?_)
        rintro e wy0 ⟨rfl, hMi⟩
        have hMyy0 := hR20.trans hMi (by simp)
        clear hi hMi
        have hi : Calls Tryz.prog 124 #[PtrV pb, .string ⟨#[70, 65, 76, 83, 69]⟩] wy0 _ := HIS.out wy0 hMyy0 wFalse
        rw [hF] at hi
        unfold PtrV at hi
        go_wp2_with fail
        (with_reducible refine hi.mono ?_)
        rintro e wy1 ⟨rfl, hMi⟩
        have hMyy1 := hMyy0.trans hMi (by simp)
        clear hi hMi
        have hi : Calls Tryz.prog 124 #[PtrV pb, .string ⟨#[78, 85, 76, 76]⟩] wy1 _ := HIS.out wy1 hMyy1 wNull
        rw [hN] at hi
        unfold PtrV at hi
        go_wp2_with fail
        (with_reducible refine hi.mono ?_)
        rintro e wy2 ⟨rfl, hMi⟩
        have hMyy2 := hMyy1.trans hMi (by simp)
        clear hi hMi
        have hi : Calls Tryz.prog 124 #[PtrV pb, .string ⟨#[40]⟩] wy2 _ := HIS.out wy2 hMyy2 wOpen
        rw [hO] at hi
        unfold PtrV at hi
        go_wp2_with fail
        (with_reducible refine hi.mono ?_)
        rintro e wy3 ⟨rfl, hMi⟩
        have hMyy3 := hMyy2.trans hMi (by simp)
        clear hi hMi
        have hxn := hMyy3.heap hxn (by simp)
        have hrx := hMyy3.heap hrx (by simp)
        have hMn := hMn.trans hMyy3 (by simp)
        have hR2 := hR2.later hMyy3
        have e0 : wy3.cell? ⟨tb, 0, none⟩ = some (.int .i64 t.kind) := cell_of_heap hrx 0
        have e2 : wy3.cell? ⟨tb, 2, none⟩ = some (.string ⟨t.s.toArray⟩) := cell_of_heap hrx 2
        generalize wy3 = w9 at *
        clear hw nT nF nN
        cases f with
        | zero =>
          have hbr : bracketsF (subOf 0) s = (emp, s.fail 9) := rfl
          have h3 := down_no w9 pb tg ts s hR2 HE.out
          unfold PtrV at h3
          go_wp2_with fail
          (with_reducible refine h3.mono ?_)
          rintro e w3 ⟨rfl, hM3, hR3⟩
          clear h3
          obtain ⟨dd, b2, g2, hup⟩ := hR3.upe (f' := 0) (fail_e (by decide)) (by omega)
          have HUP := Lib.hid hup
          clear hup
          go_wp2_with fail
          go_ret
          have hu := HUP.out (wrap64 (dd - 1))
          refine ⟨xb, rfl, ((hMn.mono (L' := [pb]) (by simp)).trans hM3 (by simp)).trans hu.1 (by simp), by rw [HPR.out, hbr]; exact hu.2, ?_⟩
          rw [HPR.out, hbr]
          exact fun h0 => absurd h0 (fail_e (by decide))
        | succ g =>
          have hbr : bracketsF (subOf (g + 1)) s = (((lvl g).expr s.next).1, ((lvl g).expr s.next).2.wants [wShut]) := by
            show inF (some (lvl g)) _ _ s = _
            unfold inF
            simp only [HE.out, if_true]
          have h3 := down_go w9 pb tg ts s g hR2 HE.out
          unfold PtrV at h3
          go_wp2_with fail
          (with_reducible refine h3.mono ?_)
          rintro e w3 ⟨rfl, hM3, hR3⟩
          have hMw3 := (hMn.mono (L' := [pb]) (by simp)).trans hM3 (by simp)
          clear h3 hM3
          obtain ⟨ix, hix, bb, gg, hwz, hMs, hR4⟩ := hR3.pass hkn
          have hMw4 := hMw3.trans hMs (by simp)
          clear hMs hR3 hMw3
          go_upto_region 29 with fail
          generalize w3.setCell ⟨pb, 1, none⟩ (.int .i64 ((ix : Int) + 1)) = w4 at *
          clear bb gg hwz hix
          have ho := HOR.out g rfl w4 pb tg ts s.next hR4
          unfold PtrV at ho
          go_wp2_with fail
          (with_reducible refine ho.mono ?_)
          rintro e w5 ⟨yb, rfl, hM5, hR5, hE5⟩
          dsimp only [PtrV]
          clear ho
          obtain ⟨es, hes⟩ : ∃ es, (lvl g).expr s.next = es := ⟨_, rfl⟩
          rw [hes] at hR5 hE5 hbr
          have HBR := Lib.hid hbr
          clear hbr hes
          have hMw5 := hMw4.trans hM5 (by simp)
          have hsz4 := hMw4.size
          have h6 : Calls Tryz.prog 77 #[PtrV pb, .string ⟨#[41]⟩] w5 _ := wants_ref w5 pb tg ts es.2 g hR5 wShut
          unfold PtrV at h6
          have HE5 := Lib.hid hE5
          clear hR5 hE5 hM5 hMw4
          go_wp2_with fail
          (with_reducible refine h6.mono ?_)
          rintro e w6 ⟨rfl, hM6, hR6⟩
          have hMw6 := hMw5.trans hM6 (by simp)
          clear h6
          obtain ⟨dd, b2, g2, hMs, hR7⟩ := hR6.up (by omega)
          have hMw7 := hMw6.trans hMs (by simp)
          have hM67 := hM6.trans hMs (by simp)
          clear hR6 hMs hM6 hMw6
          go_wp2_with fail
          go_ret
          refine ⟨yb, rfl, hMw7, by rw [HPR.out, HBR.out]; exact hR7, ?_⟩
          rw [HPR.out, HBR.out]
          intro hez L hL
          have hes0 : es.2.e = 0 := by
            rcases Nat.eq_zero_or_pos es.2.e with h0 | h0
            · exact h0
            · have := (Aft.wants [wShut] es.2).err (by omega)
              rw [this] at hez
              exact hez
          have hE := HE5.out hes0 (pb :: L) (fun x hx => by
            rcases List.mem_cons.1 hx with rfl | hx
            · have := hlt.1; omega
            · have := hL x hx; omega)
          exact (hE.mods (hM67.mono (by simp))).weaken (fun x hx => by simp [hx])
      have hO : s.is [wOpen] = false := by simpa using hO
      have nO := is_not hO HE.out
      rw [HT.out] at nO
      have hpr := HPR.out
      rw [if_neg nT.1, if_neg nF.1, if_neg nN.1, if_neg nO.2] at hpr
      have HPR := Lib.hid hpr
      clear hpr nT nF nN nO
      by_cases hC : s.is [wCount] = true
      · have hw := is_word hC HTW.out (by decide)
        have hw1 := hw.1
        have hw2 : s.now.s = aggW 0 := hw.2
        rw [HT.out] at hw
        have hpr := HPR.out
        rw [if_pos ⟨hw.1, .inl hw.2⟩] at hpr
        have HPR := Lib.hid hpr
        clear hpr hw
        have hi : Calls Tryz.prog 124 #[PtrV pb, .string ⟨#[84, 82, 85, 69]⟩] w2 _ := HIS.out w2 hR20 wTrue
        rw [hT] at hi
        unfold PtrV at hi
        go_wp2_with fail
        (with_reducible refine hi.mono ?_)
        rintro e wy0 ⟨rfl, hMi⟩
        have hMyy0 := hR20.trans hMi (by simp)
        clear hi hMi
        have hi : Calls Tryz.prog 124 #[PtrV pb, .string ⟨#[70, 65, 76, 83, 69]⟩] wy0 _ := HIS.out wy0 hMyy0 wFalse
        rw [hF] at hi
        unfold PtrV at hi
        go_wp2_with fail
        (with_reducible refine hi.mono ?_)
        rintro e wy1 ⟨rfl, hMi⟩
        have hMyy1 := hMyy0.trans hMi (by simp)
        clear hi hMi
        have hi : Calls Tryz.prog 124 #[PtrV pb, .string ⟨#[78, 85, 76, 76]⟩] wy1 _ := HIS.out wy1 hMyy1 wNull
        rw [hN] at hi
        unfold PtrV at hi
        go_wp2_with fail
        (with_reducible refine hi.mono ?_)
        rintro e wy2 ⟨rfl, hMi⟩
        have hMyy2 := hMyy1.trans hMi (by simp)
        clear hi hMi
        have hi : Calls Tryz.prog 124 #[PtrV pb, .string ⟨#[40]⟩] wy2 _ := HIS.out wy2 hMyy2 wOpen
        rw [hO] at hi
        unfold PtrV at hi
        go_wp2_with fail
        (with_reducible refine hi.mono ?_)
        rintro e wy3 ⟨rfl, hMi⟩
        have hMyy3 := hMyy2.trans hMi (by simp)
        clear hi hMi
        have hi : Calls Tryz.prog 124 #[PtrV pb, .string ⟨#[67, 79, 85, 78, 84]⟩] wy3 _ := HIS.out wy3 hMyy3 wCount
        rw [hC] at hi
        unfold PtrV at hi
        go_wp2_with fail
        (with_reducible refine hi.mono ?_)
        rintro e wy4 ⟨rfl, hMi⟩
        have hMyy4 := hMyy3.trans hMi (by simp)
        clear hi hMi
        have hxn := hMyy4.heap hxn (by simp)
        have hrx := hMyy4.heap hrx (by simp)
        have hMn := hMn.trans hMyy4 (by simp)
        have hR2 := hR2.later hMyy4
        have e0 : wy4.cell? ⟨tb, 0, none⟩ = some (.int .i64 t.kind) := cell_of_heap hrx 0
        have e2 : wy4.cell? ⟨tb, 2, none⟩ = some (.string ⟨t.s.toArray⟩) := cell_of_heap hrx 2
        generalize wy4 = w9 at *
        have hag := aggregate_ref f HOR.out w9 pb tg ts s hR2 HE.out hw1 0 (by decide) hw2 xb hxp hxt (by rw [HT.out]; exact hxn)
        unfold PtrV at hag
        clear hw1 hw2
        go_wp2_with fail
        (with_reducible refine hag.mono ?_)
        rintro e w3 ⟨rfl, hM3, hR3, hE3⟩
        clear hag
        go_wp2_with fail
        go_ret
        refine ⟨xb, rfl, (hMn.mono (L' := [pb]) (by simp)).trans hM3 (fun x hx => by
          rcases List.mem_cons.1 hx with rfl | hx
          · exact .inl (by simp)
          · right
            have : x = xb := by simpa using hx
            rw [HTB.out]
            omega), by rw [HPR.out]; exact hR3, ?_⟩
        rw [HPR.out]
        exact fun h0 L hL => hE3 h0 L (fun x hx => by have := hL x hx; have := hMn.size; omega) (fun hm => by have := hL _ hm; rw [HTB.out] at this; omega)
      have hC : s.is [wCount] = false := by simpa using hC
      have nC := is_not hC HE.out
      rw [HT.out] at nC
      by_cases hS : s.is [wSum] = true
      · have hw := is_word hS HTW.out (by decide)
        have hw1 := hw.1
        have hw2 : s.now.s = aggW 1 := hw.2
        rw [HT.out] at hw
        have hpr := HPR.out
        rw [if_pos ⟨hw.1, .inr (.inl hw.2)⟩] at hpr
        have HPR := Lib.hid hpr
        clear hpr hw
        have hi : Calls Tryz.prog 124 #[PtrV pb, .string ⟨#[84, 82, 85, 69]⟩] w2 _ := HIS.out w2 hR20 wTrue
        rw [hT] at hi
        unfold PtrV at hi
        go_wp2_with fail
        (with_reducible refine hi.mono ?_)
        rintro e wy0 ⟨rfl, hMi⟩
        have hMyy0 := hR20.trans hMi (by simp)
        clear hi hMi
        have hi : Calls Tryz.prog 124 #[PtrV pb, .string ⟨#[70, 65, 76, 83, 69]⟩] wy0 _ := HIS.out wy0 hMyy0 wFalse
        rw [hF] at hi
        unfold PtrV at hi
        go_wp2_with fail
        (with_reducible refine hi.mono ?_)
        rintro e wy1 ⟨rfl, hMi⟩
        have hMyy1 := hMyy0.trans hMi (by simp)
        clear hi hMi
        have hi : Calls Tryz.prog 124 #[PtrV pb, .string ⟨#[78, 85, 76, 76]⟩] wy1 _ := HIS.out wy1 hMyy1 wNull
        rw [hN] at hi
        unfold PtrV at hi
        go_wp2_with fail
        (with_reducible refine hi.mono ?_)
        rintro e wy2 ⟨rfl, hMi⟩
        have hMyy2 := hMyy1.trans hMi (by simp)
        clear hi hMi
        have hi : Calls Tryz.prog 124 #[PtrV pb, .string ⟨#[40]⟩] wy2 _ := HIS.out wy2 hMyy2 wOpen
        rw [hO] at hi
        unfold PtrV at hi
        go_wp2_with fail
        (with_reducible refine hi.mono ?_)
        rintro e wy3 ⟨rfl, hMi⟩
        have hMyy3 := hMyy2.trans hMi (by simp)
        clear hi hMi
        have hi : Calls Tryz.prog 124 #[PtrV pb, .string ⟨#[67, 79, 85, 78, 84]⟩] wy3 _ := HIS.out wy3 hMyy3 wCount
        rw [hC] at hi
        unfold PtrV at hi
        go_wp2_with fail
        (with_reducible refine hi.mono ?_)
        rintro e wy4 ⟨rfl, hMi⟩
        have hMyy4 := hMyy3.trans hMi (by simp)
        clear hi hMi
        have hi : Calls Tryz.prog 124 #[PtrV pb, .string ⟨#[83, 85, 77]⟩] wy4 _ := HIS.out wy4 hMyy4 wSum
        rw [hS] at hi
        unfold PtrV at hi
        go_wp2_with fail
        (with_reducible refine hi.mono ?_)
        rintro e wy5 ⟨rfl, hMi⟩
        have hMyy5 := hMyy4.trans hMi (by simp)
        clear hi hMi
        have hxn := hMyy5.heap hxn (by simp)
        have hrx := hMyy5.heap hrx (by simp)
        have hMn := hMn.trans hMyy5 (by simp)
        have hR2 := hR2.later hMyy5
        have e0 : wy5.cell? ⟨tb, 0, none⟩ = some (.int .i64 t.kind) := cell_of_heap hrx 0
        have e2 : wy5.cell? ⟨tb, 2, none⟩ = some (.string ⟨t.s.toArray⟩) := cell_of_heap hrx 2
        generalize wy5 = w9 at *
        have hag := aggregate_ref f HOR.out w9 pb tg ts s hR2 HE.out hw1 1 (by decide) hw2 xb hxp hxt (by rw [HT.out]; exact hxn)
        unfold PtrV at hag
        clear hw1 hw2
        go_wp2_with fail
        (with_reducible refine hag.mono ?_)
        rintro e w3 ⟨rfl, hM3, hR3, hE3⟩
        clear hag
        go_wp2_with fail
        go_ret
        refine ⟨xb, rfl, (hMn.mono (L' := [pb]) (by simp)).trans hM3 (fun x hx => by
          rcases List.mem_cons.1 hx with rfl | hx
          · exact .inl (by simp)
          · right
            have : x = xb := by simpa using hx
            rw [HTB.out]
            omega), by rw [HPR.out]; exact hR3, ?_⟩
        rw [HPR.out]
        exact fun h0 L hL => hE3 h0 L (fun x hx => by have := hL x hx; have := hMn.size; omega) (fun hm => by have := hL _ hm; rw [HTB.out] at this; omega)
      have hS : s.is [wSum] = false := by simpa using hS
      have nS := is_not hS HE.out
      rw [HT.out] at nS
      by_cases hI : s.is [wMin] = true
      · have hw := is_word hI HTW.out (by decide)
        have hw1 := hw.1
        have hw2 : s.now.s = aggW 2 := hw.2
        rw [HT.out] at hw
        have hpr := HPR.out
        rw [if_pos ⟨hw.1, .inr (.inr (.inl hw.2))⟩] at hpr
        have HPR := Lib.hid hpr
        clear hpr hw
        have hi : Calls Tryz.prog 124 #[PtrV pb, .string ⟨#[84, 82, 85, 69]⟩] w2 _ := HIS.out w2 hR20 wTrue
        rw [hT] at hi
        unfold PtrV at hi
        go_wp2_with fail
        (with_reducible refine hi.mono ?_)
        rintro e wy0 ⟨rfl, hMi⟩
        have hMyy0 := hR20.trans hMi (by simp)
        clear hi hMi
        have hi : Calls Tryz.prog 124 #[PtrV pb, .string ⟨#[70, 65, 76, 83, 69]⟩] wy0 _ := HIS.out wy0 hMyy0 wFalse
        rw [hF] at hi
        unfold PtrV at hi
        go_wp2_with fail
        (with_reducible refine hi.mono ?_)
        rintro e wy1 ⟨rfl, hMi⟩
        have hMyy1 := hMyy0.trans hMi (by simp)
        clear hi hMi
        have hi : Calls Tryz.prog 124 #[PtrV pb, .string ⟨#[78, 85, 76, 76]⟩] wy1 _ := HIS.out wy1 hMyy1 wNull
        rw [hN] at hi
        unfold PtrV at hi
        go_wp2_with fail
        (with_reducible refine hi.mono ?_)
        rintro e wy2 ⟨rfl, hMi⟩
        have hMyy2 := hMyy1.trans hMi (by simp)
        clear hi hMi
        have hi : Calls Tryz.prog 124 #[PtrV pb, .string ⟨#[40]⟩] wy2 _ := HIS.out wy2 hMyy2 wOpen
        rw [hO] at hi
        unfold PtrV at hi
        go_wp2_with fail
        (with_reducible refine hi.mono ?_)
        rintro e wy3 ⟨rfl, hMi⟩
        have hMyy3 := hMyy2.trans hMi (by simp)
        clear hi hMi
        have hi : Calls Tryz.prog 124 #[PtrV pb, .string ⟨#[67, 79, 85, 78, 84]⟩] wy3 _ := HIS.out wy3 hMyy3 wCount
        rw [hC] at hi
        unfold PtrV at hi
        go_wp2_with fail
        (with_reducible refine hi.mono ?_)
        rintro e wy4 ⟨rfl, hMi⟩
        have hMyy4 := hMyy3.trans hMi (by simp)
        clear hi hMi
        have hi : Calls Tryz.prog 124 #[PtrV pb, .string ⟨#[83, 85, 77]⟩] wy4 _ := HIS.out wy4 hMyy4 wSum
        rw [hS] at hi
        unfold PtrV at hi
        go_wp2_with fail
        (with_reducible refine hi.mono ?_)
        rintro e wy5 ⟨rfl, hMi⟩
        have hMyy5 := hMyy4.trans hMi (by simp)
        clear hi hMi
        have hi : Calls Tryz.prog 124 #[PtrV pb, .string ⟨#[77, 73, 78]⟩] wy5 _ := HIS.out wy5 hMyy5 wMin
        rw [hI] at hi
        unfold PtrV at hi
        go_wp2_with fail
        (with_reducible refine hi.mono ?_)
        rintro e wy6 ⟨rfl, hMi⟩
        have hMyy6 := hMyy5.trans hMi (by simp)
        clear hi hMi
        have hxn := hMyy6.heap hxn (by simp)
        have hrx := hMyy6.heap hrx (by simp)
        have hMn := hMn.trans hMyy6 (by simp)
        have hR2 := hR2.later hMyy6
        have e0 : wy6.cell? ⟨tb, 0, none⟩ = some (.int .i64 t.kind) := cell_of_heap hrx 0
        have e2 : wy6.cell? ⟨tb, 2, none⟩ = some (.string ⟨t.s.toArray⟩) := cell_of_heap hrx 2
        generalize wy6 = w9 at *
        have hag := aggregate_ref f HOR.out w9 pb tg ts s hR2 HE.out hw1 2 (by decide) hw2 xb hxp hxt (by rw [HT.out]; exact hxn)
        unfold PtrV at hag
        clear hw1 hw2
        go_wp2_with fail
        (with_reducible refine hag.mono ?_)
        rintro e w3 ⟨rfl, hM3, hR3, hE3⟩
        clear hag
        go_wp2_with fail
        go_ret
        refine ⟨xb, rfl, (hMn.mono (L' := [pb]) (by simp)).trans hM3 (fun x hx => by
          rcases List.mem_cons.1 hx with rfl | hx
          · exact .inl (by simp)
          · right
            have : x = xb := by simpa using hx
            rw [HTB.out]
            omega), by rw [HPR.out]; exact hR3, ?_⟩
        rw [HPR.out]
        exact fun h0 L hL => hE3 h0 L (fun x hx => by have := hL x hx; have := hMn.size; omega) (fun hm => by have := hL _ hm; rw [HTB.out] at this; omega)
      have hI : s.is [wMin] = false := by simpa using hI
      have nI := is_not hI HE.out
      rw [HT.out] at nI
      by_cases hM : s.is [wMax] = true
      · have hw := is_word hM HTW.out (by decide)
        have hw1 := hw.1
        have hw2 : s.now.s = aggW 3 := hw.2
        rw [HT.out] at hw
        have hpr := HPR.out
        rw [if_pos ⟨hw.1, .inr (.inr (.inr hw.2))⟩] at hpr
        have HPR := Lib.hid hpr
        clear hpr hw
        have hi : Calls Tryz.prog 124 #[PtrV pb, .string ⟨#[84, 82, 85, 69]⟩] w2 _ := HIS.out w2 hR20 wTrue
        rw [hT] at hi
        unfold PtrV at hi
        go_wp2_with fail
        (with_reducible refine hi.mono ?_)
        rintro e wy0 ⟨rfl, hMi⟩
        have hMyy0 := hR20.trans hMi (by simp)
        clear hi hMi
        have hi : Calls Tryz.prog 124 #[PtrV pb, .string ⟨#[70, 65, 76, 83, 69]⟩] wy0 _ := HIS.out wy0 hMyy0 wFalse
        rw [hF] at hi
        unfold PtrV at hi
        go_wp2_with fail
        (with_reducible refine hi.mono ?_)
        rintro e wy1 ⟨rfl, hMi⟩
        have hMyy1 := hMyy0.trans hMi (by simp)
        clear hi hMi
        have hi : Calls Tryz.prog 124 #[PtrV pb, .string ⟨#[78, 85, 76, 76]⟩] wy1 _ := HIS.out wy1 hMyy1 wNull
        rw [hN] at hi
        unfold PtrV at hi
        go_wp2_with fail
        (with_reducible refine hi.mono ?_)
        rintro e wy2 ⟨rfl, hMi⟩
        have hMyy2 := hMyy1.trans hMi (by simp)
        clear hi hMi
        have hi : Calls Tryz.prog 124 #[PtrV pb, .string ⟨#[40]⟩] wy2 _ := HIS.out wy2 hMyy2 wOpen
        rw [hO] at hi
        unfold PtrV at hi
        go_wp2_with fail
        (with_reducible refine hi.mono ?_)
        rintro e wy3 ⟨rfl, hMi⟩
        have hMyy3 := hMyy2.trans hMi (by simp)
        clear hi hMi
        have hi : Calls Tryz.prog 124 #[PtrV pb, .string ⟨#[67, 79, 85, 78, 84]⟩] wy3 _ := HIS.out wy3 hMyy3 wCount
        rw [hC] at hi
        unfold PtrV at hi
        go_wp2_with fail
        (with_reducible refine hi.mono ?_)
        rintro e wy4 ⟨rfl, hMi⟩
        have hMyy4 := hMyy3.trans hMi (by simp)
        clear hi hMi
        have hi : Calls Tryz.prog 124 #[PtrV pb, .string ⟨#[83, 85, 77]⟩] wy4 _ := HIS.out wy4 hMyy4 wSum
        rw [hS] at hi
        unfold PtrV at hi
        go_wp2_with fail
        (with_reducible refine hi.mono ?_)
        rintro e wy5 ⟨rfl, hMi⟩
        have hMyy5 := hMyy4.trans hMi (by simp)
        clear hi hMi
        have hi : Calls Tryz.prog 124 #[PtrV pb, .string ⟨#[77, 73, 78]⟩] wy5 _ := HIS.out wy5 hMyy5 wMin
        rw [hI] at hi
        unfold PtrV at hi
        go_wp2_with fail
        (with_reducible refine hi.mono ?_)
        rintro e wy6 ⟨rfl, hMi⟩
        have hMyy6 := hMyy5.trans hMi (by simp)
        clear hi hMi
        have hi : Calls Tryz.prog 124 #[PtrV pb, .string ⟨#[77, 65, 88]⟩] wy6 _ := HIS.out wy6 hMyy6 wMax
        rw [hM] at hi
        unfold PtrV at hi
        go_wp2_with fail
        (with_reducible refine hi.mono ?_)
        rintro e wy7 ⟨rfl, hMi⟩
        have hMyy7 := hMyy6.trans hMi (by simp)
        clear hi hMi
        have hxn := hMyy7.heap hxn (by simp)
        have hrx := hMyy7.heap hrx (by simp)
        have hMn := hMn.trans hMyy7 (by simp)
        have hR2 := hR2.later hMyy7
        have e0 : wy7.cell? ⟨tb, 0, none⟩ = some (.int .i64 t.kind) := cell_of_heap hrx 0
        have e2 : wy7.cell? ⟨tb, 2, none⟩ = some (.string ⟨t.s.toArray⟩) := cell_of_heap hrx 2
        generalize wy7 = w9 at *
        have hag := aggregate_ref f HOR.out w9 pb tg ts s hR2 HE.out hw1 3 (by decide) hw2 xb hxp hxt (by rw [HT.out]; exact hxn)
        unfold PtrV at hag
        clear hw1 hw2
        go_wp2_with fail
        (with_reducible refine hag.mono ?_)
        rintro e w3 ⟨rfl, hM3, hR3, hE3⟩
        clear hag
        go_wp2_with fail
        go_ret
        refine ⟨xb, rfl, (hMn.mono (L' := [pb]) (by simp)).trans hM3 (fun x hx => by
          rcases List.mem_cons.1 hx with rfl | hx
          · exact .inl (by simp)
          · right
            have : x = xb := by simpa using hx
            rw [HTB.out]
            omega), by rw [HPR.out]; exact hR3, ?_⟩
        rw [HPR.out]
        exact fun h0 L hL => hE3 h0 L (fun x hx => by have := hL x hx; have := hMn.size; omega) (fun hm => by have := hL _ hm; rw [HTB.out] at this; omega)
      have hM : s.is [wMax] = false := by simpa using hM
      have nM := is_not hM HE.out
      rw [HT.out] at nM
      have hpr := HPR.out
      rw [if_neg (fun h => by
        rcases h with ⟨h1, h2 | h2 | h2 | h2⟩
        · exact nC.1 ⟨h1, h2⟩
        · exact nS.1 ⟨h1, h2⟩
        · exact nI.1 ⟨h1, h2⟩
        · exact nM.1 ⟨h1, h2⟩)] at hpr
      have HPR := Lib.hid hpr
      clear hpr nC nS nI nM
      have hi : Calls Tryz.prog 124 #[PtrV pb, .string ⟨#[84, 82, 85, 69]⟩] w2 _ := HIS.out w2 hR20 wTrue
      rw [hT] at hi
      unfold PtrV at hi
      go_wp2_with fail
      (with_reducible refine hi.mono ?_)
      rintro e wy0 ⟨rfl, hMi⟩
      have hMyy0 := hR20.trans hMi (by simp)
      clear hi hMi
      have hi : Calls Tryz.prog 124 #[PtrV pb, .string ⟨#[70, 65, 76, 83, 69]⟩] wy0 _ := HIS.out wy0 hMyy0 wFalse
      rw [hF] at hi
      unfold PtrV at hi
      go_wp2_with fail
      (with_reducible refine hi.mono ?_)
      rintro e wy1 ⟨rfl, hMi⟩
      have hMyy1 := hMyy0.trans hMi (by simp)
      clear hi hMi
      have hi : Calls Tryz.prog 124 #[PtrV pb, .string ⟨#[78, 85, 76, 76]⟩] wy1 _ := HIS.out wy1 hMyy1 wNull
      rw [hN] at hi
      unfold PtrV at hi
      go_wp2_with fail
      (with_reducible refine hi.mono ?_)
      rintro e wy2 ⟨rfl, hMi⟩
      have hMyy2 := hMyy1.trans hMi (by simp)
      clear hi hMi
      have hi : Calls Tryz.prog 124 #[PtrV pb, .string ⟨#[40]⟩] wy2 _ := HIS.out wy2 hMyy2 wOpen
      rw [hO] at hi
      unfold PtrV at hi
      go_wp2_with fail
      (with_reducible refine hi.mono ?_)
      rintro e wy3 ⟨rfl, hMi⟩
      have hMyy3 := hMyy2.trans hMi (by simp)
      clear hi hMi
      have hi : Calls Tryz.prog 124 #[PtrV pb, .string ⟨#[67, 79, 85, 78, 84]⟩] wy3 _ := HIS.out wy3 hMyy3 wCount
      rw [hC] at hi
      unfold PtrV at hi
      go_wp2_with fail
      (with_reducible refine hi.mono ?_)
      rintro e wy4 ⟨rfl, hMi⟩
      have hMyy4 := hMyy3.trans hMi (by simp)
      clear hi hMi
      have hi : Calls Tryz.prog 124 #[PtrV pb, .string ⟨#[83, 85, 77]⟩] wy4 _ := HIS.out wy4 hMyy4 wSum
      rw [hS] at hi
      unfold PtrV at hi
      go_wp2_with fail
      (with_reducible refine hi.mono ?_)
      rintro e wy5 ⟨rfl, hMi⟩
      have hMyy5 := hMyy4.trans hMi (by simp)
      clear hi hMi
      have hi : Calls Tryz.prog 124 #[PtrV pb, .string ⟨#[77, 73, 78]⟩] wy5 _ := HIS.out wy5 hMyy5 wMin
      rw [hI] at hi
      unfold PtrV at hi
      go_wp2_with fail
      (with_reducible refine hi.mono ?_)
      rintro e wy6 ⟨rfl, hMi⟩
      have hMyy6 := hMyy5.trans hMi (by simp)
      clear hi hMi
      have hi : Calls Tryz.prog 124 #[PtrV pb, .string ⟨#[77, 65, 88]⟩] wy6 _ := HIS.out wy6 hMyy6 wMax
      rw [hM] at hi
      unfold PtrV at hi
      go_wp2_with fail
      (with_reducible refine hi.mono ?_)
      rintro e wy7 ⟨rfl, hMi⟩
      have hMyy7 := hMyy6.trans hMi (by simp)
      clear hi hMi
      have hxn := hMyy7.heap hxn (by simp)
      have hrx := hMyy7.heap hrx (by simp)
      have hMn := hMn.trans hMyy7 (by simp)
      have hR2 := hR2.later hMyy7
      have e0 : wy7.cell? ⟨tb, 0, none⟩ = some (.int .i64 t.kind) := cell_of_heap hrx 0
      have e2 : wy7.cell? ⟨tb, 2, none⟩ = some (.string ⟨t.s.toArray⟩) := cell_of_heap hrx 2
      generalize wy7 = w9 at *
      have hfa : Calls Tryz.prog 85 #[PtrV pb, .int .i64 8] w9 _ := fails_ref w9 pb tg ts s f hR2 8 (by decide)
      unfold PtrV at hfa
      go_wp2_with fail
      (with_reducible refine hfa.mono ?_)
      rintro e w3 ⟨rfl, hM3, hR3⟩
      clear hfa
      go_wp2_with fail
      go_ret
      refine ⟨xb, rfl, (hMn.mono (L' := [pb]) (by simp)).trans hM3 (by simp), by rw [HPR.out]; exact hR3, ?_⟩
      rw [HPR.out]
      exact fun h0 => absurd h0 (fail_e (by decide))
    · have z0 : ((s.e : Int) != 0) = true := bne_iff_ne.2 (by omega)
      have hpr : primaryF (subOf f) s = (emp, s) := by unfold primaryF; rw [if_pos he]
      have HPR := Lib.hid hpr
      have HE := Lib.hid he
      clear hpr he e0 e2 e3 e4
      go_wp2_with fail
      go_ret
      refine ⟨xb, rfl, hMn.mono (by simp), by rw [HPR.out]; exact hR2, ?_⟩
      rw [HPR.out]
      exact fun h0 => absurd h0 HE.out
end Go.Proofs.YtpokbepenacnpaaGreatDoor
