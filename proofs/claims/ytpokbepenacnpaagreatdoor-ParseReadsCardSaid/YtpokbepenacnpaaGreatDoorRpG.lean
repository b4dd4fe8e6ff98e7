/-
  The document's parser: minus, not, walked. No condition but the contract of the level below.
-/
import Derived.Test.YtpokbepenacnpaaGreatDoorMQe
import Derived.Test.YtpokbepenacnpaaGreatDoorMPq
namespace Go.Proofs.YtpokbepenacnpaaGreatDoor
open Go.RowKit
set_option linter.unusedVariables false

theorem joinR_stop {part : PF} {ws : List Bs} {n : Nat} {x : Tree} {s : PS} (h : s.is ws = false) : joinG part ws n x s = (x, s) := by
  cases n with
  | zero => rfl
  | succ n => unfold joinG; rw [h]; rfl

/-- The node that has been made, and where. -/
def CutNode (w : World) (A : Array Value) (v : Value) (wx : World) : Prop := v = .pointer (some ⟨w.heap.size, 0, none⟩) ∧ Mods [] w wx ∧ w.heap.size < wx.heap.size ∧ wx.heap[w.heap.size]? = some (.cells A 174 (0, 0))
theorem CutNode.made (w : World) (A : Array Value) : CutNode w A (.pointer (some ⟨w.heap.size, 0, none⟩)) (w.alloc (.cells A 174)).drew :=
  ⟨rfl, ((Mods.refl [] w).alloc _).drew, by show w.heap.size < (w.heap.push _).size; rw [Array.size_push]; exact Nat.lt_succ_self _, heap_alloc_new w _⟩
theorem CutNode.made2 (w : World) (A : Array Value) : CutNode w A (.pointer (some ⟨w.heap.size, 0, none⟩)) (w.drew.alloc (.cells A 174)) :=
  ⟨rfl, (Mods.refl [] w).drew.alloc _, by show w.heap.size < (w.heap.push _).size; rw [Array.size_push]; exact Nat.lt_succ_self _, heap_alloc_new w.drew _⟩
set_option maxRecDepth 100000 in
set_option maxHeartbeats 8000000 in
theorem minus_ref (f : Nat) (hrest : RC 230 (primaryF (subOf f)) f) (hown : ∀ g, f = g + 1 → RC 228 (lvl g).minus g) : RC 228 (minusF (subOf f)) f := by
  intro w pb tg ts s h
  have his : Calls Tryz.prog 124 #[PtrV pb, .string ⟨#[45]⟩] w _ := is_ref w pb tg ts s f h wMinus
  have HH := Lib.hid h
  have hlt := h.lt
  have hdef : minusF (subOf f) s = if s.is [wMinus] = true then inF (subOf f) (fun L s1 => (.un { op := oNeg, pos := s.now.pos } (L.minus s1).1, (L.minus s1).2)) (.leaf { op := oNeg, pos := s.now.pos }) s else primaryF (subOf f) s := rfl
  have hk : s.is [wMinus] = true → s.e = 0 ∧ s.now.kind ≠ 0 := is_kind
  cases hq : s.is [wMinus] with
  | false =>
    rw [hq] at his hdef
    rw [if_neg (by decide)] at hdef
    have HD := Lib.hid hdef
    unfold PtrV at *
    clear h hdef hk hq
    go_enter Tryz.func228, Tryz.ntmps228
    go_wp2_with fail
    (with_reducible refine his.mono ?_)
    rintro e w2 ⟨rfl, hM2⟩
    clear his
    have hr := hrest w2 pb tg ts s (HH.out.later hM2)
    unfold PtrV at hr
    go_wp2_with fail
    (with_reducible refine hr.mono ?_)
    rintro e w3 ⟨b, rfl, hM3, hR3, hE3⟩
    unfold PtrV
    clear hr
    go_wp2_with fail
    go_ret
    refine ⟨b, rfl, (hM2.mono (by simp)).trans hM3 (by simp), by rw [HD.out]; exact hR3, ?_⟩
    rw [HD.out]
    exact fun h0 L hL => hE3 h0 L (fun x hx => by have := hL x hx; have := hM2.size; omega)
  | true =>
    obtain ⟨he, hkn⟩ := hk hq
    rw [hq] at his hdef
    rw [if_pos rfl] at hdef
    have HD := Lib.hid hdef
    have HE := Lib.hid he
    unfold PtrV at *
    clear h hdef hk hq he
    go_enter Tryz.func228, Tryz.ntmps228
    go_wp2_with fail
    (with_reducible refine his.mono ?_)
    rintro e w2 ⟨rfl, hM2⟩
    clear his
    have hR2 := HH.out.later hM2
    obtain ⟨i, cap, d, hb, hd, hi, ⟨hl, htp, hf⟩, ⟨c0, c1, c2, c3, c4⟩, -, -⟩ := hR2.tok
    have a0 := cell_of_heap hb 0
    have a1 := cell_of_heap hb 1
    change w2.cell? _ = some (.slice (some ⟨tg, 0, none⟩) ts.length cap) at a0
    change w2.cell? _ = some (.int .i64 i) at a1
    have hii : (i : Int) < (ts.length : Int) := by omega
    obtain ⟨n, hn⟩ : ∃ n, ts.length = n := ⟨_, rfl⟩
    rw [hn] at a0 hii
    obtain ⟨pos, hpos⟩ : ∃ pos, s.now.pos = pos := ⟨_, rfl⟩
    rw [hpos] at c1
    have HPOS := Lib.hid hpos
    clear hb hd hn hpos c0 c3 c4

    go_upto_region 3 with fail
    go_cut [3] from 9 to 21 (fun s3 wx => CutNode w2 (nodeA ⟨#[110, 101, 103]⟩ pos ⟨#[]⟩ ⟨#[]⟩ 0 0 ⟨#[]⟩ (.slice none 0 0)) s3 wx)
    case first =>
      go_region_law (fail)
      all_goals
        go_wp2_with fail
        go_meet
        exact CutNode.made w2 _
    case rest =>
      obtain ⟨rfl, hMn, hsz, hxn⟩ := hcut
      obtain ⟨xb, hxbe⟩ : ∃ xb, w2.heap.size = xb := ⟨_, rfl⟩
      have hwx : w.heap.size ≤ xb := by rw [← hxbe]; exact hM2.size
      rw [hxbe] at hsz hxn
      rw [hxbe]
      have hR3 := hR2.later hMn
      have hMw3 := hM2.trans hMn (by simp)
      have hxp : xb ≠ pb := by omega
      have hxt : xb ≠ tg := by omega
      clear hR2 hMn hM2 hxbe a0 a1 c1 c2 hii
      have HPO := HPOS.out
      cases f with
      | zero =>
        have hin : minusF (subOf 0) s = (.leaf { op := oNeg, pos := s.now.pos }, s.fail 9) := HD.out
        have h3 := down_no wc pb tg ts s hR3 HE.out
        have HIN := Lib.hid hin
        unfold PtrV at h3
        clear hin
        go_wp2_with fail
        (with_reducible refine h3.mono ?_)
        rintro e w4 ⟨rfl, hM4, hR4⟩
        clear h3
        obtain ⟨dd, b2, g2, hup⟩ := hR4.upe (f' := 0) (fail_e (by decide)) (by omega)
        have HUP := Lib.hid hup
        clear hup
        go_wp2_with fail
        go_ret
        have hu := HUP.out (wrap64 (dd - 1))
        refine ⟨xb, rfl, ((hMw3.mono (L' := [pb]) (by simp)).trans hM4 (by simp)).trans hu.1 (by simp), by rw [HIN.out]; exact hu.2, ?_⟩
        rw [HIN.out]
        exact fun h0 => absurd h0 (fail_e (by decide))
      | succ g =>
        have hin : minusF (subOf (g + 1)) s = (.un { op := oNeg, pos := pos } ((lvl g).minus s.next).1, ((lvl g).minus s.next).2) := by
          rw [HD.out]
          show inF (some (lvl g)) _ _ s = _
          unfold inF
          simp only [HE.out, if_true, HPO]
        have HIN := Lib.hid hin
        have h3 := down_go wc pb tg ts s g hR3 HE.out
        unfold PtrV at h3
        clear hin HD HPO
        go_wp2_with fail
        (with_reducible refine h3.mono ?_)
        rintro e w4 ⟨rfl, hM4, hR4⟩
        have hMw4 := (hMw3.mono (L' := [pb]) (by simp)).trans hM4 (by simp)
        have hx4 := hM4.heap hxn (by simpa using hxp)
        clear h3 hM4 hR3 hxn hMw3
        obtain ⟨ix, hix, bb, gg, hwz, hMs, hR5⟩ := hR4.pass hkn
        have hMw5 := hMw4.trans hMs (by simp)
        have hx5 := hMs.heap hx4 (by simpa using hxp)
        clear hMs hR4 hMw4 hx4
        go_upto_region 6 with fail
        generalize w4.setCell ⟨pb, 1, none⟩ (.int .i64 ((ix : Int) + 1)) = w5 at *
        clear bb gg hwz hix
        have ho := hown g rfl w5 pb tg ts s.next hR5
        unfold PtrV at ho
        go_wp2_with fail
        (with_reducible refine ho.mono ?_)
        rintro e w6 ⟨yb, rfl, hM6, hR6, hE6⟩
        dsimp only [PtrV]
        clear ho hR5
        have hin := HIN.out
        generalize (lvl g).minus s.next = es at *
        have HIN := Lib.hid hin
        clear hin
        have hMw6 := hMw5.trans hM6 (by simp)
        have hx6 := hM6.heap hx5 (by simpa using hxp)
        have hsz6 : w.heap.size ≤ w6.heap.size := hMw6.size
        have hE7 : es.2.e = 0 → ∀ L : List Nat, (∀ x ∈ L, x < w.heap.size) → ExprAt 174 96 (w6.alloc (.cells #[PtrV yb] 96)) (pb :: xb :: L) (PtrV yb) es.1 := fun he L hL => (hE6 he (pb :: xb :: L) (fun x hx => by
          have h5 := hMw5.size
          have hpl := hlt.1
          have hxl := lt_size_of_heap hx5
          rcases List.mem_cons.1 hx with rfl | hx
          · omega
          · rcases List.mem_cons.1 hx with rfl | hx
            · omega
            · have := hL x hx; omega)).mods (((Mods.refl [] w6).alloc _).mono (by simp))
        have HE7 := Lib.hid hE7
        have hcl := heap_alloc_new w6 (.cells #[PtrV yb] 96)
        have hMd := (Mods.refl [] w6).alloc (.cells #[PtrV yb] 96)
        have hx7 := hMd.heap hx6 (by simp)
        have hR7 := hR6.later hMd
        have hMw7 := hMw6.trans hMd (by simp)
        have HX6 := Lib.hid (lt_size_of_heap hx6)
        unfold PtrV at hcl hMd hx7 hR7 hMw7 HE7
        have y7 := cell_of_heap hx7 7
        have j7 := frozen_of_heap hx7 7
        change World.cell? _ _ = some (.slice none 0 0) at y7
        clear hE7 hE6 hx6 hR6 hMd hM6 hMw6 hMw5 hx5
        go_upto_region 7 with fail
        have hx6l := HX6.out
        clear HX6
        generalize w6.alloc (.cells #[.pointer (some ⟨yb, 0, none⟩)] 96) = w7 at *
        generalize w6.heap.size = cb at *
        have hx8 := heap_setCell_same hx7 7 (.slice (some ⟨cb, 0, none⟩) 1 1)
        have hMs : Mods [xb] w7 (w7.setCell ⟨xb, 7, none⟩ (.slice (some ⟨cb, 0, none⟩) 1 1)) := (Mods.refl _ _).setCell (.inl (by simp)) _
        have hR8 := hR7.mods hMs (by simpa using hxp.symm) (by simpa using hxt.symm)
        have hMw8 := hMw7.trans hMs (fun x hx => .inr (x_ge rfl hwx hx))
        have hcl8 := hMs.heap hcl (by simp; omega)
        have HE8 : Hid (es.2.e = 0 → ∀ L : List Nat, (∀ x ∈ L, x < w.heap.size) → ExprAt 174 96 (w7.setCell ⟨xb, 7, none⟩ (.slice (some ⟨cb, 0, none⟩) 1 1)) (pb :: xb :: L) (.pointer (some ⟨yb, 0, none⟩)) es.1) := Lib.hid fun he L hL => (HE7.out he L hL).mods (hMs.mono (by simp))
        clear hMs hR7 hMw7 hcl hx7 HE7 y7 j7
        generalize w7.setCell ⟨xb, 7, none⟩ (.slice (some ⟨cb, 0, none⟩) 1 1) = w8 at *
        obtain ⟨dd, b2, g2, hMs, hR9⟩ := hR8.up (by omega)
        have hMw9 := hMw8.trans hMs (by simp)
        have hx9 := hMs.heap hx8 (by simpa using hxp)
        have hcl9 := hMs.heap hcl8 (by simp; omega)
        clear hR8 hMw8 hx8 hcl8
        go_wp2_with fail
        go_ret
        refine ⟨xb, rfl, hMw9, by rw [HIN.out]; exact hR9, ?_⟩
        rw [HIN.out]
        intro he L hL
        refine ⟨xb, cb, .pointer (some ⟨yb, 0, none⟩), rfl, fun hm => by have := hL _ hm; omega, fun hm => by have := hL _ hm; omega, hx9, hcl9, ?_⟩
        exact ((HE8.out he L hL).mods (hMs.mono (by simp))).weaken (fun x hx => by simp [hx])
set_option maxRecDepth 100000 in
set_option maxHeartbeats 8000000 in
theorem not_ref (f : Nat) (hrest : RC 193 (testF (subOf f)) f) (hown : ∀ g, f = g + 1 → RC 161 (lvl g).not g) : RC 161 (notF (subOf f)) f := by
  intro w pb tg ts s h
  have his : Calls Tryz.prog 124 #[PtrV pb, .string ⟨#[78, 79, 84]⟩] w _ := is_ref w pb tg ts s f h wNot
  have HH := Lib.hid h
  have hlt := h.lt
  have hdef : notF (subOf f) s = if s.is [wNot] = true then inF (subOf f) (fun L s1 => (.un { op := oNot, pos := s.now.pos } (L.not s1).1, (L.not s1).2)) (.leaf { op := oNot, pos := s.now.pos }) s else testF (subOf f) s := rfl
  have hk : s.is [wNot] = true → s.e = 0 ∧ s.now.kind ≠ 0 := is_kind
  cases hq : s.is [wNot] with
  | false =>
    rw [hq] at his hdef
    rw [if_neg (by decide)] at hdef
    have HD := Lib.hid hdef
    unfold PtrV at *
    clear h hdef hk hq
    go_enter Tryz.func161, Tryz.ntmps161
    go_wp2_with fail
    (with_reducible refine his.mono ?_)
    rintro e w2 ⟨rfl, hM2⟩
    clear his
    have hr := hrest w2 pb tg ts s (HH.out.later hM2)
    unfold PtrV at hr
    go_wp2_with fail
    (with_reducible refine hr.mono ?_)
    rintro e w3 ⟨b, rfl, hM3, hR3, hE3⟩
    unfold PtrV
    clear hr
    go_wp2_with fail
    go_ret
    refine ⟨b, rfl, (hM2.mono (by simp)).trans hM3 (by simp), by rw [HD.out]; exact hR3, ?_⟩
    rw [HD.out]
    exact fun h0 L hL => hE3 h0 L (fun x hx => by have := hL x hx; have := hM2.size; omega)
  | true =>
    obtain ⟨he, hkn⟩ := hk hq
    rw [hq] at his hdef
    rw [if_pos rfl] at hdef
    have HD := Lib.hid hdef
    have HE := Lib.hid he
    unfold PtrV at *
    clear h hdef hk hq he
    go_enter Tryz.func161, Tryz.ntmps161
    go_wp2_with fail
    (with_reducible refine his.mono ?_)
    rintro e w2 ⟨rfl, hM2⟩
    clear his
    have hR2 := HH.out.later hM2
    obtain ⟨i, cap, d, hb, hd, hi, ⟨hl, htp, hf⟩, ⟨c0, c1, c2, c3, c4⟩, -, -⟩ := hR2.tok
    have a0 := cell_of_heap hb 0
    have a1 := cell_of_heap hb 1
    change w2.cell? _ = some (.slice (some ⟨tg, 0, none⟩) ts.length cap) at a0
    change w2.cell? _ = some (.int .i64 i) at a1
    have hii : (i : Int) < (ts.length : Int) := by omega
    obtain ⟨n, hn⟩ : ∃ n, ts.length = n := ⟨_, rfl⟩
    rw [hn] at a0 hii
    obtain ⟨pos, hpos⟩ : ∃ pos, s.now.pos = pos := ⟨_, rfl⟩
    rw [hpos] at c1
    have HPOS := Lib.hid hpos
    clear hb hd hn hpos c0 c3 c4

    go_upto_region 3 with fail
    go_cut [3] from 9 to 21 (fun s3 wx => CutNode w2 (nodeA ⟨#[110, 111, 116]⟩ pos ⟨#[]⟩ ⟨#[]⟩ 0 0 ⟨#[]⟩ (.slice none 0 0)) s3 wx)
    case first =>
      go_region_law (fail)
      all_goals
        go_wp2_with fail
        go_meet
        exact CutNode.made w2 _
    case rest =>
      obtain ⟨rfl, hMn, hsz, hxn⟩ := hcut
      obtain ⟨xb, hxbe⟩ : ∃ xb, w2.heap.size = xb := ⟨_, rfl⟩
      have hwx : w.heap.size ≤ xb := by rw [← hxbe]; exact hM2.size
      rw [hxbe] at hsz hxn
      rw [hxbe]
      have hR3 := hR2.later hMn
      have hMw3 := hM2.trans hMn (by simp)
      have hxp : xb ≠ pb := by omega
      have hxt : xb ≠ tg := by omega
      clear hR2 hMn hM2 hxbe a0 a1 c1 c2 hii
      have HPO := HPOS.out
      cases f with
      | zero =>
        have hin : notF (subOf 0) s = (.leaf { op := oNot, pos := s.now.pos }, s.fail 9) := HD.out
        have h3 := down_no wc pb tg ts s hR3 HE.out
        have HIN := Lib.hid hin
        unfold PtrV at h3
        clear hin
        go_wp2_with fail
        (with_reducible refine h3.mono ?_)
        rintro e w4 ⟨rfl, hM4, hR4⟩
        clear h3
        obtain ⟨dd, b2, g2, hup⟩ := hR4.upe (f' := 0) (fail_e (by decide)) (by omega)
        have HUP := Lib.hid hup
        clear hup
        go_wp2_with fail
        go_ret
        have hu := HUP.out (wrap64 (dd - 1))
        refine ⟨xb, rfl, ((hMw3.mono (L' := [pb]) (by simp)).trans hM4 (by simp)).trans hu.1 (by simp), by rw [HIN.out]; exact hu.2, ?_⟩
        rw [HIN.out]
        exact fun h0 => absurd h0 (fail_e (by decide))
      | succ g =>
        have hin : notF (subOf (g + 1)) s = (.un { op := oNot, pos := pos } ((lvl g).not s.next).1, ((lvl g).not s.next).2) := by
          rw [HD.out]
          show inF (some (lvl g)) _ _ s = _
          unfold inF
          simp only [HE.out, if_true, HPO]
        have HIN := Lib.hid hin
        have h3 := down_go wc pb tg ts s g hR3 HE.out
        unfold PtrV at h3
        clear hin HD HPO
        go_wp2_with fail
        (with_reducible refine h3.mono ?_)
        rintro e w4 ⟨rfl, hM4, hR4⟩
        have hMw4 := (hMw3.mono (L' := [pb]) (by simp)).trans hM4 (by simp)
        have hx4 := hM4.heap hxn (by simpa using hxp)
        clear h3 hM4 hR3 hxn hMw3
        obtain ⟨ix, hix, bb, gg, hwz, hMs, hR5⟩ := hR4.pass hkn
        have hMw5 := hMw4.trans hMs (by simp)
        have hx5 := hMs.heap hx4 (by simpa using hxp)
        clear hMs hR4 hMw4 hx4
        go_upto_region 6 with fail
        generalize w4.setCell ⟨pb, 1, none⟩ (.int .i64 ((ix : Int) + 1)) = w5 at *
        clear bb gg hwz hix
        have ho := hown g rfl w5 pb tg ts s.next hR5
        unfold PtrV at ho
        go_wp2_with fail
        (with_reducible refine ho.mono ?_)
        rintro e w6 ⟨yb, rfl, hM6, hR6, hE6⟩
        dsimp only [PtrV]
        clear ho hR5
        have hin := HIN.out
        generalize (lvl g).not s.next = es at *
        have HIN := Lib.hid hin
        clear hin
        have hMw6 := hMw5.trans hM6 (by simp)
        have hx6 := hM6.heap hx5 (by simpa using hxp)
        have hsz6 : w.heap.size ≤ w6.heap.size := hMw6.size
        have hE7 : es.2.e = 0 → ∀ L : List Nat, (∀ x ∈ L, x < w.heap.size) → ExprAt 174 96 (w6.alloc (.cells #[PtrV yb] 96)) (pb :: xb :: L) (PtrV yb) es.1 := fun he L hL => (hE6 he (pb :: xb :: L) (fun x hx => by
          have h5 := hMw5.size
          have hpl := hlt.1
          have hxl := lt_size_of_heap hx5
          rcases List.mem_cons.1 hx with rfl | hx
          · omega
          · rcases List.mem_cons.1 hx with rfl | hx
            · omega
            · have := hL x hx; omega)).mods (((Mods.refl [] w6).alloc _).mono (by simp))
        have HE7 := Lib.hid hE7
        have hcl := heap_alloc_new w6 (.cells #[PtrV yb] 96)
        have hMd := (Mods.refl [] w6).alloc (.cells #[PtrV yb] 96)
        have hx7 := hMd.heap hx6 (by simp)
        have hR7 := hR6.later hMd
        have hMw7 := hMw6.trans hMd (by simp)
        have HX6 := Lib.hid (lt_size_of_heap hx6)
        unfold PtrV at hcl hMd hx7 hR7 hMw7 HE7
        have y7 := cell_of_heap hx7 7
        have j7 := frozen_of_heap hx7 7
        change World.cell? _ _ = some (.slice none 0 0) at y7
        clear hE7 hE6 hx6 hR6 hMd hM6 hMw6 hMw5 hx5
        go_upto_region 7 with fail
        have hx6l := HX6.out
        clear HX6
        generalize w6.alloc (.cells #[.pointer (some ⟨yb, 0, none⟩)] 96) = w7 at *
        generalize w6.heap.size = cb at *
        have hx8 := heap_setCell_same hx7 7 (.slice (some ⟨cb, 0, none⟩) 1 1)
        have hMs : Mods [xb] w7 (w7.setCell ⟨xb, 7, none⟩ (.slice (some ⟨cb, 0, none⟩) 1 1)) := (Mods.refl _ _).setCell (.inl (by simp)) _
        have hR8 := hR7.mods hMs (by simpa using hxp.symm) (by simpa using hxt.symm)
        have hMw8 := hMw7.trans hMs (fun x hx => .inr (x_ge rfl hwx hx))
        have hcl8 := hMs.heap hcl (by simp; omega)
        have HE8 : Hid (es.2.e = 0 → ∀ L : List Nat, (∀ x ∈ L, x < w.heap.size) → ExprAt 174 96 (w7.setCell ⟨xb, 7, none⟩ (.slice (some ⟨cb, 0, none⟩) 1 1)) (pb :: xb :: L) (.pointer (some ⟨yb, 0, none⟩)) es.1) := Lib.hid fun he L hL => (HE7.out he L hL).mods (hMs.mono (by simp))
        clear hMs hR7 hMw7 hcl hx7 HE7 y7 j7
        generalize w7.setCell ⟨xb, 7, none⟩ (.slice (some ⟨cb, 0, none⟩) 1 1) = w8 at *
        obtain ⟨dd, b2, g2, hMs, hR9⟩ := hR8.up (by omega)
        have hMw9 := hMw8.trans hMs (by simp)
        have hx9 := hMs.heap hx8 (by simpa using hxp)
        have hcl9 := hMs.heap hcl8 (by simp; omega)
        clear hR8 hMw8 hx8 hcl8
        go_wp2_with fail
        go_ret
        refine ⟨xb, rfl, hMw9, by rw [HIN.out]; exact hR9, ?_⟩
        rw [HIN.out]
        intro he L hL
        refine ⟨xb, cb, .pointer (some ⟨yb, 0, none⟩), rfl, fun hm => by have := hL _ hm; omega, fun hm => by have := hL _ hm; omega, hx9, hcl9, ?_⟩
        exact ((HE8.out he L hL).mods (hMs.mono (by simp))).weaken (fun x hx => by simp [hx])
theorem is_str {s : PS} {W : Bs} (h : s.is [W] = true) : s.now.s = W := by
  rw [is_one] at h
  simp only [Bool.and_eq_true, beq_iff_eq] at h
  exact h.2.2
theorem is_or {s : PS} {A B : Bs} : s.is [A, B] = true ↔ s.is [A] = true ∨ s.is [B] = true := by
  unfold PS.is isTok
  simp only [List.contains_cons, List.contains_nil, Bool.or_false, Bool.and_eq_true, Bool.or_eq_true]
  constructor
  · rintro ⟨h1, h2, h3 | h3⟩
    · exact .inl ⟨h1, h2, h3⟩
    · exact .inr ⟨h1, h2, h3⟩
  · rintro (⟨h1, h2, h3⟩ | ⟨h1, h2, h3⟩)
    · exact ⟨h1, h2, .inl h3⟩
    · exact ⟨h1, h2, .inr h3⟩
/-- A tree in memory has no block that is not made yet. -/
theorem ExprAt.fresh13 {T T2 : TypeId} {w : World} {L : List Nat} {xb : Nat} (hx : w.heap.size ≤ xb) : ∀ {t : Tree} {v : Value}, ExprAt T T2 w L v t → ExprAt T T2 w (xb :: L) v t := by
  have hn : ∀ {b : Nat} {o : Obj}, w.heap[b]? = some o → b ∉ L → b ∉ xb :: L := fun {b o} h h2 hm => by
    have := lt_size_of_heap h
    rcases List.mem_cons.1 hm with h3 | h3
    · omega
    · exact h2 h3
  intro t
  induction t with
  | leaf h =>
    rintro v ⟨b, h1, h2, h3⟩
    exact ⟨b, h1, hn h3 h2, h3⟩
  | un h a ih =>
    rintro v ⟨b, c, u, h1, h2, h3, h4, h5, h6⟩
    exact ⟨b, c, u, h1, hn h4 h2, hn h5 h3, h4, h5, ih h6⟩
  | bin h a d iha ihd =>
    rintro v ⟨b, c, u, x, h1, h2, h3, h4, h5, h6, h7⟩
    exact ⟨b, c, u, x, h1, hn h4 h2, hn h5 h3, h4, h5, iha h6, ihd h7⟩
/-- What a join has come to: a tree, a state, and what is to come of it. -/
def JoinAt (pb tg : Nat) (ts : List Tok) (f : Nat) (w : World) (part : PF) (ws : List Bs) (fin : Tree × PS) (gk : Nat) (wr : World) (v : Value) : Prop :=
  ∃ x st b, v = PtrV b ∧ Mods [pb] w wr ∧ RSt wr pb tg ts st f ∧ (st.e = 0 → ∀ L : List Nat, (∀ x ∈ L, x < w.heap.size) → ExprAt 174 96 wr L (PtrV b) x) ∧ st.rest.length ≤ gk ∧ joinG part ws gk x st = fin
end Go.Proofs.YtpokbepenacnpaaGreatDoor
