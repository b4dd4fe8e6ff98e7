/-
  parse's joined over term, walked. No condition.
-/
import Derived.Test.YtpokbepenacnpaaGreatDoorMPg
namespace Go.Proofs.YtpokbepenacnpaaGreatDoor
open Go.RowKit
set_option linter.unusedVariables false
set_option maxRecDepth 100000 in
set_option maxHeartbeats 4000000 in
theorem joined_term (w : World) (pb tg : Nat) (f : Nat) (s : PS) (h : PSt w pb tg s f) (F : PF) (hgo : Goes F) (ws : List Bs) (hasc : ∀ x ∈ ws, ∀ b ∈ x, b.toNat < 128) (hwl : ws.length ≤ 1000) (hwx : ∀ x ∈ ws, x.length ≤ 1000) (g off n cap : Nat) (hws : StrsIn w (.slice (some ⟨g, off, none⟩) n cap) ws) (hgp : g ≠ pb)
    (hpart : ∀ W s1, PSt W pb tg s1 f → Calls Tryz.prog 224 #[PtrV pb] W (PRes pb tg f F s1 W)) :
    Calls Tryz.prog 119 #[PtrV pb, .func (.func 224) #[PtrV pb] #[], .slice (some ⟨g, off, none⟩) n cap] w (PRes pb tg f (joinF F ws) s w) := by
  have hpw := h.lt
  have h1 := hpart w s h
  have HW := Lib.hid (And.intro hws (And.intro hasc hwx))
  have HPT := Lib.hid hpart
  have FIN : Hid (∀ b w', Mods [pb] w w' → PSt w' pb tg (joinF F ws s).2 f → ((joinF F ws s).2.e = 0 → ∀ L : List Nat, (∀ x ∈ L, x < w.heap.size) → ExprAt 138 89 w' L (PtrV b) (joinF F ws s).1) → PRes pb tg f (joinF F ws) s w (.returned (PtrV b)) w') := Lib.hid (fun b w' h1 h2 h3 => ⟨b, rfl, h1, h2, h3⟩)
  unfold PtrV at *
  clear h hpart hws hasc hwx
  go_enter Tryz.func119, Tryz.ntmps119
  go_wp2_with fail
  (with_reducible refine h1.mono ?_)
  rintro e w1 ⟨b1, rfl, hM1, hP1, hE1⟩
  dsimp only [PtrV]
  clear h1
  have HJ : Hid (joinF F ws s = joinG F ws (F s).2.rest.length (F s).1 (F s).2) := Lib.hid rfl
  go_wp2_with fail
  go_loopg [7] (F s).2.rest.length (fun gk t7 wr => ∃ (b : Nat) (x : Tree) (s1 : PS), s1.rest.length = gk ∧ t7 = .pointer (some ⟨b, 0, none⟩) ∧ Mods [pb] w wr ∧ PSt wr pb tg s1 f ∧ Hid (joinF F ws s = joinG F ws s1.rest.length x s1) ∧ Hid (s1.e = 0 → ∀ L : List Nat, (∀ x ∈ L, x < w.heap.size) → ExprAt 138 89 wr L (PtrV b) x))
  case atStart => exact ⟨b1, (F s).1, (F s).2, rfl, rfl, hM1, hP1, HJ, Lib.hid hE1⟩
  case round =>
    clear hE1 hP1 hM1 HJ
    obtain ⟨b, x, s1, hgk, rfl, hM, hP, HJ, HE⟩ := hrel
    have hws2 : StrsIn wr (.slice (some ⟨g, off, none⟩) n cap) ws := by
      obtain ⟨g', off', cap', he, hc⟩ := HW.out.1
      simp only [Value.slice.injEq, Option.some.injEq, Addr.mk.injEq, and_true] at he
      obtain ⟨⟨rfl, rfl⟩, rfl, rfl⟩ := he
      exact ⟨g, off, cap, rfl, fun j hj => hM.cell (hc j hj) (by simpa using hgp)⟩
    have his := is_any wr pb tg s1 f hP _ ws hws2 hwl
    unfold PtrV at his
    go_wp2_with fail
    (with_reducible refine his.mono ?_)
    rintro e w2 ⟨rfl, hM2⟩
    have hP2 := hP.later hM2
    have hMw2 := hM.trans (hM2.mono (L' := [pb]) (by simp)) (by simp)
    have hwf : WfT s1.rest := by obtain ⟨l, -, -, h3, -⟩ := hP; exact h3
    have hpos : 0 < s1.rest.length := List.length_pos_iff.2 hwf.ne
    clear his hws2 hP
    cases hi : s1.is ws with
    | false =>
      have hJ2 : joinF F ws s = (x, s1) := by
        rw [HJ.out]
        obtain ⟨m, hm⟩ : ∃ m, s1.rest.length = m + 1 := ⟨s1.rest.length - 1, by omega⟩
        rw [hm]
        unfold joinG
        rw [hi]
        rfl
      have hfin := FIN.out b w2 hMw2 (by rw [hJ2]; exact hP2) (by rw [hJ2]; exact fun he L hL => ((HE.out he (L) hL).mods' hM2))
      have HFIN := Lib.hid hfin
      clear hfin hi hJ2 FIN HJ HE
      go_wp2_with fail
      go_ret
      exact HFIN.out
    | true =>
      have hmem := is_mem hi
      have hlow := fun W => lower_any s1.now.s (HW.out.2.2 _ hmem) (HW.out.2.1 _ hmem) W
      have hk := (is_kind hi).2
      have HSE := Lib.hid (is_kind hi).1
      have HNL : Hid (s1.next.rest.length + 1 = s1.rest.length) := Lib.hid (by unfold PS.next; rw [List.length_tail]; omega)
      have hnx := next_any w2 pb tg s1 f hP2 (hP2.wfTail hk)
      have hJ2 : ∀ m, s1.rest.length = m + 1 → joinF F ws s = joinG F ws m (.bin { op := s1.now.s.map lowc, pos := s1.now.pos } x (F s1.next).1) (F s1.next).2 := by
        intro m hm
        rw [HJ.out, hm]
        conv => lhs; unfold joinG
        rw [if_pos hi]
      have HJ2 := Lib.hid hJ2
      unfold PtrV at hnx
      clear hJ2 hi hmem hk
      go_wp2_with fail
      (with_reducible refine hnx.mono ?_)
      rintro e w3 ⟨rfl, hM3, hP3⟩
      clear hnx
      go_wp2_with fail
      have hMt := (Mods.refl [] w3).alloc (.cells #[.int .i64 s1.now.kind, .int .i64 s1.now.pos, .string ⟨s1.now.s.toArray⟩, .int .i64 s1.now.n, .int .i64 s1.now.scale] 75)
      have ht4 := heap_alloc_new w3 (.cells #[.int .i64 s1.now.kind, .int .i64 s1.now.pos, .string ⟨s1.now.s.toArray⟩, .int .i64 s1.now.n, .int .i64 s1.now.scale] 75)
      have hpl := hP3.lt
      have hP4 := hP3.later hMt.drew
      have hM34 := hM3.trans (hMt.mono (L' := [pb]) (by simp)) (by simp)
      generalize w3.alloc (.cells #[.int .i64 s1.now.kind, .int .i64 s1.now.pos, .string ⟨s1.now.s.toArray⟩, .int .i64 s1.now.n, .int .i64 s1.now.scale] 75) = w4 at *
      generalize w3.heap.size = tb at *
      have hMw4 := hMw2.trans hM34 (by simp)
      have ht4d : w4.drew.heap[tb]? = _ := ht4
      have t41 : w4.drew.cell? ⟨tb, 1, none⟩ = some (.int .i64 s1.now.pos) := cell_of_heap ht4d 1
      have t42 : w4.drew.cell? ⟨tb, 2, none⟩ = some (.string ⟨s1.now.s.toArray⟩) := cell_of_heap ht4d 2
      have hM2' : Mods [pb] wr w2 := hM2.mono (by simp)
      clear ht4 hM3 hP3 hP2 hMt
      go_region_with (first | ((with_reducible refine (hlow _).mono ?_); rintro e w5 ⟨rfl, hM5⟩; have ht5 := hM5.heap ht4d (by simp); have t51 : w5.cell? ⟨tb, 1, none⟩ = some (.int .i64 s1.now.pos) := cell_of_heap ht5 1; have t52 : w5.cell? ⟨tb, 2, none⟩ = some (.string ⟨s1.now.s.toArray⟩) := cell_of_heap ht5 2; have hp5 := HPT.out w5 s1.next (hP4.later hM5)) | ((with_reducible refine hp5.mono ?_); rintro e w6 ⟨yb, rfl, hM6, hP6, hE6⟩; dsimp only [PtrV]; have ht6 := hM6.heap ht5 (by simp; omega); have t61 : w6.cell? ⟨tb, 1, none⟩ = some (.int .i64 s1.now.pos) := cell_of_heap ht6 1; have z7 := ((Mods.refl [] w6).alloc (.cells #[.pointer (some ⟨b, 0, none⟩), .pointer (some ⟨yb, 0, none⟩)] 89)); have t71 := z7.cell t61 (by simp)))
      all_goals
        have hst := joined_step hgo hpw.1 hM (hM2'.trans hM34 (by simp)) hM5 hM6 hP6 HE.out hE6 HSE.out HJ2.out HNL.out
        have HST := Lib.hid hst
        clear hst hp5 hE6 hP6 hM5 hM6 HJ HE HJ2 hlow
        go_wp2_with fail
        go_roundg (F s1.next).2.rest.length
        case measure => rw [← hgk]; exact HST.out.1
        case rel => exact HST.out.2
end Go.Proofs.YtpokbepenacnpaaGreatDoor

namespace Go.Proofs.YtpokbepenacnpaaGreatDoor
open Go.RowKit
set_option linter.unusedVariables false
set_option maxRecDepth 100000 in
set_option maxHeartbeats 4000000 in
theorem joined_not (w : World) (pb tg : Nat) (f : Nat) (s : PS) (h : PSt w pb tg s f) (F : PF) (hgo : Goes F) (ws : List Bs) (hasc : ∀ x ∈ ws, ∀ b ∈ x, b.toNat < 128) (hwl : ws.length ≤ 1000) (hwx : ∀ x ∈ ws, x.length ≤ 1000) (g off n cap : Nat) (hws : StrsIn w (.slice (some ⟨g, off, none⟩) n cap) ws) (hgp : g ≠ pb)
    (hpart : ∀ W s1, PSt W pb tg s1 f → Calls Tryz.prog 160 #[PtrV pb] W (PRes pb tg f F s1 W)) :
    Calls Tryz.prog 119 #[PtrV pb, .func (.func 160) #[PtrV pb] #[], .slice (some ⟨g, off, none⟩) n cap] w (PRes pb tg f (joinF F ws) s w) := by
  have hpw := h.lt
  have h1 := hpart w s h
  have HW := Lib.hid (And.intro hws (And.intro hasc hwx))
  have HPT := Lib.hid hpart
  have FIN : Hid (∀ b w', Mods [pb] w w' → PSt w' pb tg (joinF F ws s).2 f → ((joinF F ws s).2.e = 0 → ∀ L : List Nat, (∀ x ∈ L, x < w.heap.size) → ExprAt 138 89 w' L (PtrV b) (joinF F ws s).1) → PRes pb tg f (joinF F ws) s w (.returned (PtrV b)) w') := Lib.hid (fun b w' h1 h2 h3 => ⟨b, rfl, h1, h2, h3⟩)
  unfold PtrV at *
  clear h hpart hws hasc hwx
  go_enter Tryz.func119, Tryz.ntmps119
  go_wp2_with fail
  (with_reducible refine h1.mono ?_)
  rintro e w1 ⟨b1, rfl, hM1, hP1, hE1⟩
  dsimp only [PtrV]
  clear h1
  have HJ : Hid (joinF F ws s = joinG F ws (F s).2.rest.length (F s).1 (F s).2) := Lib.hid rfl
  go_wp2_with fail
  go_loopg [7] (F s).2.rest.length (fun gk t7 wr => ∃ (b : Nat) (x : Tree) (s1 : PS), s1.rest.length = gk ∧ t7 = .pointer (some ⟨b, 0, none⟩) ∧ Mods [pb] w wr ∧ PSt wr pb tg s1 f ∧ Hid (joinF F ws s = joinG F ws s1.rest.length x s1) ∧ Hid (s1.e = 0 → ∀ L : List Nat, (∀ x ∈ L, x < w.heap.size) → ExprAt 138 89 wr L (PtrV b) x))
  case atStart => exact ⟨b1, (F s).1, (F s).2, rfl, rfl, hM1, hP1, HJ, Lib.hid hE1⟩
  case round =>
    clear hE1 hP1 hM1 HJ
    obtain ⟨b, x, s1, hgk, rfl, hM, hP, HJ, HE⟩ := hrel
    have hws2 : StrsIn wr (.slice (some ⟨g, off, none⟩) n cap) ws := by
      obtain ⟨g', off', cap', he, hc⟩ := HW.out.1
      simp only [Value.slice.injEq, Option.some.injEq, Addr.mk.injEq, and_true] at he
      obtain ⟨⟨rfl, rfl⟩, rfl, rfl⟩ := he
      exact ⟨g, off, cap, rfl, fun j hj => hM.cell (hc j hj) (by simpa using hgp)⟩
    have his := is_any wr pb tg s1 f hP _ ws hws2 hwl
    unfold PtrV at his
    go_wp2_with fail
    (with_reducible refine his.mono ?_)
    rintro e w2 ⟨rfl, hM2⟩
    have hP2 := hP.later hM2
    have hMw2 := hM.trans (hM2.mono (L' := [pb]) (by simp)) (by simp)
    have hwf : WfT s1.rest := by obtain ⟨l, -, -, h3, -⟩ := hP; exact h3
    have hpos : 0 < s1.rest.length := List.length_pos_iff.2 hwf.ne
    clear his hws2 hP
    cases hi : s1.is ws with
    | false =>
      have hJ2 : joinF F ws s = (x, s1) := by
        rw [HJ.out]
        obtain ⟨m, hm⟩ : ∃ m, s1.rest.length = m + 1 := ⟨s1.rest.length - 1, by omega⟩
        rw [hm]
        unfold joinG
        rw [hi]
        rfl
      have hfin := FIN.out b w2 hMw2 (by rw [hJ2]; exact hP2) (by rw [hJ2]; exact fun he L hL => ((HE.out he (L) hL).mods' hM2))
      have HFIN := Lib.hid hfin
      clear hfin hi hJ2 FIN HJ HE
      go_wp2_with fail
      go_ret
      exact HFIN.out
    | true =>
      have hmem := is_mem hi
      have hlow := fun W => lower_any s1.now.s (HW.out.2.2 _ hmem) (HW.out.2.1 _ hmem) W
      have hk := (is_kind hi).2
      have HSE := Lib.hid (is_kind hi).1
      have HNL : Hid (s1.next.rest.length + 1 = s1.rest.length) := Lib.hid (by unfold PS.next; rw [List.length_tail]; omega)
      have hnx := next_any w2 pb tg s1 f hP2 (hP2.wfTail hk)
      have hJ2 : ∀ m, s1.rest.length = m + 1 → joinF F ws s = joinG F ws m (.bin { op := s1.now.s.map lowc, pos := s1.now.pos } x (F s1.next).1) (F s1.next).2 := by
        intro m hm
        rw [HJ.out, hm]
        conv => lhs; unfold joinG
        rw [if_pos hi]
      have HJ2 := Lib.hid hJ2
      unfold PtrV at hnx
      clear hJ2 hi hmem hk
      go_wp2_with fail
      (with_reducible refine hnx.mono ?_)
      rintro e w3 ⟨rfl, hM3, hP3⟩
      clear hnx
      go_wp2_with fail
      have hMt := (Mods.refl [] w3).alloc (.cells #[.int .i64 s1.now.kind, .int .i64 s1.now.pos, .string ⟨s1.now.s.toArray⟩, .int .i64 s1.now.n, .int .i64 s1.now.scale] 75)
      have ht4 := heap_alloc_new w3 (.cells #[.int .i64 s1.now.kind, .int .i64 s1.now.pos, .string ⟨s1.now.s.toArray⟩, .int .i64 s1.now.n, .int .i64 s1.now.scale] 75)
      have hpl := hP3.lt
      have hP4 := hP3.later hMt.drew
      have hM34 := hM3.trans (hMt.mono (L' := [pb]) (by simp)) (by simp)
      generalize w3.alloc (.cells #[.int .i64 s1.now.kind, .int .i64 s1.now.pos, .string ⟨s1.now.s.toArray⟩, .int .i64 s1.now.n, .int .i64 s1.now.scale] 75) = w4 at *
      generalize w3.heap.size = tb at *
      have hMw4 := hMw2.trans hM34 (by simp)
      have ht4d : w4.drew.heap[tb]? = _ := ht4
      have t41 : w4.drew.cell? ⟨tb, 1, none⟩ = some (.int .i64 s1.now.pos) := cell_of_heap ht4d 1
      have t42 : w4.drew.cell? ⟨tb, 2, none⟩ = some (.string ⟨s1.now.s.toArray⟩) := cell_of_heap ht4d 2
      have hM2' : Mods [pb] wr w2 := hM2.mono (by simp)
      clear ht4 hM3 hP3 hP2 hMt
      go_region_with (first | ((with_reducible refine (hlow _).mono ?_); rintro e w5 ⟨rfl, hM5⟩; have ht5 := hM5.heap ht4d (by simp); have t51 : w5.cell? ⟨tb, 1, none⟩ = some (.int .i64 s1.now.pos) := cell_of_heap ht5 1; have t52 : w5.cell? ⟨tb, 2, none⟩ = some (.string ⟨s1.now.s.toArray⟩) := cell_of_heap ht5 2; have hp5 := HPT.out w5 s1.next (hP4.later hM5)) | ((with_reducible refine hp5.mono ?_); rintro e w6 ⟨yb, rfl, hM6, hP6, hE6⟩; dsimp only [PtrV]; have ht6 := hM6.heap ht5 (by simp; omega); have t61 : w6.cell? ⟨tb, 1, none⟩ = some (.int .i64 s1.now.pos) := cell_of_heap ht6 1; have z7 := ((Mods.refl [] w6).alloc (.cells #[.pointer (some ⟨b, 0, none⟩), .pointer (some ⟨yb, 0, none⟩)] 89)); have t71 := z7.cell t61 (by simp)))
      all_goals
        have hst := joined_step hgo hpw.1 hM (hM2'.trans hM34 (by simp)) hM5 hM6 hP6 HE.out hE6 HSE.out HJ2.out HNL.out
        have HST := Lib.hid hst
        clear hst hp5 hE6 hP6 hM5 hM6 HJ HE HJ2 hlow
        go_wp2_with fail
        go_roundg (F s1.next).2.rest.length
        case measure => rw [← hgk]; exact HST.out.1
        case rel => exact HST.out.2
end Go.Proofs.YtpokbepenacnpaaGreatDoor

namespace Go.Proofs.YtpokbepenacnpaaGreatDoor
open Go.RowKit
set_option linter.unusedVariables false
set_option maxRecDepth 100000 in
set_option maxHeartbeats 4000000 in
theorem joined_and (w : World) (pb tg : Nat) (f : Nat) (s : PS) (h : PSt w pb tg s f) (F : PF) (hgo : Goes F) (ws : List Bs) (hasc : ∀ x ∈ ws, ∀ b ∈ x, b.toNat < 128) (hwl : ws.length ≤ 1000) (hwx : ∀ x ∈ ws, x.length ≤ 1000) (g off n cap : Nat) (hws : StrsIn w (.slice (some ⟨g, off, none⟩) n cap) ws) (hgp : g ≠ pb)
    (hpart : ∀ W s1, PSt W pb tg s1 f → Calls Tryz.prog 120 #[PtrV pb] W (PRes pb tg f F s1 W)) :
    Calls Tryz.prog 119 #[PtrV pb, .func (.func 120) #[PtrV pb] #[], .slice (some ⟨g, off, none⟩) n cap] w (PRes pb tg f (joinF F ws) s w) := by
  have hpw := h.lt
  have h1 := hpart w s h
  have HW := Lib.hid (And.intro hws (And.intro hasc hwx))
  have HPT := Lib.hid hpart
  have FIN : Hid (∀ b w', Mods [pb] w w' → PSt w' pb tg (joinF F ws s).2 f → ((joinF F ws s).2.e = 0 → ∀ L : List Nat, (∀ x ∈ L, x < w.heap.size) → ExprAt 138 89 w' L (PtrV b) (joinF F ws s).1) → PRes pb tg f (joinF F ws) s w (.returned (PtrV b)) w') := Lib.hid (fun b w' h1 h2 h3 => ⟨b, rfl, h1, h2, h3⟩)
  unfold PtrV at *
  clear h hpart hws hasc hwx
  go_enter Tryz.func119, Tryz.ntmps119
  go_wp2_with fail
  (with_reducible refine h1.mono ?_)
  rintro e w1 ⟨b1, rfl, hM1, hP1, hE1⟩
  dsimp only [PtrV]
  clear h1
  have HJ : Hid (joinF F ws s = joinG F ws (F s).2.rest.length (F s).1 (F s).2) := Lib.hid rfl
  go_wp2_with fail
  go_loopg [7] (F s).2.rest.length (fun gk t7 wr => ∃ (b : Nat) (x : Tree) (s1 : PS), s1.rest.length = gk ∧ t7 = .pointer (some ⟨b, 0, none⟩) ∧ Mods [pb] w wr ∧ PSt wr pb tg s1 f ∧ Hid (joinF F ws s = joinG F ws s1.rest.length x s1) ∧ Hid (s1.e = 0 → ∀ L : List Nat, (∀ x ∈ L, x < w.heap.size) → ExprAt 138 89 wr L (PtrV b) x))
  case atStart => exact ⟨b1, (F s).1, (F s).2, rfl, rfl, hM1, hP1, HJ, Lib.hid hE1⟩
  case round =>
    clear hE1 hP1 hM1 HJ
    obtain ⟨b, x, s1, hgk, rfl, hM, hP, HJ, HE⟩ := hrel
    have hws2 : StrsIn wr (.slice (some ⟨g, off, none⟩) n cap) ws := by
      obtain ⟨g', off', cap', he, hc⟩ := HW.out.1
      simp only [Value.slice.injEq, Option.some.injEq, Addr.mk.injEq, and_true] at he
      obtain ⟨⟨rfl, rfl⟩, rfl, rfl⟩ := he
      exact ⟨g, off, cap, rfl, fun j hj => hM.cell (hc j hj) (by simpa using hgp)⟩
    have his := is_any wr pb tg s1 f hP _ ws hws2 hwl
    unfold PtrV at his
    go_wp2_with fail
    (with_reducible refine his.mono ?_)
    rintro e w2 ⟨rfl, hM2⟩
    have hP2 := hP.later hM2
    have hMw2 := hM.trans (hM2.mono (L' := [pb]) (by simp)) (by simp)
    have hwf : WfT s1.rest := by obtain ⟨l, -, -, h3, -⟩ := hP; exact h3
    have hpos : 0 < s1.rest.length := List.length_pos_iff.2 hwf.ne
    clear his hws2 hP
    cases hi : s1.is ws with
    | false =>
      have hJ2 : joinF F ws s = (x, s1) := by
        rw [HJ.out]
        obtain ⟨m, hm⟩ : ∃ m, s1.rest.length = m + 1 := ⟨s1.rest.length - 1, by omega⟩
        rw [hm]
        unfold joinG
        rw [hi]
        rfl
      have hfin := FIN.out b w2 hMw2 (by rw [hJ2]; exact hP2) (by rw [hJ2]; exact fun he L hL => ((HE.out he (L) hL).mods' hM2))
      have HFIN := Lib.hid hfin
      clear hfin hi hJ2 FIN HJ HE
      go_wp2_with fail
      go_ret
      exact HFIN.out
    | true =>
      have hmem := is_mem hi
      have hlow := fun W => lower_any s1.now.s (HW.out.2.2 _ hmem) (HW.out.2.1 _ hmem) W
      have hk := (is_kind hi).2
      have HSE := Lib.hid (is_kind hi).1
      have HNL : Hid (s1.next.rest.length + 1 = s1.rest.length) := Lib.hid (by unfold PS.next; rw [List.length_tail]; omega)
      have hnx := next_any w2 pb tg s1 f hP2 (hP2.wfTail hk)
      have hJ2 : ∀ m, s1.rest.length = m + 1 → joinF F ws s = joinG F ws m (.bin { op := s1.now.s.map lowc, pos := s1.now.pos } x (F s1.next).1) (F s1.next).2 := by
        intro m hm
        rw [HJ.out, hm]
        conv => lhs; unfold joinG
        rw [if_pos hi]
      have HJ2 := Lib.hid hJ2
      unfold PtrV at hnx
      clear hJ2 hi hmem hk
      go_wp2_with fail
      (with_reducible refine hnx.mono ?_)
      rintro e w3 ⟨rfl, hM3, hP3⟩
      clear hnx
      go_wp2_with fail
      have hMt := (Mods.refl [] w3).alloc (.cells #[.int .i64 s1.now.kind, .int .i64 s1.now.pos, .string ⟨s1.now.s.toArray⟩, .int .i64 s1.now.n, .int .i64 s1.now.scale] 75)
      have ht4 := heap_alloc_new w3 (.cells #[.int .i64 s1.now.kind, .int .i64 s1.now.pos, .string ⟨s1.now.s.toArray⟩, .int .i64 s1.now.n, .int .i64 s1.now.scale] 75)
      have hpl := hP3.lt
      have hP4 := hP3.later hMt.drew
      have hM34 := hM3.trans (hMt.mono (L' := [pb]) (by simp)) (by simp)
      generalize w3.alloc (.cells #[.int .i64 s1.now.kind, .int .i64 s1.now.pos, .string ⟨s1.now.s.toArray⟩, .int .i64 s1.now.n, .int .i64 s1.now.scale] 75) = w4 at *
      generalize w3.heap.size = tb at *
      have hMw4 := hMw2.trans hM34 (by simp)
      have ht4d : w4.drew.heap[tb]? = _ := ht4
      have t41 : w4.drew.cell? ⟨tb, 1, none⟩ = some (.int .i64 s1.now.pos) := cell_of_heap ht4d 1
      have t42 : w4.drew.cell? ⟨tb, 2, none⟩ = some (.string ⟨s1.now.s.toArray⟩) := cell_of_heap ht4d 2
      have hM2' : Mods [pb] wr w2 := hM2.mono (by simp)
      clear ht4 hM3 hP3 hP2 hMt
      go_region_with (first | ((with_reducible refine (hlow _).mono ?_); rintro e w5 ⟨rfl, hM5⟩; have ht5 := hM5.heap ht4d (by simp); have t51 : w5.cell? ⟨tb, 1, none⟩ = some (.int .i64 s1.now.pos) := cell_of_heap ht5 1; have t52 : w5.cell? ⟨tb, 2, none⟩ = some (.string ⟨s1.now.s.toArray⟩) := cell_of_heap ht5 2; have hp5 := HPT.out w5 s1.next (hP4.later hM5)) | ((with_reducible refine hp5.mono ?_); rintro e w6 ⟨yb, rfl, hM6, hP6, hE6⟩; dsimp only [PtrV]; have ht6 := hM6.heap ht5 (by simp; omega); have t61 : w6.cell? ⟨tb, 1, none⟩ = some (.int .i64 s1.now.pos) := cell_of_heap ht6 1; have z7 := ((Mods.refl [] w6).alloc (.cells #[.pointer (some ⟨b, 0, none⟩), .pointer (some ⟨yb, 0, none⟩)] 89)); have t71 := z7.cell t61 (by simp)))
      all_goals
        have hst := joined_step hgo hpw.1 hM (hM2'.trans hM34 (by simp)) hM5 hM6 hP6 HE.out hE6 HSE.out HJ2.out HNL.out
        have HST := Lib.hid hst
        clear hst hp5 hE6 hP6 hM5 hM6 HJ HE HJ2 hlow
        go_wp2_with fail
        go_roundg (F s1.next).2.rest.length
        case measure => rw [← hgk]; exact HST.out.1
        case rel => exact HST.out.2
end Go.Proofs.YtpokbepenacnpaaGreatDoor

namespace Go.Proofs.YtpokbepenacnpaaGreatDoor
open Go.RowKit
set_option linter.unusedVariables false

theorem strs_new1 (w : World) (a : Bs) (T : TypeId) : StrsIn (w.alloc (.cells #[.string ⟨a.toArray⟩] T)) (.slice (some ⟨w.heap.size, 0, none⟩) 1 1) [a] := ⟨_, 0, 1, rfl, fun j hj => by
  obtain rfl : j = 0 := by simp at hj; omega
  rw [cell_of_heap (heap_alloc_new w _)]; rfl⟩
theorem PRes.earlier {pb tg f : Nat} {F : PF} {s : PS} {w w1 : World} {e : Ending} {w' : World} (h : PRes pb tg f F s w1 e w') (hM : Mods [] w w1) : PRes pb tg f F s w e w' := by
  obtain ⟨b, h1, h2, h3, h4⟩ := h
  exact ⟨b, h1, (hM.mono (L' := [pb]) (by simp)).trans h2 (by simp), h3, fun he L hL => h4 he L (fun x hx => Nat.lt_of_lt_of_le (hL x hx) hM.size)⟩

set_option maxRecDepth 100000 in
set_option maxHeartbeats 1000000 in
theorem minus_any (w : World) (pb tg f : Nat) (s : PS) (h : PSt w pb tg s f)
    (hrest : ∀ W, PSt W pb tg s f → Calls Tryz.prog 229 #[PtrV pb] W (PRes pb tg f (primaryF (subOf f)) s W))
    (hown : ∀ f', f = f' + 1 → ∀ W s1, PSt W pb tg s1 f' → Calls Tryz.prog 227 #[PtrV pb] W (PRes pb tg f' (lvl f').minus s1 W)) :
    Calls Tryz.prog 227 #[PtrV pb] w (PRes pb tg f (minusF (subOf f)) s w) := by
  have hb : Calls Tryz.prog 191 #[PtrV pb, .string ⟨#[45]⟩, .string ⟨#[110, 101, 103]⟩, .func (.func 227) #[PtrV pb] #[], .func (.func 229) #[PtrV pb] #[]] w (PRes pb tg f (minusF (subOf f)) s w) := before_minus w pb tg f s h wMinus oNeg Lvl.minus (primaryF (subOf f)) hrest hown
  unfold PtrV at *
  clear h hrest hown
  go_enter Tryz.func227, Tryz.ntmps227
  go_wp2_with fail
  (with_reducible refine hb.mono ?_)
  rintro e w3 ⟨b, rfl, hM4, hP4, hE4⟩
  dsimp only [PtrV]
  go_wp2_with fail
  go_ret
  exact ⟨b, rfl, hM4, hP4, hE4⟩

set_option maxRecDepth 100000 in
set_option maxHeartbeats 1000000 in
theorem not_any (w : World) (pb tg f : Nat) (s : PS) (h : PSt w pb tg s f)
    (hrest : ∀ W, PSt W pb tg s f → Calls Tryz.prog 192 #[PtrV pb] W (PRes pb tg f (testF (subOf f)) s W))
    (hown : ∀ f', f = f' + 1 → ∀ W s1, PSt W pb tg s1 f' → Calls Tryz.prog 160 #[PtrV pb] W (PRes pb tg f' (lvl f').not s1 W)) :
    Calls Tryz.prog 160 #[PtrV pb] w (PRes pb tg f (notF (subOf f)) s w) := by
  have hb : Calls Tryz.prog 191 #[PtrV pb, .string ⟨#[78, 79, 84]⟩, .string ⟨#[110, 111, 116]⟩, .func (.func 160) #[PtrV pb] #[], .func (.func 192) #[PtrV pb] #[]] w (PRes pb tg f (notF (subOf f)) s w) := before_not w pb tg f s h wNot oNot Lvl.not (testF (subOf f)) hrest hown
  unfold PtrV at *
  clear h hrest hown
  go_enter Tryz.func160, Tryz.ntmps160
  go_wp2_with fail
  (with_reducible refine hb.mono ?_)
  rintro e w3 ⟨b, rfl, hM4, hP4, hE4⟩
  dsimp only [PtrV]
  go_wp2_with fail
  go_ret
  exact ⟨b, rfl, hM4, hP4, hE4⟩

theorem asc_words {l : List Bs} (h : l.all (fun x => x.all (fun b => decide (b.toNat < 128)) && decide (x.length ≤ 1000)) = true) : (∀ x ∈ l, ∀ b ∈ x, b.toNat < 128) ∧ ∀ x ∈ l, x.length ≤ 1000 := by
  simp only [List.all_eq_true, Bool.and_eq_true, decide_eq_true_eq] at h
  exact ⟨fun x hx => (h x hx).1, fun x hx => (h x hx).2⟩
theorem strs_new2 (w : World) (a c : Bs) (T : TypeId) : StrsIn (w.alloc (.cells #[.string ⟨a.toArray⟩, .string ⟨c.toArray⟩] T)) (.slice (some ⟨w.heap.size, 0, none⟩) 2 2) [a, c] := by
  refine ⟨w.heap.size, 0, 2, rfl, ?_⟩
  intro j hj
  have hb := heap_alloc_new w (.cells #[.string ⟨a.toArray⟩, .string ⟨c.toArray⟩] T)
  match j, hj with
  | 0, _ => exact cell_of_heap hb 0
  | 1, _ => exact cell_of_heap hb 1

set_option maxRecDepth 100000 in
set_option maxHeartbeats 1000000 in
theorem term_any (w : World) (pb tg f : Nat) (s : PS) (h : PSt w pb tg s f) (hgo : Goes (minusF (subOf f)))
    (hpart : ∀ W s1, PSt W pb tg s1 f → Calls Tryz.prog 227 #[PtrV pb] W (PRes pb tg f (minusF (subOf f)) s1 W)) :
    Calls Tryz.prog 224 #[PtrV pb] w (PRes pb tg f (termF (subOf f)) s w) := by
  have hlt := h.lt
  have hMa := (Mods.refl [] w).alloc (.cells #[.string ⟨#[42]⟩, .string ⟨#[47]⟩] 9)
  have hasc := asc_words (l := [wStar, [47]]) (by decide)
  have hb : Calls Tryz.prog 119 #[PtrV pb, .func (.func 227) #[PtrV pb] #[], .slice (some ⟨w.heap.size, 0, none⟩) 2 2] (w.alloc (.cells #[.string ⟨#[42]⟩, .string ⟨#[47]⟩] 9)) (PRes pb tg f (termF (subOf f)) s (w.alloc (.cells #[.string ⟨#[42]⟩, .string ⟨#[47]⟩] 9))) :=
    joined_minus _ pb tg f s (h.later hMa) (minusF (subOf f)) hgo [wStar, [47]] hasc.1 (by decide) hasc.2 w.heap.size 0 2 2 (strs_new2 w wStar [47] 9) (by omega) hpart
  unfold PtrV at *
  have HMA := Lib.hid hMa
  clear h hpart hgo hasc hMa
  go_enter Tryz.func224, Tryz.ntmps224
  go_wp2_with fail
  (with_reducible refine hb.mono ?_)
  rintro e w3 ⟨b, rfl, hM4, hP4, hE4⟩
  dsimp only [PtrV]
  go_wp2_with fail
  go_ret
  exact PRes.earlier ⟨b, rfl, hM4, hP4, hE4⟩ HMA.out

set_option maxRecDepth 100000 in
set_option maxHeartbeats 1000000 in
theorem sum_any (w : World) (pb tg f : Nat) (s : PS) (h : PSt w pb tg s f) (hgo : Goes (termF (subOf f)))
    (hpart : ∀ W s1, PSt W pb tg s1 f → Calls Tryz.prog 224 #[PtrV pb] W (PRes pb tg f (termF (subOf f)) s1 W)) :
    Calls Tryz.prog 213 #[PtrV pb] w (PRes pb tg f (sumF (subOf f)) s w) := by
  have hlt := h.lt
  have hMa := (Mods.refl [] w).alloc (.cells #[.string ⟨#[43]⟩, .string ⟨#[45]⟩] 9)
  have hasc := asc_words (l := [[43], wMinus]) (by decide)
  have hb : Calls Tryz.prog 119 #[PtrV pb, .func (.func 224) #[PtrV pb] #[], .slice (some ⟨w.heap.size, 0, none⟩) 2 2] (w.alloc (.cells #[.string ⟨#[43]⟩, .string ⟨#[45]⟩] 9)) (PRes pb tg f (sumF (subOf f)) s (w.alloc (.cells #[.string ⟨#[43]⟩, .string ⟨#[45]⟩] 9))) :=
    joined_term _ pb tg f s (h.later hMa) (termF (subOf f)) hgo [[43], wMinus] hasc.1 (by decide) hasc.2 w.heap.size 0 2 2 (strs_new2 w [43] wMinus 9) (by omega) hpart
  unfold PtrV at *
  have HMA := Lib.hid hMa
  clear h hpart hgo hasc hMa
  go_enter Tryz.func213, Tryz.ntmps213
  go_wp2_with fail
  (with_reducible refine hb.mono ?_)
  rintro e w3 ⟨b, rfl, hM4, hP4, hE4⟩
  dsimp only [PtrV]
  go_wp2_with fail
  go_ret
  exact PRes.earlier ⟨b, rfl, hM4, hP4, hE4⟩ HMA.out

set_option maxRecDepth 100000 in
set_option maxHeartbeats 1000000 in
theorem and_any (w : World) (pb tg f : Nat) (s : PS) (h : PSt w pb tg s f) (hgo : Goes (notF (subOf f)))
    (hpart : ∀ W s1, PSt W pb tg s1 f → Calls Tryz.prog 160 #[PtrV pb] W (PRes pb tg f (notF (subOf f)) s1 W)) :
    Calls Tryz.prog 120 #[PtrV pb] w (PRes pb tg f (andF (subOf f)) s w) := by
  have hlt := h.lt
  have hMa := (Mods.refl [] w).alloc (.cells #[.string ⟨#[65, 78, 68]⟩] 9)
  have hasc := asc_words (l := [[65, 78, 68]]) (by decide)
  have hb : Calls Tryz.prog 119 #[PtrV pb, .func (.func 160) #[PtrV pb] #[], .slice (some ⟨w.heap.size, 0, none⟩) 1 1] (w.alloc (.cells #[.string ⟨#[65, 78, 68]⟩] 9)) (PRes pb tg f (andF (subOf f)) s (w.alloc (.cells #[.string ⟨#[65, 78, 68]⟩] 9))) :=
    joined_not _ pb tg f s (h.later hMa) (notF (subOf f)) hgo [[65, 78, 68]] hasc.1 (by decide) hasc.2 w.heap.size 0 1 1 (strs_new1 w [65, 78, 68] 9) (by omega) hpart
  unfold PtrV at *
  have HMA := Lib.hid hMa
  clear h hpart hgo hasc hMa
  go_enter Tryz.func120, Tryz.ntmps120
  go_wp2_with fail
  (with_reducible refine hb.mono ?_)
  rintro e w3 ⟨b, rfl, hM4, hP4, hE4⟩
  dsimp only [PtrV]
  go_wp2_with fail
  go_ret
  exact PRes.earlier ⟨b, rfl, hM4, hP4, hE4⟩ HMA.out

set_option maxRecDepth 100000 in
set_option maxHeartbeats 1000000 in
theorem expr_any (w : World) (pb tg f : Nat) (s : PS) (h : PSt w pb tg s f) (hgo : Goes (andF (subOf f)))
    (hpart : ∀ W s1, PSt W pb tg s1 f → Calls Tryz.prog 120 #[PtrV pb] W (PRes pb tg f (andF (subOf f)) s1 W)) :
    Calls Tryz.prog 64 #[PtrV pb] w (PRes pb tg f (exprF (subOf f)) s w) := by
  have hlt := h.lt
  have hMa := (Mods.refl [] w).alloc (.cells #[.string ⟨#[79, 82]⟩] 9)
  have hasc := asc_words (l := [[79, 82]]) (by decide)
  have hb : Calls Tryz.prog 119 #[PtrV pb, .func (.func 120) #[PtrV pb] #[], .slice (some ⟨w.heap.size, 0, none⟩) 1 1] (w.alloc (.cells #[.string ⟨#[79, 82]⟩] 9)) (PRes pb tg f (exprF (subOf f)) s (w.alloc (.cells #[.string ⟨#[79, 82]⟩] 9))) :=
    joined_and _ pb tg f s (h.later hMa) (andF (subOf f)) hgo [[79, 82]] hasc.1 (by decide) hasc.2 w.heap.size 0 1 1 (strs_new1 w [79, 82] 9) (by omega) hpart
  unfold PtrV at *
  have HMA := Lib.hid hMa
  clear h hpart hgo hasc hMa
  go_enter Tryz.func64, Tryz.ntmps64
  go_wp2_with fail
  (with_reducible refine hb.mono ?_)
  rintro e w3 ⟨b, rfl, hM4, hP4, hE4⟩
  dsimp only [PtrV]
  go_wp2_with fail
  go_ret
  exact PRes.earlier ⟨b, rfl, hM4, hP4, hE4⟩ HMA.out
end Go.Proofs.YtpokbepenacnpaaGreatDoor
