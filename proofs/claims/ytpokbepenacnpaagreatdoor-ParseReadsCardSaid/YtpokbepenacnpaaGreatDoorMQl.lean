/-
  The document's parser: key, walked. No condition.
-/
import Derived.Test.YtpokbepenacnpaaGreatDoorMQj
import Derived.Test.YtpokbepenacnpaaGreatDoorMPt
import Derived.Test.YtpokbepenacnpaaGreatDoorMPf
namespace Go.Proofs.YtpokbepenacnpaaGreatDoor
open Go.RowKit
set_option linter.unusedVariables false

def refHead (s : PS) : (Int × Bs) × PS := if s.e = 0 ∧ s.now.kind = 2 then ((0, s.name.1), s.name.2) else ((s.count.1, []), s.count.2)
def refKey (s : PS) : KeyT × PS :=
  (⟨s.now.pos, (refHead s).1.1, (refHead s).1.2, ((refHead s).2.takes wDesc).1⟩, if ((refHead s).2.takes wDesc).1 = true then ((refHead s).2.takes wDesc).2 else (((refHead s).2.takes wDesc).2.takes wAsc).2)
theorem refHead_eq (s : PS) : (refHead s).2 = (keyHead s).2 ∧ (s.e = 0 → refHead s = keyHead s) := by
  by_cases he : s.e = 0
  · have h : refHead s = keyHead s := by
      unfold refHead keyHead
      by_cases hk : s.now.kind = 2
      · rw [if_pos ⟨he, hk⟩, if_pos hk]
      · rw [if_neg (fun h => hk h.2), if_neg hk]
    exact ⟨by rw [h], fun _ => h⟩
  · refine ⟨?_, fun h => absurd h he⟩
    rw [(goes_keyHead s).err he]
    unfold refHead
    rw [if_neg (fun h => he h.1)]
    exact (aft_count s).err he
theorem refKey_eq (s : PS) : (refKey s).2 = (keyF s).2 ∧ ((keyF s).2.e = 0 → (refKey s).1 = (keyF s).1) := by
  obtain ⟨h1, h2⟩ := refHead_eq s
  constructor
  · unfold refKey keyF
    simp only [h1]
  · intro h
    have he : s.e = 0 := by
      rcases Nat.eq_zero_or_pos s.e with h0 | h0
      · exact h0
      · have := (goes_key s).err (by omega)
        rw [this] at h
        exact h
    unfold refKey keyF
    rw [h2 he]
/-- What key hands back. -/
def RKey (pb tg : Nat) (ts : List Tok) (f : Nat) (s : PS) (w : World) (e : Ending) (w' : World) : Prop :=
  ∃ k : KeyT, e = .returned (.agg #[.int .i64 k.pos, .int .i64 k.item, .string ⟨k.name.toArray⟩, .bool k.desc]) ∧ Mods [pb] w w' ∧ RSt w' pb tg ts (keyF s).2 f ∧ ((keyF s).2.e = 0 → k = (keyF s).1)
def CutKey (w : World) (A : Array Value) (T : TypeId) (v : Value) (wx : World) : Prop := v = .pointer (some ⟨w.heap.size, 0, none⟩) ∧ Mods [] w wx ∧ w.heap.size < wx.heap.size ∧ wx.heap[w.heap.size]? = some (.cells A T (0, 0))
theorem CutKey.made (w : World) (A : Array Value) (T : TypeId) : CutKey w A T (.pointer (some ⟨w.heap.size, 0, none⟩)) (w.alloc (.cells A T)).drew :=
  ⟨rfl, ((Mods.refl [] w).alloc _).drew, by show w.heap.size < (w.heap.push _).size; rw [Array.size_push]; exact Nat.lt_succ_self _, heap_alloc_new w _⟩

set_option maxRecDepth 100000 in
set_option maxHeartbeats 4000000 in
theorem qkey_ref (w : World) (pb tg : Nat) (ts : List Tok) (f : Nat) (s : PS) (h : RSt w pb tg ts s f) :
    Calls Tryz.prog 83 #[PtrV pb] w (RKey pb tg ts f s w) := by
  have hpw := h.lt
  have hMr := (Mods.refl [] w).alloc (.cells #[.int .i64 0, .int .i64 0, .string ⟨#[]⟩, .bool false] 107)
  have hP1 := h.later hMr
  have hrow0 := heap_alloc_new w (.cells #[.int .i64 0, .int .i64 0, .string ⟨#[]⟩, .bool false] 107)
  have hinfo : (Tryz.prog.info? 107).map (·.size) = some 4 := by kernel_rfl
  have FIN : Hid (∀ (k : Int) (nm : Bs) (d : Bool) s' w', Mods [pb] w w' → RSt w' pb tg ts s' f → refKey s = (⟨s.now.pos, k, nm, d⟩, s') → RKey pb tg ts f s w (.returned (.agg #[.int .i64 s.now.pos, .int .i64 k, .string ⟨nm.toArray⟩, .bool d])) w') :=
    Lib.hid (fun k nm d s' w' a1 a2 a3 => by
      obtain ⟨e1, e2⟩ := refKey_eq s
      rw [a3] at e1 e2
      exact ⟨⟨s.now.pos, k, nm, d⟩, rfl, a1, by rw [← e1]; exact a2, e2⟩)
  have HKF : Hid (refKey s = (⟨s.now.pos, (refHead s).1.1, (refHead s).1.2, ((refHead s).2.takes wDesc).1⟩, if ((refHead s).2.takes wDesc).1 = true then ((refHead s).2.takes wDesc).2 else (((refHead s).2.takes wDesc).2.takes wAsc).2)) := Lib.hid rfl
  have HHD : Hid (refHead s = if s.e = 0 ∧ s.now.kind = 2 then ((0, s.name.1), s.name.2) else ((s.count.1, []), s.count.2)) := Lib.hid rfl
  unfold PtrV
  have hMwr := hMr.mono (L' := [pb]) (by simp)
  clear h hMr
  have hrbl : w.heap.size < (w.alloc (.cells #[.int .i64 0, .int .i64 0, .string ⟨#[]⟩, .bool false] 107)).heap.size := by
    show w.heap.size < (w.heap.push _).size
    rw [Array.size_push]; exact Nat.lt_succ_self _
  go_enter Tryz.func83, Tryz.ntmps83
  go_upto_region 1 with fail
  generalize w.alloc (.cells #[.int .i64 0, .int .i64 0, .string ⟨#[]⟩, .bool false] 107) = w1 at *
  generalize hrb : w.heap.size = rb at *
  obtain ⟨i, cap, d, hb, hd, hi, ⟨hl, htp, hf⟩, ⟨c0, c1, c2, c3, c4⟩, -, -⟩ := hP1.tok
  have a0 := cell_of_heap hb 0
  have a1 := cell_of_heap hb 1
  have a3 := cell_of_heap hb 3
  change w1.cell? _ = some (.slice (some ⟨tg, 0, none⟩) ts.length cap) at a0
  change w1.cell? _ = some (.int .i64 i) at a1
  change w1.cell? _ = some (.int .i64 s.e) at a3
  have hii : (i : Int) < (ts.length : Int) := by omega
  obtain ⟨n, hn⟩ : ∃ n, ts.length = n := ⟨_, rfl⟩
  rw [hn] at a0 hii
  have hM1 : Mods [] w1 w1.drew := (Mods.refl [] w1).drew
  have x0 := hM1.cell a0 (by simp)
  have x1 := hM1.cell a1 (by simp)
  have y1 := hM1.cell c1 (by simp)
  have hz := (Mods.refl [] w1).alloc (.cells #[.int .i64 0, .int .i64 0, .string ⟨#[]⟩, .bool false] 107)
  have b0 := hz.cell a0 (by simp)
  have b1 := hz.cell a1 (by simp)
  have d1 := hz.cell c1 (by simp)
  have hrow := heap_alloc_new w1 (.cells #[.int .i64 0, .int .i64 0, .string ⟨#[]⟩, .bool false] 107)
  have HP := Lib.hid (And.intro hP1 (And.intro hn (And.intro hb c0)))
  generalize s.now.pos = pos at *
  clear hb hd c0 c2 c3 c4 hP1 hn
  go_cut [3] from 4 to 15 (fun s3 wx => CutKey w1 #[.int .i64 pos, .int .i64 0, .string ⟨#[]⟩, .bool false] 107 s3 wx)
  case first =>
    go_region_law (refine wpList_store_row rfl 107 (.tmp 3) (.tmp 15) rfl w1.heap.size #[.int .i64 pos, .int .i64 0, .string ⟨#[]⟩, .bool false] rfl rfl 107 _ hrow hinfo rfl (key_one _ _ _ _) ?_)
    all_goals
      go_wp2_with fail
      go_meet
      exact CutKey.made w1 _ _
  case rest =>
    obtain ⟨rfl, hMn, hsz, hi3⟩ := hcut
    have hP3 := HP.out.1.later hMn
    have hrow3 := hMn.heap hrow0 (by simp)
    have hcc := hMn.cell HP.out.2.2.2 (by simp)
    have hbb := hMn.heap HP.out.2.2.1 (by simp)
    rw [HP.out.2.1] at hbb
    have v0 := cell_of_heap hbb 0
    have v1 := cell_of_heap hbb 1
    have v3 := cell_of_heap hbb 3
    change wc.cell? _ = some (.slice (some ⟨tg, 0, none⟩) n cap) at v0
    change wc.cell? _ = some (.int .i64 i) at v1
    change wc.cell? _ = some (.int .i64 s.e) at v3
    have hpx := HP.out.1.lt
    obtain ⟨ib, hib⟩ : ∃ ib, w1.heap.size = ib := ⟨_, rfl⟩
    rw [hib] at hsz hi3 hrbl hpx
    rw [hib]
    have HM2 := Lib.hid (And.intro hMwr hMn)
    clear hib hrow hz b0 b1 d1 x0 x1 y1 hM1 a0 a1 a3 c1 hrow0 hMwr hMn hbb HP
    go_upto_region 2 with fail
    have hzz : (¬ s.e = 0 ∧ ((s.e : Int) == 0) = false) ∨ (s.e = 0 ∧ ((s.e : Int) == 0) = true ∧ s.now.kind = 2 ∧ ((s.now.kind : Int) == 2) = true) ∨ (s.e = 0 ∧ ((s.e : Int) == 0) = true ∧ ¬ s.now.kind = 2 ∧ ((s.now.kind : Int) == 2) = false) := by
      by_cases he : s.e = 0
      · by_cases hk : s.now.kind = 2
        · exact .inr (.inl ⟨he, by rw [beq_iff_eq]; omega, hk, by rw [beq_iff_eq]; omega⟩)
        · exact .inr (.inr ⟨he, by rw [beq_iff_eq]; omega, hk, by rw [beq_eq_false_iff_ne]; omega⟩)
      · exact .inl ⟨he, by rw [beq_eq_false_iff_ne]; omega⟩
    rcases hzz with ⟨he, z0⟩ | ⟨he, z0, hk, z2⟩ | ⟨he, z0, hk, z2⟩
    · have hhd : refHead s = ((s.count.1, []), s.count.2) := by rw [HHD.out, if_neg (fun h => he h.1)]
      have HHd := Lib.hid hhd
      clear he hhd HHD
      go_quiet (fail)
      have hx4 := (Mods.refl [] wc).drewN nq
      have hi4 := hx4.heap hi3 (by simp)
      have hrow4 := hx4.heap hrow3 (by simp)
      have hP4 := hP3.later hx4
      have HM24 := Lib.hid (And.intro HM2.out.1 ((HM2.out.2.trans hx4 (by simp)).mono (L' := [ib, rb, pb]) (by simp)))
      generalize wc.drewN nq = w4 at *
      clear hi3 hrow3 hP3 HM2 hx4 v0 v1 v3 hcc hsz
      have hc := count_ref w4 pb tg ts s f hP4
      unfold PtrV at hc
      clear hP4
      generalize s.count = r at *
      obtain ⟨i6, s6⟩ := r
      go_wp2_with fail
      (with_reducible refine hc.mono ?_)
      rintro e w5 ⟨rfl, hM5, hP5⟩
      have hi5 := hM5.heap hi4 (by simp; omega)
      have hrow5 := hM5.heap hrow4 (by simp; omega)
      have c2 := cell_of_heap hi5 1
      have f2 := frozen_of_heap hi5 1
      change w5.cell? _ = some (.int .i64 0) at c2
      clear hc
      go_upto_region 5 with fail
      have hM6 : Mods [ib] w5 (w5.setCell ⟨ib, 1, none⟩ (.int .i64 i6)) := (Mods.refl _ _).setCell (.inl (by simp)) _
      have hi6 := heap_setCell_same hi5 1 (.int .i64 i6)
      have hrow6 := hM6.heap hrow5 (by simp; omega)
      have hP6 := hP5.mods hM6 (by simp; omega) (by simp; omega)
      have hM26 := (HM24.out.2.trans hM5 (L' := [pb]) (by simp)).trans hM6 (by simp)
      have HM26 := Lib.hid (And.intro HM24.out.1 hM26)
      change (w5.setCell ⟨ib, 1, none⟩ (.int .i64 i6)).heap[ib]? = some (.cells #[.int .i64 pos, .int .i64 i6, .string ⟨([] : Bs).toArray⟩, .bool false] 107 (0, 0)) at hi6
      clear hM26 HM24 hM6 hi5 hrow5 c2 f2 hM5 hP5 hi4 hrow4
      generalize w5.setCell ⟨ib, 1, none⟩ (.int .i64 i6) = w6 at *
      have htd : Calls Tryz.prog 80 #[PtrV pb, .string ⟨#[68, 69, 83, 67]⟩] w6 _ := takes_ref w6 pb tg ts s6 f hP6 wDesc
      unfold PtrV at htd
      have hkf : refKey s = (⟨pos, i6, ([] : Bs), (s6.takes wDesc).1⟩, if (s6.takes wDesc).1 = true then (s6.takes wDesc).2 else ((s6.takes wDesc).2.takes wAsc).2) := by rw [HKF.out, HHd.out]
      have HK2 := Lib.hid hkf
      clear hkf HKF HHd hP6
      generalize s6.takes wDesc = r7 at *
      obtain ⟨d7, s7⟩ := r7
      go_wp2_with fail
      (with_reducible refine htd.mono ?_)
      rintro e w7 ⟨rfl, hM7, hP7⟩
      have hi7 := hM7.heap hi6 (by simp; omega)
      have hrow7 := hM7.heap hrow6 (by simp; omega)
      have HM27 := Lib.hid (And.intro HM26.out.1 (HM26.out.2.trans hM7 (by simp)))
      clear htd hi6 hrow6 hM7 HM26
      cases d7 with
      | true =>
        have c3 := cell_of_heap hi7 3
        have f3 := frozen_of_heap hi7 3
        change w7.cell? _ = some (.bool false) at c3
        have HK3 : Hid (refKey s = (⟨pos, i6, ([] : Bs), true⟩, s7)) := Lib.hid HK2.out
        clear HK2
        go_upto_region 8 with fail
        have hM8 : Mods [ib] w7 (w7.setCell ⟨ib, 3, none⟩ (.bool true)) := (Mods.refl _ _).setCell (.inl (by simp)) _
        have hi8 := heap_setCell_same hi7 3 (.bool true)
        have hrow8 := hM8.heap hrow7 (by simp; omega)
        have hP8 := hP7.mods hM8 (by simp; omega) (by simp; omega)
        have HM28 := Lib.hid (And.intro HM27.out.1 (HM27.out.2.trans hM8 (by simp)))
        change (w7.setCell ⟨ib, 3, none⟩ (.bool true)).heap[ib]? = some (.cells #[.int .i64 pos, .int .i64 i6, .string ⟨([] : Bs).toArray⟩, .bool true] 107 (0, 0)) at hi8
        clear HM27 hM8 hi7 hrow7 c3 f3 hP7
        generalize w7.setCell ⟨ib, 3, none⟩ (.bool true) = w8 at *
        have k0 := cell_of_heap hi8 0
        have k1 := cell_of_heap hi8 1
        have k2 := cell_of_heap hi8 2
        have k3 := cell_of_heap hi8 3
        change w8.cell? _ = some (.int .i64 pos) at k0
        change w8.cell? _ = some (.int .i64 i6) at k1
        change w8.cell? _ = some (.string ⟨([] : Bs).toArray⟩) at k2
        change w8.cell? _ = some (.bool true) at k3
        go_wp2_with (refine wpList_store_row rfl 107 (.tmp 2) (.tmp 46) rfl rb #[.int .i64 pos, .int .i64 i6, .string ⟨([] : Bs).toArray⟩, .bool true] rfl rfl 107 _ hrow8 hinfo rfl (key_one _ _ _ _) ?_)
        have hMe : Mods [rb] w8 (w8.setRow rb #[.int .i64 pos, .int .i64 i6, .string ⟨([] : Bs).toArray⟩, .bool true]) := (Mods.refl _ _).setRow (.inl (by simp)) _
        have hre := row_set_same #[.int .i64 pos, .int .i64 i6, .string ⟨([] : Bs).toArray⟩, .bool true] hrow8
        have hPe := hP8.mods hMe (by simp; omega) (by simp; omega)
        have hM2e := HM28.out.2.trans hMe (by simp)
        generalize w8.setRow rb #[.int .i64 pos, .int .i64 i6, .string ⟨([] : Bs).toArray⟩, .bool true] = we at *
        have q0 := cell_of_heap hre 0
        have q1 := cell_of_heap hre 1
        have q2 := cell_of_heap hre 2
        have q3 := cell_of_heap hre 3
        change we.cell? _ = some (.int .i64 pos) at q0
        change we.cell? _ = some (.int .i64 i6) at q1
        change we.cell? _ = some (.string ⟨([] : Bs).toArray⟩) at q2
        change we.cell? _ = some (.bool true) at q3
        refine bodyPost_ret (by simp [results, Tryz.results83, go_sem, q0, q1, q2, q3, Result.andThen]; try rfl) rfl ?_
        exact FIN.out i6 ([] : Bs) true s7 we (HM28.out.1.trans hM2e (fun x hx => by simp at hx; rcases hx with h | h | h <;> simp [h] <;> omega)) hPe HK3.out
      | false =>
        have HK3 : Hid (refKey s = (⟨pos, i6, ([] : Bs), false⟩, (s7.takes wAsc).2)) := Lib.hid HK2.out
        have hta : Calls Tryz.prog 80 #[PtrV pb, .string ⟨#[65, 83, 67]⟩] w7 _ := takes_ref w7 pb tg ts s7 f hP7 wAsc
        unfold PtrV at hta
        clear HK2 hP7
        go_wp2_with fail
        (with_reducible refine hta.mono ?_)
        rintro e w9 ⟨rfl, hM9, hP9⟩
        generalize (s7.takes wAsc).2 = s9 at *
        have hi9 := hM9.heap hi7 (by simp; omega)
        have hrow9 := hM9.heap hrow7 (by simp; omega)
        have HM29 := Lib.hid (And.intro HM27.out.1 (HM27.out.2.trans hM9 (by simp)))
        clear hta hi7 hrow7 hM9 HM27
        go_upto_region 8 with fail
        have k0 := cell_of_heap hi9 0
        have k1 := cell_of_heap hi9 1
        have k2 := cell_of_heap hi9 2
        have k3 := cell_of_heap hi9 3
        change w9.cell? _ = some (.int .i64 pos) at k0
        change w9.cell? _ = some (.int .i64 i6) at k1
        change w9.cell? _ = some (.string ⟨([] : Bs).toArray⟩) at k2
        change w9.cell? _ = some (.bool false) at k3
        go_wp2_with (refine wpList_store_row rfl 107 (.tmp 2) (.tmp 46) rfl rb #[.int .i64 pos, .int .i64 i6, .string ⟨([] : Bs).toArray⟩, .bool false] rfl rfl 107 _ hrow9 hinfo rfl (key_one _ _ _ _) ?_)
        have hMe : Mods [rb] w9 (w9.setRow rb #[.int .i64 pos, .int .i64 i6, .string ⟨([] : Bs).toArray⟩, .bool false]) := (Mods.refl _ _).setRow (.inl (by simp)) _
        have hre := row_set_same #[.int .i64 pos, .int .i64 i6, .string ⟨([] : Bs).toArray⟩, .bool false] hrow9
        have hPe := hP9.mods hMe (by simp; omega) (by simp; omega)
        have hM2e := HM29.out.2.trans hMe (by simp)
        generalize w9.setRow rb #[.int .i64 pos, .int .i64 i6, .string ⟨([] : Bs).toArray⟩, .bool false] = we at *
        have q0 := cell_of_heap hre 0
        have q1 := cell_of_heap hre 1
        have q2 := cell_of_heap hre 2
        have q3 := cell_of_heap hre 3
        change we.cell? _ = some (.int .i64 pos) at q0
        change we.cell? _ = some (.int .i64 i6) at q1
        change we.cell? _ = some (.string ⟨([] : Bs).toArray⟩) at q2
        change we.cell? _ = some (.bool false) at q3
        refine bodyPost_ret (by simp [results, Tryz.results83, go_sem, q0, q1, q2, q3, Result.andThen]; try rfl) rfl ?_
        exact FIN.out i6 ([] : Bs) false s9 we (HM29.out.1.trans hM2e (fun x hx => by simp at hx; rcases hx with h | h | h <;> simp [h] <;> omega)) hPe HK3.out
    · have hhd : refHead s = ((0, s.name.1), s.name.2) := by rw [HHD.out, if_pos ⟨he, hk⟩]
      have HHd := Lib.hid hhd
      clear he hk hhd HHD
      go_quiet (fail)
      have hx4 := (Mods.refl [] wc).drewN nq
      have hi4 := hx4.heap hi3 (by simp)
      have hrow4 := hx4.heap hrow3 (by simp)
      have hP4 := hP3.later hx4
      have HM24 := Lib.hid (And.intro HM2.out.1 ((HM2.out.2.trans hx4 (by simp)).mono (L' := [ib, rb, pb]) (by simp)))
      generalize wc.drewN nq = w4 at *
      clear hi3 hrow3 hP3 HM2 hx4 v0 v1 v3 hcc hsz
      have hc := name_ref w4 pb tg ts s f hP4
      unfold PtrV at hc
      clear hP4
      generalize s.name = r at *
      obtain ⟨n6, s6⟩ := r
      go_wp2_with fail
      (with_reducible refine hc.mono ?_)
      rintro e w5 ⟨rfl, hM5, hP5⟩
      have hi5 := hM5.heap hi4 (by simp; omega)
      have hrow5 := hM5.heap hrow4 (by simp; omega)
      have c2 := cell_of_heap hi5 2
      have f2 := frozen_of_heap hi5 2
      change w5.cell? _ = some (.string ⟨#[]⟩) at c2
      clear hc
      go_upto_region 5 with fail
      have hM6 : Mods [ib] w5 (w5.setCell ⟨ib, 2, none⟩ (.string ⟨n6.toArray⟩)) := (Mods.refl _ _).setCell (.inl (by simp)) _
      have hi6 := heap_setCell_same hi5 2 (.string ⟨n6.toArray⟩)
      have hrow6 := hM6.heap hrow5 (by simp; omega)
      have hP6 := hP5.mods hM6 (by simp; omega) (by simp; omega)
      have hM26 := (HM24.out.2.trans hM5 (L' := [pb]) (by simp)).trans hM6 (by simp)
      have HM26 := Lib.hid (And.intro HM24.out.1 hM26)
      change (w5.setCell ⟨ib, 2, none⟩ (.string ⟨n6.toArray⟩)).heap[ib]? = some (.cells #[.int .i64 pos, .int .i64 0, .string ⟨n6.toArray⟩, .bool false] 107 (0, 0)) at hi6
      clear hM26 HM24 hM6 hi5 hrow5 c2 f2 hM5 hP5 hi4 hrow4
      generalize w5.setCell ⟨ib, 2, none⟩ (.string ⟨n6.toArray⟩) = w6 at *
      have htd : Calls Tryz.prog 80 #[PtrV pb, .string ⟨#[68, 69, 83, 67]⟩] w6 _ := takes_ref w6 pb tg ts s6 f hP6 wDesc
      unfold PtrV at htd
      have hkf : refKey s = (⟨pos, 0, n6, (s6.takes wDesc).1⟩, if (s6.takes wDesc).1 = true then (s6.takes wDesc).2 else ((s6.takes wDesc).2.takes wAsc).2) := by rw [HKF.out, HHd.out]
      have HK2 := Lib.hid hkf
      clear hkf HKF HHd hP6
      generalize s6.takes wDesc = r7 at *
      obtain ⟨d7, s7⟩ := r7
      go_wp2_with fail
      (with_reducible refine htd.mono ?_)
      rintro e w7 ⟨rfl, hM7, hP7⟩
      have hi7 := hM7.heap hi6 (by simp; omega)
      have hrow7 := hM7.heap hrow6 (by simp; omega)
      have HM27 := Lib.hid (And.intro HM26.out.1 (HM26.out.2.trans hM7 (by simp)))
      clear htd hi6 hrow6 hM7 HM26
      cases d7 with
      | true =>
        have c3 := cell_of_heap hi7 3
        have f3 := frozen_of_heap hi7 3
        change w7.cell? _ = some (.bool false) at c3
        have HK3 : Hid (refKey s = (⟨pos, 0, n6, true⟩, s7)) := Lib.hid HK2.out
        clear HK2
        go_upto_region 8 with fail
        have hM8 : Mods [ib] w7 (w7.setCell ⟨ib, 3, none⟩ (.bool true)) := (Mods.refl _ _).setCell (.inl (by simp)) _
        have hi8 := heap_setCell_same hi7 3 (.bool true)
        have hrow8 := hM8.heap hrow7 (by simp; omega)
        have hP8 := hP7.mods hM8 (by simp; omega) (by simp; omega)
        have HM28 := Lib.hid (And.intro HM27.out.1 (HM27.out.2.trans hM8 (by simp)))
        change (w7.setCell ⟨ib, 3, none⟩ (.bool true)).heap[ib]? = some (.cells #[.int .i64 pos, .int .i64 0, .string ⟨n6.toArray⟩, .bool true] 107 (0, 0)) at hi8
        clear HM27 hM8 hi7 hrow7 c3 f3 hP7
        generalize w7.setCell ⟨ib, 3, none⟩ (.bool true) = w8 at *
        have k0 := cell_of_heap hi8 0
        have k1 := cell_of_heap hi8 1
        have k2 := cell_of_heap hi8 2
        have k3 := cell_of_heap hi8 3
        change w8.cell? _ = some (.int .i64 pos) at k0
        change w8.cell? _ = some (.int .i64 0) at k1
        change w8.cell? _ = some (.string ⟨n6.toArray⟩) at k2
        change w8.cell? _ = some (.bool true) at k3
        go_wp2_with (refine wpList_store_row rfl 107 (.tmp 2) (.tmp 46) rfl rb #[.int .i64 pos, .int .i64 0, .string ⟨n6.toArray⟩, .bool true] rfl rfl 107 _ hrow8 hinfo rfl (key_one _ _ _ _) ?_)
        have hMe : Mods [rb] w8 (w8.setRow rb #[.int .i64 pos, .int .i64 0, .string ⟨n6.toArray⟩, .bool true]) := (Mods.refl _ _).setRow (.inl (by simp)) _
        have hre := row_set_same #[.int .i64 pos, .int .i64 0, .string ⟨n6.toArray⟩, .bool true] hrow8
        have hPe := hP8.mods hMe (by simp; omega) (by simp; omega)
        have hM2e := HM28.out.2.trans hMe (by simp)
        generalize w8.setRow rb #[.int .i64 pos, .int .i64 0, .string ⟨n6.toArray⟩, .bool true] = we at *
        have q0 := cell_of_heap hre 0
        have q1 := cell_of_heap hre 1
        have q2 := cell_of_heap hre 2
        have q3 := cell_of_heap hre 3
        change we.cell? _ = some (.int .i64 pos) at q0
        change we.cell? _ = some (.int .i64 0) at q1
        change we.cell? _ = some (.string ⟨n6.toArray⟩) at q2
        change we.cell? _ = some (.bool true) at q3
        refine bodyPost_ret (by simp [results, Tryz.results83, go_sem, q0, q1, q2, q3, Result.andThen]; try rfl) rfl ?_
        exact FIN.out 0 n6 true s7 we (HM28.out.1.trans hM2e (fun x hx => by simp at hx; rcases hx with h | h | h <;> simp [h] <;> omega)) hPe HK3.out
      | false =>
        have HK3 : Hid (refKey s = (⟨pos, 0, n6, false⟩, (s7.takes wAsc).2)) := Lib.hid HK2.out
        have hta : Calls Tryz.prog 80 #[PtrV pb, .string ⟨#[65, 83, 67]⟩] w7 _ := takes_ref w7 pb tg ts s7 f hP7 wAsc
        unfold PtrV at hta
        clear HK2 hP7
        go_wp2_with fail
        (with_reducible refine hta.mono ?_)
        rintro e w9 ⟨rfl, hM9, hP9⟩
        generalize (s7.takes wAsc).2 = s9 at *
        have hi9 := hM9.heap hi7 (by simp; omega)
        have hrow9 := hM9.heap hrow7 (by simp; omega)
        have HM29 := Lib.hid (And.intro HM27.out.1 (HM27.out.2.trans hM9 (by simp)))
        clear hta hi7 hrow7 hM9 HM27
        go_upto_region 8 with fail
        have k0 := cell_of_heap hi9 0
        have k1 := cell_of_heap hi9 1
        have k2 := cell_of_heap hi9 2
        have k3 := cell_of_heap hi9 3
        change w9.cell? _ = some (.int .i64 pos) at k0
        change w9.cell? _ = some (.int .i64 0) at k1
        change w9.cell? _ = some (.string ⟨n6.toArray⟩) at k2
        change w9.cell? _ = some (.bool false) at k3
        go_wp2_with (refine wpList_store_row rfl 107 (.tmp 2) (.tmp 46) rfl rb #[.int .i64 pos, .int .i64 0, .string ⟨n6.toArray⟩, .bool false] rfl rfl 107 _ hrow9 hinfo rfl (key_one _ _ _ _) ?_)
        have hMe : Mods [rb] w9 (w9.setRow rb #[.int .i64 pos, .int .i64 0, .string ⟨n6.toArray⟩, .bool false]) := (Mods.refl _ _).setRow (.inl (by simp)) _
        have hre := row_set_same #[.int .i64 pos, .int .i64 0, .string ⟨n6.toArray⟩, .bool false] hrow9
        have hPe := hP9.mods hMe (by simp; omega) (by simp; omega)
        have hM2e := HM29.out.2.trans hMe (by simp)
        generalize w9.setRow rb #[.int .i64 pos, .int .i64 0, .string ⟨n6.toArray⟩, .bool false] = we at *
        have q0 := cell_of_heap hre 0
        have q1 := cell_of_heap hre 1
        have q2 := cell_of_heap hre 2
        have q3 := cell_of_heap hre 3
        change we.cell? _ = some (.int .i64 pos) at q0
        change we.cell? _ = some (.int .i64 0) at q1
        change we.cell? _ = some (.string ⟨n6.toArray⟩) at q2
        change we.cell? _ = some (.bool false) at q3
        refine bodyPost_ret (by simp [results, Tryz.results83, go_sem, q0, q1, q2, q3, Result.andThen]; try rfl) rfl ?_
        exact FIN.out 0 n6 false s9 we (HM29.out.1.trans hM2e (fun x hx => by simp at hx; rcases hx with h | h | h <;> simp [h] <;> omega)) hPe HK3.out
    · have hhd : refHead s = ((s.count.1, []), s.count.2) := by rw [HHD.out, if_neg (fun h => hk h.2)]
      have HHd := Lib.hid hhd
      clear he hk hhd HHD
      go_quiet (fail)
      have hx4 := (Mods.refl [] wc).drewN nq
      have hi4 := hx4.heap hi3 (by simp)
      have hrow4 := hx4.heap hrow3 (by simp)
      have hP4 := hP3.later hx4
      have HM24 := Lib.hid (And.intro HM2.out.1 ((HM2.out.2.trans hx4 (by simp)).mono (L' := [ib, rb, pb]) (by simp)))
      generalize wc.drewN nq = w4 at *
      clear hi3 hrow3 hP3 HM2 hx4 v0 v1 v3 hcc hsz
      have hc := count_ref w4 pb tg ts s f hP4
      unfold PtrV at hc
      clear hP4
      generalize s.count = r at *
      obtain ⟨i6, s6⟩ := r
      go_wp2_with fail
      (with_reducible refine hc.mono ?_)
      rintro e w5 ⟨rfl, hM5, hP5⟩
      have hi5 := hM5.heap hi4 (by simp; omega)
      have hrow5 := hM5.heap hrow4 (by simp; omega)
      have c2 := cell_of_heap hi5 1
      have f2 := frozen_of_heap hi5 1
      change w5.cell? _ = some (.int .i64 0) at c2
      clear hc
      go_upto_region 5 with fail
      have hM6 : Mods [ib] w5 (w5.setCell ⟨ib, 1, none⟩ (.int .i64 i6)) := (Mods.refl _ _).setCell (.inl (by simp)) _
      have hi6 := heap_setCell_same hi5 1 (.int .i64 i6)
      have hrow6 := hM6.heap hrow5 (by simp; omega)
      have hP6 := hP5.mods hM6 (by simp; omega) (by simp; omega)
      have hM26 := (HM24.out.2.trans hM5 (L' := [pb]) (by simp)).trans hM6 (by simp)
      have HM26 := Lib.hid (And.intro HM24.out.1 hM26)
      change (w5.setCell ⟨ib, 1, none⟩ (.int .i64 i6)).heap[ib]? = some (.cells #[.int .i64 pos, .int .i64 i6, .string ⟨([] : Bs).toArray⟩, .bool false] 107 (0, 0)) at hi6
      clear hM26 HM24 hM6 hi5 hrow5 c2 f2 hM5 hP5 hi4 hrow4
      generalize w5.setCell ⟨ib, 1, none⟩ (.int .i64 i6) = w6 at *
      have htd : Calls Tryz.prog 80 #[PtrV pb, .string ⟨#[68, 69, 83, 67]⟩] w6 _ := takes_ref w6 pb tg ts s6 f hP6 wDesc
      unfold PtrV at htd
      have hkf : refKey s = (⟨pos, i6, ([] : Bs), (s6.takes wDesc).1⟩, if (s6.takes wDesc).1 = true then (s6.takes wDesc).2 else ((s6.takes wDesc).2.takes wAsc).2) := by rw [HKF.out, HHd.out]
      have HK2 := Lib.hid hkf
      clear hkf HKF HHd hP6
      generalize s6.takes wDesc = r7 at *
      obtain ⟨d7, s7⟩ := r7
      go_wp2_with fail
      (with_reducible refine htd.mono ?_)
      rintro e w7 ⟨rfl, hM7, hP7⟩
      have hi7 := hM7.heap hi6 (by simp; omega)
      have hrow7 := hM7.heap hrow6 (by simp; omega)
      have HM27 := Lib.hid (And.intro HM26.out.1 (HM26.out.2.trans hM7 (by simp)))
      clear htd hi6 hrow6 hM7 HM26
      cases d7 with
      | true =>
        have c3 := cell_of_heap hi7 3
        have f3 := frozen_of_heap hi7 3
        change w7.cell? _ = some (.bool false) at c3
        have HK3 : Hid (refKey s = (⟨pos, i6, ([] : Bs), true⟩, s7)) := Lib.hid HK2.out
        clear HK2
        go_upto_region 8 with fail
        have hM8 : Mods [ib] w7 (w7.setCell ⟨ib, 3, none⟩ (.bool true)) := (Mods.refl _ _).setCell (.inl (by simp)) _
        have hi8 := heap_setCell_same hi7 3 (.bool true)
        have hrow8 := hM8.heap hrow7 (by simp; omega)
        have hP8 := hP7.mods hM8 (by simp; omega) (by simp; omega)
        have HM28 := Lib.hid (And.intro HM27.out.1 (HM27.out.2.trans hM8 (by simp)))
        change (w7.setCell ⟨ib, 3, none⟩ (.bool true)).heap[ib]? = some (.cells #[.int .i64 pos, .int .i64 i6, .string ⟨([] : Bs).toArray⟩, .bool true] 107 (0, 0)) at hi8
        clear HM27 hM8 hi7 hrow7 c3 f3 hP7
        generalize w7.setCell ⟨ib, 3, none⟩ (.bool true) = w8 at *
        have k0 := cell_of_heap hi8 0
        have k1 := cell_of_heap hi8 1
        have k2 := cell_of_heap hi8 2
        have k3 := cell_of_heap hi8 3
        change w8.cell? _ = some (.int .i64 pos) at k0
        change w8.cell? _ = some (.int .i64 i6) at k1
        change w8.cell? _ = some (.string ⟨([] : Bs).toArray⟩) at k2
        change w8.cell? _ = some (.bool true) at k3
        go_wp2_with (refine wpList_store_row rfl 107 (.tmp 2) (.tmp 46) rfl rb #[.int .i64 pos, .int .i64 i6, .string ⟨([] : Bs).toArray⟩, .bool true] rfl rfl 107 _ hrow8 hinfo rfl (key_one _ _ _ _) ?_)
        have hMe : Mods [rb] w8 (w8.setRow rb #[.int .i64 pos, .int .i64 i6, .string ⟨([] : Bs).toArray⟩, .bool true]) := (Mods.refl _ _).setRow (.inl (by simp)) _
        have hre := row_set_same #[.int .i64 pos, .int .i64 i6, .string ⟨([] : Bs).toArray⟩, .bool true] hrow8
        have hPe := hP8.mods hMe (by simp; omega) (by simp; omega)
        have hM2e := HM28.out.2.trans hMe (by simp)
        generalize w8.setRow rb #[.int .i64 pos, .int .i64 i6, .string ⟨([] : Bs).toArray⟩, .bool true] = we at *
        have q0 := cell_of_heap hre 0
        have q1 := cell_of_heap hre 1
        have q2 := cell_of_heap hre 2
        have q3 := cell_of_heap hre 3
        change we.cell? _ = some (.int .i64 pos) at q0
        change we.cell? _ = some (.int .i64 i6) at q1
        change we.cell? _ = some (.string ⟨([] : Bs).toArray⟩) at q2
        change we.cell? _ = some (.bool true) at q3
        refine bodyPost_ret (by simp [results, Tryz.results83, go_sem, q0, q1, q2, q3, Result.andThen]; try rfl) rfl ?_
        exact FIN.out i6 ([] : Bs) true s7 we (HM28.out.1.trans hM2e (fun x hx => by simp at hx; rcases hx with h | h | h <;> simp [h] <;> omega)) hPe HK3.out
      | false =>
        have HK3 : Hid (refKey s = (⟨pos, i6, ([] : Bs), false⟩, (s7.takes wAsc).2)) := Lib.hid HK2.out
        have hta : Calls Tryz.prog 80 #[PtrV pb, .string ⟨#[65, 83, 67]⟩] w7 _ := takes_ref w7 pb tg ts s7 f hP7 wAsc
        unfold PtrV at hta
        clear HK2 hP7
        go_wp2_with fail
        (with_reducible refine hta.mono ?_)
        rintro e w9 ⟨rfl, hM9, hP9⟩
        generalize (s7.takes wAsc).2 = s9 at *
        have hi9 := hM9.heap hi7 (by simp; omega)
        have hrow9 := hM9.heap hrow7 (by simp; omega)
        have HM29 := Lib.hid (And.intro HM27.out.1 (HM27.out.2.trans hM9 (by simp)))
        clear hta hi7 hrow7 hM9 HM27
        go_upto_region 8 with fail
        have k0 := cell_of_heap hi9 0
        have k1 := cell_of_heap hi9 1
        have k2 := cell_of_heap hi9 2
        have k3 := cell_of_heap hi9 3
        change w9.cell? _ = some (.int .i64 pos) at k0
        change w9.cell? _ = some (.int .i64 i6) at k1
        change w9.cell? _ = some (.string ⟨([] : Bs).toArray⟩) at k2
        change w9.cell? _ = some (.bool false) at k3
        go_wp2_with (refine wpList_store_row rfl 107 (.tmp 2) (.tmp 46) rfl rb #[.int .i64 pos, .int .i64 i6, .string ⟨([] : Bs).toArray⟩, .bool false] rfl rfl 107 _ hrow9 hinfo rfl (key_one _ _ _ _) ?_)
        have hMe : Mods [rb] w9 (w9.setRow rb #[.int .i64 pos, .int .i64 i6, .string ⟨([] : Bs).toArray⟩, .bool false]) := (Mods.refl _ _).setRow (.inl (by simp)) _
        have hre := row_set_same #[.int .i64 pos, .int .i64 i6, .string ⟨([] : Bs).toArray⟩, .bool false] hrow9
        have hPe := hP9.mods hMe (by simp; omega) (by simp; omega)
        have hM2e := HM29.out.2.trans hMe (by simp)
        generalize w9.setRow rb #[.int .i64 pos, .int .i64 i6, .string ⟨([] : Bs).toArray⟩, .bool false] = we at *
        have q0 := cell_of_heap hre 0
        have q1 := cell_of_heap hre 1
        have q2 := cell_of_heap hre 2
        have q3 := cell_of_heap hre 3
        change we.cell? _ = some (.int .i64 pos) at q0
        change we.cell? _ = some (.int .i64 i6) at q1
        change we.cell? _ = some (.string ⟨([] : Bs).toArray⟩) at q2
        change we.cell? _ = some (.bool false) at q3
        refine bodyPost_ret (by simp [results, Tryz.results83, go_sem, q0, q1, q2, q3, Result.andThen]; try rfl) rfl ?_
        exact FIN.out i6 ([] : Bs) false s9 we (HM29.out.1.trans hM2e (fun x hx => by simp at hx; rcases hx with h | h | h <;> simp [h] <;> omega)) hPe HK3.out
end Go.Proofs.YtpokbepenacnpaaGreatDoor

namespace Go.Proofs.YtpokbepenacnpaaGreatDoor
open Go.RowKit
set_option linter.unusedVariables false

def TreeD : RepR Tree := fun w L cs t => ∃ b, cs = [PtrV b] ∧ ExprAt 174 96 w L (PtrV b) t
def ItemD : RepR ItemT := fun w L cs i => ∃ b, cs = [PtrV b, .string ⟨i.name.toArray⟩] ∧ ExprAt 174 96 w L (PtrV b) i.e
theorem treeDRep : Rep TreeD := ⟨fun ⟨b, h1, h2⟩ hM => ⟨b, h1, h2.mods hM⟩, fun hL ⟨b, h1, h2⟩ => ⟨b, h1, h2.weaken hL⟩, fun hg ⟨b, h1, h2⟩ => ⟨b, h1, h2.fresh hg⟩⟩
theorem itemDRep : Rep ItemD := ⟨fun ⟨b, h1, h2⟩ hM => ⟨b, h1, h2.mods hM⟩, fun hL ⟨b, h1, h2⟩ => ⟨b, h1, h2.weaken hL⟩, fun hg ⟨b, h1, h2⟩ => ⟨b, h1, h2.fresh hg⟩⟩
/-- A list that grows, of the call's own. -/
def LRef {α : Type} (R : RepR α) (T : TypeId) (size : Nat) (w0 wr : World) (v : Value) (l : List α) (e : Nat) : Prop :=
  ∃ css, wr.ownsRow 0 T size v l.length css.flatten ∧ (∀ g, v.ownBlock = some g → w0.heap.size ≤ g) ∧ (e = 0 → ∀ L : List Nat, (∀ x ∈ L, x < w0.heap.size) → AllR R wr (v.ownBlock.toList ++ L) css l)
theorem LRef.start {α : Type} (R : RepR α) (T : TypeId) (size : Nat) (w0 wr : World) (e : Nat) : LRef R T size w0 wr (.slice none 0 0) [] e :=
  ⟨[], World.ownsRow_nil _ _ _ _, (fun g hg => by cases (hg : (none : Option Nat) = some g)), fun _ L _ => trivial⟩
/-- What is done to blocks that were there. -/
theorem LRef.go {α : Type} {R : RepR α} (hR : Rep R) {T : TypeId} {size : Nat} {w0 wr w2 : World} {v : Value} {l : List α} {e e2 : Nat} {P : List Nat} (h : LRef R T size w0 wr v l e) (hM : Mods P wr w2) (hP : ∀ x ∈ P, x < w0.heap.size) (he : e2 = 0 → e = 0) : LRef R T size w0 w2 v l e2 := by
  obtain ⟨css, h1, h2, h3⟩ := h
  refine ⟨css, ownsRow_mods h1 hM (fun g hg hm => by have := h2 g hg; have := hP g hm; omega), h2, fun h0 L hL => ?_⟩
  have := h3 (he h0) (P ++ L) (fun x hx => by
    rcases List.mem_append.1 hx with hx | hx
    · exact hP x hx
    · exact hL x hx)
  exact (this.map fun c x hx => hR.mods hx (hM.mono (fun y hy => .inl (by simp [hy])))).map fun c x hx => hR.weaken (fun y hy => by
    rcases List.mem_append.1 hy with hy | hy
    · exact List.mem_append_left _ hy
    · exact List.mem_append_right _ (List.mem_append_right _ hy)) hx
/-- One more. -/
theorem LRef.push {α : Type} {R : RepR α} (hR : Rep R) {T : TypeId} {size : Nat} {w0 wr w5 : World} {v : Value} {l : List α} {e : Nat} (h : LRef R T size w0 wr v l e) {c : List Value} {x : α} {g cap : Nat} (hsz : w0.heap.size ≤ wr.heap.size)
    (hx : e = 0 → ∀ L : List Nat, (∀ y ∈ L, y < w0.heap.size) → R wr (v.ownBlock.toList ++ L) c x) (css0 : List (List Value)) (hown : w5.ownsRow 0 T size (.slice (some ⟨g, 0, none⟩) (l.length + 1) cap) (l.length + 1) (css0.flatten ++ c))
    (hcs : wr.ownsRow 0 T size v l.length css0.flatten ∧ (∀ g, v.ownBlock = some g → w0.heap.size ≤ g) ∧ (e = 0 → ∀ L : List Nat, (∀ x ∈ L, x < w0.heap.size) → AllR R wr (v.ownBlock.toList ++ L) css0 l))
    (hM : Mods v.ownBlock.toList wr w5) (hg : v.ownBlock = some g ∨ wr.heap.size ≤ g) : LRef R T size w0 w5 (.slice (some ⟨g, 0, none⟩) (l.length + 1) cap) (l ++ [x]) e := by
  obtain ⟨h1, h2, h3⟩ := hcs
  refine ⟨css0 ++ [c], by rw [List.length_append, List.flatten_append]; simpa using hown, fun g' hg' => ?_, fun h0 L hL => ?_⟩
  · obtain rfl : g = g' := by simpa [Value.ownBlock] using hg'
    rcases hg with hg | hg
    · exact h2 _ hg
    · omega
  · have a4 := AllR.snoc (hx h0 L hL) (h3 h0 L hL)
    have a5 := a4.map (R := R) (w' := w5) (L' := v.ownBlock.toList ++ L) fun c x hx => hR.mods hx (hM.mono (fun y hy => .inl (List.mem_append_left _ hy)))
    show AllR R w5 ([g] ++ L) (css0 ++ [c]) (l ++ [x])
    rcases hg with hg | hg
    · rw [hg] at a5
      exact a5
    · have a6 : AllR R wr (g :: (v.ownBlock.toList ++ L)) (css0 ++ [c]) (l ++ [x]) := a4.map fun c x hx => hR.fresh hg hx
      exact (a6.map (R := R) (w' := w5) (L' := g :: (v.ownBlock.toList ++ L)) fun c x hx => hR.mods hx (hM.mono (fun y hy => .inl (List.mem_cons_of_mem _ (List.mem_append_left _ hy))))).map fun c x hx => hR.weaken (fun y hy => by
        rcases List.mem_cons.1 (by simpa using hy : y ∈ g :: L) with rfl | hy
        · exact List.mem_cons_self
        · exact List.mem_cons_of_mem _ (List.mem_append_right _ hy)) hx

def itemsF (E : PF) (s : PS) : (Bool × List ItemT) × PS :=
  if (s.takes wStar).1 = true then ((true, []), (s.takes wStar).2) else ((false, (listF (itemF E) (s.takes wStar).2).1), (listF (itemF E) (s.takes wStar).2).2)
/-- Where a list stands: what has been read, and that the rest of it is the whole. -/
def ListGo {α : Type} (one : PS → α × PS) (fin : List α × PS) (n : Nat) (l : List α) (st : PS) : Prop :=
  listG one n (l ++ [(one st).1]) (one st).2 = fin ∧ (one st).2.rest.length ≤ n
theorem ListGo.start {α : Type} (one : PS → α × PS) (s : PS) : ListGo one (listF one s) (one s).2.rest.length [] s := ⟨rfl, Nat.le_refl _⟩
theorem ListGo.stop {α : Type} {one : PS → α × PS} {fin : List α × PS} {n : Nat} {l : List α} {st : PS} (h : ListGo one fin n l st) (ht : ((one st).2.takes wComma).1 = false) : fin = (l ++ [(one st).1], (one st).2) ∧ ((one st).2.takes wComma).2 = (one st).2 := by
  have hs := takes_false ht
  refine ⟨?_, hs⟩
  rw [← h.1]
  cases n with
  | zero => rfl
  | succ n =>
    unfold listG
    rw [if_neg (by rw [ht]; decide), hs]
theorem ListGo.next {α : Type} {one : PS → α × PS} (hg : GoesA one) {fin : List α × PS} {n : Nat} {l : List α} {st : PS} (h : ListGo one fin n l st) (ht : ((one st).2.takes wComma).1 = true) : ∃ m, n = m + 1 ∧ ListGo one fin m (l ++ [(one st).1]) ((one st).2.takes wComma).2 := by
  obtain ⟨hi, he⟩ := takes_true ht
  have hk := (is_kind hi).2
  have hn := next_len hk
  obtain ⟨m, rfl⟩ : ∃ m, n = m + 1 := ⟨n - 1, by have := h.2; omega⟩
  refine ⟨m, rfl, ?_, ?_⟩
  · rw [← h.1]
    conv => rhs; unfold listG
    rw [if_pos ht]
  · have h1 := (hg ((one st).2.takes wComma).2).len
    rw [he] at h1 ⊢
    have h2 := h.2
    exact Nat.le_trans h1 (by show (one st).2.next.rest.length ≤ m; omega)
end Go.Proofs.YtpokbepenacnpaaGreatDoor
