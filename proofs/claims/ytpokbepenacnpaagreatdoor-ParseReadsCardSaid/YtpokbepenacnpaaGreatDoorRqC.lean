/-
  The law ParseReads, walked. No condition but that Go's own variables hold what they were laid with.
-/
import Derived.Test.YtpokbepenacnpaaGreatDoorMQz
import Derived.Test.YtpokbepenacnpaaGreatDoorRpX
import Derived.Test.YtpokbepenacnpaaGreatDoorRpZ
import Derived.Test.YtpokbepenacnpaaGreatDoorRpR
import Derived.Test.YtpokbepenacnpaaGreatDoorMPu
namespace Go.Proofs.YtpokbepenacnpaaGreatDoor
open Go.RowKit
set_option linter.unusedVariables false

set_option maxRecDepth 100000 in
set_option maxHeartbeats 8000000 in
theorem parseReads_walk (w : World) (hT : Tabs2 w) (s : ByteArray) (hs : s.size ≤ 140737488351232) (own : Bool) (v : Value) (a : AskT) (hA : AskIn w v a) (cut : Nat) (hc : cut < 65536) (more : ByteArray) (hmo : more.size ≤ 140737488351232) :
    Calls Tryz.prog 3 #[.string s, .bool own, v, .int .u16 cut, .string more] w fun e w' => e = .returned (.bool true) ∧ Mods [] w w' := by
  obtain ⟨ia, ic, oa, oc, wa, wc, ga, gc, ra, rc, hv, -⟩ := id hA
  have hal := (Mods.refl [] w).alloc (.cells #[.slice ia a.items.length ic, .int .u16 (a.agg : Nat), .bool a.star, .int .u8 (a.join : Nat), .slice oa a.on.length oc, .slice wa a.whr.length wc, .bool a.hasWhere, .slice ga a.group.length gc, .slice ra a.order.length rc, .int .u8 (a.limit : Nat), .int .u8 (a.offset : Nat)] 27)
  have hbn := heap_alloc_new w (.cells #[.slice ia a.items.length ic, .int .u16 (a.agg : Nat), .bool a.star, .int .u8 (a.join : Nat), .slice oa a.on.length oc, .slice wa a.whr.length wc, .bool a.hasWhere, .slice ga a.group.length gc, .slice ra a.order.length rc, .int .u8 (a.limit : Nat), .int .u8 (a.offset : Nat)] 27)
  have HA := Lib.hid (And.intro hA hv)
  have HT := Lib.hid hT
  have hex := fun W hM => examples13_any W (hT.later hM)
  subst hv
  clear hA hT
  go_enter Tryz.func3, Tryz.ntmps3
  go_upto_region 1 with fail
  generalize hw1 : w.alloc (.cells #[.slice ia a.items.length ic, .int .u16 (a.agg : Nat), .bool a.star, .int .u8 (a.join : Nat), .slice oa a.on.length oc, .slice wa a.whr.length wc, .bool a.hasWhere, .slice ga a.group.length gc, .slice ra a.order.length rc, .int .u8 (a.limit : Nat), .int .u8 (a.offset : Nat)] 27) = w1 at *
  generalize w.heap.size = ab at *
  have hx := hex w1 hal
  clear hex
  go_wp2_with fail
  (with_reducible refine hx.mono ?_)
  rintro e w2 ⟨rfl, hM2⟩
  have hMw2 := hal.trans hM2 (by simp)
  have hb2 := hM2.heap hbn (by simp)
  clear hx hbn hal hM2 hw1
  go_upto_if 22 with fail
  go_cut [0] from 23 to 36 (fun s0 wx => ∃ S : ByteArray, s0 = .string S ∧ S.size ≤ 9223372036854775807 ∧ Mods [] w wx)
  case first =>
    cases own with
    | false =>
      go_wp2_with fail
      go_meet
      exact ⟨s, rfl, by omega, hMw2⟩
    | true =>
      have d0 := cell_of_heap hb2 0
      have d1 := cell_of_heap hb2 1
      have d2 := cell_of_heap hb2 2
      have d3 := cell_of_heap hb2 3
      have d4 := cell_of_heap hb2 4
      have d5 := cell_of_heap hb2 5
      have d6 := cell_of_heap hb2 6
      have d7 := cell_of_heap hb2 7
      have d8 := cell_of_heap hb2 8
      have d9 := cell_of_heap hb2 9
      have d10 := cell_of_heap hb2 10
      have htx := asktext_any w2 _ a (HA.out.1.later hMw2)
      go_wp2_with fail
      (with_reducible refine htx.mono ?_)
      rintro e w3 ⟨S1, rfl, hS1, hM3⟩
      have hMw3 := hMw2.trans hM3 (by simp)
      clear htx d0 d1 d2 d3 d4 d5 d6 d7 d8 d9 d10 hM3 hMw2 hb2
      by_cases hcu : cut < 1000
      · have hz : (cut : Int) < 1000 := by omega
        obtain ⟨n, hn⟩ : ∃ n, cut % (S1.size + 1) = n := ⟨_, rfl⟩
        have hn1 : n ≤ S1.size := by rw [← hn]; exact Nat.le_of_lt_succ (Nat.mod_lt _ (Nat.succ_pos _))
        have hwr : IntKind.i64.wrap ((S1.size : Int) + 1) = (S1.size : Int) + 1 := IntWalk.i64_in _ (by omega)
        have hnz : (cut : Int).tmod ((S1.size : Int) + 1) = (n : Int) := by
          rw [Int.tmod_eq_emod_of_nonneg (by omega), ← hn, Int.natCast_emod]
          rfl
        have hnw : IntKind.i64.wrap (n : Int) = (n : Int) := IntWalk.i64_in _ (by omega)
        have hni : (n : Int) ≤ (S1.size : Int) := by omega
        have hxs : (S1.extract 0 n).size ≤ 9000 := by rw [ByteArray.size_extract]; omega
        have m1 : ¬ 9223372036854775807 < (S1.extract 0 n).size + more.size := by omega
        clear hn
        go_wp2_with fail
        go_meet
        exact ⟨_, rfl, by rw [ByteArray.size_append]; omega, hMw3⟩
      · have hz : ¬ (cut : Int) < 1000 := by omega
        go_wp2_with fail
        go_meet
        exact ⟨S1, rfl, by omega, hMw3⟩
  case rest =>
  obtain ⟨S, rfl, hS, hM3⟩ := hcut
  generalize wc = W3 at *
  clear hMw2 hb2
  have hp := parse_any W3 (HT.out.1.mods hM3) S hS
  have hr := fun W => ref_parse W S hS
  cases hpv : parseV S.data.toList with
  | bad p k =>
    rw [hpv] at hp hr
    have hk := bad_k hpv
    have hp1 : Calls Tryz.prog 10 #[.string S] W3 (fun e w' => e = .returned (.tuple #[.pointer none, .int .i64 p, .int .i64 k]) ∧ Mods [] W3 w') := hp.mono fun e w' h => ⟨h.2, h.1⟩
    have hr1 : ∀ W, Calls Tryz.prog 11 #[.string S] W (fun e w' => e = .returned (.tuple #[.pointer none, .int .i64 p, .int .i64 k]) ∧ Mods [] W w') := fun W => (hr W).mono fun e w' h => ⟨h.2, h.1⟩
    have hkz : ((k : Int) != 0) = true := bne_iff_ne.2 (by omega)
    clear hp hr hpv hk
    go_wp2_with fail
    (with_reducible refine hp1.mono ?_)
    rintro e w4 ⟨rfl, hM4⟩
    have hr2 := hr1 w4
    clear hp1 hr1
    go_wp2_with fail
    (with_reducible refine hr2.mono ?_)
    rintro e w5 ⟨rfl, hM5⟩
    clear hr2
    go_wp2_with fail
    go_ret
    exact ⟨rfl, (hM3.trans hM4 (by simp)).trans hM5 (by simp)⟩
  | good q =>
    rw [hpv] at hp hr
    have hst := parse_st hpv
    have hp1 : Calls Tryz.prog 10 #[.string S] W3 (fun e w' => ∃ qb, e = .returned (.tuple #[PtrV qb, .int .i64 0, .int .i64 0]) ∧ Mods [] W3 w' ∧ QueryAt w' [] qb q ∧ QueryOk q) := hp.mono fun e w' ⟨h1, h2, qb, h3, h4, h5⟩ => ⟨qb, h3, h1, h5, h2⟩
    have hr1 : Hid (∀ W, Calls Tryz.prog 11 #[.string S] W (fun e w' => ∃ rb, e = .returned (.tuple #[PtrV rb, .int .i64 0, .int .i64 0]) ∧ Mods [] W w' ∧ QueryD w' rb q)) := Lib.hid fun W => (hr W).mono fun e w' ⟨h1, qb, h2, h3⟩ => ⟨qb, h2, h1, h3⟩
    have HS := Lib.hid hst
    clear hp hr hpv hst
    go_wp2_with fail
    (with_reducible refine hp1.mono ?_)
    rintro e w4 ⟨qb, rfl, hM4, hQ, hok⟩
    unfold PtrV
    have hr2 := hr1.out w4
    have HQ := Lib.hid (And.intro hQ hok)
    clear hp1 hr1 hQ hok
    go_wp2_with fail
    (with_reducible refine hr2.mono ?_)
    rintro e w5 ⟨rb, rfl, hM5, hD⟩
    have hsm := same_any w5 qb rb q (HQ.out.1.later hM5) hD HQ.out.2
    have HD := Lib.hid hD
    have hMw5 := (hM3.trans hM4 (by simp)).trans hM5 (by simp)
    unfold PtrV at *
    clear hr2 hD hM4 
    go_wp2_with fail
    (with_reducible refine hsm.mono ?_)
    rintro e w6 ⟨rfl, hM6⟩
    have hMw6 := hMw5.trans hM6 (by simp)
    have ht := queryText_any w6 qb q (HT.out.2.later hMw6) ((HQ.out.1.later hM5).later hM6) HQ.out.2
    unfold PtrV at ht
    clear hsm
    go_wp2_with fail
    (with_reducible refine ht.mono ?_)
    rintro e w7 ⟨rfl, hM7⟩
    have ht2 := refText_any w7 rb q ((HD.out.later hM6).later hM7) HQ.out.2 HS.out
    unfold PtrV at ht2
    clear ht
    go_wp2_with fail
    (with_reducible refine ht2.mono ?_)
    rintro e w8 ⟨rfl, hM8⟩
    clear ht2
    go_wp2_with fail
    go_ret
    exact ⟨rfl, (hMw6.trans hM7 (by simp)).trans hM8 (by simp)⟩
end Go.Proofs.YtpokbepenacnpaaGreatDoor
