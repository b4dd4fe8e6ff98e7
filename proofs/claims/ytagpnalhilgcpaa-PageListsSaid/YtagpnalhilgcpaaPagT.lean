/-
  The law PageLists, walked whole.
-/
import Derived.Test.YtagpnalhilgcpaaPagS
import Derived.Test.YtagpnalhilgcpaaPagQ
import Derived.Deep.LoopGhost
import Derived.Deep.DeepCutAuto
import Derived.Deep.QuietTactic
import Derived.BigQuiet
namespace Go.Proofs.Ytagpnalhilgcpaa
open Go.RowKit
set_option linter.unusedVariables false

/-- The memory while the nodes from j on are put: w1: the world ahead of it, tb: where the types lie. -/
def PLst (w1 : World) (b tb n j : Nat) (X : Nat → Int) (wr : World) : Prop :=
  Mods [] w1 wr ∧ ∃ f L, Mem wr b 1 1 f L ∧ Nodes f X n j ∧ (∀ k ∈ L, w1.heap.size ≤ k) ∧ TysIn wr (some ⟨tb, 0, none⟩) [(1, 0)] L

theorem PLst.quiet {w1 : World} {b tb n j : Nat} {X : Nat → Int} {wr w' : World} (h : PLst w1 b tb n j X wr) (hM : Mods [] wr w') : PLst w1 b tb n j X w' := by
  obtain ⟨h0, f, L, h1, h2, h3, h4⟩ := h
  exact ⟨h0.trans hM (by simp), f, L, h1.mods hM (by simp), h2, h3, h4.mods (hM.mono (by simp))⟩

set_option maxRecDepth 100000 in
set_option maxHeartbeats 1000000 in
theorem pageLists_walk (lao : Option Addr) (N cl : Nat) (X : Nat → Int) (h0 : N ≤ 9223372036854775807 ∧ N ≤ cl ∧ (lao = none → N = 0)) {w : World} (hX : IntsIn w lao N X) (mo : Nat) (hmo : mo < 256) :
    Calls Try.prog 12 #[.slice lao N cl, .int .u8 mo] w fun e w' => e = .returned (.bool true) ∧ Mods [] w w' := by
  obtain ⟨hN, hc, -⟩ := h0
  obtain ⟨n, hn, hn10, hnN⟩ : ∃ n, ((N ≤ 10 ∧ n = N) ∨ (10 < N ∧ n = 10)) ∧ n ≤ 10 ∧ n ≤ N := ⟨if N ≤ 10 then N else 10, by split <;> omega, by split <;> omega, by split <;> omega⟩
  have hmin := fun w => run_min (P := Try.prog) w 3 3 3 .i64 N 10 n (by omega)
  have hXb : ∀ i, i < n → -9223372036854775808 ≤ X i ∧ X i ≤ 9223372036854775807 := fun i hi => by
    obtain ⟨b, off, -, h⟩ := hX (by omega)
    exact (h i (by omega)).2
  have HXB := Lib.hid hXb
  clear hn hXb
  go_enter Try.func12, Try.ntmps12
  go_wp2_with fail
  refine (examples16 _).mono ?_
  rintro e w1 ⟨rfl, hM1⟩
  go_wp2_with fail
  refine (new_is _ 1 1 (by omega) (by omega) (by omega) (by omega)).mono ?_
  rintro e w2 ⟨b, L, rfl, hm2, hM2, hL2⟩
  clear hmin
  have hM3 := (Mods.refl [] w2).alloc (.cells #[.int .i64 1, .int .i64 0] 60)
  have hst : PLst w1 b w2.heap.size n n X (w2.alloc (.cells #[.int .i64 1, .int .i64 0] 60)) := by
    refine ⟨hM2.trans hM3 (by simp), _, L, hm2.mods hM3 (by simp), fun i h1 h2 => by omega, hL2, fun h => ⟨w2.heap.size, 0, rfl, fun hk => ?_, fun i hi => ?_⟩⟩
    · have := hm2.lt _ hk; omega
    · obtain ⟨x1, x2, x3, x4, x5⟩ := tys_new (ts := [(1, 0)]) (heap_alloc_new w2 (.cells #[.int .i64 1, .int .i64 0] 60)) rfl h
      cases x3
      exact x5 i hi
  clear hm2 hM2 hL2 hM3
  go_wp2_with fail
  generalize w2.alloc (.cells #[.int .i64 1, .int .i64 0] 60) = w3 at *
  generalize w2.heap.size = tb at *
  go_loopg [10, 11] n (fun g t10 t11 wr => ∃ j : Nat, j ≤ n ∧ g = j ∧ t11 = .int .i64 ((j : Int) - 1) ∧ t10 = .int .u64 ((plA n j : Nat) : Int) ∧ PLst w1 b tb n j X wr)
  case atStart => exact ⟨n, by omega, rfl, rfl, by unfold plA; rw [if_neg (by omega)]; rfl, hst⟩
  case round =>
    clear hst
    obtain ⟨j, hj, hgj, rfl, rfl, hP⟩ := hrel
    have HGJ := Lib.hid hgj
    clear hgj
    by_cases hj0 : j = 0
    · subst hj0
      obtain ⟨q0, f, L, hm, hNo, hL, hTy⟩ := hP
      have HNO := Lib.hid hNo
      have hMw := hM1.trans q0 (by simp)
      have hLw : ∀ k ∈ L, w.heap.size ≤ k := fun k hk => by have := hL k hk; have := hM1.size; omega
      obtain ⟨k, hk⟩ : ∃ k, mo % 12 = k := ⟨_, rfl⟩
      have hk1 : k < 12 := by omega
      have hk2 : (mo : Int) % 12 = (k : Int) := by omega
      have hA0 : plA n 0 < 18446744073709551616 := by unfold plA; split <;> (have := plP_lt 0; omega)
      have hli := pglist_any wr b 1 1 f L hm (by omega) (some ⟨tb, 0, none⟩) [(1, 0)] 1 1 rfl (by omega) (fun h => by obtain ⟨x1, x2, x3, x4, x5⟩ := hTy h; exact ⟨x1, x2, x3, by simp, x5⟩) (plA n 0) hA0 k (by omega)
      rw [pl_list hNo HXB.out n 0 k (by omega)] at hli
      have e0 : (((0 : Nat) : Int) - 1) = -1 := rfl
      rw [e0]
      clear hk hNo hL
      have hplace : True := trivial
      by_cases hnk : n ≤ k
      · rw [if_pos hnk] at hli
        have hnk2 : (n : Int) ≤ (k : Int) := by omega
        go_wp2_with fail
        refine hli.mono ?_
        rintro e w5 ⟨t, rfl, hRO⟩
        obtain ⟨ao, cap, rfl, hRI⟩ := hRO.rows
        have hMw5 := hMw.trans hRO.1 (by simp)
        have hm5 := hm.mods hRO.1 (by simp)
        have hT5 := hTy.mods (hRO.1.mono (by simp))
        have hpl : (plRows X 0 n).length = n := by simp [plRows]
        rw [hpl]
        have hcells : ∀ i, i < n → ∃ rb ro vc vb vf, ao = some ⟨rb, ro, none⟩ ∧ w5.cell? ⟨rb, ro + i, none⟩ = some (.slice (some ⟨vb, vf, none⟩) 1 vc) ∧ w5.cell? ⟨vb, vf + 1, none⟩ = some (.int .i64 (X i)) := by
          intro i hi
          obtain ⟨rb, ro, h1, -, h2⟩ := hRI (by intro h; rw [h] at hpl; simp at hpl; omega)
          obtain ⟨vo, c, h3, h4⟩ := h2 i (by rw [hpl]; exact hi)
          have e1 : (plRows X 0 n)[i]'(by rw [hpl]; exact hi) = plR (X i) := by simp [plRows]
          rw [e1] at h3 h4
          obtain ⟨vb, vf, h5, -, h6⟩ := h4 (by simp [plR])
          exact ⟨rb, ro, c, vb, vf, h1, by rw [h3, h5]; rfl, (h6 0 (by show 0 < 1; decide)).2.1⟩
        have HC := Lib.hid hcells
        clear hcells hRI hRO hli hm hTy hMw q0 hpl
        go_wp2_with fail
        go_loopw [17] (fun t17 wx => ∃ i : Nat, i ≤ n ∧ t17 = .int .i64 i ∧ Mods [] w5 wx) (fun t17 _ => n - (intOf t17).toNat)
        case atStart => exact ⟨0, by omega, rfl, Mods.refl _ _⟩
        case round =>
          obtain ⟨i, hi, rfl, hMx⟩ := hrel
          by_cases hin : i < n
          · obtain ⟨lb, lo, rfl, hXc⟩ := hX (by omega)
            obtain ⟨rb, ro, vc, vb, vf, rfl, x1, x2⟩ := HC.out i hin
            have xw := (hMw5.trans hMx (by simp)).cell (hXc i (by omega)).1 (by simp)
            have y1 := hMx.cell x1 (by simp)
            have y2 := hMx.cell x2 (by simp)
            have hki : (0 : Int) ≤ (i : Int) ∧ (i : Int) < (n : Int) := by omega
            clear x1 x2 hXc
            go_wp2_with fail
            go_quiet (fail)
            have hMy := hMx.drewN nq
            generalize wr.drewN nq = wy at *
            go_wp2_with fail
            go_roundw
            case measure => simp [intOf]; omega
            case rel => exact ⟨i + 1, by omega, by go_num, hMy⟩
          · obtain rfl : n = i := by omega
            have hmx := hm5.mods hMx (by simp)
            have hTx := hT5.mods (hMx.mono (by simp))
            have hMwx := hMw5.trans hMx (by simp)
            have hLx := hLw
            clear hm5 hT5 hMw5 hMx HC hA0
            by_cases hn0 : n = 0
            · have hng : ¬ (0 : Int) < (n : Int) := by omega
              clear hplace
              go_wp2_with fail
              go_ret
              exact ⟨rfl, hMwx⟩
            · obtain ⟨q, hq0⟩ : ∃ q, n = q + 1 := ⟨n - 1, by omega⟩
              have hq : (n : Int) - 1 = (q : Int) := by omega
              have hng : (0 : Int) < (n : Int) := by omega
              have hplace := place_any q (by omega)
              have hpl := plP_lt q
              have hA : plA n 0 < 2 ^ 64 := by unfold plA; split <;> (have := plP_lt 0; omega)
              have hsto := store_ok wr b 1 1 _ L (plP q) 8 (plA n 0) hmx (by omega) hA (by rw [hasB_P]; rfl)
              have hA0 : plA n 0 = plP 0 := by unfold plA; rw [if_pos (by omega)]
              have hst : numAt (putF f (plP q) 8 (byteOf (plA n 0))) (plP q) = plP 0 := by
                show num (fun j => putF f (plP q) 8 (byteOf (plA n 0)) (plP q + j)) 8 = plP 0
                rw [num_putF, ← hA0]
                exact Nat.mod_eq_of_lt hA
              have hq1 : q = n - 1 := by omega
              have hnone : listGo (putF f (plP q) (8 : Int).toNat (byteOf (plA n 0))) 1 [(1, 0)] 1000 (plA n 0) = none := by
                rw [hA0]
                rw [hA0] at hst
                rw [hq1] at hst ⊢
                exact pl_round hn10 (by omega) HNO.out HXB.out _ hst 1000 0 (by omega)
              have HNN := Lib.hid hnone
              clear hnone hst hq0 hq1 hA0
              generalize plA n 0 = A0 at *
              generalize plP q = pq at *
              go_wp2_with (go_at_call 33; (with_reducible refine (hplace _).mono ?_); rintro e w' ⟨rfl, rfl⟩)
              refine hsto.mono ?_
              rintro e w6 ⟨rfl, hN6⟩
              obtain ⟨hM7, L7, hm7, hL7, hM8, hL8⟩ := hN6.go hMwx hLx
              have hT7 := (hTx.mods hM8).later hTx hL8
              clear hsto hN6 hM8 hL8 hmx hTx hMwx
              go_wp2_with fail
              refine (pglist_any w6 b 1 1 _ L7 hm7 (by omega) _ [(1, 0)] 1 1 rfl (by omega) (fun h => by obtain ⟨x1, x2, x3, x4, x5⟩ := hT7 h; exact ⟨x1, x2, x3, by simp, x5⟩) A0 (by omega) 1000 (by omega)).mono ?_
              rintro e w8 hg8
              rw [HNN.out] at hg8
              obtain ⟨rfl, hM9⟩ := hg8
              clear hm7 hT7
              go_wp2_with fail
              go_ret
              exact ⟨rfl, hM7.trans hM9 (by simp)⟩
      · rw [if_neg hnk] at hli
        have hnk2 : ¬ (n : Int) ≤ (k : Int) := by omega
        go_wp2_with fail
        refine hli.mono ?_
        rintro e w5 ⟨rfl, hM5⟩
        have hMw5 := hMw.trans hM5 (by simp)
        have hm5 := hm.mods hM5 (by simp)
        have hT5 := hTy.mods (hM5.mono (by simp))
        clear hli hm hTy hMw q0 hM5
        go_wp2_with fail
        go_loopw [17] (fun t17 wx => t17 = .int .i64 0 ∧ w5 = wx) (fun t17 _ => n - (intOf t17).toNat)
        case atStart => exact ⟨rfl, rfl⟩
        case round =>
          obtain ⟨rfl, rfl⟩ := hrel
          obtain ⟨wx, hwx⟩ : ∃ wx, wx = w5 := ⟨_, rfl⟩
          rw [← hwx] at hm5 hT5 hMw5 ⊢
          have hmx := hm5
          have hTx := hT5
          have hMwx := hMw5
          have hLx := hLw
          clear hm5 hT5 hMw5 hA0 hwx
          by_cases hn0 : n = 0
          · have hng : ¬ (0 : Int) < (n : Int) := by omega
            clear hplace
            go_wp2_with fail
            go_ret
            exact ⟨rfl, hMwx⟩
          · obtain ⟨q, hq0⟩ : ∃ q, n = q + 1 := ⟨n - 1, by omega⟩
            have hq : (n : Int) - 1 = (q : Int) := by omega
            have hng : (0 : Int) < (n : Int) := by omega
            have hplace := place_any q (by omega)
            have hpl := plP_lt q
            have hA : plA n 0 < 2 ^ 64 := by unfold plA; split <;> (have := plP_lt 0; omega)
            have hsto := store_ok wx b 1 1 _ L (plP q) 8 (plA n 0) hmx (by omega) hA (by rw [hasB_P]; rfl)
            have hA0 : plA n 0 = plP 0 := by unfold plA; rw [if_pos (by omega)]
            have hst : numAt (putF f (plP q) 8 (byteOf (plA n 0))) (plP q) = plP 0 := by
              show num (fun j => putF f (plP q) 8 (byteOf (plA n 0)) (plP q + j)) 8 = plP 0
              rw [num_putF, ← hA0]
              exact Nat.mod_eq_of_lt hA
            have hq1 : q = n - 1 := by omega
            have hnone : listGo (putF f (plP q) (8 : Int).toNat (byteOf (plA n 0))) 1 [(1, 0)] 1000 (plA n 0) = none := by
              rw [hA0]
              rw [hA0] at hst
              rw [hq1] at hst ⊢
              exact pl_round hn10 (by omega) HNO.out HXB.out _ hst 1000 0 (by omega)
            have HNN := Lib.hid hnone
            clear hnone hst hq0 hq1 hA0
            generalize plA n 0 = A0 at *
            generalize plP q = pq at *
            go_wp2_with (go_at_call 33; (with_reducible refine (hplace _).mono ?_); rintro e w' ⟨rfl, rfl⟩)
            refine hsto.mono ?_
            rintro e w6 ⟨rfl, hN6⟩
            obtain ⟨hM7, L7, hm7, hL7, hM8, hL8⟩ := hN6.go hMwx hLx
            have hT7 := (hTx.mods hM8).later hTx hL8
            clear hsto hN6 hM8 hL8 hmx hTx hMwx
            go_wp2_with fail
            refine (pglist_any w6 b 1 1 _ L7 hm7 (by omega) _ [(1, 0)] 1 1 rfl (by omega) (fun h => by obtain ⟨x1, x2, x3, x4, x5⟩ := hT7 h; exact ⟨x1, x2, x3, by simp, x5⟩) A0 (by omega) 1000 (by omega)).mono ?_
            rintro e w8 hg8
            rw [HNN.out] at hg8
            obtain ⟨rfl, hM9⟩ := hg8
            clear hm7 hT7
            go_wp2_with fail
            go_ret
            exact ⟨rfl, hM7.trans hM9 (by simp)⟩
    · obtain ⟨i, rfl⟩ : ∃ i, j = i + 1 := ⟨j - 1, by omega⟩
      have ei : (((i + 1 : Nat) : Int) - 1) = (i : Int) := by omega
      rw [ei]
      obtain ⟨lb, lo, rfl, hXc⟩ := hX (by omega)
      have hMw := hM1.trans hP.1 (by simp)
      have xc := hMw.cell (hXc i (by omega)).1 (by simp)
      have hxb := HXB.out i (by omega)
      obtain ⟨q0, f, L, hm, hNo, hL, hTy⟩ := id hP
      -- the world in which Put is called
      have hMa := (((Mods.refl [] wr).alloc (.cells #[.bool false, .int .i64 (X i), .string ⟨#[]⟩] 77)).alloc (.cells #[.slice (some ⟨wr.heap.size, 0, none⟩) 1 1] 71)).drew
      obtain ⟨hh1, hh2⟩ := two_new wr (.cells #[.bool false, .int .i64 (X i), .string ⟨#[]⟩] 77) (.cells #[.slice (some ⟨wr.heap.size, 0, none⟩) 1 1] 71)
      have hV : ValsIn ((wr.alloc (.cells #[.bool false, .int .i64 (X i), .string ⟨#[]⟩] 77)).alloc (.cells #[.slice (some ⟨wr.heap.size, 0, none⟩) 1 1] 71)).drew (some ⟨wr.heap.size, 0, none⟩) (plR (X i)) [] := (vals_new (vs := plR (X i)) hh1 rfl).mods ((Mods.refl [] _).drew)
      have hR : RowsIn ((wr.alloc (.cells #[.bool false, .int .i64 (X i), .string ⟨#[]⟩] 77)).alloc (.cells #[.slice (some ⟨wr.heap.size, 0, none⟩) 1 1] 71)).drew (some ⟨wr.heap.size + 1, 0, none⟩) [plR (X i)] [] := rows_one (vs := plR (X i)) (w := ((wr.alloc (.cells #[.bool false, .int .i64 (X i), .string ⟨#[]⟩] 77)).alloc (.cells #[.slice (some ⟨wr.heap.size, 0, none⟩) 1 1] 71)).drew) hh2 rfl hV
      have hT : TysIn ((wr.alloc (.cells #[.bool false, .int .i64 (X i), .string ⟨#[]⟩] 77)).alloc (.cells #[.slice (some ⟨wr.heap.size, 0, none⟩) 1 1] 71)).drew (some ⟨tb, 0, none⟩) [(1, 0)] [] := fun h => by
        obtain ⟨x1, x2, x3, x4, x5⟩ := hTy.mods (hMa.mono (by simp)) h
        exact ⟨x1, x2, x3, by simp, x5⟩
      have hput := pgput_any _ [(1, 0)] [plR (X i)] _ _ 1 1 hT hR (fun vs hvs => ⟨by simp at hvs; subst hvs; show 1 ≤ 9223372036854775807; decide, plR_ok (X i) hxb vs hvs⟩) ((plP i + 8 : Nat) : Int) (by omega) (by have := plP_lt i; omega) (by decide) (by show 1 ≤ 1000000; decide)
      unfold PgPost at hput
      rw [pl_putE (plP i + 8) (by have := plP_lt i; omega), if_pos rfl, Int.toNat_natCast] at hput
      change Calls _ _ #[.slice (some ⟨tb, 0, none⟩) 1 1, .slice (some ⟨wr.heap.size + 1, 0, none⟩) 1 1, _] _ (fun e w' => e = Ending.returned (Value.tuple #[Value.string ⟨(putB (plP i + 8) 1 [plR (X i)]).toArray⟩, _]) ∧ _) at hput
      have hsz : (⟨(putB (plP i + 8) 1 [plR (X i)]).toArray⟩ : ByteArray).size = 16 := by
        show (putB (plP i + 8) 1 [plR (X i)]).toArray.size = _
        rw [List.size_toArray]; exact pl_len _ _
      have hby := bys_put f (plP i + 8) (⟨(putB (plP i + 8) 1 [plR (X i)]).toArray⟩ : ByteArray)
      rw [hsz] at hby
      change Bys _ (plP i + 8) (putB (plP i + 8) 1 [plR (X i)]) at hby
      generalize (⟨(putB (plP i + 8) 1 [plR (X i)]).toArray⟩ : ByteArray) = S at *
      have HBY := Lib.hid hby
      have HNO := Lib.hid hNo
      have hpl := plP_lt i
      obtain ⟨p, hp⟩ : ∃ p, plP i = p := ⟨_, rfl⟩
      have hplace := fun w => place_any i (by omega) w
      rw [hp] at hput hplace hpl
      have HPP := Lib.hid hp
      have hp8 : ((p + 8 : Nat) : Int) = (p : Int) + 8 := by omega
      rw [hp8] at hput
      have HSZ := Lib.hid hsz
      have HP8 := Lib.hid hp8
      have hpw : IntKind.i64.wrap ((p : Int) + 8) = (p : Int) + 8 := by rw [IntKind.wrap_i64]; omega
      clear hXc hV hR hT hh1 hh2 hby hNo hp hp8 hsz
      have hki : (0 : Int) ≤ (i : Int) ∧ (i : Int) < (n : Int) := by omega
      go_upto_region 14 with fail
      go_cut [12, 13] (fun s12 s13 wx => s12 = .string S ∧ s13 = .int .i64 0 ∧ Mods [] wr wx)
      case first =>
        go_region_held3 (fun w' => w'.cell? ⟨lb, lo + i, none⟩ = some (.int .i64 (X i))) (first | assumption | (simp [*, World.cell?_alloc_some]))
          (first | (go_at_call 33; (with_reducible refine (hplace _).mono ?_); rintro e w' ⟨rfl, rfl⟩) | (go_at_call 27; (with_reducible refine hput.mono ?_); rintro e w' ⟨rfl, hM9⟩; have xc9 := (hMa.trans hM9 (by simp)).cell xc (by simp)))
        all_goals (go_wp2_with fail; go_meet; exact ⟨rfl, rfl, hMa.trans hM9 (by simp)⟩)
      case rest =>
        obtain ⟨rfl, rfl, hMx⟩ := hcut
        have hmx := hm.mods hMx (by simp)
        have hwr := write_ok wc b 1 _ f L (p + 8) S hmx (by omega) (by have := HSZ.out; omega)
        rw [HP8.out, HSZ.out] at hwr
        have hMwx := q0.trans hMx (by simp)
        clear hput hMa xc hpw hmx
        go_wp2_with (go_at_call 33; (with_reducible refine (hplace _).mono ?_); rintro e w' ⟨rfl, rfl⟩)
        refine hwr.mono ?_
        rintro e w5 ⟨rfl, hN5⟩
        obtain ⟨hM5, L5, hm5, hL5, hM6, hL6⟩ := hN5.go hMwx hL
        have hT5 := ((hTy.mods (hMx.mono (by simp))).mods hM6).later (hTy.mods (hMx.mono (by simp))) hL6
        have hA : plA n (i + 1) < 2 ^ 64 := by unfold plA; split <;> (have := plP_lt (i + 1); omega)
        have hsto := store_ok w5 b 1 1 _ L5 p 8 (plA n (i + 1)) hm5 (by omega) hA (by rw [show hasB 1 (p : Int) 8 = true from decide_eq_true (by omega)]; rfl)
        clear hwr hN5 hMwx hM6 hL6 hm
        go_wp2_with (go_at_call 33; (with_reducible refine (hplace _).mono ?_); rintro e w' ⟨rfl, rfl⟩)
        refine hsto.mono ?_
        rintro e w6 ⟨rfl, hN6⟩
        obtain ⟨hM7, L7, hm7, hL7, hM8, hL8⟩ := hN6.go hM5 hL5
        have hT7 := (hT5.mods hM8).later hT5 hL8
        have hrel : PLst w1 b tb n i X w6 := by
          refine ⟨hM7, _, L7, hm7, ?_, hL7, hT7⟩
          have hb := HBY.out
          have hst : numAt (putF (putF f (p + 8) 16 (sAt S)) p (8 : Int).toNat (byteOf (plA n (i + 1)))) p = plA n (i + 1) := by
            show num (fun j => putF (putF f (p + 8) 16 (sAt S)) p 8 (byteOf (plA n (i + 1))) (p + j)) 8 = plA n (i + 1)
            rw [num_putF]
            exact Nat.mod_eq_of_lt hA
          have hp := HPP.out
          rw [← hp] at hst ⊢
          exact HNO.out.step hn10 (by omega) _ _ hb hst
        have hfirst : plA n i = p := by unfold plA; rw [if_pos (by omega), HPP.out]
        clear hsto hN6 hM5 hM8 hL8 hT5 hm7 hm5 hL5 hL7 hT7 hM7 hL hTy
        have HF := Lib.hid hfirst
        clear hfirst
        go_wp2_with (go_at_call 33; (with_reducible refine (hplace _).mono ?_); rintro e w' ⟨rfl, rfl⟩)
        go_roundg i
        case measure => have := HGJ.out; omega
        case rel => exact ⟨i, by omega, rfl, rfl, by rw [HF.out], hrel⟩
end Go.Proofs.Ytagpnalhilgcpaa
