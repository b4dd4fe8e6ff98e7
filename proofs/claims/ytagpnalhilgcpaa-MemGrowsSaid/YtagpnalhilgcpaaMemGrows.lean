/-
  The law MemGrows returns true, for every argument, and leaves all that was in memory as it was. No condition.
-/
import Derived.Test.YtagpnalhilgcpaaMemG
namespace Go.Proofs.Ytagpnalhilgcpaa
open Go.RowKit
set_option linter.unusedVariables false

theorem num_zero8 : num (fun _ => 0) 8 = 0 := by decide
theorem newMost_nat {n T : Nat} (h : (n ≤ 256 ∧ T = n) ∨ (256 < n ∧ T = 256)) : newMost (n : Int) = (T : Int) := by
  unfold newMost
  rw [if_neg (by omega)]
  rcases h with ⟨h1, rfl⟩ | ⟨h1, rfl⟩
  · rw [if_pos (by omega)]
  · rw [if_neg (by omega)]; rfl

set_option maxRecDepth 100000 in
set_option maxHeartbeats 1000000 in
theorem memGrows_walk (a0 : Nat) (h0 : a0 < 65536) (w : World) :
    Calls Try.prog 3 #[.int .u16 a0] w fun e w' => e = .returned (.bool true) ∧ Mods [] w w' := by
  obtain ⟨T, hT⟩ : ∃ T : Nat, (a0 % 301 ≤ 256 ∧ T = a0 % 301) ∨ (256 < a0 % 301 ∧ T = 256) := by
    by_cases h : a0 % 301 ≤ 256
    · exact ⟨_, .inl ⟨h, rfl⟩⟩
    · exact ⟨256, .inr ⟨by omega, rfl⟩⟩
  have hNM : newMost ((a0 % 301 : Nat) : Int) = T := newMost_nat hT
  have hmin : (((a0 % 301 : Nat) : Int) ≤ 256 ∧ (T : Int) = ((a0 % 301 : Nat) : Int)) ∨ ((256 : Int) < ((a0 % 301 : Nat) : Int) ∧ (T : Int) = 256) := by omega
  have hT2 : T ≤ 256 := by omega
  have H := Lib.hid (And.intro hNM (And.intro hmin hT))
  clear hNM hmin hT
  have hr : (a0 : Int) % 301 = ((a0 % 301 : Nat) : Int) := by omega
  have hr2 : a0 % 301 < 301 := by omega
  generalize a0 % 301 = n at *
  go_enter Try.func3, Try.ntmps3
  go_wp2_with fail
  refine (examples8 _).mono ?_
  rintro e w1 ⟨rfl, hM1⟩
  go_wp2_with fail
  refine (new_is _ 0 n (by omega) (by omega) (by omega) (by omega)).mono ?_
  rintro e w2 ⟨b, L, rfl, hm2, hM2, hL2⟩
  rw [H.out.1] at hm2
  have hM := hM1.trans hM2 (by simp)
  have hL : ∀ k ∈ L, w.heap.size ≤ k := fun k hk => Nat.le_trans hM1.size (hL2 k hk)
  clear hM1 hM2 hL2
  go_wp2_with (refine wpList_min rfl (.tmp 28) (.const (.int .i64 256)) _ _ rfl .i64 n 256 T rfl rfl H.out.2.1 ?_)
  have HH := Lib.hid (And.intro H (And.intro hr hr2))
  clear H hr hr2
  go_loopw [8] (fun t8 wr => ∃ k : Nat, k ≤ T ∧ t8 = .int .i64 k ∧ Mods [] w wr ∧ ∃ L, Mem wr b k T (fun _ => 0) L ∧ ∀ k ∈ L, w.heap.size ≤ k) (fun t8 _ => T - (intOf t8).toNat)
  case atStart => exact ⟨0, by omega, rfl, hM, L, hm2, hL⟩
  case round =>
    clear hM hL hm2
    obtain ⟨k, hk, rfl, hM, L1, hm1, hL1⟩ := hrel
    by_cases hkT : k < T
    · go_wp2_with fail
      refine (grow_ok wr b k T _ L1 1 hm1 (by omega) (by omega) (by omega)).mono ?_
      rintro e w3 ⟨rfl, hN⟩
      obtain ⟨hM3, L3, hm3, hL3, -, -⟩ := hN.go hM hL1
      clear hN
      go_wp2_with fail
      rw [show (65536 * (k : Int) + 65536 - 8) = ((65536 * k + 65528 : Nat) : Int) from by omega]
      refine (load_ok w3 b (k + 1) T _ L3 (65536 * k + 65528) 8 hm3 (by omega) ?_).mono ?_
      · have h1 : hasB (k + 1) ((65536 * k + 65528 : Nat) : Int) 8 = true := decide_eq_true (by omega)
        rw [h1]; rfl
      rintro e w4 ⟨rfl, hM4⟩
      rw [show num (fun j => (fun _ => 0) (65536 * k + 65528 + j)) (8 : Int).toNat = 0 from num_zero8]
      have hm4 := hm3.mods hM4 (by simp)
      have hM5 := hM3.trans hM4 (by simp)
      clear hm3 hM4 hM3
      go_wp2_with fail
      refine ⟨⟨k + 1, by omega, by go_num, hM5, L3, hm4, hL3⟩, by simp [intOf]; omega⟩
    · obtain rfl : k = T := by omega
      go_wp2_with fail
      refine (grow_bad wr b k k _ L1 1 hm1 (by omega) (by omega) (by omega) (by omega)).mono ?_
      rintro e w3 ⟨rfl, hN⟩
      obtain ⟨hM3, L3, hm3, hL3, -, -⟩ := hN.go hM hL1
      clear hN
      go_wp2_with fail
      refine (grow_bad w3 b k k _ L3 2147483648 hm3 (by omega) (by omega) (by omega) (by omega)).mono ?_
      rintro e w4 ⟨rfl, hN⟩
      obtain ⟨hM4, L4, hm4, hL4, -, -⟩ := hN.go hM3 hL3
      clear hN
      go_wp2_with fail
      refine (grow_ok w4 b k k _ L4 0 hm4 (by omega) (by omega) (by omega)).mono ?_
      rintro e w5 ⟨rfl, hN⟩
      obtain ⟨hM5, L5, hm5, hL5, -, -⟩ := hN.go hM4 hL4
      clear hN
      go_wp2_with fail
      refine (pages_is w5 b (k + 0) k _ L5 hm5).mono ?_
      rintro e w6 ⟨rfl, rfl⟩
      go_wp2_with fail
      go_ret
      exact ⟨ret_bool (by simp), hM5⟩

end Go.Proofs.Ytagpnalhilgcpaa
