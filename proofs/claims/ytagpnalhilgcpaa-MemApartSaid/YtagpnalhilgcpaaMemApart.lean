/-
  The law MemApart returns true, for every argument, and leaves all that was in memory as it was. No condition.
-/
import Derived.Test.YtagpnalhilgcpaaMemH
namespace Go.Proofs.Ytagpnalhilgcpaa
open Go.RowKit
set_option linter.unusedVariables false

set_option maxRecDepth 100000 in
set_option maxHeartbeats 2000000 in
theorem memApart_walk (a0 : Nat) (_h0 : a0 < 4294967296) (a1 : Nat) (_h1 : a1 < 4294967296) (a2 : Nat) (h2 : a2 < 18446744073709551616) (a3 : Nat) (h3 : a3 < 18446744073709551616) (w : World) :
    Calls Try.prog 4 #[.int .u32 a0, .int .u32 a1, .int .u64 a2, .int .u64 a3] w fun e w' => e = .returned (.bool true) ∧ Mods [] w w' := by
  have hr : (a0 : Int) % 65000 = ((a0 % 65000 : Nat) : Int) := by omega
  have hx : a0 % 65000 < 65000 := by omega
  have hq : (a1 : Int) % 65000 = ((a1 % 65000 : Nat) : Int) := by omega
  have hz : a1 % 65000 < 65000 := by omega
  generalize a0 % 65000 = x at *
  generalize a1 % 65000 = z at *
  have e1 : num (fun j => putF (putF (fun _ => 0) x 8 (byteOf a2)) (x + 8 + z) 8 (byteOf a3) (x + j)) 8 = a2 := by
    rw [num_putF_out _ _ _ _ _ _ (by omega), num_putF]; exact Nat.mod_eq_of_lt h2
  have e2 : num (fun j => putF (putF (fun _ => 0) x 8 (byteOf a2)) (x + 8 + z) 8 (byteOf a3) (x + 8 + z + j)) 8 = a3 := by
    rw [num_putF]; exact Nat.mod_eq_of_lt h3
  have e3 : putF (putF (fun _ => 0) (x + 8 + z) 8 (byteOf a3)) x 8 (byteOf a2) = putF (putF (fun _ => 0) x 8 (byteOf a2)) (x + 8 + z) 8 (byteOf a3) := putF_comm _ _ _ _ _ _ _ (by omega)
  have ey : ((x : Int) + 8 + z) = ((x + 8 + z : Nat) : Int) := by omega
  have E := Lib.hid (And.intro e1 (And.intro e2 (And.intro e3 ey)))
  clear e1 e2 e3 ey
  go_enter Try.func4, Try.ntmps4
  go_wp2_with fail
  refine (examples8 _).mono ?_
  rintro e w1 ⟨rfl, hM1⟩
  go_wp2_with fail
  refine (new_is _ 2 2 (by omega) (by omega) (by omega) (by omega)).mono ?_
  rintro e w2 ⟨b, L, rfl, hm2, hM2, hL2⟩
  have hM := hM1.trans hM2 (by simp)
  have hL : ∀ k ∈ L, w.heap.size ≤ k := fun k hk => Nat.le_trans hM1.size (hL2 k hk)
  clear hM1 hM2 hL2
  go_wp2_with fail
  refine (new_is _ 2 2 (by omega) (by omega) (by omega) (by omega)).mono ?_
  rintro e w3 ⟨b', L', rfl, hm3, hM3, hL3⟩
  have T := Two.mk hM hm2 hL hm3 hM3 hL3
  clear hM hm2 hL hm3 hM3 hL3
  go_wp2_with fail
  refine (store_two T x 8 a2 (by omega) h2 (has8 (by omega))).mono ?_
  rintro e w4 ⟨rfl, T4⟩
  clear T
  go_wp2_with fail
  rw [E.out.2.2.2]
  refine (store_two T4 (x + 8 + z) 8 a3 (by omega) h3 (has8 (by omega))).mono ?_
  rintro e w5 ⟨rfl, T5⟩
  clear T4
  go_wp2_with fail
  try rw [E.out.2.2.2]
  refine (store_two T5.swap (x + 8 + z) 8 a3 (by omega) h3 (has8 (by omega))).mono ?_
  rintro e w6 ⟨rfl, T6⟩
  clear T5
  go_wp2_with fail
  refine (store_two T6 x 8 a2 (by omega) h2 (has8 (by omega))).mono ?_
  rintro e w7 ⟨rfl, T7⟩
  clear T6
  rw [show (8 : Int).toNat = 8 from rfl, E.out.2.2.1] at T7
  go_wp2_with fail
  refine (load_two T7.swap x 8 (by omega) (has8 (by omega))).mono ?_
  rintro e w8 ⟨rfl, T8⟩
  clear T7
  rw [show (8 : Int).toNat = 8 from rfl, E.out.1]
  go_wp2_with fail
  try rw [E.out.2.2.2]
  refine (load_two T8 (x + 8 + z) 8 (by omega) (has8 (by omega))).mono ?_
  rintro e w9 ⟨rfl, T9⟩
  clear T8
  rw [show (8 : Int).toNat = 8 from rfl, E.out.2.1]
  go_wp2_with fail
  refine (bytes_two T9 0 131072 (by omega) (by omega)).mono ?_
  rintro e w10 ⟨rfl, T10⟩
  clear T9
  generalize hS : strF (putF (putF (fun _ => 0) x 8 (byteOf a2)) (x + 8 + z) 8 (byteOf a3)) 0 131072 = S at *
  have HS := Lib.hid hS
  clear hS
  go_wp2_with fail
  refine (bytes_two T10.swap 0 131072 (by omega) (by omega)).mono ?_
  rintro e w11 ⟨rfl, T11⟩
  rw [HS.out]
  clear T10
  go_wp2_with fail
  go_ret
  exact ⟨ret_bool (by simp), T11.1⟩

end Go.Proofs.Ytagpnalhilgcpaa
