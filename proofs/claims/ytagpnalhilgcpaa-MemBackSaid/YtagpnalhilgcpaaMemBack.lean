/-
  The law MemBack returns true, for every argument, and leaves all that was in memory as it was. No condition.
-/
import Derived.Test.YtagpnalhilgcpaaMemH
import Derived.Deep.QuietTactic
import Derived.BigQuiet
namespace Go.Proofs.Ytagpnalhilgcpaa
open Go.RowKit
set_option linter.unusedVariables false
set_option linter.unusedSimpArgs false

/-- n times one byte. -/
def rep (n : Nat) (c : UInt8) : ByteArray := ⟨(List.replicate n c).toArray⟩
theorem size_rep (n : Nat) (c : UInt8) : (rep n c).size = n := by simp [rep, ByteArray.size]
theorem sAt_rep (n : Nat) (c : UInt8) (j : Nat) (h : j < n) : sAt (rep n c) j = c := by
  unfold sAt rep
  simp [List.getD_eq_getElem?_getD, List.getElem?_replicate, h]
theorem run_rep {w : World} (n : Nat) (c : UInt8) (g cap : Nat) (h : ∀ j, j < n → w.cell? ⟨g, 0 + j, none⟩ = some (.int .u8 (c.toNat : Int))) :
    (convert 47 9 (.slice (some ⟨g, 0, none⟩) n cap)).run Try.prog w = .ok (.string (rep n c)) w := by
  have := run_convert_bytes_back (P := Try.prog) w 47 9 5 ⟨g, 0, none⟩ cap (List.replicate n c) Try.underlying47 Try.underlying5 Try.underlying9 (by
    intro j hj
    have hj' : j < n := by simpa using hj
    rw [addr_add, h j hj']
    simp)
  simpa [rep] using this

/-- Sixteen times one byte. -/
def sixteen (c : UInt8) : ByteArray := rep 16 c

theorem sAt_sixteen (c : UInt8) (j : Nat) (h : j < 16) : sAt (sixteen c) j = c := sAt_rep 16 c j h

theorem sixteen_run (c : UInt8) (w : World) (x : Value) (hx : x = .int .u8 (c.toNat : Int)) :
    (convert 47 9 (.slice (some ⟨w.heap.size, 0, none⟩) 16 16)).run Try.prog (w.alloc (.cells #[x, x, x, x, x, x, x, x, x, x, x, x, x, x, x, x] 5)) =
      .ok (.string (sixteen c)) (w.alloc (.cells #[x, x, x, x, x, x, x, x, x, x, x, x, x, x, x, x] 5)) := by
  have hc : ∀ j, j < 16 → (w.alloc (.cells #[x, x, x, x, x, x, x, x, x, x, x, x, x, x, x, x] 5)).cell? ⟨w.heap.size, j, none⟩ = some x := by
    intro j hj
    rw [cell_of_heap (heap_alloc_new w _)]
    rcases j with _ | _ | _ | _ | _ | _ | _ | _ | _ | _ | _ | _ | _ | _ | _ | _ | j <;> first | rfl | omega
  exact run_rep 16 c _ _ (fun j hj => by rw [Nat.zero_add, hc j hj, hx])

theorem and_mask (v i : Nat) (hi : i ≤ 64) (hv : v < 18446744073709551616) (m : Int) (hm : m = 2 ^ i - 1) : bits .and .u64 (v : Int) m = ((v % 2 ^ i : Nat) : Int) := by
  rw [hm, bits_mask .u64 64 (by decide) wraps64 i hi (v : Int) (by omega) (by omega)]
  simp

theorem extract_eq {a b : ByteArray} {l h : Nat} (ha : h ≤ a.size) (hb : h ≤ b.size) (he : ∀ j, l ≤ j → j < h → sAt a j = sAt b j) : a.extract l h = b.extract l h := by
  apply ByteArray.ext
  apply Array.ext_getElem?
  intro i
  rw [ByteArray.data_extract, ByteArray.data_extract, Array.getElem?_extract, Array.getElem?_extract]
  have ea : min h a.data.size = h := Nat.min_eq_left ha
  have eb : min h b.data.size = h := Nat.min_eq_left hb
  rw [ea, eb]
  split
  · rename_i hi
    have := he (l + i) (by omega) (by omega)
    unfold sAt at this
    have h1 : l + i < a.data.size := by have : a.data.size = a.size := rfl; omega
    have h2 : l + i < b.data.size := by have : b.data.size = b.size := rfl; omega
    rw [List.getD_eq_getElem?_getD, List.getD_eq_getElem?_getD, Array.getElem?_toList, Array.getElem?_toList, Array.getElem?_eq_getElem h1, Array.getElem?_eq_getElem h2] at this
    rw [Array.getElem?_eq_getElem h1, Array.getElem?_eq_getElem h2]
    exact congrArg some this
  · rfl

theorem sAt_strF (f : Nat → UInt8) (a n j : Nat) (h : j < n) : sAt (strF f a n) j = f (a + j) := by
  unfold sAt strF
  simp [List.getD_eq_getElem?_getD, List.getElem?_range, h]

set_option maxRecDepth 100000 in
set_option maxHeartbeats 2000000 in
theorem memBack_1 (a0 : Nat) (_h0 : a0 < 4294967296) (a1 : Nat) (_h1 : a1 < 256) (a2 : Nat) (h2 : a2 < 18446744073709551616) (c : UInt8) (hk : (a1 : Int) % 4 = 0) (w : World) :
    Calls Try.prog 6 #[.int .u32 a0, .int .u8 a1, .int .u64 a2, .int .u8 (c.toNat : Int)] w fun e w' => e = .returned (.bool true) ∧ Mods [] w w' := by
  have hr : (a0 : Int) % 131000 = ((a0 % 131000 : Nat) : Int) := by omega
  have hx : a0 % 131000 < 131000 := by omega
  generalize a0 % 131000 = x at *
  have hcv := fun (w : World) => sixteen_run c w _ rfl
  have hA : (sixteen c).size = 16 := size_rep 16 c
  have hcc := sAt_sixteen c
  generalize sixteen c = A at *
  have hc8 := c.toNat_lt
  generalize c.toNat = v at *
  obtain ⟨F, hF⟩ : ∃ F, F = putF (putF (fun _ => 0) x 16 (sAt A)) (x + 4) 1 (byteOf a2) := ⟨_, rfl⟩
  have e1 : num (fun j => F (x + 4 + j)) 1 = a2 % 256 ^ 1 := by rw [hF, num_putF]
  have hS : (strF F x 16).size = 16 := strF_size _ _ _
  have e2 : (strF F x 16).extract 0 4 = A.extract 0 4 := extract_eq (by omega) (by omega) fun j h1 h2 => by
    rw [sAt_strF _ _ _ _ (by omega), hF, putF_out _ _ _ _ (by omega), putF_in _ _ _ _ (by omega)]; congr 1; omega
  have e3 : (strF F x 16).extract 5 16 = A.extract 5 16 := extract_eq (by omega) (by omega) fun j h1 h2 => by
    rw [sAt_strF _ _ _ _ (by omega), hF, putF_out _ _ _ _ (by omega), putF_in _ _ _ _ (by omega)]; congr 1; omega
  have ex : ((x : Int) + 4) = ((x + 4 : Nat) : Int) := by omega
  have hm : bits .and .u64 (a2 : Int) 255 = ((a2 % 256 ^ 1 : Nat) : Int) := by rw [show (256 : Nat) ^ 1 = 2 ^ 8 from rfl]; exact and_mask a2 8 (by omega) h2 _ (by decide)
  have E := Lib.hid (And.intro hF (And.intro e1 (And.intro e2 (And.intro e3 (And.intro hS (And.intro hA (And.intro ex (And.intro hcc hm))))))))
  clear hF e1 e2 e3 ex hS hA hcc hm
  go_enter Try.func6, Try.ntmps6
  go_wp2_with fail
  refine (examples8 _).mono ?_
  rintro e w1 ⟨rfl, hM1⟩
  go_wp2_with fail
  refine (new_is _ 2 (-1) (by omega) (by omega) (by omega) (by omega)).mono ?_
  rintro e w2 ⟨b, L, rfl, hm2, hM2, hL2⟩
  have hM := hM1.trans hM2 (by simp)
  have hL : ∀ k ∈ L, w.heap.size ≤ k := fun k hk => Nat.le_trans hM1.size (hL2 k hk)
  rw [show newMost (-1) = 256 from rfl] at hm2
  clear hM1 hM2 hL2
  go_wp2_with fail
  have hmA := hm2.mods ((Mods.refl [] w2).alloc (.cells #[.int .u8 v, .int .u8 v, .int .u8 v, .int .u8 v, .int .u8 v, .int .u8 v, .int .u8 v, .int .u8 v, .int .u8 v, .int .u8 v, .int .u8 v, .int .u8 v, .int .u8 v, .int .u8 v, .int .u8 v, .int .u8 v] 5)) (by simp)
  have hMA := hM.alloc (.cells #[.int .u8 v, .int .u8 v, .int .u8 v, .int .u8 v, .int .u8 v, .int .u8 v, .int .u8 v, .int .u8 v, .int .u8 v, .int .u8 v, .int .u8 v, .int .u8 v, .int .u8 v, .int .u8 v, .int .u8 v, .int .u8 v] 5)
  refine (write_ok _ b 2 256 _ L x A hmA (by omega) (by rw [E.out.2.2.2.2.2.1]; omega)).mono ?_
  rintro e w3 ⟨rfl, hN⟩
  obtain ⟨hM3, L3, hm3, hL3, -, -⟩ := hN.go hMA hL
  rw [E.out.2.2.2.2.2.1] at hm3
  clear hN hm2 hM hmA hMA
  go_wp2_with fail
  rw [E.out.2.2.2.2.2.2.1]
  refine (store_ok w3 b 2 256 _ L3 (x + 4) 1 a2 hm3 (by omega) h2 ?_).mono ?_
  · have h1 : hasB 2 ((x + 4 : Nat) : Int) 1 = true := decide_eq_true (by omega)
    rw [h1]; rfl
  rintro e w4 ⟨rfl, hN⟩
  obtain ⟨hM4, L4, hm4, hL4, -, -⟩ := hN.go hM3 hL3
  rw [show (1 : Int).toNat = 1 from rfl, ← E.out.1] at hm4
  clear hN hm3 hM3
  go_wp2_with fail
  refine (grow_ok w4 b 2 256 F L4 1 hm4 (by omega) (by omega) (by omega)).mono ?_
  rintro e w5 ⟨rfl, hN⟩
  obtain ⟨hM5, L5, hm5, hL5, -, -⟩ := hN.go hM4 hL4
  clear hN hm4 hM4
  go_wp2_with fail
  try rw [E.out.2.2.2.2.2.2.1]
  refine (load_ok w5 b (2 + 1) 256 F L5 (x + 4) 1 hm5 (by omega) ?_).mono ?_
  · have h1 : hasB (2 + 1) ((x + 4 : Nat) : Int) 1 = true := decide_eq_true (by omega)
    rw [h1]; rfl
  rintro e w6 ⟨rfl, hM6⟩
  rw [show (1 : Int).toNat = 1 from rfl, E.out.2.1]
  have hm6 := hm5.mods hM6 (by simp)
  have hM7 := hM5.trans hM6 (by simp)
  clear hm5 hM5 hM6
  have hm := E.out.2.2.2.2.2.2.2.2
  generalize hy : a2 % 256 ^ 1 = y at *
  clear hy
  go_wp2_with fail
  refine (bytes_ok w6 b (2 + 1) 256 F L5 x 16 hm6 (by omega) (by omega)).mono ?_
  rintro e w8 ⟨rfl, hM8⟩
  have hM9 := hM7.trans hM8 (by simp)
  have e2 := E.out.2.2.1
  have e3 := E.out.2.2.2.1
  have hS := E.out.2.2.2.2.1
  have hA := E.out.2.2.2.2.2.1
  clear hm6 hM7 hM8 E
  generalize strF F x 16 = S at *
  go_wp2_with fail
  go_quiet (fail)
  go_wp2_with fail
  go_ret
  exact ⟨ret_bool (by simp), hM9.drewN _⟩

set_option maxRecDepth 100000 in
set_option maxHeartbeats 2000000 in
theorem memBack_2 (a0 : Nat) (_h0 : a0 < 4294967296) (a1 : Nat) (_h1 : a1 < 256) (a2 : Nat) (h2 : a2 < 18446744073709551616) (c : UInt8) (hk : (a1 : Int) % 4 = 1) (w : World) :
    Calls Try.prog 6 #[.int .u32 a0, .int .u8 a1, .int .u64 a2, .int .u8 (c.toNat : Int)] w fun e w' => e = .returned (.bool true) ∧ Mods [] w w' := by
  have hr : (a0 : Int) % 131000 = ((a0 % 131000 : Nat) : Int) := by omega
  have hx : a0 % 131000 < 131000 := by omega
  generalize a0 % 131000 = x at *
  have hcv := fun (w : World) => sixteen_run c w _ rfl
  have hA : (sixteen c).size = 16 := size_rep 16 c
  have hcc := sAt_sixteen c
  generalize sixteen c = A at *
  have hc8 := c.toNat_lt
  generalize c.toNat = v at *
  obtain ⟨F, hF⟩ : ∃ F, F = putF (putF (fun _ => 0) x 16 (sAt A)) (x + 4) 2 (byteOf a2) := ⟨_, rfl⟩
  have e1 : num (fun j => F (x + 4 + j)) 2 = a2 % 256 ^ 2 := by rw [hF, num_putF]
  have hS : (strF F x 16).size = 16 := strF_size _ _ _
  have e2 : (strF F x 16).extract 0 4 = A.extract 0 4 := extract_eq (by omega) (by omega) fun j h1 h2 => by
    rw [sAt_strF _ _ _ _ (by omega), hF, putF_out _ _ _ _ (by omega), putF_in _ _ _ _ (by omega)]; congr 1; omega
  have e3 : (strF F x 16).extract 6 16 = A.extract 6 16 := extract_eq (by omega) (by omega) fun j h1 h2 => by
    rw [sAt_strF _ _ _ _ (by omega), hF, putF_out _ _ _ _ (by omega), putF_in _ _ _ _ (by omega)]; congr 1; omega
  have ex : ((x : Int) + 4) = ((x + 4 : Nat) : Int) := by omega
  have hm : bits .and .u64 (a2 : Int) 65535 = ((a2 % 256 ^ 2 : Nat) : Int) := by rw [show (256 : Nat) ^ 2 = 2 ^ 16 from rfl]; exact and_mask a2 16 (by omega) h2 _ (by decide)
  have E := Lib.hid (And.intro hF (And.intro e1 (And.intro e2 (And.intro e3 (And.intro hS (And.intro hA (And.intro ex (And.intro hcc hm))))))))
  clear hF e1 e2 e3 ex hS hA hcc hm
  go_enter Try.func6, Try.ntmps6
  go_wp2_with fail
  refine (examples8 _).mono ?_
  rintro e w1 ⟨rfl, hM1⟩
  go_wp2_with fail
  refine (new_is _ 2 (-1) (by omega) (by omega) (by omega) (by omega)).mono ?_
  rintro e w2 ⟨b, L, rfl, hm2, hM2, hL2⟩
  have hM := hM1.trans hM2 (by simp)
  have hL : ∀ k ∈ L, w.heap.size ≤ k := fun k hk => Nat.le_trans hM1.size (hL2 k hk)
  rw [show newMost (-1) = 256 from rfl] at hm2
  clear hM1 hM2 hL2
  go_wp2_with fail
  have hmA := hm2.mods ((Mods.refl [] w2).alloc (.cells #[.int .u8 v, .int .u8 v, .int .u8 v, .int .u8 v, .int .u8 v, .int .u8 v, .int .u8 v, .int .u8 v, .int .u8 v, .int .u8 v, .int .u8 v, .int .u8 v, .int .u8 v, .int .u8 v, .int .u8 v, .int .u8 v] 5)) (by simp)
  have hMA := hM.alloc (.cells #[.int .u8 v, .int .u8 v, .int .u8 v, .int .u8 v, .int .u8 v, .int .u8 v, .int .u8 v, .int .u8 v, .int .u8 v, .int .u8 v, .int .u8 v, .int .u8 v, .int .u8 v, .int .u8 v, .int .u8 v, .int .u8 v] 5)
  refine (write_ok _ b 2 256 _ L x A hmA (by omega) (by rw [E.out.2.2.2.2.2.1]; omega)).mono ?_
  rintro e w3 ⟨rfl, hN⟩
  obtain ⟨hM3, L3, hm3, hL3, -, -⟩ := hN.go hMA hL
  rw [E.out.2.2.2.2.2.1] at hm3
  clear hN hm2 hM hmA hMA
  go_wp2_with fail
  rw [E.out.2.2.2.2.2.2.1]
  refine (store_ok w3 b 2 256 _ L3 (x + 4) 2 a2 hm3 (by omega) h2 ?_).mono ?_
  · have h1 : hasB 2 ((x + 4 : Nat) : Int) 2 = true := decide_eq_true (by omega)
    rw [h1]; rfl
  rintro e w4 ⟨rfl, hN⟩
  obtain ⟨hM4, L4, hm4, hL4, -, -⟩ := hN.go hM3 hL3
  rw [show (2 : Int).toNat = 2 from rfl, ← E.out.1] at hm4
  clear hN hm3 hM3
  go_wp2_with fail
  refine (grow_ok w4 b 2 256 F L4 1 hm4 (by omega) (by omega) (by omega)).mono ?_
  rintro e w5 ⟨rfl, hN⟩
  obtain ⟨hM5, L5, hm5, hL5, -, -⟩ := hN.go hM4 hL4
  clear hN hm4 hM4
  go_wp2_with fail
  try rw [E.out.2.2.2.2.2.2.1]
  refine (load_ok w5 b (2 + 1) 256 F L5 (x + 4) 2 hm5 (by omega) ?_).mono ?_
  · have h1 : hasB (2 + 1) ((x + 4 : Nat) : Int) 2 = true := decide_eq_true (by omega)
    rw [h1]; rfl
  rintro e w6 ⟨rfl, hM6⟩
  rw [show (2 : Int).toNat = 2 from rfl, E.out.2.1]
  have hm6 := hm5.mods hM6 (by simp)
  have hM7 := hM5.trans hM6 (by simp)
  clear hm5 hM5 hM6
  have hm := E.out.2.2.2.2.2.2.2.2
  generalize hy : a2 % 256 ^ 2 = y at *
  clear hy
  go_wp2_with fail
  refine (bytes_ok w6 b (2 + 1) 256 F L5 x 16 hm6 (by omega) (by omega)).mono ?_
  rintro e w8 ⟨rfl, hM8⟩
  have hM9 := hM7.trans hM8 (by simp)
  have e2 := E.out.2.2.1
  have e3 := E.out.2.2.2.1
  have hS := E.out.2.2.2.2.1
  have hA := E.out.2.2.2.2.2.1
  clear hm6 hM7 hM8 E
  generalize strF F x 16 = S at *
  go_wp2_with fail
  go_quiet (fail)
  go_wp2_with fail
  go_ret
  exact ⟨ret_bool (by simp), hM9.drewN _⟩

set_option maxRecDepth 100000 in
set_option maxHeartbeats 2000000 in
theorem memBack_4 (a0 : Nat) (_h0 : a0 < 4294967296) (a1 : Nat) (_h1 : a1 < 256) (a2 : Nat) (h2 : a2 < 18446744073709551616) (c : UInt8) (hk : (a1 : Int) % 4 = 2) (w : World) :
    Calls Try.prog 6 #[.int .u32 a0, .int .u8 a1, .int .u64 a2, .int .u8 (c.toNat : Int)] w fun e w' => e = .returned (.bool true) ∧ Mods [] w w' := by
  have hr : (a0 : Int) % 131000 = ((a0 % 131000 : Nat) : Int) := by omega
  have hx : a0 % 131000 < 131000 := by omega
  generalize a0 % 131000 = x at *
  have hcv := fun (w : World) => sixteen_run c w _ rfl
  have hA : (sixteen c).size = 16 := size_rep 16 c
  have hcc := sAt_sixteen c
  generalize sixteen c = A at *
  have hc8 := c.toNat_lt
  generalize c.toNat = v at *
  obtain ⟨F, hF⟩ : ∃ F, F = putF (putF (fun _ => 0) x 16 (sAt A)) (x + 4) 4 (byteOf a2) := ⟨_, rfl⟩
  have e1 : num (fun j => F (x + 4 + j)) 4 = a2 % 256 ^ 4 := by rw [hF, num_putF]
  have hS : (strF F x 16).size = 16 := strF_size _ _ _
  have e2 : (strF F x 16).extract 0 4 = A.extract 0 4 := extract_eq (by omega) (by omega) fun j h1 h2 => by
    rw [sAt_strF _ _ _ _ (by omega), hF, putF_out _ _ _ _ (by omega), putF_in _ _ _ _ (by omega)]; congr 1; omega
  have e3 : (strF F x 16).extract 8 16 = A.extract 8 16 := extract_eq (by omega) (by omega) fun j h1 h2 => by
    rw [sAt_strF _ _ _ _ (by omega), hF, putF_out _ _ _ _ (by omega), putF_in _ _ _ _ (by omega)]; congr 1; omega
  have ex : ((x : Int) + 4) = ((x + 4 : Nat) : Int) := by omega
  have hm : bits .and .u64 (a2 : Int) 4294967295 = ((a2 % 256 ^ 4 : Nat) : Int) := by rw [show (256 : Nat) ^ 4 = 2 ^ 32 from rfl]; exact and_mask a2 32 (by omega) h2 _ (by decide)
  have E := Lib.hid (And.intro hF (And.intro e1 (And.intro e2 (And.intro e3 (And.intro hS (And.intro hA (And.intro ex (And.intro hcc hm))))))))
  clear hF e1 e2 e3 ex hS hA hcc hm
  go_enter Try.func6, Try.ntmps6
  go_wp2_with fail
  refine (examples8 _).mono ?_
  rintro e w1 ⟨rfl, hM1⟩
  go_wp2_with fail
  refine (new_is _ 2 (-1) (by omega) (by omega) (by omega) (by omega)).mono ?_
  rintro e w2 ⟨b, L, rfl, hm2, hM2, hL2⟩
  have hM := hM1.trans hM2 (by simp)
  have hL : ∀ k ∈ L, w.heap.size ≤ k := fun k hk => Nat.le_trans hM1.size (hL2 k hk)
  rw [show newMost (-1) = 256 from rfl] at hm2
  clear hM1 hM2 hL2
  go_wp2_with fail
  have hmA := hm2.mods ((Mods.refl [] w2).alloc (.cells #[.int .u8 v, .int .u8 v, .int .u8 v, .int .u8 v, .int .u8 v, .int .u8 v, .int .u8 v, .int .u8 v, .int .u8 v, .int .u8 v, .int .u8 v, .int .u8 v, .int .u8 v, .int .u8 v, .int .u8 v, .int .u8 v] 5)) (by simp)
  have hMA := hM.alloc (.cells #[.int .u8 v, .int .u8 v, .int .u8 v, .int .u8 v, .int .u8 v, .int .u8 v, .int .u8 v, .int .u8 v, .int .u8 v, .int .u8 v, .int .u8 v, .int .u8 v, .int .u8 v, .int .u8 v, .int .u8 v, .int .u8 v] 5)
  refine (write_ok _ b 2 256 _ L x A hmA (by omega) (by rw [E.out.2.2.2.2.2.1]; omega)).mono ?_
  rintro e w3 ⟨rfl, hN⟩
  obtain ⟨hM3, L3, hm3, hL3, -, -⟩ := hN.go hMA hL
  rw [E.out.2.2.2.2.2.1] at hm3
  clear hN hm2 hM hmA hMA
  go_wp2_with fail
  rw [E.out.2.2.2.2.2.2.1]
  refine (store_ok w3 b 2 256 _ L3 (x + 4) 4 a2 hm3 (by omega) h2 ?_).mono ?_
  · have h1 : hasB 2 ((x + 4 : Nat) : Int) 4 = true := decide_eq_true (by omega)
    rw [h1]; rfl
  rintro e w4 ⟨rfl, hN⟩
  obtain ⟨hM4, L4, hm4, hL4, -, -⟩ := hN.go hM3 hL3
  rw [show (4 : Int).toNat = 4 from rfl, ← E.out.1] at hm4
  clear hN hm3 hM3
  go_wp2_with fail
  refine (grow_ok w4 b 2 256 F L4 1 hm4 (by omega) (by omega) (by omega)).mono ?_
  rintro e w5 ⟨rfl, hN⟩
  obtain ⟨hM5, L5, hm5, hL5, -, -⟩ := hN.go hM4 hL4
  clear hN hm4 hM4
  go_wp2_with fail
  try rw [E.out.2.2.2.2.2.2.1]
  refine (load_ok w5 b (2 + 1) 256 F L5 (x + 4) 4 hm5 (by omega) ?_).mono ?_
  · have h1 : hasB (2 + 1) ((x + 4 : Nat) : Int) 4 = true := decide_eq_true (by omega)
    rw [h1]; rfl
  rintro e w6 ⟨rfl, hM6⟩
  rw [show (4 : Int).toNat = 4 from rfl, E.out.2.1]
  have hm6 := hm5.mods hM6 (by simp)
  have hM7 := hM5.trans hM6 (by simp)
  clear hm5 hM5 hM6
  have hm := E.out.2.2.2.2.2.2.2.2
  generalize hy : a2 % 256 ^ 4 = y at *
  clear hy
  go_wp2_with fail
  refine (bytes_ok w6 b (2 + 1) 256 F L5 x 16 hm6 (by omega) (by omega)).mono ?_
  rintro e w8 ⟨rfl, hM8⟩
  have hM9 := hM7.trans hM8 (by simp)
  have e2 := E.out.2.2.1
  have e3 := E.out.2.2.2.1
  have hS := E.out.2.2.2.2.1
  have hA := E.out.2.2.2.2.2.1
  clear hm6 hM7 hM8 E
  generalize strF F x 16 = S at *
  go_wp2_with fail
  go_quiet (fail)
  go_wp2_with fail
  go_ret
  exact ⟨ret_bool (by simp), hM9.drewN _⟩

set_option maxRecDepth 100000 in
set_option maxHeartbeats 2000000 in
theorem memBack_8 (a0 : Nat) (_h0 : a0 < 4294967296) (a1 : Nat) (_h1 : a1 < 256) (a2 : Nat) (h2 : a2 < 18446744073709551616) (c : UInt8) (hk : (a1 : Int) % 4 = 3) (w : World) :
    Calls Try.prog 6 #[.int .u32 a0, .int .u8 a1, .int .u64 a2, .int .u8 (c.toNat : Int)] w fun e w' => e = .returned (.bool true) ∧ Mods [] w w' := by
  have hr : (a0 : Int) % 131000 = ((a0 % 131000 : Nat) : Int) := by omega
  have hx : a0 % 131000 < 131000 := by omega
  generalize a0 % 131000 = x at *
  have hcv := fun (w : World) => sixteen_run c w _ rfl
  have hA : (sixteen c).size = 16 := size_rep 16 c
  have hcc := sAt_sixteen c
  generalize sixteen c = A at *
  have hc8 := c.toNat_lt
  generalize c.toNat = v at *
  obtain ⟨F, hF⟩ : ∃ F, F = putF (putF (fun _ => 0) x 16 (sAt A)) (x + 4) 8 (byteOf a2) := ⟨_, rfl⟩
  have e1 : num (fun j => F (x + 4 + j)) 8 = a2 % 256 ^ 8 := by rw [hF, num_putF]
  have hS : (strF F x 16).size = 16 := strF_size _ _ _
  have e2 : (strF F x 16).extract 0 4 = A.extract 0 4 := extract_eq (by omega) (by omega) fun j h1 h2 => by
    rw [sAt_strF _ _ _ _ (by omega), hF, putF_out _ _ _ _ (by omega), putF_in _ _ _ _ (by omega)]; congr 1; omega
  have e3 : (strF F x 16).extract 12 16 = A.extract 12 16 := extract_eq (by omega) (by omega) fun j h1 h2 => by
    rw [sAt_strF _ _ _ _ (by omega), hF, putF_out _ _ _ _ (by omega), putF_in _ _ _ _ (by omega)]; congr 1; omega
  have ex : ((x : Int) + 4) = ((x + 4 : Nat) : Int) := by omega
  have hm : a2 % 256 ^ 8 = a2 := Nat.mod_eq_of_lt h2
  have E := Lib.hid (And.intro hF (And.intro e1 (And.intro e2 (And.intro e3 (And.intro hS (And.intro hA (And.intro ex (And.intro hcc hm))))))))
  clear hF e1 e2 e3 ex hS hA hcc hm
  go_enter Try.func6, Try.ntmps6
  go_wp2_with fail
  refine (examples8 _).mono ?_
  rintro e w1 ⟨rfl, hM1⟩
  go_wp2_with fail
  refine (new_is _ 2 (-1) (by omega) (by omega) (by omega) (by omega)).mono ?_
  rintro e w2 ⟨b, L, rfl, hm2, hM2, hL2⟩
  have hM := hM1.trans hM2 (by simp)
  have hL : ∀ k ∈ L, w.heap.size ≤ k := fun k hk => Nat.le_trans hM1.size (hL2 k hk)
  rw [show newMost (-1) = 256 from rfl] at hm2
  clear hM1 hM2 hL2
  go_wp2_with fail
  have hmA := hm2.mods ((Mods.refl [] w2).alloc (.cells #[.int .u8 v, .int .u8 v, .int .u8 v, .int .u8 v, .int .u8 v, .int .u8 v, .int .u8 v, .int .u8 v, .int .u8 v, .int .u8 v, .int .u8 v, .int .u8 v, .int .u8 v, .int .u8 v, .int .u8 v, .int .u8 v] 5)) (by simp)
  have hMA := hM.alloc (.cells #[.int .u8 v, .int .u8 v, .int .u8 v, .int .u8 v, .int .u8 v, .int .u8 v, .int .u8 v, .int .u8 v, .int .u8 v, .int .u8 v, .int .u8 v, .int .u8 v, .int .u8 v, .int .u8 v, .int .u8 v, .int .u8 v] 5)
  refine (write_ok _ b 2 256 _ L x A hmA (by omega) (by rw [E.out.2.2.2.2.2.1]; omega)).mono ?_
  rintro e w3 ⟨rfl, hN⟩
  obtain ⟨hM3, L3, hm3, hL3, -, -⟩ := hN.go hMA hL
  rw [E.out.2.2.2.2.2.1] at hm3
  clear hN hm2 hM hmA hMA
  go_wp2_with fail
  rw [E.out.2.2.2.2.2.2.1]
  refine (store_ok w3 b 2 256 _ L3 (x + 4) 8 a2 hm3 (by omega) h2 ?_).mono ?_
  · have h1 : hasB 2 ((x + 4 : Nat) : Int) 8 = true := decide_eq_true (by omega)
    rw [h1]; rfl
  rintro e w4 ⟨rfl, hN⟩
  obtain ⟨hM4, L4, hm4, hL4, -, -⟩ := hN.go hM3 hL3
  rw [show (8 : Int).toNat = 8 from rfl, ← E.out.1] at hm4
  clear hN hm3 hM3
  go_wp2_with fail
  refine (grow_ok w4 b 2 256 F L4 1 hm4 (by omega) (by omega) (by omega)).mono ?_
  rintro e w5 ⟨rfl, hN⟩
  obtain ⟨hM5, L5, hm5, hL5, -, -⟩ := hN.go hM4 hL4
  clear hN hm4 hM4
  go_wp2_with fail
  try rw [E.out.2.2.2.2.2.2.1]
  refine (load_ok w5 b (2 + 1) 256 F L5 (x + 4) 8 hm5 (by omega) ?_).mono ?_
  · have h1 : hasB (2 + 1) ((x + 4 : Nat) : Int) 8 = true := decide_eq_true (by omega)
    rw [h1]; rfl
  rintro e w6 ⟨rfl, hM6⟩
  rw [show (8 : Int).toNat = 8 from rfl, E.out.2.1]
  have hm6 := hm5.mods hM6 (by simp)
  have hM7 := hM5.trans hM6 (by simp)
  clear hm5 hM5 hM6
  have hm := E.out.2.2.2.2.2.2.2.2
  rw [hm]
  clear hm
  go_wp2_with fail
  refine (bytes_ok w6 b (2 + 1) 256 F L5 x 16 hm6 (by omega) (by omega)).mono ?_
  rintro e w8 ⟨rfl, hM8⟩
  have hM9 := hM7.trans hM8 (by simp)
  have e2 := E.out.2.2.1
  have e3 := E.out.2.2.2.1
  have hS := E.out.2.2.2.2.1
  have hA := E.out.2.2.2.2.2.1
  clear hm6 hM7 hM8 E
  generalize strF F x 16 = S at *
  go_wp2_with fail
  go_quiet (fail)
  go_wp2_with fail
  go_ret
  exact ⟨ret_bool (by simp), hM9.drewN _⟩

theorem memBack_walk (a0 : Nat) (h0 : a0 < 4294967296) (a1 : Nat) (h1 : a1 < 256) (a2 : Nat) (h2 : a2 < 18446744073709551616) (a3 : Nat) (h3 : a3 < 256) (w : World) :
    Calls Try.prog 6 #[.int .u32 a0, .int .u8 a1, .int .u64 a2, .int .u8 a3] w fun e w' => e = .returned (.bool true) ∧ Mods [] w w' := by
  obtain ⟨c, hc⟩ : ∃ c : UInt8, c.toNat = a3 := ⟨UInt8.ofNat a3, by simp; omega⟩
  rw [← hc]
  rcases (show (a1 : Int) % 4 = 0 ∨ (a1 : Int) % 4 = 1 ∨ (a1 : Int) % 4 = 2 ∨ (a1 : Int) % 4 = 3 from by omega) with hk | hk | hk | hk
  · exact memBack_1 a0 h0 a1 h1 a2 h2 c hk w
  · exact memBack_2 a0 h0 a1 h1 a2 h2 c hk w
  · exact memBack_4 a0 h0 a1 h1 a2 h2 c hk w
  · exact memBack_8 a0 h0 a1 h1 a2 h2 c hk w

end Go.Proofs.Ytagpnalhilgcpaa
