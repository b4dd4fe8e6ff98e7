/-
  The law MemEnds returns true, for every argument, and leaves all that was in memory as it was. No condition.
-/
import Derived.Test.YtagpnalhilgcpaaMemH
namespace Go.Proofs.Ytagpnalhilgcpaa
open Go.RowKit
set_option linter.unusedVariables false
set_option linter.unusedSimpArgs false

theorem size_cut (s : ByteArray) (m : Nat) (h : m ≤ s.size) : (s.extract 0 m).size = m := by
  rw [ByteArray.size_extract, Nat.min_eq_left h]; omega

set_option maxRecDepth 100000 in
set_option maxHeartbeats 2000000 in
theorem memEnds_1 (a0 : Nat) (_h0 : a0 < 256) (a1 : Nat) (h1 : a1 < 256) (a2 : Nat) (h2 : a2 < 18446744073709551616) (s : ByteArray) (hs : s.size ≤ 140737488351232) (hk : (a0 : Int) % 4 = 0) (w : World) :
    Calls Try.prog 7 #[.int .u8 a0, .int .u8 a1, .int .u64 a2, .string s] w fun e w' => e = .returned (.bool true) ∧ Mods [] w w' := by
  obtain ⟨m, hm, hms, hm100⟩ : ∃ m : Nat, (((s.size : Int) ≤ 100 ∧ (m : Int) = (s.size : Int)) ∨ ((100 : Int) < (s.size : Int) ∧ (m : Int) = 100)) ∧ m ≤ s.size ∧ m ≤ 100 := by
    by_cases h : s.size ≤ 100
    · exact ⟨s.size, .inl ⟨by omega, rfl⟩, by omega, h⟩
    · exact ⟨100, .inr ⟨by omega, rfl⟩, by omega, by omega⟩
  have hsz := size_cut s m hms
  have ex : ((65536 : Int) + a1) = ((65536 + a1 : Nat) : Int) := by omega
  have ey : ((65536 : Int) - m) = ((65536 - m : Nat) : Int) := by omega
  have ez : ((65536 : Int) - m + 1) = ((65536 - m + 1 : Nat) : Int) := by omega
  have bad1 : (wOK 1 && hasB 1 ((65536 + a1 : Nat) : Int) 1) = false := by
    rw [show hasB 1 ((65536 + a1 : Nat) : Int) 1 = false from decide_eq_false (by omega)]; rfl
  have bad2 : (wOK 1 && hasB 1 ((18446744073709551615 : Nat) : Int) 1) = false := by decide
  have bad3 : (wOK 3 && hasB 1 ((0 : Nat) : Int) 3) = false := by decide
  have E := Lib.hid (And.intro hsz (And.intro ex (And.intro ey (And.intro ez (And.intro bad1 (And.intro bad2 bad3))))))
  clear hsz ex ey ez bad1 bad2 bad3
  have HM := Lib.hid hm
  clear hm
  go_enter Try.func7, Try.ntmps7
  go_wp2_with fail
  refine (examples8 _).mono ?_
  rintro e w1 ⟨rfl, hM1⟩
  go_wp2_with fail
  refine (new_is _ 1 1 (by omega) (by omega) (by omega) (by omega)).mono ?_
  rintro e w2 ⟨b, L, rfl, hm2, hM2, hL2⟩
  have hM := hM1.trans hM2 (by simp)
  have hL : ∀ k ∈ L, w.heap.size ≤ k := fun k hk => Nat.le_trans hM1.size (hL2 k hk)
  rw [show newMost 1 = 1 from rfl] at hm2
  clear hM1 hM2 hL2
  go_wp2_with (refine wpList_min rfl (.tmp 43) (.const (.int .i64 100)) _ _ rfl .i64 s.size 100 m rfl rfl HM.out ?_)
  generalize s.extract 0 m = t at *
  have hz := E.out.1
  refine (store_ok w2 b 1 1 _ L 65535 1 a2 hm2 (by omega) h2 (by decide)).mono ?_
  rintro e w3 ⟨rfl, hN⟩
  obtain ⟨hM3, L3, hm3, hL3, -, -⟩ := hN.go hM hL
  clear hN hm2 hM hL
  go_wp2_with fail
  rw [E.out.2.1]
  refine (store_bad w3 b 1 1 _ L3 (65536 + a1) 1 a2 hm3 (by omega) (by omega) (by omega) (by omega) h2 E.out.2.2.2.2.1).mono ?_
  rintro e w4 ⟨rfl, hN⟩
  obtain ⟨hM4, L4, hm4, hL4, -, -⟩ := hN.go hM3 hL3
  clear hN hm3 hM3 hL3
  go_wp2_with fail
  refine (store_bad w4 b 1 1 _ L4 18446744073709551615 1 a2 hm4 (by omega) (by omega) (by omega) (by omega) h2 E.out.2.2.2.2.2.1).mono ?_
  rintro e w5 ⟨rfl, hN⟩
  obtain ⟨hM5, L5, hm5, hL5, -, -⟩ := hN.go hM4 hL4
  clear hN hm4 hM4 hL4
  go_wp2_with fail
  try rw [E.out.2.1]
  refine (load_bad w5 b 1 1 _ L5 (65536 + a1) 1 hm5 (by omega) (by omega) (by omega) (by omega) E.out.2.2.2.2.1).mono ?_
  rintro e w6 ⟨rfl, hM6⟩
  have hm6 := hm5.mods hM6 (by simp)
  have hM7 := hM5.trans hM6 (by simp)
  clear hm5 hM5 hM6
  go_wp2_with fail
  rw [E.out.2.2.1]
  refine (write_ok w6 b 1 1 _ L5 (65536 - m) t hm6 (by omega) (by rw [E.out.1]; omega)).mono ?_
  rintro e w7 ⟨rfl, hN⟩
  obtain ⟨hM8, L8, hm8, hL8, -, -⟩ := hN.go hM7 hL5
  clear hN hm6 hM7 hL5
  go_wp2_with fail
  rw [E.out.2.2.2.1]
  refine (write_bad w7 b 1 1 _ L8 (65536 - m + 1) t hm8 (by omega) (by omega) (by rw [E.out.1]; omega) (by rw [E.out.1]; omega)).mono ?_
  rintro e w9 ⟨rfl, hN⟩
  obtain ⟨hM9, L9, hm9, hL9, -, -⟩ := hN.go hM8 hL8
  clear hN hm8 hM8 hL8
  go_wp2_with fail
  refine (load_bad w9 b 1 1 _ L9 0 3 hm9 (by omega) (by omega) (by omega) (by omega) E.out.2.2.2.2.2.2).mono ?_
  rintro e w10 ⟨rfl, hM10⟩
  have hm10 := hm9.mods hM10 (by simp)
  have hM11 := hM9.trans hM10 (by simp)
  clear hm9 hM9 hM10
  go_wp2_with fail
  refine (bytes_ok w10 b 1 1 _ L9 65536 0 hm10 (by omega) (by omega)).mono ?_
  rintro e w12 ⟨rfl, hM12⟩
  rw [strF_zero]
  have hm12 := hm10.mods hM12 (by simp)
  have hM13 := hM11.trans hM12 (by simp)
  clear hm10 hM11 hM12
  go_wp2_with fail
  refine (grow_bad w12 b 1 1 _ L9 1 hm12 (by omega) (by omega) (by omega) (by omega)).mono ?_
  rintro e w14 ⟨rfl, hN⟩
  obtain ⟨hM14, L14, hm14, hL14, -, -⟩ := hN.go hM13 hL9
  clear hN hm12 hM13 hL9
  go_wp2_with fail
  refine (pages_is w14 b 1 1 _ L14 hm14).mono ?_
  rintro e w15 ⟨rfl, rfl⟩
  go_wp2_with fail
  go_ret
  exact ⟨ret_bool (by simp), hM14⟩

set_option maxRecDepth 100000 in
set_option maxHeartbeats 2000000 in
theorem memEnds_2 (a0 : Nat) (_h0 : a0 < 256) (a1 : Nat) (h1 : a1 < 256) (a2 : Nat) (h2 : a2 < 18446744073709551616) (s : ByteArray) (hs : s.size ≤ 140737488351232) (hk : (a0 : Int) % 4 = 1) (w : World) :
    Calls Try.prog 7 #[.int .u8 a0, .int .u8 a1, .int .u64 a2, .string s] w fun e w' => e = .returned (.bool true) ∧ Mods [] w w' := by
  obtain ⟨m, hm, hms, hm100⟩ : ∃ m : Nat, (((s.size : Int) ≤ 100 ∧ (m : Int) = (s.size : Int)) ∨ ((100 : Int) < (s.size : Int) ∧ (m : Int) = 100)) ∧ m ≤ s.size ∧ m ≤ 100 := by
    by_cases h : s.size ≤ 100
    · exact ⟨s.size, .inl ⟨by omega, rfl⟩, by omega, h⟩
    · exact ⟨100, .inr ⟨by omega, rfl⟩, by omega, by omega⟩
  have hsz := size_cut s m hms
  have ex : ((65535 : Int) + a1) = ((65535 + a1 : Nat) : Int) := by omega
  have ey : ((65536 : Int) - m) = ((65536 - m : Nat) : Int) := by omega
  have ez : ((65536 : Int) - m + 1) = ((65536 - m + 1 : Nat) : Int) := by omega
  have bad1 : (wOK 2 && hasB 1 ((65535 + a1 : Nat) : Int) 2) = false := by
    rw [show hasB 1 ((65535 + a1 : Nat) : Int) 2 = false from decide_eq_false (by omega)]; rfl
  have bad2 : (wOK 2 && hasB 1 ((18446744073709551615 : Nat) : Int) 2) = false := by decide
  have bad3 : (wOK 3 && hasB 1 ((0 : Nat) : Int) 3) = false := by decide
  have E := Lib.hid (And.intro hsz (And.intro ex (And.intro ey (And.intro ez (And.intro bad1 (And.intro bad2 bad3))))))
  clear hsz ex ey ez bad1 bad2 bad3
  have HM := Lib.hid hm
  clear hm
  go_enter Try.func7, Try.ntmps7
  go_wp2_with fail
  refine (examples8 _).mono ?_
  rintro e w1 ⟨rfl, hM1⟩
  go_wp2_with fail
  refine (new_is _ 1 1 (by omega) (by omega) (by omega) (by omega)).mono ?_
  rintro e w2 ⟨b, L, rfl, hm2, hM2, hL2⟩
  have hM := hM1.trans hM2 (by simp)
  have hL : ∀ k ∈ L, w.heap.size ≤ k := fun k hk => Nat.le_trans hM1.size (hL2 k hk)
  rw [show newMost 1 = 1 from rfl] at hm2
  clear hM1 hM2 hL2
  go_wp2_with (refine wpList_min rfl (.tmp 43) (.const (.int .i64 100)) _ _ rfl .i64 s.size 100 m rfl rfl HM.out ?_)
  generalize s.extract 0 m = t at *
  have hz := E.out.1
  refine (store_ok w2 b 1 1 _ L 65534 2 a2 hm2 (by omega) h2 (by decide)).mono ?_
  rintro e w3 ⟨rfl, hN⟩
  obtain ⟨hM3, L3, hm3, hL3, -, -⟩ := hN.go hM hL
  clear hN hm2 hM hL
  go_wp2_with fail
  rw [E.out.2.1]
  refine (store_bad w3 b 1 1 _ L3 (65535 + a1) 2 a2 hm3 (by omega) (by omega) (by omega) (by omega) h2 E.out.2.2.2.2.1).mono ?_
  rintro e w4 ⟨rfl, hN⟩
  obtain ⟨hM4, L4, hm4, hL4, -, -⟩ := hN.go hM3 hL3
  clear hN hm3 hM3 hL3
  go_wp2_with fail
  refine (store_bad w4 b 1 1 _ L4 18446744073709551615 2 a2 hm4 (by omega) (by omega) (by omega) (by omega) h2 E.out.2.2.2.2.2.1).mono ?_
  rintro e w5 ⟨rfl, hN⟩
  obtain ⟨hM5, L5, hm5, hL5, -, -⟩ := hN.go hM4 hL4
  clear hN hm4 hM4 hL4
  go_wp2_with fail
  try rw [E.out.2.1]
  refine (load_bad w5 b 1 1 _ L5 (65535 + a1) 2 hm5 (by omega) (by omega) (by omega) (by omega) E.out.2.2.2.2.1).mono ?_
  rintro e w6 ⟨rfl, hM6⟩
  have hm6 := hm5.mods hM6 (by simp)
  have hM7 := hM5.trans hM6 (by simp)
  clear hm5 hM5 hM6
  go_wp2_with fail
  rw [E.out.2.2.1]
  refine (write_ok w6 b 1 1 _ L5 (65536 - m) t hm6 (by omega) (by rw [E.out.1]; omega)).mono ?_
  rintro e w7 ⟨rfl, hN⟩
  obtain ⟨hM8, L8, hm8, hL8, -, -⟩ := hN.go hM7 hL5
  clear hN hm6 hM7 hL5
  go_wp2_with fail
  rw [E.out.2.2.2.1]
  refine (write_bad w7 b 1 1 _ L8 (65536 - m + 1) t hm8 (by omega) (by omega) (by rw [E.out.1]; omega) (by rw [E.out.1]; omega)).mono ?_
  rintro e w9 ⟨rfl, hN⟩
  obtain ⟨hM9, L9, hm9, hL9, -, -⟩ := hN.go hM8 hL8
  clear hN hm8 hM8 hL8
  go_wp2_with fail
  refine (load_bad w9 b 1 1 _ L9 0 3 hm9 (by omega) (by omega) (by omega) (by omega) E.out.2.2.2.2.2.2).mono ?_
  rintro e w10 ⟨rfl, hM10⟩
  have hm10 := hm9.mods hM10 (by simp)
  have hM11 := hM9.trans hM10 (by simp)
  clear hm9 hM9 hM10
  go_wp2_with fail
  refine (bytes_ok w10 b 1 1 _ L9 65536 0 hm10 (by omega) (by omega)).mono ?_
  rintro e w12 ⟨rfl, hM12⟩
  rw [strF_zero]
  have hm12 := hm10.mods hM12 (by simp)
  have hM13 := hM11.trans hM12 (by simp)
  clear hm10 hM11 hM12
  go_wp2_with fail
  refine (grow_bad w12 b 1 1 _ L9 1 hm12 (by omega) (by omega) (by omega) (by omega)).mono ?_
  rintro e w14 ⟨rfl, hN⟩
  obtain ⟨hM14, L14, hm14, hL14, -, -⟩ := hN.go hM13 hL9
  clear hN hm12 hM13 hL9
  go_wp2_with fail
  refine (pages_is w14 b 1 1 _ L14 hm14).mono ?_
  rintro e w15 ⟨rfl, rfl⟩
  go_wp2_with fail
  go_ret
  exact ⟨ret_bool (by simp), hM14⟩

set_option maxRecDepth 100000 in
set_option maxHeartbeats 2000000 in
theorem memEnds_4 (a0 : Nat) (_h0 : a0 < 256) (a1 : Nat) (h1 : a1 < 256) (a2 : Nat) (h2 : a2 < 18446744073709551616) (s : ByteArray) (hs : s.size ≤ 140737488351232) (hk : (a0 : Int) % 4 = 2) (w : World) :
    Calls Try.prog 7 #[.int .u8 a0, .int .u8 a1, .int .u64 a2, .string s] w fun e w' => e = .returned (.bool true) ∧ Mods [] w w' := by
  obtain ⟨m, hm, hms, hm100⟩ : ∃ m : Nat, (((s.size : Int) ≤ 100 ∧ (m : Int) = (s.size : Int)) ∨ ((100 : Int) < (s.size : Int) ∧ (m : Int) = 100)) ∧ m ≤ s.size ∧ m ≤ 100 := by
    by_cases h : s.size ≤ 100
    · exact ⟨s.size, .inl ⟨by omega, rfl⟩, by omega, h⟩
    · exact ⟨100, .inr ⟨by omega, rfl⟩, by omega, by omega⟩
  have hsz := size_cut s m hms
  have ex : ((65533 : Int) + a1) = ((65533 + a1 : Nat) : Int) := by omega
  have ey : ((65536 : Int) - m) = ((65536 - m : Nat) : Int) := by omega
  have ez : ((65536 : Int) - m + 1) = ((65536 - m + 1 : Nat) : Int) := by omega
  have bad1 : (wOK 4 && hasB 1 ((65533 + a1 : Nat) : Int) 4) = false := by
    rw [show hasB 1 ((65533 + a1 : Nat) : Int) 4 = false from decide_eq_false (by omega)]; rfl
  have bad2 : (wOK 4 && hasB 1 ((18446744073709551615 : Nat) : Int) 4) = false := by decide
  have bad3 : (wOK 3 && hasB 1 ((0 : Nat) : Int) 3) = false := by decide
  have E := Lib.hid (And.intro hsz (And.intro ex (And.intro ey (And.intro ez (And.intro bad1 (And.intro bad2 bad3))))))
  clear hsz ex ey ez bad1 bad2 bad3
  have HM := Lib.hid hm
  clear hm
  go_enter Try.func7, Try.ntmps7
  go_wp2_with fail
  refine (examples8 _).mono ?_
  rintro e w1 ⟨rfl, hM1⟩
  go_wp2_with fail
  refine (new_is _ 1 1 (by omega) (by omega) (by omega) (by omega)).mono ?_
  rintro e w2 ⟨b, L, rfl, hm2, hM2, hL2⟩
  have hM := hM1.trans hM2 (by simp)
  have hL : ∀ k ∈ L, w.heap.size ≤ k := fun k hk => Nat.le_trans hM1.size (hL2 k hk)
  rw [show newMost 1 = 1 from rfl] at hm2
  clear hM1 hM2 hL2
  go_wp2_with (refine wpList_min rfl (.tmp 43) (.const (.int .i64 100)) _ _ rfl .i64 s.size 100 m rfl rfl HM.out ?_)
  generalize s.extract 0 m = t at *
  have hz := E.out.1
  refine (store_ok w2 b 1 1 _ L 65532 4 a2 hm2 (by omega) h2 (by decide)).mono ?_
  rintro e w3 ⟨rfl, hN⟩
  obtain ⟨hM3, L3, hm3, hL3, -, -⟩ := hN.go hM hL
  clear hN hm2 hM hL
  go_wp2_with fail
  rw [E.out.2.1]
  refine (store_bad w3 b 1 1 _ L3 (65533 + a1) 4 a2 hm3 (by omega) (by omega) (by omega) (by omega) h2 E.out.2.2.2.2.1).mono ?_
  rintro e w4 ⟨rfl, hN⟩
  obtain ⟨hM4, L4, hm4, hL4, -, -⟩ := hN.go hM3 hL3
  clear hN hm3 hM3 hL3
  go_wp2_with fail
  refine (store_bad w4 b 1 1 _ L4 18446744073709551615 4 a2 hm4 (by omega) (by omega) (by omega) (by omega) h2 E.out.2.2.2.2.2.1).mono ?_
  rintro e w5 ⟨rfl, hN⟩
  obtain ⟨hM5, L5, hm5, hL5, -, -⟩ := hN.go hM4 hL4
  clear hN hm4 hM4 hL4
  go_wp2_with fail
  try rw [E.out.2.1]
  refine (load_bad w5 b 1 1 _ L5 (65533 + a1) 4 hm5 (by omega) (by omega) (by omega) (by omega) E.out.2.2.2.2.1).mono ?_
  rintro e w6 ⟨rfl, hM6⟩
  have hm6 := hm5.mods hM6 (by simp)
  have hM7 := hM5.trans hM6 (by simp)
  clear hm5 hM5 hM6
  go_wp2_with fail
  rw [E.out.2.2.1]
  refine (write_ok w6 b 1 1 _ L5 (65536 - m) t hm6 (by omega) (by rw [E.out.1]; omega)).mono ?_
  rintro e w7 ⟨rfl, hN⟩
  obtain ⟨hM8, L8, hm8, hL8, -, -⟩ := hN.go hM7 hL5
  clear hN hm6 hM7 hL5
  go_wp2_with fail
  rw [E.out.2.2.2.1]
  refine (write_bad w7 b 1 1 _ L8 (65536 - m + 1) t hm8 (by omega) (by omega) (by rw [E.out.1]; omega) (by rw [E.out.1]; omega)).mono ?_
  rintro e w9 ⟨rfl, hN⟩
  obtain ⟨hM9, L9, hm9, hL9, -, -⟩ := hN.go hM8 hL8
  clear hN hm8 hM8 hL8
  go_wp2_with fail
  refine (load_bad w9 b 1 1 _ L9 0 3 hm9 (by omega) (by omega) (by omega) (by omega) E.out.2.2.2.2.2.2).mono ?_
  rintro e w10 ⟨rfl, hM10⟩
  have hm10 := hm9.mods hM10 (by simp)
  have hM11 := hM9.trans hM10 (by simp)
  clear hm9 hM9 hM10
  go_wp2_with fail
  refine (bytes_ok w10 b 1 1 _ L9 65536 0 hm10 (by omega) (by omega)).mono ?_
  rintro e w12 ⟨rfl, hM12⟩
  rw [strF_zero]
  have hm12 := hm10.mods hM12 (by simp)
  have hM13 := hM11.trans hM12 (by simp)
  clear hm10 hM11 hM12
  go_wp2_with fail
  refine (grow_bad w12 b 1 1 _ L9 1 hm12 (by omega) (by omega) (by omega) (by omega)).mono ?_
  rintro e w14 ⟨rfl, hN⟩
  obtain ⟨hM14, L14, hm14, hL14, -, -⟩ := hN.go hM13 hL9
  clear hN hm12 hM13 hL9
  go_wp2_with fail
  refine (pages_is w14 b 1 1 _ L14 hm14).mono ?_
  rintro e w15 ⟨rfl, rfl⟩
  go_wp2_with fail
  go_ret
  exact ⟨ret_bool (by simp), hM14⟩

set_option maxRecDepth 100000 in
set_option maxHeartbeats 2000000 in
theorem memEnds_8 (a0 : Nat) (_h0 : a0 < 256) (a1 : Nat) (h1 : a1 < 256) (a2 : Nat) (h2 : a2 < 18446744073709551616) (s : ByteArray) (hs : s.size ≤ 140737488351232) (hk : (a0 : Int) % 4 = 3) (w : World) :
    Calls Try.prog 7 #[.int .u8 a0, .int .u8 a1, .int .u64 a2, .string s] w fun e w' => e = .returned (.bool true) ∧ Mods [] w w' := by
  obtain ⟨m, hm, hms, hm100⟩ : ∃ m : Nat, (((s.size : Int) ≤ 100 ∧ (m : Int) = (s.size : Int)) ∨ ((100 : Int) < (s.size : Int) ∧ (m : Int) = 100)) ∧ m ≤ s.size ∧ m ≤ 100 := by
    by_cases h : s.size ≤ 100
    · exact ⟨s.size, .inl ⟨by omega, rfl⟩, by omega, h⟩
    · exact ⟨100, .inr ⟨by omega, rfl⟩, by omega, by omega⟩
  have hsz := size_cut s m hms
  have ex : ((65529 : Int) + a1) = ((65529 + a1 : Nat) : Int) := by omega
  have ey : ((65536 : Int) - m) = ((65536 - m : Nat) : Int) := by omega
  have ez : ((65536 : Int) - m + 1) = ((65536 - m + 1 : Nat) : Int) := by omega
  have bad1 : (wOK 8 && hasB 1 ((65529 + a1 : Nat) : Int) 8) = false := by
    rw [show hasB 1 ((65529 + a1 : Nat) : Int) 8 = false from decide_eq_false (by omega)]; rfl
  have bad2 : (wOK 8 && hasB 1 ((18446744073709551615 : Nat) : Int) 8) = false := by decide
  have bad3 : (wOK 3 && hasB 1 ((0 : Nat) : Int) 3) = false := by decide
  have E := Lib.hid (And.intro hsz (And.intro ex (And.intro ey (And.intro ez (And.intro bad1 (And.intro bad2 bad3))))))
  clear hsz ex ey ez bad1 bad2 bad3
  have HM := Lib.hid hm
  clear hm
  go_enter Try.func7, Try.ntmps7
  go_wp2_with fail
  refine (examples8 _).mono ?_
  rintro e w1 ⟨rfl, hM1⟩
  go_wp2_with fail
  refine (new_is _ 1 1 (by omega) (by omega) (by omega) (by omega)).mono ?_
  rintro e w2 ⟨b, L, rfl, hm2, hM2, hL2⟩
  have hM := hM1.trans hM2 (by simp)
  have hL : ∀ k ∈ L, w.heap.size ≤ k := fun k hk => Nat.le_trans hM1.size (hL2 k hk)
  rw [show newMost 1 = 1 from rfl] at hm2
  clear hM1 hM2 hL2
  go_wp2_with (refine wpList_min rfl (.tmp 43) (.const (.int .i64 100)) _ _ rfl .i64 s.size 100 m rfl rfl HM.out ?_)
  generalize s.extract 0 m = t at *
  have hz := E.out.1
  refine (store_ok w2 b 1 1 _ L 65528 8 a2 hm2 (by omega) h2 (by decide)).mono ?_
  rintro e w3 ⟨rfl, hN⟩
  obtain ⟨hM3, L3, hm3, hL3, -, -⟩ := hN.go hM hL
  clear hN hm2 hM hL
  go_wp2_with fail
  rw [E.out.2.1]
  refine (store_bad w3 b 1 1 _ L3 (65529 + a1) 8 a2 hm3 (by omega) (by omega) (by omega) (by omega) h2 E.out.2.2.2.2.1).mono ?_
  rintro e w4 ⟨rfl, hN⟩
  obtain ⟨hM4, L4, hm4, hL4, -, -⟩ := hN.go hM3 hL3
  clear hN hm3 hM3 hL3
  go_wp2_with fail
  refine (store_bad w4 b 1 1 _ L4 18446744073709551615 8 a2 hm4 (by omega) (by omega) (by omega) (by omega) h2 E.out.2.2.2.2.2.1).mono ?_
  rintro e w5 ⟨rfl, hN⟩
  obtain ⟨hM5, L5, hm5, hL5, -, -⟩ := hN.go hM4 hL4
  clear hN hm4 hM4 hL4
  go_wp2_with fail
  try rw [E.out.2.1]
  refine (load_bad w5 b 1 1 _ L5 (65529 + a1) 8 hm5 (by omega) (by omega) (by omega) (by omega) E.out.2.2.2.2.1).mono ?_
  rintro e w6 ⟨rfl, hM6⟩
  have hm6 := hm5.mods hM6 (by simp)
  have hM7 := hM5.trans hM6 (by simp)
  clear hm5 hM5 hM6
  go_wp2_with fail
  rw [E.out.2.2.1]
  refine (write_ok w6 b 1 1 _ L5 (65536 - m) t hm6 (by omega) (by rw [E.out.1]; omega)).mono ?_
  rintro e w7 ⟨rfl, hN⟩
  obtain ⟨hM8, L8, hm8, hL8, -, -⟩ := hN.go hM7 hL5
  clear hN hm6 hM7 hL5
  go_wp2_with fail
  rw [E.out.2.2.2.1]
  refine (write_bad w7 b 1 1 _ L8 (65536 - m + 1) t hm8 (by omega) (by omega) (by rw [E.out.1]; omega) (by rw [E.out.1]; omega)).mono ?_
  rintro e w9 ⟨rfl, hN⟩
  obtain ⟨hM9, L9, hm9, hL9, -, -⟩ := hN.go hM8 hL8
  clear hN hm8 hM8 hL8
  go_wp2_with fail
  refine (load_bad w9 b 1 1 _ L9 0 3 hm9 (by omega) (by omega) (by omega) (by omega) E.out.2.2.2.2.2.2).mono ?_
  rintro e w10 ⟨rfl, hM10⟩
  have hm10 := hm9.mods hM10 (by simp)
  have hM11 := hM9.trans hM10 (by simp)
  clear hm9 hM9 hM10
  go_wp2_with fail
  refine (bytes_ok w10 b 1 1 _ L9 65536 0 hm10 (by omega) (by omega)).mono ?_
  rintro e w12 ⟨rfl, hM12⟩
  rw [strF_zero]
  have hm12 := hm10.mods hM12 (by simp)
  have hM13 := hM11.trans hM12 (by simp)
  clear hm10 hM11 hM12
  go_wp2_with fail
  refine (grow_bad w12 b 1 1 _ L9 1 hm12 (by omega) (by omega) (by omega) (by omega)).mono ?_
  rintro e w14 ⟨rfl, hN⟩
  obtain ⟨hM14, L14, hm14, hL14, -, -⟩ := hN.go hM13 hL9
  clear hN hm12 hM13 hL9
  go_wp2_with fail
  refine (pages_is w14 b 1 1 _ L14 hm14).mono ?_
  rintro e w15 ⟨rfl, rfl⟩
  go_wp2_with fail
  go_ret
  exact ⟨ret_bool (by simp), hM14⟩

theorem memEnds_walk (a0 : Nat) (h0 : a0 < 256) (a1 : Nat) (h1 : a1 < 256) (a2 : Nat) (h2 : a2 < 18446744073709551616) (s : ByteArray) (hs : s.size ≤ 140737488351232) (w : World) :
    Calls Try.prog 7 #[.int .u8 a0, .int .u8 a1, .int .u64 a2, .string s] w fun e w' => e = .returned (.bool true) ∧ Mods [] w w' := by
  rcases (show (a0 : Int) % 4 = 0 ∨ (a0 : Int) % 4 = 1 ∨ (a0 : Int) % 4 = 2 ∨ (a0 : Int) % 4 = 3 from by omega) with hk | hk | hk | hk
  · exact memEnds_1 a0 h0 a1 h1 a2 h2 s hs hk w
  · exact memEnds_2 a0 h0 a1 h1 a2 h2 s hs hk w
  · exact memEnds_4 a0 h0 a1 h1 a2 h2 s hs hk w
  · exact memEnds_8 a0 h0 a1 h1 a2 h2 s hs hk w

end Go.Proofs.Ytagpnalhilgcpaa
