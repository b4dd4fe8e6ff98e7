/-
  mem's methods again, each at arguments that are known to be right, or known to be wrong. And the examples of chapter 8: they return true.
-/
import Derived.Test.YtagpnalhilgcpaaMemF
namespace Go.Proofs.Ytagpnalhilgcpaa
open Go.RowKit
set_option linter.unusedVariables false

section
variable (w : World) (b n : Nat) (most : Int) (f : Nat → UInt8) (L : List Nat)

/-- A memory that has been written, or grown: what it holds now; of the old blocks its own alone have changed. -/
def Now (w : World) (b n : Nat) (most : Int) (f : Nat → UInt8) (L : List Nat) (w' : World) : Prop :=
  Mods L w w' ∧ ∃ L', Mem w' b n most f L' ∧ ∀ k ∈ L', k ∈ L ∨ w.heap.size ≤ k

theorem store_ok (at_ : Nat) (size : Int) (v : Nat) (h : Mem w b n most f L) (hn : n ≤ 256) (hv : v < 2 ^ 64) (hok : (wOK size && hasB n at_ size) = true) :
    Calls Try.prog 18 #[.pointer (some ⟨b, 0, none⟩), .int .u64 at_, .int .i64 size, .int .u64 v] w fun e w' => e = .returned (.bool true) ∧ Now w b n most (putF f at_ size.toNat (byteOf v)) L w' := by
  obtain ⟨h1, h2⟩ := Bool.and_eq_true_iff.1 hok
  have h3 := wOK_range h1
  have h4 : at_ + size ≤ 65536 * n := by unfold hasB at h2; exact (of_decide_eq_true h2).2
  refine (store_any w b n most f L at_ size v h hn (by omega) (by omega) (by omega) hv).mono ?_
  rintro e w' hp
  unfold StorePost at hp
  rw [hok] at hp
  exact ⟨hp.1, hp.2.1, by simpa using hp.2.2⟩

theorem store_bad (at_ : Nat) (size : Int) (v : Nat) (h : Mem w b n most f L) (hn : n ≤ 256) (ha : at_ < 18446744073709551616) (hs0 : -9223372036854775808 ≤ size) (hs1 : size ≤ 9223372036854775807) (hv : v < 2 ^ 64) (hbad : (wOK size && hasB n at_ size) = false) :
    Calls Try.prog 18 #[.pointer (some ⟨b, 0, none⟩), .int .u64 at_, .int .i64 size, .int .u64 v] w fun e w' => e = .returned (.bool false) ∧ Now w b n most f L w' := by
  refine (store_any w b n most f L at_ size v h hn ha hs0 hs1 hv).mono ?_
  rintro e w' hp
  unfold StorePost at hp
  rw [hbad] at hp
  exact ⟨hp.1, hp.2.1, by simpa using hp.2.2⟩

theorem load_ok (at_ : Nat) (size : Int) (h : Mem w b n most f L) (hn : n ≤ 256) (hok : (wOK size && hasB n at_ size) = true) :
    Calls Try.prog 16 #[.pointer (some ⟨b, 0, none⟩), .int .u64 at_, .int .i64 size] w fun e w' => e = .returned (.tuple #[.int .u64 ((num (fun j => f (at_ + j)) size.toNat : Nat) : Int), .bool true]) ∧ Mods [] w w' := by
  obtain ⟨h1, h2⟩ := Bool.and_eq_true_iff.1 hok
  have h3 := wOK_range h1
  have h4 : at_ + size ≤ 65536 * n := by unfold hasB at h2; exact (of_decide_eq_true h2).2
  refine (load_any w b n most f L at_ size h hn (by omega) (by omega) (by omega)).mono ?_
  rintro e w' hp
  unfold LoadPost at hp
  rw [hok] at hp
  exact hp

theorem load_bad (at_ : Nat) (size : Int) (h : Mem w b n most f L) (hn : n ≤ 256) (ha : at_ < 18446744073709551616) (hs0 : -9223372036854775808 ≤ size) (hs1 : size ≤ 9223372036854775807) (hbad : (wOK size && hasB n at_ size) = false) :
    Calls Try.prog 16 #[.pointer (some ⟨b, 0, none⟩), .int .u64 at_, .int .i64 size] w fun e w' => e = .returned (.tuple #[.int .u64 0, .bool false]) ∧ Mods [] w w' := by
  refine (load_any w b n most f L at_ size h hn ha hs0 hs1).mono ?_
  rintro e w' hp
  unfold LoadPost at hp
  rw [hbad] at hp
  exact hp

theorem bytes_ok (at_ : Nat) (size : Nat) (h : Mem w b n most f L) (hn : n ≤ 256) (hok : at_ + size ≤ 65536 * n) :
    Calls Try.prog 19 #[.pointer (some ⟨b, 0, none⟩), .int .u64 at_, .int .i64 size] w fun e w' => e = .returned (.tuple #[.string (strF f at_ size), .bool true]) ∧ Mods [] w w' := by
  refine (bytes_any w b n most f L at_ size h hn (by omega) (by omega) (by omega)).mono ?_
  rintro e w' hp
  unfold BytesPost at hp
  rw [show hasB n at_ size = true from decide_eq_true (by omega)] at hp
  exact hp

theorem bytes_bad (at_ : Nat) (size : Int) (h : Mem w b n most f L) (hn : n ≤ 256) (ha : at_ < 18446744073709551616) (hs0 : -9223372036854775808 ≤ size) (hs1 : size ≤ 9223372036854775807) (hbad : hasB n at_ size = false) :
    Calls Try.prog 19 #[.pointer (some ⟨b, 0, none⟩), .int .u64 at_, .int .i64 size] w fun e w' => e = .returned (.tuple #[.string ⟨#[]⟩, .bool false]) ∧ Mods [] w w' := by
  refine (bytes_any w b n most f L at_ size h hn ha hs0 hs1).mono ?_
  rintro e w' hp
  unfold BytesPost at hp
  rw [hbad] at hp
  exact hp

theorem write_ok (at_ : Nat) (s : ByteArray) (h : Mem w b n most f L) (hn : n ≤ 256) (hok : at_ + s.size ≤ 65536 * n) :
    Calls Try.prog 23 #[.pointer (some ⟨b, 0, none⟩), .int .u64 at_, .string s] w fun e w' => e = .returned (.bool true) ∧ Now w b n most (putF f at_ s.size (sAt s)) L w' := by
  refine (write_any w b n most f L at_ s h hn (by omega) (by omega)).mono ?_
  rintro e w' hp
  rw [show hasB n at_ s.size = true from decide_eq_true (by omega)] at hp
  exact ⟨hp.1, hp.2.1, by simpa using hp.2.2⟩

theorem write_bad (at_ : Nat) (s : ByteArray) (h : Mem w b n most f L) (hn : n ≤ 256) (ha : at_ < 18446744073709551616) (hs1 : s.size ≤ 9223372036854775807) (hbad : 65536 * n < at_ + s.size) :
    Calls Try.prog 23 #[.pointer (some ⟨b, 0, none⟩), .int .u64 at_, .string s] w fun e w' => e = .returned (.bool false) ∧ Now w b n most f L w' := by
  refine (write_any w b n most f L at_ s h hn ha hs1).mono ?_
  rintro e w' hp
  rw [show hasB n at_ s.size = false from decide_eq_false (by omega)] at hp
  exact ⟨hp.1, hp.2.1, by simpa using hp.2.2⟩

theorem grow_ok (x : Nat) (h : Mem w b n most f L) (hx1 : x ≤ 4294967295) (hm : most ≤ 256) (hok : (n : Int) + x ≤ most) :
    Calls Try.prog 15 #[.pointer (some ⟨b, 0, none⟩), .int .u32 x] w fun e w' => e = .returned (.int .i32 n) ∧ Now w b (n + x) most f L w' := by
  refine (grow_any w b n most x f L h (by omega) (by omega) (by omega) hm).mono ?_
  rintro e w' ⟨h1, h2, h3⟩
  unfold growTo at h1
  rw [if_neg (by omega)] at h1 h3
  exact ⟨h1, h2, h3⟩

theorem grow_bad (x : Nat) (h : Mem w b n most f L) (hx1 : x ≤ 4294967295) (hn : (n : Int) ≤ most) (hm : most ≤ 256) (hbad : most < (n : Int) + x) :
    Calls Try.prog 15 #[.pointer (some ⟨b, 0, none⟩), .int .u32 x] w fun e w' => e = .returned (.int .i32 (-1)) ∧ Now w b n most f L w' := by
  refine (grow_any w b n most x f L h (by omega) (by omega) hn hm).mono ?_
  rintro e w' ⟨h1, h2, h3⟩
  unfold growTo at h1
  rw [if_pos (by omega)] at h1 h3
  exact ⟨h1, h2, h3⟩

theorem pages_is (h : Mem w b n most f L) : Calls Try.prog 17 #[.pointer (some ⟨b, 0, none⟩)] w fun e w' => e = .returned (.int .i64 n) ∧ w = w' := by
  obtain ⟨⟨ad, c, hc0⟩, _⟩ := h.cells
  exact pages_any w b ad n c hc0
end

theorem new_is (w : World) (least : Nat) (most : Int) (hm0 : -9223372036854775808 ≤ most) (hm1 : most ≤ 9223372036854775807) (h1 : least ≤ 256) (h2 : most = -1 ∨ (least : Int) ≤ most) :
    Calls Try.prog 14 #[.int .i64 least, .int .i64 most] w fun e w' => ∃ b L, e = .returned (.tuple #[.pointer (some ⟨b, 0, none⟩), .int .i64 0]) ∧ Mem w' b least (newMost most) (fun _ => 0) L ∧ Mods [] w w' ∧ ∀ k ∈ L, w.heap.size ≤ k := by
  refine (new_ok w least most (by omega) (by omega) hm0 hm1 ?_).mono ?_
  · unfold newErr; rw [if_neg (by omega), if_neg (by omega)]
  · rintro e w' ⟨b, L, h1, h2, h3, h4⟩
    exact ⟨b, L, h1, by simpa using h2, h3, h4⟩

/-- Nothing that was there before the call has changed: the world at a call's beginning, and now; the memory's blocks are all new. -/
theorem Now.go {w0 w w' : World} {b n : Nat} {most : Int} {f : Nat → UInt8} {L : List Nat} (h : Now w b n most f L w') (hM : Mods [] w0 w) (hL : ∀ k ∈ L, w0.heap.size ≤ k) : Mods [] w0 w' ∧ ∃ L', Mem w' b n most f L' ∧ (∀ k ∈ L', w0.heap.size ≤ k) ∧ Mods L w w' ∧ ∀ k ∈ L', k ∈ L ∨ w.heap.size ≤ k := by
  obtain ⟨h1, L', h2, h3⟩ := h
  refine ⟨hM.trans h1 (fun x hx => .inr (hL x hx)), L', h2, fun k hk => ?_, h1, h3⟩
  rcases h3 k hk with h4 | h4
  · exact hL k h4
  · have := hM.size; omega

theorem ex_load : num (fun j => putF (fun _ => 0) 65528 (8 : Int).toNat (byteOf 1099511627776) (65533 + j)) (1 : Int).toNat = 1 := by decide

set_option maxRecDepth 100000 in
set_option maxHeartbeats 1000000 in
theorem examples8 (w : World) : Calls Try.prog 13 #[] w fun e w' => e = .returned (.bool true) ∧ Mods [] w w' := by
  have n1 : newErr 2 1 = 1 := by decide
  have n2 : newErr 257 (-1) = 12 := by decide
  go_enter Try.func13, Try.ntmps13
  go_wp2_with fail
  refine (new_is _ 1 2 (by omega) (by omega) (by omega) (by omega)).mono ?_
  rintro e w1 ⟨b, L, rfl, hm1, hM1, hL1⟩
  go_wp2_with fail
  refine (new_err _ 2 1 (by omega) (by omega) (by omega) (by omega) (by decide)).mono ?_
  rintro e w2 ⟨rfl, rfl⟩
  go_wp2_with fail
  refine (new_err _ 257 (-1) (by omega) (by omega) (by omega) (by omega) (by decide)).mono ?_
  rintro e w2 ⟨rfl, rfl⟩
  go_wp2_with fail
  refine (store_ok w1 b 1 2 (fun _ => 0) L 65528 8 1099511627776 hm1 (by omega) (by decide) (by decide)).mono ?_
  rintro e w2 ⟨rfl, hN⟩
  obtain ⟨hM2, L2, hm2, hL2, -, -⟩ := hN.go hM1 hL1
  clear hN
  go_wp2_with fail
  refine (load_ok w2 b 1 2 _ L2 65533 1 hm2 (by omega) (by decide)).mono ?_
  rintro e w3 ⟨rfl, hM⟩
  rw [ex_load]
  have hm3 := hm2.mods hM (by simp)
  have hM3 := hM2.trans hM (by simp)
  clear hM hm2 hM2
  go_wp2_with fail
  refine (grow_ok w3 b 1 2 _ L2 1 hm3 (by omega) (by omega) (by omega)).mono ?_
  rintro e w4 ⟨rfl, hN⟩
  obtain ⟨hM4, L4, hm4, hL4, -, -⟩ := hN.go hM3 hL2
  clear hN
  go_wp2_with fail
  refine (grow_bad w4 b 2 2 _ L4 1 hm4 (by omega) (by omega) (by omega) (by omega)).mono ?_
  rintro e w5 ⟨rfl, hN⟩
  obtain ⟨hM5, L5, hm5, hL5, -, -⟩ := hN.go hM4 hL4
  clear hN
  go_wp2_with fail
  refine (pages_is w5 b 2 2 _ L5 hm5).mono ?_
  rintro e w6 ⟨rfl, rfl⟩
  go_wp2_with fail
  go_ret
  exact ⟨rfl, hM5⟩

end Go.Proofs.Ytagpnalhilgcpaa
