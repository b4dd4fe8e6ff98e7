/-
  A memory of the program and one of the reference, side by side, and a block beside them: what each method of either leaves of all three. No condition.
-/
import Derived.Test.YtagpnalhilgcpaaRefD
namespace Go.Proofs.Ytagpnalhilgcpaa
open Go.RowKit
set_option linter.unusedVariables false

def PB (w0 w : World) (B : Nat) (arr : Array Value) (bm n1 : Nat) (f1 : Nat → UInt8) (bx n2 : Nat) (f2 : Nat → UInt8) (most : Int) : Prop :=
  Mods [] w0 w ∧ w.heap[B]? = some (.cells arr 44 (0, 0)) ∧ ∃ L1 L2, Mem w bm n1 (newMost most) f1 L1 ∧ Ref w bx n2 most f2 L2 ∧ (∀ k ∈ L1, w0.heap.size ≤ k) ∧ (∀ k ∈ L2, w0.heap.size ≤ k) ∧ (∀ k ∈ L1, k ∉ L2) ∧ B ∉ L1 ∧ B ∉ L2

variable {w0 w : World} {B : Nat} {arr : Array Value} {bm n1 : Nat} {f1 : Nat → UInt8} {bx n2 : Nat} {f2 : Nat → UInt8} {most : Int}

theorem PB.cell (h : PB w0 w B arr bm n1 f1 bx n2 f2 most) (j : Nat) : w.cell? ⟨B, j, none⟩ = arr[j]? := cell_of_heap h.2.1 j

theorem PB.quiet {w' : World} (h : PB w0 w B arr bm n1 f1 bx n2 f2 most) (hM : Mods [] w w') : PB w0 w' B arr bm n1 f1 bx n2 f2 most := by
  obtain ⟨h0, hB, L1, L2, h1, h2, h3, h4, h5, h6, h7⟩ := h
  exact ⟨h0.trans hM (by simp), hM.heap hB (by simp), L1, L2, h1.mods hM (by simp), h2.mods hM (by simp), h3, h4, h5, h6, h7⟩

theorem PB.left {w' : World} {n1' : Nat} {f1' : Nat → UInt8} {L1 L2 : List Nat} (h0 : Mods [] w0 w) (hB : w.heap[B]? = some (.cells arr 44 (0, 0))) (h2 : Ref w bx n2 most f2 L2)
    (h3 : ∀ k ∈ L1, w0.heap.size ≤ k) (h4 : ∀ k ∈ L2, w0.heap.size ≤ k) (h5 : ∀ k ∈ L1, k ∉ L2) (h6 : B ∉ L1) (h7 : B ∉ L2) (hN : Now w bm n1' (newMost most) f1' L1 w') : PB w0 w' B arr bm n1' f1' bx n2 f2 most := by
  obtain ⟨q1, L1', q2, q3, q4, q5⟩ := hN.go h0 h3
  refine ⟨q1, q4.heap hB h6, L1', L2, q2, h2.mods q4 (fun k hk hc => h5 k hc hk), q3, h4, fun k hk hc => ?_, fun hc => ?_, h7⟩
  · rcases q5 k hk with h8 | h8
    · exact h5 k h8 hc
    · have := h2.lt k hc; omega
  · rcases q5 B hc with h8 | h8
    · exact h6 h8
    · have := lt_size_of_heap hB; omega

theorem PB.right {w' : World} {n2' : Nat} {f2' : Nat → UInt8} {L1 L2 L2' : List Nat} (h0 : Mods [] w0 w) (hB : w.heap[B]? = some (.cells arr 44 (0, 0))) (h1 : Mem w bm n1 (newMost most) f1 L1)
    (h3 : ∀ k ∈ L1, w0.heap.size ≤ k) (h4 : ∀ k ∈ L2, w0.heap.size ≤ k) (h5 : ∀ k ∈ L1, k ∉ L2) (h6 : B ∉ L1) (h7 : B ∉ L2) (hM : Mods L2 w w') (h2 : Ref w' bx n2' most f2' L2') (hL : ∀ k ∈ L2', k ∈ L2 ∨ w.heap.size ≤ k) :
    PB w0 w' B arr bm n1 f1 bx n2' f2' most := by
  have hsz := h0.size
  refine ⟨h0.trans hM (fun x hx => .inr (h4 x hx)), hM.heap hB h7, L1, L2', h1.mods hM (fun k hk => h5 k hk), h2, h3, fun k hk => ?_, fun k hk hc => ?_, h6, fun hc => ?_⟩
  · rcases hL k hk with h8 | h8
    · exact h4 k h8
    · omega
  · rcases hL k hc with h8 | h8
    · exact h5 k hk h8
    · have := h1.lt k hk; omega
  · rcases hL B hc with h8 | h8
    · exact h7 h8
    · have := lt_size_of_heap hB; omega

theorem pb_mgrow (h : PB w0 w B arr bm n1 f1 bx n2 f2 most) (x : Nat) (hx : x ≤ 4294967295) (hn : (n1 : Int) ≤ newMost most) (hm : newMost most ≤ 256) :
    Calls Try.prog 15 #[.pointer (some ⟨bm, 0, none⟩), .int .u32 x] w fun e w' => e = .returned (.int .i32 (growTo n1 (newMost most) x)) ∧ PB w0 w' B arr bm (if newMost most - n1 < x then n1 else n1 + x) f1 bx n2 f2 most := by
  obtain ⟨h0, hB, L1, L2, h1, h2, h3, h4, h5, h6, h7⟩ := h
  refine (grow_any w bm n1 (newMost most) x f1 L1 h1 (by omega) (by omega) hn hm).mono ?_
  rintro e w' ⟨q1, q2, q3⟩
  exact ⟨q1, PB.left h0 hB h2 h3 h4 h5 h6 h7 ⟨q2, by simpa using q3⟩⟩

theorem pb_xgrow (h : PB w0 w B arr bm n1 f1 bx n2 f2 most) (x : Nat) (hx : x ≤ 4294967295) (hn : n2 ≤ 256) (hm : most = -1 ∨ (n2 : Int) ≤ most) (hm1 : most ≤ 9223372036854775807) :
    Calls Try.prog 40 #[.pointer (some ⟨bx, 0, none⟩), .int .u32 x] w fun e w' => e = .returned (.int .i32 (growTo n2 (newMost most) x)) ∧ PB w0 w' B arr bm n1 f1 bx (if newMost most - n2 < x then n2 else n2 + x) f2 most := by
  obtain ⟨h0, hB, L1, L2, h1, h2, h3, h4, h5, h6, h7⟩ := h
  refine (ref_grow w bx n2 most x f2 L2 h2 hx hn hm hm1).mono ?_
  rintro e w' ⟨q1, q2, L', q3, q4⟩
  exact ⟨q1, PB.right h0 hB h1 h3 h4 h5 h6 h7 q2 q3 q4⟩

theorem pb_mstore (h : PB w0 w B arr bm n1 f1 bx n2 f2 most) (at_ : Nat) (size : Int) (v : Nat) (hn : n1 ≤ 256) (ha : at_ < 18446744073709551616) (hs0 : -9223372036854775808 ≤ size) (hs1 : size ≤ 9223372036854775807) (hv : v < 18446744073709551616) :
    Calls Try.prog 18 #[.pointer (some ⟨bm, 0, none⟩), .int .u64 at_, .int .i64 size, .int .u64 v] w fun e w' => e = .returned (.bool (wOK size && hasB n1 at_ size)) ∧
      PB w0 w' B arr bm n1 (if (wOK size && hasB n1 at_ size) = true then putF f1 at_ size.toNat (byteOf v) else f1) bx n2 f2 most := by
  obtain ⟨h0, hB, L1, L2, h1, h2, h3, h4, h5, h6, h7⟩ := h
  refine (store_any w bm n1 (newMost most) f1 L1 at_ size v h1 hn ha hs0 hs1 hv).mono ?_
  rintro e w' ⟨q1, q2, q3⟩
  exact ⟨q1, PB.left h0 hB h2 h3 h4 h5 h6 h7 ⟨q2, q3⟩⟩

theorem pb_xstore (h : PB w0 w B arr bm n1 f1 bx n2 f2 most) (at_ : Nat) (size : Int) (v : Nat) (hn : n2 ≤ 256) (ha : at_ < 18446744073709551616) (hs0 : -9223372036854775808 ≤ size) (hs1 : size ≤ 9223372036854775807) (hv : v < 18446744073709551616) :
    Calls Try.prog 41 #[.pointer (some ⟨bx, 0, none⟩), .int .u64 at_, .int .i64 size, .int .u64 v] w fun e w' => e = .returned (.bool (wOK size && hasB n2 at_ size)) ∧
      PB w0 w' B arr bm n1 f1 bx n2 (if (wOK size && hasB n2 at_ size) = true then putF f2 at_ size.toNat (byteOf v) else f2) most := by
  obtain ⟨h0, hB, L1, L2, h1, h2, h3, h4, h5, h6, h7⟩ := h
  refine (ref_store w bx n2 most f2 L2 at_ size v h2 hn ha hs0 hs1 hv).mono ?_
  rintro e w' ⟨q1, q2, q3⟩
  exact ⟨q1, PB.right h0 hB h1 h3 h4 h5 h6 h7 q2 q3 (fun k hk => .inl hk)⟩

theorem pb_mwrite (h : PB w0 w B arr bm n1 f1 bx n2 f2 most) (at_ : Nat) (s : ByteArray) (hn : n1 ≤ 256) (ha : at_ < 18446744073709551616) (hs1 : s.size ≤ 9223372036854775807) :
    Calls Try.prog 23 #[.pointer (some ⟨bm, 0, none⟩), .int .u64 at_, .string s] w fun e w' => e = .returned (.bool (hasB n1 at_ s.size)) ∧
      PB w0 w' B arr bm n1 (if hasB n1 at_ s.size = true then putF f1 at_ s.size (sAt s) else f1) bx n2 f2 most := by
  obtain ⟨h0, hB, L1, L2, h1, h2, h3, h4, h5, h6, h7⟩ := h
  refine (write_any w bm n1 (newMost most) f1 L1 at_ s h1 hn ha hs1).mono ?_
  rintro e w' ⟨q1, q2, q3⟩
  exact ⟨q1, PB.left h0 hB h2 h3 h4 h5 h6 h7 ⟨q2, q3⟩⟩

theorem pb_xwrite (h : PB w0 w B arr bm n1 f1 bx n2 f2 most) (at_ : Nat) (s : ByteArray) (hn : n2 ≤ 256) (ha : at_ < 18446744073709551616) (hs1 : s.size ≤ 9223372036854775807) :
    Calls Try.prog 43 #[.pointer (some ⟨bx, 0, none⟩), .int .u64 at_, .string s] w fun e w' => e = .returned (.bool (hasB n2 at_ s.size)) ∧
      PB w0 w' B arr bm n1 f1 bx n2 (if hasB n2 at_ s.size = true then putF f2 at_ s.size (sAt s) else f2) most := by
  obtain ⟨h0, hB, L1, L2, h1, h2, h3, h4, h5, h6, h7⟩ := h
  refine (ref_write w bx n2 most f2 L2 at_ s h2 hn ha hs1).mono ?_
  rintro e w' ⟨q1, q2, q3⟩
  exact ⟨q1, PB.right h0 hB h1 h3 h4 h5 h6 h7 q2 q3 (fun k hk => .inl hk)⟩

def loadV (n : Nat) (f : Nat → UInt8) (at_ : Nat) (size : Int) : Nat := if (wOK size && hasB n at_ size) = true then num (fun j => f (at_ + j)) size.toNat else 0
def bytesV (n : Nat) (f : Nat → UInt8) (at_ : Nat) (size : Int) : ByteArray := if hasB n at_ size = true then strF f at_ size.toNat else ⟨#[]⟩

theorem pb_mload (h : PB w0 w B arr bm n1 f1 bx n2 f2 most) (at_ : Nat) (size : Int) (hn : n1 ≤ 256) (ha : at_ < 18446744073709551616) (hs0 : -9223372036854775808 ≤ size) (hs1 : size ≤ 9223372036854775807) :
    Calls Try.prog 16 #[.pointer (some ⟨bm, 0, none⟩), .int .u64 at_, .int .i64 size] w fun e w' => e = .returned (.tuple #[.int .u64 ((loadV n1 f1 at_ size : Nat) : Int), .bool (wOK size && hasB n1 at_ size)]) ∧ PB w0 w' B arr bm n1 f1 bx n2 f2 most := by
  have h' := h
  obtain ⟨h0, hB, L1, L2, h1, h2, h3, h4, h5, h6, h7⟩ := h'
  exact (load_any w bm n1 (newMost most) f1 L1 at_ size h1 hn ha hs0 hs1).mono fun e w' ⟨q1, q2⟩ => ⟨q1, h.quiet q2⟩

theorem pb_xload (h : PB w0 w B arr bm n1 f1 bx n2 f2 most) (at_ : Nat) (size : Int) (hn : n2 ≤ 256) (ha : at_ < 18446744073709551616) (hs0 : -9223372036854775808 ≤ size) (hs1 : size ≤ 9223372036854775807) :
    Calls Try.prog 42 #[.pointer (some ⟨bx, 0, none⟩), .int .u64 at_, .int .i64 size] w fun e w' => e = .returned (.tuple #[.int .u64 ((loadV n2 f2 at_ size : Nat) : Int), .bool (wOK size && hasB n2 at_ size)]) ∧ PB w0 w' B arr bm n1 f1 bx n2 f2 most := by
  have h' := h
  obtain ⟨h0, hB, L1, L2, h1, h2, h3, h4, h5, h6, h7⟩ := h'
  exact (ref_load w bx n2 most f2 L2 at_ size h2 hn ha hs0 hs1).mono fun e w' ⟨q1, q2⟩ => ⟨q1, h.quiet q2⟩

theorem pb_mbytes (h : PB w0 w B arr bm n1 f1 bx n2 f2 most) (at_ : Nat) (size : Int) (hn : n1 ≤ 256) (ha : at_ < 18446744073709551616) (hs0 : -9223372036854775808 ≤ size) (hs1 : size ≤ 9223372036854775807) :
    Calls Try.prog 19 #[.pointer (some ⟨bm, 0, none⟩), .int .u64 at_, .int .i64 size] w fun e w' => e = .returned (.tuple #[.string (bytesV n1 f1 at_ size), .bool (hasB n1 at_ size)]) ∧ PB w0 w' B arr bm n1 f1 bx n2 f2 most := by
  have h' := h
  obtain ⟨h0, hB, L1, L2, h1, h2, h3, h4, h5, h6, h7⟩ := h'
  exact (bytes_any w bm n1 (newMost most) f1 L1 at_ size h1 hn ha hs0 hs1).mono fun e w' ⟨q1, q2⟩ => ⟨q1, h.quiet q2⟩

theorem pb_xbytes (h : PB w0 w B arr bm n1 f1 bx n2 f2 most) (at_ : Nat) (size : Int) (hn : n2 ≤ 256) (ha : at_ < 18446744073709551616) (hs0 : -9223372036854775808 ≤ size) (hs1 : size ≤ 9223372036854775807) :
    Calls Try.prog 44 #[.pointer (some ⟨bx, 0, none⟩), .int .u64 at_, .int .i64 size] w fun e w' => e = .returned (.tuple #[.string (bytesV n2 f2 at_ size), .bool (hasB n2 at_ size)]) ∧ PB w0 w' B arr bm n1 f1 bx n2 f2 most := by
  have h' := h
  obtain ⟨h0, hB, L1, L2, h1, h2, h3, h4, h5, h6, h7⟩ := h'
  exact (ref_bytes w bx n2 most f2 L2 at_ size h2 hn ha hs0 hs1).mono fun e w' ⟨q1, q2⟩ => ⟨q1, h.quiet q2⟩

end Go.Proofs.Ytagpnalhilgcpaa
