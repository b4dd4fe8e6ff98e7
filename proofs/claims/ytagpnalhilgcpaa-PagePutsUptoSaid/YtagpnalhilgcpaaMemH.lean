/-
  Plain facts: numbers and their bytes; what two writes leave; two memories side by side. No program runs here but by the contracts of mem's methods; no conditions.
-/
import Derived.Test.YtagpnalhilgcpaaMemG
namespace Go.Proofs.Ytagpnalhilgcpaa
open Go.RowKit

theorem num_byteOf (v c : Nat) : num (byteOf v) c = v % 256 ^ c := by
  induction c with
  | zero => simp [num, Nat.mod_one]
  | succ c ih =>
    simp only [num]
    rw [ih, Nat.pow_succ, Nat.mod_mul]
    have : (byteOf v c).toNat = v / 256 ^ c % 256 := by simp [byteOf]
    rw [this, Nat.mul_comm (256 ^ c)]

theorem putF_in (f : Nat → UInt8) (at_ n : Nat) (s : Nat → UInt8) {a : Nat} (h : at_ ≤ a ∧ a < at_ + n) : putF f at_ n s a = s (a - at_) := by unfold putF; rw [if_pos h]
theorem putF_out (f : Nat → UInt8) (at_ n : Nat) (s : Nat → UInt8) {a : Nat} (h : a < at_ ∨ at_ + n ≤ a) : putF f at_ n s a = f a := by unfold putF; rw [if_neg (by omega)]

/-- The number that was stored is loaded. -/
theorem num_putF (f : Nat → UInt8) (at_ c v : Nat) : num (fun j => putF f at_ c (byteOf v) (at_ + j)) c = v % 256 ^ c := by
  rw [← num_byteOf]
  exact num_congr fun j hj => by rw [putF_in _ _ _ _ (by omega)]; congr 1; omega

/-- A number stored elsewhere is not touched. -/
theorem num_putF_out (f : Nat → UInt8) (at_ n : Nat) (s : Nat → UInt8) (a c : Nat) (h : a + c ≤ at_ ∨ at_ + n ≤ a) : num (fun j => putF f at_ n s (a + j)) c = num (fun j => f (a + j)) c :=
  num_congr fun j hj => putF_out _ _ _ _ (by omega)

theorem putF_comm (f : Nat → UInt8) (a n b m : Nat) (s t : Nat → UInt8) (h : a + n ≤ b ∨ b + m ≤ a) : putF (putF f a n s) b m t = putF (putF f b m t) a n s := by
  funext x
  unfold putF
  by_cases h1 : a ≤ x ∧ x < a + n
  · rw [if_neg (by omega), if_pos h1, if_pos h1]
  · by_cases h2 : b ≤ x ∧ x < b + m
    · rw [if_pos h2, if_neg h1, if_pos h2]
    · rw [if_neg h2, if_neg h1, if_neg h1, if_neg h2]

theorem has8 {n a : Nat} (h : a + 8 ≤ 65536 * n) : (wOK 8 && hasB n a 8) = true := by
  have h1 : hasB n (a : Int) 8 = true := decide_eq_true (by omega)
  rw [h1]; rfl

/-- Two memories side by side, both made since the world w0. -/
def Two (w0 w : World) (b1 n1 : Nat) (m1 : Int) (f1 : Nat → UInt8) (b2 n2 : Nat) (m2 : Int) (f2 : Nat → UInt8) : Prop :=
  Mods [] w0 w ∧ ∃ L1 L2, Mem w b1 n1 m1 f1 L1 ∧ Mem w b2 n2 m2 f2 L2 ∧ (∀ k ∈ L1, w0.heap.size ≤ k) ∧ (∀ k ∈ L2, w0.heap.size ≤ k) ∧ ∀ k ∈ L1, k ∉ L2

theorem Two.mk {w0 w1 w2 : World} {b1 n1 : Nat} {m1 : Int} {f1 : Nat → UInt8} {b2 n2 : Nat} {m2 : Int} {f2 : Nat → UInt8} {L1 L2 : List Nat} (hM1 : Mods [] w0 w1) (h1 : Mem w1 b1 n1 m1 f1 L1) (hL1 : ∀ k ∈ L1, w0.heap.size ≤ k)
    (h2 : Mem w2 b2 n2 m2 f2 L2) (hM2 : Mods [] w1 w2) (hL2 : ∀ k ∈ L2, w1.heap.size ≤ k) : Two w0 w2 b1 n1 m1 f1 b2 n2 m2 f2 :=
  ⟨hM1.trans hM2 (by simp), L1, L2, h1.mods hM2 (by simp), h2, hL1, fun k hk => Nat.le_trans hM1.size (hL2 k hk), fun k hk hc => by have := h1.lt k hk; have := hL2 k hc; omega⟩

theorem Two.swap {w0 w : World} {b1 n1 : Nat} {m1 : Int} {f1 : Nat → UInt8} {b2 n2 : Nat} {m2 : Int} {f2 : Nat → UInt8} (h : Two w0 w b1 n1 m1 f1 b2 n2 m2 f2) : Two w0 w b2 n2 m2 f2 b1 n1 m1 f1 := by
  obtain ⟨h0, L1, L2, h1, h2, h3, h4, h5⟩ := h
  exact ⟨h0, L2, L1, h2, h1, h4, h3, fun k hk hc => h5 k hc hk⟩

theorem Two.quiet {w0 w w' : World} {b1 n1 : Nat} {m1 : Int} {f1 : Nat → UInt8} {b2 n2 : Nat} {m2 : Int} {f2 : Nat → UInt8} (h : Two w0 w b1 n1 m1 f1 b2 n2 m2 f2) (hM : Mods [] w w') : Two w0 w' b1 n1 m1 f1 b2 n2 m2 f2 := by
  obtain ⟨h0, L1, L2, h1, h2, h3, h4, h5⟩ := h
  exact ⟨h0.trans hM (by simp), L1, L2, h1.mods hM (by simp), h2.mods hM (by simp), h3, h4, h5⟩

/-- One of the two is written, or grown: the other is as it was. -/
theorem Two.now {w0 w w' : World} {b1 n1' : Nat} {m1 : Int} {f1' : Nat → UInt8} {b2 n2 : Nat} {m2 : Int} {f2 : Nat → UInt8} {L1 L2 : List Nat} (h0 : Mods [] w0 w) (h2 : Mem w b2 n2 m2 f2 L2) (h3 : ∀ k ∈ L1, w0.heap.size ≤ k) (h4 : ∀ k ∈ L2, w0.heap.size ≤ k) (h5 : ∀ k ∈ L1, k ∉ L2)
    (hN : Now w b1 n1' m1 f1' L1 w') : Two w0 w' b1 n1' m1 f1' b2 n2 m2 f2 := by
  obtain ⟨q1, L1', q2, q3, q4, q5⟩ := hN.go h0 h3
  exact ⟨q1, L1', L2, q2, h2.mods q4 (fun k hk hc => h5 k hc hk), q3, h4, fun k hk hc => by
    rcases q5 k hk with h6 | h6
    · exact h5 k h6 hc
    · have := h2.lt k hc; omega⟩

theorem store_two {w0 w : World} {b1 n1 : Nat} {m1 : Int} {f1 : Nat → UInt8} {b2 n2 : Nat} {m2 : Int} {f2 : Nat → UInt8} (h : Two w0 w b1 n1 m1 f1 b2 n2 m2 f2) (at_ : Nat) (size : Int) (v : Nat) (hn : n1 ≤ 256) (hv : v < 2 ^ 64) (hok : (wOK size && hasB n1 at_ size) = true) :
    Calls Try.prog 18 #[.pointer (some ⟨b1, 0, none⟩), .int .u64 at_, .int .i64 size, .int .u64 v] w fun e w' => e = .returned (.bool true) ∧ Two w0 w' b1 n1 m1 (putF f1 at_ size.toNat (byteOf v)) b2 n2 m2 f2 := by
  obtain ⟨h0, L1, L2, h1, h2, h3, h4, h5⟩ := h
  exact (store_ok w b1 n1 m1 f1 L1 at_ size v h1 hn hv hok).mono fun e w' ⟨he, hN⟩ => ⟨he, Two.now h0 h2 h3 h4 h5 hN⟩

theorem load_two {w0 w : World} {b1 n1 : Nat} {m1 : Int} {f1 : Nat → UInt8} {b2 n2 : Nat} {m2 : Int} {f2 : Nat → UInt8} (h : Two w0 w b1 n1 m1 f1 b2 n2 m2 f2) (at_ : Nat) (size : Int) (hn : n1 ≤ 256) (hok : (wOK size && hasB n1 at_ size) = true) :
    Calls Try.prog 16 #[.pointer (some ⟨b1, 0, none⟩), .int .u64 at_, .int .i64 size] w fun e w' => e = .returned (.tuple #[.int .u64 ((num (fun j => f1 (at_ + j)) size.toNat : Nat) : Int), .bool true]) ∧ Two w0 w' b1 n1 m1 f1 b2 n2 m2 f2 := by
  have h' := h
  obtain ⟨h0, L1, L2, h1, h2, h3, h4, h5⟩ := h'
  exact (load_ok w b1 n1 m1 f1 L1 at_ size h1 hn hok).mono fun e w' ⟨he, hM⟩ => ⟨he, h.quiet hM⟩

theorem bytes_two {w0 w : World} {b1 n1 : Nat} {m1 : Int} {f1 : Nat → UInt8} {b2 n2 : Nat} {m2 : Int} {f2 : Nat → UInt8} (h : Two w0 w b1 n1 m1 f1 b2 n2 m2 f2) (at_ : Nat) (size : Nat) (hn : n1 ≤ 256) (hok : at_ + size ≤ 65536 * n1) :
    Calls Try.prog 19 #[.pointer (some ⟨b1, 0, none⟩), .int .u64 at_, .int .i64 size] w fun e w' => e = .returned (.tuple #[.string (strF f1 at_ size), .bool true]) ∧ Two w0 w' b1 n1 m1 f1 b2 n2 m2 f2 := by
  have h' := h
  obtain ⟨h0, L1, L2, h1, h2, h3, h4, h5⟩ := h'
  exact (bytes_ok w b1 n1 m1 f1 L1 at_ size h1 hn hok).mono fun e w' ⟨he, hM⟩ => ⟨he, h.quiet hM⟩

end Go.Proofs.Ytagpnalhilgcpaa
