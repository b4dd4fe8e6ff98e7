/-
  mem's exported methods Load, Store, Bytes and Write: what they answer and what memory holds behind them, for every argument.
-/
import Derived.Test.YtagpnalhilgcpaaMemD
namespace Go.Proofs.Ytagpnalhilgcpaa
open Go.RowKit
set_option linter.unusedVariables false

/-- The number of c bytes, the lowest first. -/
def num (s : Nat → UInt8) : Nat → Nat
  | 0 => 0
  | c + 1 => num s c + (s c).toNat * 256 ^ c

theorem num_lt (s : Nat → UInt8) (c : Nat) : num s c < 256 ^ c := by
  induction c with
  | zero => simp [num]
  | succ c ih =>
    have h := (s c).toNat_lt
    have h2 : (s c).toNat * 256 ^ c ≤ 255 * 256 ^ c := Nat.mul_le_mul_right _ (by omega)
    have : (256 : Nat) ^ (c + 1) = 256 ^ c * 256 := Nat.pow_succ ..
    simp only [num]; omega

theorem num_congr {s t : Nat → UInt8} {c : Nat} (h : ∀ j, j < c → s j = t j) : num s c = num t c := by
  induction c with
  | zero => rfl
  | succ c ih => simp only [num]; rw [ih (fun j hj => h j (by omega)), h c (by omega)]

theorem num_pad {s : Nat → UInt8} {c : Nat} (h : ∀ j, c ≤ j → s j = 0) (d : Nat) : num s (c + d) = num s c := by
  induction d with
  | zero => rfl
  | succ d ih => rw [← Nat.add_assoc]; simp only [num]; rw [ih, h _ (by omega)]; simp

/-- 'or' of a number below 2^m and a multiple of 2^m is their sum. -/
theorem or_high (x y m : Nat) (h : x < 2 ^ m) : x ||| (y * 2 ^ m) = x + y * 2 ^ m := by
  rw [Nat.mul_comm, Nat.or_comm, ← Nat.two_pow_add_eq_or_of_lt h, Nat.add_comm]

theorem wraps64 (n : Int) (h₀ : 0 ≤ n) (h₁ : n < 2 ^ 64) : IntKind.u64.wrap n = n := by rw [IntKind.wrap_u64]; omega

theorem or_step (k x y : Nat) (hk : k < 8) (hx : x < 256) (hy : y < 256 ^ k) :
    bits .or .u64 (y : Int) (IntKind.u64.wrap ((x : Int) * 2 ^ (8 * k))) = ((y + x * 256 ^ k : Nat) : Int) := by
  have e : (256 : Nat) ^ k = 2 ^ (8 * k) := by rw [Nat.pow_mul]
  rw [e] at hy ⊢
  have h56 : (2 : Nat) ^ (8 * k) ≤ 2 ^ 56 := Nat.pow_le_pow_right (by decide) (by omega)
  have hp : 0 < (2 : Nat) ^ (8 * k) := Nat.two_pow_pos _
  have hprod : x * 2 ^ (8 * k) ≤ 255 * 2 ^ (8 * k) := Nat.mul_le_mul_right _ (by omega)
  have hc : (x : Int) * 2 ^ (8 * k) = ((x * 2 ^ (8 * k) : Nat) : Int) := by simp
  have h64 : x * 2 ^ (8 * k) < 2 ^ 64 := by omega
  rw [hc, wraps64 _ (Int.natCast_nonneg _) (by exact_mod_cast h64)]
  rw [(bits_nat .u64 64 (by decide) wraps64 y (x * 2 ^ (8 * k)) (by omega) h64).2, or_high _ _ _ hy]

def padF (f : Nat → UInt8) (at_ size j : Nat) : UInt8 := if j < size then f (at_ + j) else 0

theorem run_index_bytes (w : World) (arr : Array Value) (k : Nat) (v : Value) (hk : k < 8) (h : arr[k]? = some v) :
    (Instr.index 91 (.agg arr) (.int .i64 k)).run Try.prog w = .ok v w := by
  obtain ⟨i0, hi, hz0, hz1, hz2⟩ := info_parts info_u8
  have hb : (0 : Int) ≤ k ∧ (k : Int) < (8 : Nat) := by omega
  have hu : Try.prog.underlying 5 = some (.int .u8) := Try.underlying5
  simp [Instr.index, run_underlying Try.underlying91, asIntOf, hb, hk, go_sem, part, isAgg, run_underlying hu, sizeOf, typeInfo, hi, hz1, h]

def LoadPost (w : World) (n : Nat) (f : Nat → UInt8) (at_ : Nat) (size : Int) (e : Ending) (w' : World) : Prop :=
  e = .returned (.tuple #[.int .u64 ((if (wOK size && hasB n at_ size) = true then num (fun j => f (at_ + j)) size.toNat else 0 : Nat) : Int), .bool (wOK size && hasB n at_ size)]) ∧ Mods [] w w'

theorem wOK_range {size : Int} (h : wOK size = true) : 1 ≤ size ∧ size ≤ 8 := by
  unfold wOK at h
  simp at h
  omega

set_option maxRecDepth 100000 in
theorem load_no (w : World) (b n : Nat) (most : Int) (f : Nat → UInt8) (L : List Nat) (at_ : Nat) (size : Int) (h0m : Mem w b n most f L) (hn : n ≤ 256) (ha : at_ < 18446744073709551616) (hs0 : -9223372036854775808 ≤ size) (hs1 : size ≤ 9223372036854775807)
    (hno : (wOK size && hasB n at_ size) = false) :
    Calls Try.prog 16 #[.pointer (some ⟨b, 0, none⟩), .int .u64 at_, .int .i64 size] w (LoadPost w n f at_ size) := by
  have fin : ∀ w', Below w.heap.size w w' → LoadPost w n f at_ size (.returned (.tuple #[.int .u64 0, .bool false])) w' := by
    intro w' hb
    unfold LoadPost
    rw [hno]
    exact ⟨rfl, Mods.of_below hb (Nat.le_refl _) _⟩
  cases hw : wOK size with
  | false =>
    clear hno
    go_enter Try.func16, Try.ntmps16
    go_wp2_with fail
    refine (width_any size _).mono ?_
    rintro e w1 ⟨rfl, hb⟩
    have hq := fin _ hb
    go_wp2_with fail
    go_ret2
    exact hq
  | true =>
    rw [hw, Bool.true_and] at hno
    go_enter Try.func16, Try.ntmps16
    go_wp2_with fail
    refine (width_any size _).mono ?_
    rintro e w1 ⟨rfl, hb⟩
    have hq := fin _ hb
    obtain ⟨⟨ad, c, hc0⟩, hc1⟩ := (h0m.mods (Mods.of_below hb (Nat.le_refl _) []) (by simp)).cells
    go_wp2_with fail
    refine (has_any _ b ad n c at_ size hn (by omega) (by omega) hs0 hs1 hc0).mono ?_
    rintro e w2 ⟨rfl, rfl⟩
    go_wp2_with fail
    go_ret2
    exact hq

set_option maxRecDepth 100000 in
set_option maxHeartbeats 1000000 in
theorem load_yes (w : World) (b n : Nat) (most : Int) (f : Nat → UInt8) (L : List Nat) (at_ : Nat) (size : Int) (h0m : Mem w b n most f L) (hn : n ≤ 256) (ha : at_ < 18446744073709551616) (hs0 : -9223372036854775808 ≤ size) (hs1 : size ≤ 9223372036854775807)
    (hyes : (wOK size && hasB n at_ size) = true) :
    Calls Try.prog 16 #[.pointer (some ⟨b, 0, none⟩), .int .u64 at_, .int .i64 size] w (LoadPost w n f at_ size) := by
  obtain ⟨hw, hh⟩ := Bool.and_eq_true_iff.1 hyes
  obtain ⟨hz1, hz2⟩ := wOK_range hw
  have hin : at_ + size ≤ 65536 * n := by unfold hasB at hh; exact (of_decide_eq_true hh).2
  have fin : ∀ w', Mods [] w w' → LoadPost w n f at_ size (.returned (.tuple #[.int .u64 ((num (padF f at_ size.toNat) 8 : Nat) : Int), .bool true])) w' := by
    intro w' hb
    unfold LoadPost
    rw [hyes, if_pos rfl]
    refine ⟨?_, hb⟩
    have e1 : num (padF f at_ size.toNat) (size.toNat + (8 - size.toNat)) = num (padF f at_ size.toNat) size.toNat := num_pad (fun j hj => by unfold padF; rw [if_neg (by omega)]) _
    rw [show size.toNat + (8 - size.toNat) = 8 from by omega] at e1
    rw [e1, num_congr (t := fun j => f (at_ + j)) (fun j hj => by unfold padF; rw [if_pos hj])]
  clear hyes
  obtain ⟨s, rfl⟩ := Int.eq_ofNat_of_zero_le (show 0 ≤ size by omega)
  simp only [Int.toNat_natCast] at fin
  go_enter Try.func16, Try.ntmps16
  go_wp2_with fail
  refine (width_any s _).mono ?_
  rintro e w1 ⟨rfl, hb⟩
  have hM1 := Mods.of_below hb (Nat.le_refl _) []
  have hm1 := h0m.mods hM1 (by simp)
  obtain ⟨⟨ad, c, hc0⟩, hc1⟩ := hm1.cells
  go_wp2_with fail
  refine (has_any _ b ad n c at_ s hn (by omega) (by omega) hs0 hs1 hc0).mono ?_
  rintro e w2 ⟨rfl, rfl⟩
  go_wp2_with fail
  have hmA := hm1.mods ((Mods.refl [] w1).alloc (.cells (zeros 8) 91)) (by simp)
  obtain ⟨sv, ps, hI, hpl, hft⟩ := hmA
  have hgf : w1.heap.size ∉ foot b sv ps := fun hc => by rw [hft] at hc; exact Nat.lt_irrefl _ (hm1.lt _ hc)
  have HP := Lib.hid hpl
  have hps : ps.length ≤ 256 := by omega
  have hat : at_ + s ≤ 65536 * ps.length := by omega
  clear hpl hft
  refine (get_any (w1.alloc (.cells (zeros 8) 91)) b most sv ps f at_ w1.heap.size 0 s 8 91 (zeros 8) hI hps hat (heap_alloc_new w1 _) (by omega) (by rw [size_zeros]; omega)
    (fun i hi => by rw [Nat.zero_add]; exact zeros_get (by omega)) hgf).mono ?_
  rintro e w3 ⟨rfl, hM3, arr, ha3, hgot⟩
  have hM := ((hM1.alloc (.cells (zeros 8) 91)).trans hM3 (by
    intro x hx
    simp only [List.mem_singleton] at hx
    exact .inr (by rw [hx]; exact hM1.size)))
  have hfin := fin _ hM
  have hsz : arr.size = 8 := hgot.1.trans (size_zeros 8)
  have hval : ∀ k, k < 8 → arr[k]? = some (bv (padF f at_ s k)) := by
    intro k hk
    rw [hgot.2 k]
    unfold padF
    by_cases hks : k < s
    · rw [if_pos (by omega), if_pos hks]; rfl
    · rw [if_neg (by omega), if_neg hks]; exact zeros_get hk
  clear hgot fin
  have hrow : (Try.prog.info? 91).map (·.size) = some arr.size := by rw [hsz]; kernel_rfl
  have HS := Lib.hid hsz
  clear hsz
  go_wp2_with (refine wpList_load_row rfl 91 (.tmp 8) rfl w1.heap.size rfl 91 arr (0, 0) _ ha3 Try.underlying91 rfl hrow ?_)
  clear hrow
  go_loop [6, 27] (fun t6 t27 => ∃ k : Nat, k ≤ 8 ∧ t27 = .int .i64 k ∧ t6 = .int .u64 ((num (padF f at_ s) k : Nat) : Int)) (fun _ t27 => 8 - (intOf t27).toNat)
  case atStart => exact ⟨0, by omega, rfl, rfl⟩
  case round =>
    obtain ⟨k, hk, rfl, rfl⟩ := hrel
    by_cases hk8 : k < 8
    · have hidx := run_index_bytes w3 arr k _ hk8 (hval k hk8)
      unfold bv at hidx
      have hx := (padF f at_ s k).toNat_lt
      have hnum : num (padF f at_ s) (k + 1) = num (padF f at_ s) k + (padF f at_ s k).toNat * 256 ^ k := rfl
      have hb1 := num_lt (padF f at_ s) k
      generalize (padF f at_ s k).toNat = x at *
      generalize num (padF f at_ s) k = y at *
      have HN := Lib.hid hnum
      clear hnum
      go_wp2_with fail
      refine ⟨⟨k + 1, by omega, by go_num, ?_⟩, by simp [intOf]; omega⟩
      rw [HN.out, or_step k x y hk8 hx hb1]
    · obtain rfl : k = 8 := by omega
      go_wp2_with fail
      go_ret2
      exact hfin

end Go.Proofs.Ytagpnalhilgcpaa
