/-
  One deed on both memories, the program's and the reference's: they answer alike, and hold the same behind it. No condition.
-/
import Derived.Test.YtagpnalhilgcpaaPlaysA
import Derived.Deep.RegionHeld3
namespace Go.Proofs.Ytagpnalhilgcpaa
open Go.RowKit
set_option linter.unusedVariables false
set_option linter.unusedSimpArgs false

def PS (w0 w : World) (bm bx n : Nat) (f : Nat → UInt8) (most : Int) : Prop :=
  (Mods [] w0 w ∧ ∃ L1 L2, Mem w bm n (newMost most) f L1 ∧ Ref w bx n most f L2 ∧ (∀ k ∈ L1, w0.heap.size ≤ k) ∧ (∀ k ∈ L2, w0.heap.size ≤ k) ∧ ∀ k ∈ L1, k ∉ L2) ∧ n ≤ 256 ∧ (n : Int) ≤ newMost most ∧ newMost most ≤ 256 ∧ (most = -1 ∨ (n : Int) ≤ most) ∧ most ≤ 9223372036854775807

theorem PS.box {w0 w : World} {bm bx n : Nat} {f : Nat → UInt8} {most : Int} (h : PS w0 w bm bx n f most) (arr : Array Value) : PB w0 (w.alloc (.cells arr 44)) w.heap.size arr bm n f bx n f most := by
  obtain ⟨⟨h0, L1, L2, h1, h2, h3, h4, h5⟩, -⟩ := h
  have hM := (Mods.refl [] w).alloc (.cells arr 44)
  exact ⟨h0.trans hM (by simp), heap_alloc_new w _, L1, L2, h1.mods hM (by simp), h2.mods hM (by simp), h3, h4, h5, fun hc => Nat.lt_irrefl _ (h1.lt _ hc), fun hc => Nat.lt_irrefl _ (h2.lt _ hc)⟩

theorem PB.unbox {w0 w : World} {B : Nat} {arr : Array Value} {bm n : Nat} {f : Nat → UInt8} {bx : Nat} {most : Int} (h : PB w0 w B arr bm n f bx n f most) (h1 : n ≤ 256) (h2 : (n : Int) ≤ newMost most) (h3 : newMost most ≤ 256) (h4 : most = -1 ∨ (n : Int) ≤ most) (h5 : most ≤ 9223372036854775807) :
    PS w0 w bm bx n f most := by
  obtain ⟨q0, -, L1, L2, q1, q2, q3, q4, q5, -⟩ := h
  exact ⟨⟨q0, L1, L2, q1, q2, q3, q4, q5⟩, h1, h2, h3, h4, h5⟩

def deedV (K A : Nat) (F : Bool) (S : Int) (N : Nat) (s : ByteArray) : Array Value := #[.int .u8 K, .int .u64 A, .bool F, .int .i64 S, .int .u64 N, .string s]

def Done (w0 : World) (bm bx : Nat) (most : Int) (e : Ending) (w' : World) : Prop := e = .returned (.bool true) ∧ ∃ n f, PS w0 w' bm bx n f most

theorem newMost_grow {most : Int} {n x : Nat} (h1 : n ≤ 256) (h2 : (n : Int) ≤ newMost most) (h3 : newMost most ≤ 256) (h4 : most = -1 ∨ (n : Int) ≤ most) :
    (if newMost most - n < x then n else n + x) ≤ 256 ∧ ((if newMost most - n < x then n else n + x : Nat) : Int) ≤ newMost most ∧ (most = -1 ∨ ((if newMost most - n < x then n else n + x : Nat) : Int) ≤ most) := by
  have hNM : newMost most = if most < 0 then 256 else if most ≤ 256 then most else 256 := rfl
  by_cases h : newMost most - n < x
  · rw [if_pos h]; exact ⟨h1, h2, h4⟩
  · rw [if_neg h]
    refine ⟨by omega, by omega, ?_⟩
    rw [hNM] at h h2
    (repeat' split at h) <;> first | omega | (rcases h4 with h4 | h4 <;> omega)

set_option maxRecDepth 100000 in
set_option maxHeartbeats 4000000 in
theorem does_0t (w0 w : World) (bm bx n : Nat) (f : Nat → UInt8) (most : Int) (h0 : PS w0 w bm bx n f most) (K A : Nat) (S : Int) (N : Nat) (s : ByteArray) (hK : (K : Int) % 6 = 0) (hA : A < 18446744073709551616) (hS0 : -9223372036854775808 ≤ S) (hS1 : S ≤ 9223372036854775807) (hN : N < 5) (hs : s.size ≤ 9223372036854775807) :
    Calls Try.prog 21 #[.pointer (some ⟨bm, 0, none⟩), .pointer (some ⟨bx, 0, none⟩), .agg (deedV K A true S N s)] w (Done w0 bm bx most) := by
  have hP := (h0.box (deedV K A true S N s)).quiet ((Mods.refl [] _).drew)
  obtain ⟨-, b1, b2, b3, b4, b5⟩ := h0
  have HB := Lib.hid (And.intro b1 (And.intro b2 (And.intro b3 (And.intro b4 b5))))
  have fin : ∀ f' n' w', PB w0 w' w.heap.size (deedV K A true S N s) bm n' f' bx n' f' most → n' ≤ 256 → (n' : Int) ≤ newMost most → (most = -1 ∨ (n' : Int) ≤ most) → Done w0 bm bx most (.returned (.bool true)) w' := fun f' n' w' hp q1 q2 q3 => ⟨rfl, n', f', hp.unbox q1 q2 b3 q3 b5⟩
  obtain ⟨g1, g2, g3⟩ := newMost_grow (x := N) b1 b2 b3 b4
  have HG := Lib.hid (And.intro g1 (And.intro g2 g3))
  clear g1 g2 g3
  have hwr : IntKind.u32.wrap (N : Int) = N := by rw [IntKind.wrap_u32]; omega
  clear b2 b3 b4 b5
  have c4 : ((w.alloc (.cells (deedV K A true S N s) 44)).drew).cell? ⟨w.heap.size, 4, none⟩ = some (.int .u64 N) := hP.cell 4
  unfold deedV at *
  go_enter Try.func21, Try.ntmps21
  go_wp2_with fail
  go_region_held3 (fun w' => w'.cell? ⟨w.heap.size, 4, none⟩ = some (.int .u64 N)) (assumption)
    (first | (go_at_call 15; refine (pb_mgrow (by assumption) N (by omega) HB.out.2.1 HB.out.2.2.1).mono ?_; rintro e w' ⟨rfl, hq⟩; have k4 : _ = some (Value.int .u64 N) := hq.cell 4) | (go_at_call 40; refine (pb_xgrow (by assumption) N (by omega) HB.out.1 HB.out.2.2.2.1 HB.out.2.2.2.2).mono ?_; rintro e w' ⟨rfl, hq⟩; have k4 : _ = some (Value.int .u64 N) := hq.cell 4))
  all_goals go_wp2_with fail
  all_goals go_ret
  all_goals exact fin _ _ _ (by assumption) HG.out.1 HG.out.2.1 HG.out.2.2

set_option maxRecDepth 100000 in
set_option maxHeartbeats 4000000 in
theorem does_0f (w0 w : World) (bm bx n : Nat) (f : Nat → UInt8) (most : Int) (h0 : PS w0 w bm bx n f most) (K A : Nat) (S : Int) (N : Nat) (s : ByteArray) (hK : (K : Int) % 6 = 0) (hA : A < 18446744073709551616) (hS0 : -9223372036854775808 ≤ S) (hS1 : S ≤ 9223372036854775807) (hN : N < 5) (hs : s.size ≤ 9223372036854775807) :
    Calls Try.prog 21 #[.pointer (some ⟨bm, 0, none⟩), .pointer (some ⟨bx, 0, none⟩), .agg (deedV K A false S N s)] w (Done w0 bm bx most) := by
  have hP := (h0.box (deedV K A false S N s)).quiet ((Mods.refl [] _).drew)
  obtain ⟨-, b1, b2, b3, b4, b5⟩ := h0
  have HB := Lib.hid (And.intro b1 (And.intro b2 (And.intro b3 (And.intro b4 b5))))
  have fin : ∀ f' n' w', PB w0 w' w.heap.size (deedV K A false S N s) bm n' f' bx n' f' most → n' ≤ 256 → (n' : Int) ≤ newMost most → (most = -1 ∨ (n' : Int) ≤ most) → Done w0 bm bx most (.returned (.bool true)) w' := fun f' n' w' hp q1 q2 q3 => ⟨rfl, n', f', hp.unbox q1 q2 b3 q3 b5⟩
  obtain ⟨g1, g2, g3⟩ := newMost_grow (x := N) b1 b2 b3 b4
  have HG := Lib.hid (And.intro g1 (And.intro g2 g3))
  clear g1 g2 g3
  have hwr : IntKind.u32.wrap (N : Int) = N := by rw [IntKind.wrap_u32]; omega
  clear b2 b3 b4 b5
  have c4 : ((w.alloc (.cells (deedV K A false S N s) 44)).drew).cell? ⟨w.heap.size, 4, none⟩ = some (.int .u64 N) := hP.cell 4
  unfold deedV at *
  have hr : (A : Int) % 300000 = ((A % 300000 : Nat) : Int) := by omega
  have hx : A % 300000 < 300000 := by omega
  obtain ⟨P, hPA⟩ : ∃ P, P = A % 300000 := ⟨_, rfl⟩
  rw [← hPA] at hr hx
  have HPA := Lib.hid hPA
  clear hPA
  go_enter Try.func21, Try.ntmps21
  go_wp2_with fail
  go_region_held3 (fun w' => w'.cell? ⟨w.heap.size, 4, none⟩ = some (.int .u64 N)) (assumption)
    (first | (go_at_call 15; refine (pb_mgrow (by assumption) N (by omega) HB.out.2.1 HB.out.2.2.1).mono ?_; rintro e w' ⟨rfl, hq⟩; have k4 : _ = some (Value.int .u64 N) := hq.cell 4) | (go_at_call 40; refine (pb_xgrow (by assumption) N (by omega) HB.out.1 HB.out.2.2.2.1 HB.out.2.2.2.2).mono ?_; rintro e w' ⟨rfl, hq⟩; have k4 : _ = some (Value.int .u64 N) := hq.cell 4))
  all_goals go_wp2_with fail
  all_goals go_ret
  all_goals exact fin _ _ _ (by assumption) HG.out.1 HG.out.2.1 HG.out.2.2

set_option maxRecDepth 100000 in
set_option maxHeartbeats 4000000 in
theorem does_1t (w0 w : World) (bm bx n : Nat) (f : Nat → UInt8) (most : Int) (h0 : PS w0 w bm bx n f most) (K A : Nat) (S : Int) (N : Nat) (s : ByteArray) (hK : (K : Int) % 6 = 1) (hA : A < 18446744073709551616) (hS0 : -9223372036854775808 ≤ S) (hS1 : S ≤ 9223372036854775807) (hN : N < 18446744073709551616) (hs : s.size ≤ 9223372036854775807) :
    Calls Try.prog 21 #[.pointer (some ⟨bm, 0, none⟩), .pointer (some ⟨bx, 0, none⟩), .agg (deedV K A true S N s)] w (Done w0 bm bx most) := by
  have hP := (h0.box (deedV K A true S N s)).quiet ((Mods.refl [] _).drew)
  obtain ⟨-, b1, b2, b3, b4, b5⟩ := h0
  have HB := Lib.hid (And.intro b1 (And.intro b2 (And.intro b3 (And.intro b4 b5))))
  have fin : ∀ f' n' w', PB w0 w' w.heap.size (deedV K A true S N s) bm n' f' bx n' f' most → n' ≤ 256 → (n' : Int) ≤ newMost most → (most = -1 ∨ (n' : Int) ≤ most) → Done w0 bm bx most (.returned (.bool true)) w' := fun f' n' w' hp q1 q2 q3 => ⟨rfl, n', f', hp.unbox q1 q2 b3 q3 b5⟩
  clear b2 b3 b4 b5
  have c3 : ((w.alloc (.cells (deedV K A true S N s) 44)).drew).cell? ⟨w.heap.size, 3, none⟩ = some (.int .i64 S) := hP.cell 3
  have c4 : ((w.alloc (.cells (deedV K A true S N s) 44)).drew).cell? ⟨w.heap.size, 4, none⟩ = some (.int .u64 N) := hP.cell 4
  unfold deedV at *
  go_enter Try.func21, Try.ntmps21
  go_wp2_with fail
  go_region_held3 (fun w' => w'.cell? ⟨w.heap.size, 3, none⟩ = some (.int .i64 S) ∧ w'.cell? ⟨w.heap.size, 4, none⟩ = some (.int .u64 N)) (refine ⟨?_, ?_⟩ <;> assumption)
    (first | (go_at_call 18; refine (pb_mstore (by assumption) A S N b1 (by omega) hS0 hS1 hN).mono ?_; rintro e w' ⟨rfl, hq⟩; have k3 : _ = some (Value.int .i64 S) := hq.cell 3; have k4 : _ = some (Value.int .u64 N) := hq.cell 4) | (go_at_call 41; refine (pb_xstore (by assumption) A S N b1 (by omega) hS0 hS1 hN).mono ?_; rintro e w' ⟨rfl, hq⟩; have k3 : _ = some (Value.int .i64 S) := hq.cell 3; have k4 : _ = some (Value.int .u64 N) := hq.cell 4))
  all_goals go_wp2_with fail
  all_goals go_ret
  all_goals exact fin _ n _ (by assumption) b1 HB.out.2.1 HB.out.2.2.2.1

set_option maxRecDepth 100000 in
set_option maxHeartbeats 4000000 in
theorem does_1f (w0 w : World) (bm bx n : Nat) (f : Nat → UInt8) (most : Int) (h0 : PS w0 w bm bx n f most) (K A : Nat) (S : Int) (N : Nat) (s : ByteArray) (hK : (K : Int) % 6 = 1) (hA : A < 18446744073709551616) (hS0 : -9223372036854775808 ≤ S) (hS1 : S ≤ 9223372036854775807) (hN : N < 18446744073709551616) (hs : s.size ≤ 9223372036854775807) :
    Calls Try.prog 21 #[.pointer (some ⟨bm, 0, none⟩), .pointer (some ⟨bx, 0, none⟩), .agg (deedV K A false S N s)] w (Done w0 bm bx most) := by
  have hP := (h0.box (deedV K A false S N s)).quiet ((Mods.refl [] _).drew)
  obtain ⟨-, b1, b2, b3, b4, b5⟩ := h0
  have HB := Lib.hid (And.intro b1 (And.intro b2 (And.intro b3 (And.intro b4 b5))))
  have fin : ∀ f' n' w', PB w0 w' w.heap.size (deedV K A false S N s) bm n' f' bx n' f' most → n' ≤ 256 → (n' : Int) ≤ newMost most → (most = -1 ∨ (n' : Int) ≤ most) → Done w0 bm bx most (.returned (.bool true)) w' := fun f' n' w' hp q1 q2 q3 => ⟨rfl, n', f', hp.unbox q1 q2 b3 q3 b5⟩
  clear b2 b3 b4 b5
  have c3 : ((w.alloc (.cells (deedV K A false S N s) 44)).drew).cell? ⟨w.heap.size, 3, none⟩ = some (.int .i64 S) := hP.cell 3
  have c4 : ((w.alloc (.cells (deedV K A false S N s) 44)).drew).cell? ⟨w.heap.size, 4, none⟩ = some (.int .u64 N) := hP.cell 4
  unfold deedV at *
  have hr : (A : Int) % 300000 = ((A % 300000 : Nat) : Int) := by omega
  have hx : A % 300000 < 300000 := by omega
  obtain ⟨P, hPA⟩ : ∃ P, P = A % 300000 := ⟨_, rfl⟩
  rw [← hPA] at hr hx
  have HPA := Lib.hid hPA
  clear hPA
  go_enter Try.func21, Try.ntmps21
  go_wp2_with fail
  go_region_held3 (fun w' => w'.cell? ⟨w.heap.size, 3, none⟩ = some (.int .i64 S) ∧ w'.cell? ⟨w.heap.size, 4, none⟩ = some (.int .u64 N)) (refine ⟨?_, ?_⟩ <;> assumption)
    (first | (go_at_call 18; refine (pb_mstore (by assumption) P S N b1 (by omega) hS0 hS1 hN).mono ?_; rintro e w' ⟨rfl, hq⟩; have k3 : _ = some (Value.int .i64 S) := hq.cell 3; have k4 : _ = some (Value.int .u64 N) := hq.cell 4) | (go_at_call 41; refine (pb_xstore (by assumption) P S N b1 (by omega) hS0 hS1 hN).mono ?_; rintro e w' ⟨rfl, hq⟩; have k3 : _ = some (Value.int .i64 S) := hq.cell 3; have k4 : _ = some (Value.int .u64 N) := hq.cell 4))
  all_goals go_wp2_with fail
  all_goals go_ret
  all_goals exact fin _ n _ (by assumption) b1 HB.out.2.1 HB.out.2.2.2.1

set_option maxRecDepth 100000 in
set_option maxHeartbeats 4000000 in
theorem does_2t (w0 w : World) (bm bx n : Nat) (f : Nat → UInt8) (most : Int) (h0 : PS w0 w bm bx n f most) (K A : Nat) (S : Int) (N : Nat) (s : ByteArray) (hK : (K : Int) % 6 = 2) (hA : A < 18446744073709551616) (hS0 : -9223372036854775808 ≤ S) (hS1 : S ≤ 9223372036854775807) (hN : N < 18446744073709551616) (hs : s.size ≤ 9223372036854775807) :
    Calls Try.prog 21 #[.pointer (some ⟨bm, 0, none⟩), .pointer (some ⟨bx, 0, none⟩), .agg (deedV K A true S N s)] w (Done w0 bm bx most) := by
  have hP := (h0.box (deedV K A true S N s)).quiet ((Mods.refl [] _).drew)
  obtain ⟨-, b1, b2, b3, b4, b5⟩ := h0
  have HB := Lib.hid (And.intro b1 (And.intro b2 (And.intro b3 (And.intro b4 b5))))
  have fin : ∀ f' n' w', PB w0 w' w.heap.size (deedV K A true S N s) bm n' f' bx n' f' most → n' ≤ 256 → (n' : Int) ≤ newMost most → (most = -1 ∨ (n' : Int) ≤ most) → Done w0 bm bx most (.returned (.bool true)) w' := fun f' n' w' hp q1 q2 q3 => ⟨rfl, n', f', hp.unbox q1 q2 b3 q3 b5⟩
  clear b2 b3 b4 b5
  have c3 : ((w.alloc (.cells (deedV K A true S N s) 44)).drew).cell? ⟨w.heap.size, 3, none⟩ = some (.int .i64 S) := hP.cell 3
  have c4 : ((w.alloc (.cells (deedV K A true S N s) 44)).drew).cell? ⟨w.heap.size, 4, none⟩ = some (.int .u64 N) := hP.cell 4
  unfold deedV at *
  go_enter Try.func21, Try.ntmps21
  go_wp2_with fail
  go_region_held3 (fun w' => w'.cell? ⟨w.heap.size, 3, none⟩ = some (.int .i64 S) ∧ w'.cell? ⟨w.heap.size, 4, none⟩ = some (.int .u64 N)) (refine ⟨?_, ?_⟩ <;> assumption)
    (first | (go_at_call 18; refine (pb_mstore (by assumption) A S N b1 (by omega) hS0 hS1 hN).mono ?_; rintro e w' ⟨rfl, hq⟩; have k3 : _ = some (Value.int .i64 S) := hq.cell 3; have k4 : _ = some (Value.int .u64 N) := hq.cell 4) | (go_at_call 41; refine (pb_xstore (by assumption) A S N b1 (by omega) hS0 hS1 hN).mono ?_; rintro e w' ⟨rfl, hq⟩; have k3 : _ = some (Value.int .i64 S) := hq.cell 3; have k4 : _ = some (Value.int .u64 N) := hq.cell 4))
  all_goals go_wp2_with fail
  all_goals go_ret
  all_goals exact fin _ n _ (by assumption) b1 HB.out.2.1 HB.out.2.2.2.1

set_option maxRecDepth 100000 in
set_option maxHeartbeats 4000000 in
theorem does_2f (w0 w : World) (bm bx n : Nat) (f : Nat → UInt8) (most : Int) (h0 : PS w0 w bm bx n f most) (K A : Nat) (S : Int) (N : Nat) (s : ByteArray) (hK : (K : Int) % 6 = 2) (hA : A < 18446744073709551616) (hS0 : -9223372036854775808 ≤ S) (hS1 : S ≤ 9223372036854775807) (hN : N < 18446744073709551616) (hs : s.size ≤ 9223372036854775807) :
    Calls Try.prog 21 #[.pointer (some ⟨bm, 0, none⟩), .pointer (some ⟨bx, 0, none⟩), .agg (deedV K A false S N s)] w (Done w0 bm bx most) := by
  have hP := (h0.box (deedV K A false S N s)).quiet ((Mods.refl [] _).drew)
  obtain ⟨-, b1, b2, b3, b4, b5⟩ := h0
  have HB := Lib.hid (And.intro b1 (And.intro b2 (And.intro b3 (And.intro b4 b5))))
  have fin : ∀ f' n' w', PB w0 w' w.heap.size (deedV K A false S N s) bm n' f' bx n' f' most → n' ≤ 256 → (n' : Int) ≤ newMost most → (most = -1 ∨ (n' : Int) ≤ most) → Done w0 bm bx most (.returned (.bool true)) w' := fun f' n' w' hp q1 q2 q3 => ⟨rfl, n', f', hp.unbox q1 q2 b3 q3 b5⟩
  clear b2 b3 b4 b5
  have c3 : ((w.alloc (.cells (deedV K A false S N s) 44)).drew).cell? ⟨w.heap.size, 3, none⟩ = some (.int .i64 S) := hP.cell 3
  have c4 : ((w.alloc (.cells (deedV K A false S N s) 44)).drew).cell? ⟨w.heap.size, 4, none⟩ = some (.int .u64 N) := hP.cell 4
  unfold deedV at *
  have hr : (A : Int) % 300000 = ((A % 300000 : Nat) : Int) := by omega
  have hx : A % 300000 < 300000 := by omega
  obtain ⟨P, hPA⟩ : ∃ P, P = A % 300000 := ⟨_, rfl⟩
  rw [← hPA] at hr hx
  have HPA := Lib.hid hPA
  clear hPA
  go_enter Try.func21, Try.ntmps21
  go_wp2_with fail
  go_region_held3 (fun w' => w'.cell? ⟨w.heap.size, 3, none⟩ = some (.int .i64 S) ∧ w'.cell? ⟨w.heap.size, 4, none⟩ = some (.int .u64 N)) (refine ⟨?_, ?_⟩ <;> assumption)
    (first | (go_at_call 18; refine (pb_mstore (by assumption) P S N b1 (by omega) hS0 hS1 hN).mono ?_; rintro e w' ⟨rfl, hq⟩; have k3 : _ = some (Value.int .i64 S) := hq.cell 3; have k4 : _ = some (Value.int .u64 N) := hq.cell 4) | (go_at_call 41; refine (pb_xstore (by assumption) P S N b1 (by omega) hS0 hS1 hN).mono ?_; rintro e w' ⟨rfl, hq⟩; have k3 : _ = some (Value.int .i64 S) := hq.cell 3; have k4 : _ = some (Value.int .u64 N) := hq.cell 4))
  all_goals go_wp2_with fail
  all_goals go_ret
  all_goals exact fin _ n _ (by assumption) b1 HB.out.2.1 HB.out.2.2.2.1

set_option maxRecDepth 100000 in
set_option maxHeartbeats 4000000 in
theorem does_3t (w0 w : World) (bm bx n : Nat) (f : Nat → UInt8) (most : Int) (h0 : PS w0 w bm bx n f most) (K A : Nat) (S : Int) (N : Nat) (s : ByteArray) (hK : (K : Int) % 6 = 3) (hA : A < 18446744073709551616) (hS0 : -9223372036854775808 ≤ S) (hS1 : S ≤ 9223372036854775807) (hN : N < 18446744073709551616) (hs : s.size ≤ 9223372036854775807) :
    Calls Try.prog 21 #[.pointer (some ⟨bm, 0, none⟩), .pointer (some ⟨bx, 0, none⟩), .agg (deedV K A true S N s)] w (Done w0 bm bx most) := by
  have hP := (h0.box (deedV K A true S N s))
  obtain ⟨-, b1, b2, b3, b4, b5⟩ := h0
  have HB := Lib.hid (And.intro b1 (And.intro b2 (And.intro b3 (And.intro b4 b5))))
  have fin : ∀ f' n' w', PB w0 w' w.heap.size (deedV K A true S N s) bm n' f' bx n' f' most → n' ≤ 256 → (n' : Int) ≤ newMost most → (most = -1 ∨ (n' : Int) ≤ most) → Done w0 bm bx most (.returned (.bool true)) w' := fun f' n' w' hp q1 q2 q3 => ⟨rfl, n', f', hp.unbox q1 q2 b3 q3 b5⟩
  clear b2 b3 b4 b5
  unfold deedV at *
  go_enter Try.func21, Try.ntmps21
  go_wp2_with fail
  refine (pb_mload hP A S b1 (by omega) hS0 hS1).mono ?_
  rintro e w' ⟨rfl, hq⟩
  have k3 : w'.cell? ⟨w.heap.size, 3, none⟩ = some (.int .i64 S) := hq.cell 3
  go_wp2_with fail
  refine (pb_xload hq A S b1 (by omega) hS0 hS1).mono ?_
  rintro e w2 ⟨rfl, hq2⟩
  generalize loadV n f A S = Y at *
  generalize (wOK S && hasB n A S) = Z at *
  go_wp2_with fail
  go_ret
  exact fin _ n _ hq2 b1 HB.out.2.1 HB.out.2.2.2.1

set_option maxRecDepth 100000 in
set_option maxHeartbeats 4000000 in
theorem does_3f (w0 w : World) (bm bx n : Nat) (f : Nat → UInt8) (most : Int) (h0 : PS w0 w bm bx n f most) (K A : Nat) (S : Int) (N : Nat) (s : ByteArray) (hK : (K : Int) % 6 = 3) (hA : A < 18446744073709551616) (hS0 : -9223372036854775808 ≤ S) (hS1 : S ≤ 9223372036854775807) (hN : N < 18446744073709551616) (hs : s.size ≤ 9223372036854775807) :
    Calls Try.prog 21 #[.pointer (some ⟨bm, 0, none⟩), .pointer (some ⟨bx, 0, none⟩), .agg (deedV K A false S N s)] w (Done w0 bm bx most) := by
  have hP := (h0.box (deedV K A false S N s))
  obtain ⟨-, b1, b2, b3, b4, b5⟩ := h0
  have HB := Lib.hid (And.intro b1 (And.intro b2 (And.intro b3 (And.intro b4 b5))))
  have fin : ∀ f' n' w', PB w0 w' w.heap.size (deedV K A false S N s) bm n' f' bx n' f' most → n' ≤ 256 → (n' : Int) ≤ newMost most → (most = -1 ∨ (n' : Int) ≤ most) → Done w0 bm bx most (.returned (.bool true)) w' := fun f' n' w' hp q1 q2 q3 => ⟨rfl, n', f', hp.unbox q1 q2 b3 q3 b5⟩
  clear b2 b3 b4 b5
  unfold deedV at *
  have hr : (A : Int) % 300000 = ((A % 300000 : Nat) : Int) := by omega
  have hx : A % 300000 < 300000 := by omega
  obtain ⟨P, hPA⟩ : ∃ P, P = A % 300000 := ⟨_, rfl⟩
  rw [← hPA] at hr hx
  have HPA := Lib.hid hPA
  clear hPA
  go_enter Try.func21, Try.ntmps21
  go_wp2_with fail
  refine (pb_mload hP P S b1 (by omega) hS0 hS1).mono ?_
  rintro e w' ⟨rfl, hq⟩
  have k3 : w'.cell? ⟨w.heap.size, 3, none⟩ = some (.int .i64 S) := hq.cell 3
  go_wp2_with fail
  refine (pb_xload hq P S b1 (by omega) hS0 hS1).mono ?_
  rintro e w2 ⟨rfl, hq2⟩
  generalize loadV n f P S = Y at *
  generalize (wOK S && hasB n P S) = Z at *
  go_wp2_with fail
  go_ret
  exact fin _ n _ hq2 b1 HB.out.2.1 HB.out.2.2.2.1

set_option maxRecDepth 100000 in
set_option maxHeartbeats 4000000 in
theorem does_4t (w0 w : World) (bm bx n : Nat) (f : Nat → UInt8) (most : Int) (h0 : PS w0 w bm bx n f most) (K A : Nat) (S : Int) (N : Nat) (s : ByteArray) (hK : (K : Int) % 6 = 4) (hA : A < 18446744073709551616) (hS0 : -9223372036854775808 ≤ S) (hS1 : S ≤ 9223372036854775807) (hN : N < 18446744073709551616) (hs : s.size ≤ 9223372036854775807) :
    Calls Try.prog 21 #[.pointer (some ⟨bm, 0, none⟩), .pointer (some ⟨bx, 0, none⟩), .agg (deedV K A true S N s)] w (Done w0 bm bx most) := by
  have hP := (h0.box (deedV K A true S N s)).quiet ((Mods.refl [] _).drew)
  obtain ⟨-, b1, b2, b3, b4, b5⟩ := h0
  have HB := Lib.hid (And.intro b1 (And.intro b2 (And.intro b3 (And.intro b4 b5))))
  have fin : ∀ f' n' w', PB w0 w' w.heap.size (deedV K A true S N s) bm n' f' bx n' f' most → n' ≤ 256 → (n' : Int) ≤ newMost most → (most = -1 ∨ (n' : Int) ≤ most) → Done w0 bm bx most (.returned (.bool true)) w' := fun f' n' w' hp q1 q2 q3 => ⟨rfl, n', f', hp.unbox q1 q2 b3 q3 b5⟩
  clear b2 b3 b4 b5
  have c5 : ((w.alloc (.cells (deedV K A true S N s) 44)).drew).cell? ⟨w.heap.size, 5, none⟩ = some (.string s) := hP.cell 5
  unfold deedV at *
  go_enter Try.func21, Try.ntmps21
  go_wp2_with fail
  go_region_held3 (fun w' => w'.cell? ⟨w.heap.size, 5, none⟩ = some (.string s)) (assumption)
    (first | (go_at_call 23; refine (pb_mwrite (by assumption) A s b1 (by omega) (by omega)).mono ?_; rintro e w' ⟨rfl, hq⟩; have k5 : _ = some (Value.string s) := hq.cell 5) | (go_at_call 43; refine (pb_xwrite (by assumption) A s b1 (by omega) (by omega)).mono ?_; rintro e w' ⟨rfl, hq⟩; have k5 : _ = some (Value.string s) := hq.cell 5))
  all_goals go_wp2_with fail
  all_goals go_ret
  all_goals exact fin _ n _ (by assumption) b1 HB.out.2.1 HB.out.2.2.2.1

set_option maxRecDepth 100000 in
set_option maxHeartbeats 4000000 in
theorem does_4f (w0 w : World) (bm bx n : Nat) (f : Nat → UInt8) (most : Int) (h0 : PS w0 w bm bx n f most) (K A : Nat) (S : Int) (N : Nat) (s : ByteArray) (hK : (K : Int) % 6 = 4) (hA : A < 18446744073709551616) (hS0 : -9223372036854775808 ≤ S) (hS1 : S ≤ 9223372036854775807) (hN : N < 18446744073709551616) (hs : s.size ≤ 9223372036854775807) :
    Calls Try.prog 21 #[.pointer (some ⟨bm, 0, none⟩), .pointer (some ⟨bx, 0, none⟩), .agg (deedV K A false S N s)] w (Done w0 bm bx most) := by
  have hP := (h0.box (deedV K A false S N s)).quiet ((Mods.refl [] _).drew)
  obtain ⟨-, b1, b2, b3, b4, b5⟩ := h0
  have HB := Lib.hid (And.intro b1 (And.intro b2 (And.intro b3 (And.intro b4 b5))))
  have fin : ∀ f' n' w', PB w0 w' w.heap.size (deedV K A false S N s) bm n' f' bx n' f' most → n' ≤ 256 → (n' : Int) ≤ newMost most → (most = -1 ∨ (n' : Int) ≤ most) → Done w0 bm bx most (.returned (.bool true)) w' := fun f' n' w' hp q1 q2 q3 => ⟨rfl, n', f', hp.unbox q1 q2 b3 q3 b5⟩
  clear b2 b3 b4 b5
  have c5 : ((w.alloc (.cells (deedV K A false S N s) 44)).drew).cell? ⟨w.heap.size, 5, none⟩ = some (.string s) := hP.cell 5
  unfold deedV at *
  have hr : (A : Int) % 300000 = ((A % 300000 : Nat) : Int) := by omega
  have hx : A % 300000 < 300000 := by omega
  obtain ⟨P, hPA⟩ : ∃ P, P = A % 300000 := ⟨_, rfl⟩
  rw [← hPA] at hr hx
  have HPA := Lib.hid hPA
  clear hPA
  go_enter Try.func21, Try.ntmps21
  go_wp2_with fail
  go_region_held3 (fun w' => w'.cell? ⟨w.heap.size, 5, none⟩ = some (.string s)) (assumption)
    (first | (go_at_call 23; refine (pb_mwrite (by assumption) P s b1 (by omega) (by omega)).mono ?_; rintro e w' ⟨rfl, hq⟩; have k5 : _ = some (Value.string s) := hq.cell 5) | (go_at_call 43; refine (pb_xwrite (by assumption) P s b1 (by omega) (by omega)).mono ?_; rintro e w' ⟨rfl, hq⟩; have k5 : _ = some (Value.string s) := hq.cell 5))
  all_goals go_wp2_with fail
  all_goals go_ret
  all_goals exact fin _ n _ (by assumption) b1 HB.out.2.1 HB.out.2.2.2.1

set_option maxRecDepth 100000 in
set_option maxHeartbeats 4000000 in
theorem does_5t (w0 w : World) (bm bx n : Nat) (f : Nat → UInt8) (most : Int) (h0 : PS w0 w bm bx n f most) (K A : Nat) (S : Int) (N : Nat) (s : ByteArray) (hK : (K : Int) % 6 = 5) (hA : A < 18446744073709551616) (hS0 : -9223372036854775808 ≤ S) (hS1 : S ≤ 9223372036854775807) (hN : N < 18446744073709551616) (hs : s.size ≤ 9223372036854775807) :
    Calls Try.prog 21 #[.pointer (some ⟨bm, 0, none⟩), .pointer (some ⟨bx, 0, none⟩), .agg (deedV K A true S N s)] w (Done w0 bm bx most) := by
  have hP := (h0.box (deedV K A true S N s))
  obtain ⟨-, b1, b2, b3, b4, b5⟩ := h0
  have HB := Lib.hid (And.intro b1 (And.intro b2 (And.intro b3 (And.intro b4 b5))))
  have fin : ∀ f' n' w', PB w0 w' w.heap.size (deedV K A true S N s) bm n' f' bx n' f' most → n' ≤ 256 → (n' : Int) ≤ newMost most → (most = -1 ∨ (n' : Int) ≤ most) → Done w0 bm bx most (.returned (.bool true)) w' := fun f' n' w' hp q1 q2 q3 => ⟨rfl, n', f', hp.unbox q1 q2 b3 q3 b5⟩
  clear b2 b3 b4 b5
  unfold deedV at *
  go_enter Try.func21, Try.ntmps21
  go_wp2_with fail
  refine (pb_mbytes hP A S b1 (by omega) hS0 hS1).mono ?_
  rintro e w' ⟨rfl, hq⟩
  have k3 : w'.cell? ⟨w.heap.size, 3, none⟩ = some (.int .i64 S) := hq.cell 3
  go_wp2_with fail
  refine (pb_xbytes hq A S b1 (by omega) hS0 hS1).mono ?_
  rintro e w2 ⟨rfl, hq2⟩
  generalize bytesV n f A S = Y at *
  generalize hasB n A S = Z at *
  go_wp2_with fail
  go_ret
  exact fin _ n _ hq2 b1 HB.out.2.1 HB.out.2.2.2.1

set_option maxRecDepth 100000 in
set_option maxHeartbeats 4000000 in
theorem does_5f (w0 w : World) (bm bx n : Nat) (f : Nat → UInt8) (most : Int) (h0 : PS w0 w bm bx n f most) (K A : Nat) (S : Int) (N : Nat) (s : ByteArray) (hK : (K : Int) % 6 = 5) (hA : A < 18446744073709551616) (hS0 : -9223372036854775808 ≤ S) (hS1 : S ≤ 9223372036854775807) (hN : N < 18446744073709551616) (hs : s.size ≤ 9223372036854775807) :
    Calls Try.prog 21 #[.pointer (some ⟨bm, 0, none⟩), .pointer (some ⟨bx, 0, none⟩), .agg (deedV K A false S N s)] w (Done w0 bm bx most) := by
  have hP := (h0.box (deedV K A false S N s))
  obtain ⟨-, b1, b2, b3, b4, b5⟩ := h0
  have HB := Lib.hid (And.intro b1 (And.intro b2 (And.intro b3 (And.intro b4 b5))))
  have fin : ∀ f' n' w', PB w0 w' w.heap.size (deedV K A false S N s) bm n' f' bx n' f' most → n' ≤ 256 → (n' : Int) ≤ newMost most → (most = -1 ∨ (n' : Int) ≤ most) → Done w0 bm bx most (.returned (.bool true)) w' := fun f' n' w' hp q1 q2 q3 => ⟨rfl, n', f', hp.unbox q1 q2 b3 q3 b5⟩
  clear b2 b3 b4 b5
  unfold deedV at *
  have hr : (A : Int) % 300000 = ((A % 300000 : Nat) : Int) := by omega
  have hx : A % 300000 < 300000 := by omega
  obtain ⟨P, hPA⟩ : ∃ P, P = A % 300000 := ⟨_, rfl⟩
  rw [← hPA] at hr hx
  have HPA := Lib.hid hPA
  clear hPA
  go_enter Try.func21, Try.ntmps21
  go_wp2_with fail
  refine (pb_mbytes hP P S b1 (by omega) hS0 hS1).mono ?_
  rintro e w' ⟨rfl, hq⟩
  have k3 : w'.cell? ⟨w.heap.size, 3, none⟩ = some (.int .i64 S) := hq.cell 3
  go_wp2_with fail
  refine (pb_xbytes hq P S b1 (by omega) hS0 hS1).mono ?_
  rintro e w2 ⟨rfl, hq2⟩
  generalize bytesV n f P S = Y at *
  generalize hasB n P S = Z at *
  go_wp2_with fail
  go_ret
  exact fin _ n _ hq2 b1 HB.out.2.1 HB.out.2.2.2.1

theorem does_any (w0 w : World) (bm bx n : Nat) (f : Nat → UInt8) (most : Int) (h0 : PS w0 w bm bx n f most) (K A : Nat) (F : Bool) (S : Int) (N : Nat) (s : ByteArray) (hA : A < 18446744073709551616) (hS0 : -9223372036854775808 ≤ S) (hS1 : S ≤ 9223372036854775807) (hN : N < 18446744073709551616) (hN5 : K % 6 = 0 → N < 5) (hs : s.size ≤ 9223372036854775807) :
    Calls Try.prog 21 #[.pointer (some ⟨bm, 0, none⟩), .pointer (some ⟨bx, 0, none⟩), .agg (deedV K A F S N s)] w (Done w0 bm bx most) := by
  rcases (show K % 6 = 0 ∨ K % 6 = 1 ∨ K % 6 = 2 ∨ K % 6 = 3 ∨ K % 6 = 4 ∨ K % 6 = 5 from by omega) with hk | hk | hk | hk | hk | hk <;> cases F
  · exact does_0f w0 w bm bx n f most h0 K A S N s (by omega) hA hS0 hS1 (hN5 hk) hs
  · exact does_0t w0 w bm bx n f most h0 K A S N s (by omega) hA hS0 hS1 (hN5 hk) hs
  · exact does_1f w0 w bm bx n f most h0 K A S N s (by omega) hA hS0 hS1 hN hs
  · exact does_1t w0 w bm bx n f most h0 K A S N s (by omega) hA hS0 hS1 hN hs
  · exact does_2f w0 w bm bx n f most h0 K A S N s (by omega) hA hS0 hS1 hN hs
  · exact does_2t w0 w bm bx n f most h0 K A S N s (by omega) hA hS0 hS1 hN hs
  · exact does_3f w0 w bm bx n f most h0 K A S N s (by omega) hA hS0 hS1 hN hs
  · exact does_3t w0 w bm bx n f most h0 K A S N s (by omega) hA hS0 hS1 hN hs
  · exact does_4f w0 w bm bx n f most h0 K A S N s (by omega) hA hS0 hS1 hN hs
  · exact does_4t w0 w bm bx n f most h0 K A S N s (by omega) hA hS0 hS1 hN hs
  · exact does_5f w0 w bm bx n f most h0 K A S N s (by omega) hA hS0 hS1 hN hs
  · exact does_5t w0 w bm bx n f most h0 K A S N s (by omega) hA hS0 hS1 hN hs

end Go.Proofs.Ytagpnalhilgcpaa
