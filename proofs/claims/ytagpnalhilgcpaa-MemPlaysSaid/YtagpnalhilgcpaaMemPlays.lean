/-
  The law MemPlays returns true, for every argument, and leaves all that was in memory as it was. No condition.
-/
import Derived.Test.YtagpnalhilgcpaaPlaysB
namespace Go.Proofs.Ytagpnalhilgcpaa
open Go.RowKit
set_option linter.unusedVariables false
set_option linter.unusedSimpArgs false

theorem PS.quiet {w0 w w' : World} {bm bx n : Nat} {f : Nat → UInt8} {most : Int} (h : PS w0 w bm bx n f most) (hM : Mods [] w w') : PS w0 w' bm bx n f most := by
  obtain ⟨⟨h0, L1, L2, h1, h2, h3, h4, h5⟩, h6⟩ := h
  exact ⟨⟨h0.trans hM (by simp), L1, L2, h1.mods hM (by simp), h2.mods hM (by simp), h3, h4, h5⟩, h6⟩

theorem ps_mpages {w0 w : World} {bm bx n : Nat} {f : Nat → UInt8} {most : Int} (h : PS w0 w bm bx n f most) : Calls Try.prog 17 #[.pointer (some ⟨bm, 0, none⟩)] w fun e w' => e = .returned (.int .i64 n) ∧ w = w' := by
  obtain ⟨⟨h0, L1, L2, h1, h2, h3, h4, h5⟩, h6⟩ := h
  exact pages_is w bm n _ f L1 h1
theorem ps_xpages {w0 w : World} {bm bx n : Nat} {f : Nat → UInt8} {most : Int} (h : PS w0 w bm bx n f most) : Calls Try.prog 22 #[.pointer (some ⟨bx, 0, none⟩)] w fun e w' => e = .returned (.int .i64 n) ∧ w = w' := by
  obtain ⟨⟨h0, L1, L2, h1, h2, h3, h4, h5⟩, h6, -⟩ := h
  exact ref_pages w bx n _ f L2 h2 h6

/-- A deed stands in memory. -/
def DeedAt (w : World) (b off K A : Nat) (F : Bool) (S : Int) (N : Nat) (s : ByteArray) : Prop :=
  K < 256 ∧ A < 18446744073709551616 ∧ (-9223372036854775808 ≤ S ∧ S ≤ 9223372036854775807) ∧ N < 18446744073709551616 ∧ s.size ≤ 9223372036854775807 ∧ ∀ j, j < 6 → w.cell? ⟨b, off + j, none⟩ = (deedV K A F S N s)[j]?

def DeedsIn (w : World) (ao : Option Addr) (len : Nat) : Prop := len ≤ 9223372036854775807 ∧ (0 < len → ∃ b off, ao = some ⟨b, off, none⟩ ∧ ∀ i, i < len → ∃ K A F S N s, DeedAt w b (off + i * 6) K A F S N s)

/-- The pages at first. -/
def leastOf (least : Int) : Int := if 6 < least ∧ least ≤ 256 then least % 7 else least

theorem ps_start {w w1 w2 w3 : World} {b1 b2 n : Nat} {most : Int} {L1 L2 : List Nat} (hM1 : Mods [] w w1) (h1 : Mem w2 b1 n (newMost most) (fun _ => 0) L1) (hM2 : Mods [] w1 w2) (hL1 : ∀ k ∈ L1, w1.heap.size ≤ k)
    (h2 : Ref w3 b2 n most (fun _ => 0) L2) (hM3 : Mods [] w2 w3) (hL2 : ∀ k ∈ L2, w2.heap.size ≤ k) (hn : n ≤ 256) (hm : most = -1 ∨ (n : Int) ≤ most) (hmm : most ≤ 9223372036854775807) (hm0 : -1 ≤ most) : PS w w3 b1 b2 n (fun _ => 0) most := by
  have hNM : newMost most = if most < 0 then 256 else if most ≤ 256 then most else 256 := rfl
  have s1 := hM1.size
  have s2 := hM2.size
  refine ⟨⟨(hM1.trans hM2 (by simp)).trans hM3 (by simp), L1, L2, h1.mods hM3 (by simp), h2, fun k hk => by have := hL1 k hk; omega, fun k hk => by have := hL2 k hk; omega, fun k hk hc => ?_⟩, hn, ?_, ?_, hm, hmm⟩
  · have := h1.lt k hk
    have := hL2 k hc
    omega
  · rw [hNM]; (repeat' split) <;> omega
  · rw [hNM]; (repeat' split) <;> omega

set_option maxRecDepth 100000 in
set_option maxHeartbeats 4000000 in
theorem plays_err (least most : Int) (hl0 : -9223372036854775808 ≤ least) (hl1 : least ≤ 9223372036854775807) (hm0 : -9223372036854775808 ≤ most) (hm1 : most ≤ 9223372036854775807) (ao : Option Addr) (len cap : Nat) (w : World) (hc : ¬ (6 < least ∧ least ≤ 256)) (he : newErr least most ≠ 0) :
    Calls Try.prog 5 #[.int .i64 least, .int .i64 most, .slice ao len cap] w fun e w' => e = .returned (.bool true) ∧ Mods [] w w' := by
  have cs : (least ≤ 6) ∨ (6 < least ∧ 256 < least) := by omega
  rcases cs with c1 | ⟨c1, c2⟩
  · clear hc
    go_enter Try.func5, Try.ntmps5
    go_wp2_with fail
    refine (examples8 _).mono ?_
    rintro e w1 ⟨rfl, hM1⟩
    go_wp2_with fail
    refine (new_err _ least most hl0 hl1 hm0 hm1 he).mono ?_
    rintro e w2 ⟨rfl, rfl⟩
    go_wp2_with fail
    refine (ref_new_err _ least most hl0 hl1 hm0 hm1 he).mono ?_
    rintro e w2 ⟨rfl, rfl⟩
    generalize newErr least most = E at *
    go_wp2_with fail
    go_ret
    exact ⟨ret_bool (by simp), hM1⟩
  · clear hc
    go_enter Try.func5, Try.ntmps5
    go_wp2_with fail
    refine (examples8 _).mono ?_
    rintro e w1 ⟨rfl, hM1⟩
    go_wp2_with fail
    refine (new_err _ least most hl0 hl1 hm0 hm1 he).mono ?_
    rintro e w2 ⟨rfl, rfl⟩
    go_wp2_with fail
    refine (ref_new_err _ least most hl0 hl1 hm0 hm1 he).mono ?_
    rintro e w2 ⟨rfl, rfl⟩
    generalize newErr least most = E at *
    go_wp2_with fail
    go_ret
    exact ⟨ret_bool (by simp), hM1⟩

set_option maxRecDepth 100000 in
set_option maxHeartbeats 4000000 in
theorem plays_err2 (least most : Int) (hl0 : -9223372036854775808 ≤ least) (hl1 : least ≤ 9223372036854775807) (hm0 : -9223372036854775808 ≤ most) (hm1 : most ≤ 9223372036854775807) (ao : Option Addr) (len cap : Nat) (w : World) (c1 : 6 < least) (c2 : least ≤ 256) (he : newErr (least % 7) most ≠ 0) :
    Calls Try.prog 5 #[.int .i64 least, .int .i64 most, .slice ao len cap] w fun e w' => e = .returned (.bool true) ∧ Mods [] w w' := by
  go_enter Try.func5, Try.ntmps5
  go_wp2_with fail
  refine (examples8 _).mono ?_
  rintro e w1 ⟨rfl, hM1⟩
  go_wp2_with fail
  refine (new_err _ (least % 7) most (by omega) (by omega) hm0 hm1 he).mono ?_
  rintro e w2 ⟨rfl, rfl⟩
  go_wp2_with fail
  refine (ref_new_err _ (least % 7) most (by omega) (by omega) hm0 hm1 he).mono ?_
  rintro e w2 ⟨rfl, rfl⟩
  generalize newErr (least % 7) most = E at *
  go_wp2_with fail
  go_ret
  exact ⟨ret_bool (by simp), hM1⟩

set_option maxRecDepth 100000 in
set_option maxHeartbeats 4000000 in
theorem plays_ok (n : Nat) (most : Int) (hm0 : -1 ≤ most) (hm1 : most ≤ 9223372036854775807) (ao : Option Addr) (len cap : Nat) (w : World) (hn : n ≤ 6) (hm : most = -1 ∨ (n : Int) ≤ most) (hD : DeedsIn w ao len) :
    Calls Try.prog 5 #[.int .i64 n, .int .i64 most, .slice ao len cap] w fun e w' => e = .returned (.bool true) ∧ Mods [] w w' := by
  have HM := Lib.hid (And.intro hm hm0)
  clear hm hm0
  go_enter Try.func5, Try.ntmps5
  go_wp2_with fail
  refine (examples8 _).mono ?_
  rintro e w1 ⟨rfl, hM1⟩
  go_wp2_with fail
  refine (new_is _ n most (by have := HM.out.2; omega) hm1 (by omega) HM.out.1).mono ?_
  rintro e w2 ⟨b1, L1, rfl, hm2, hM2, hL2⟩
  go_wp2_with fail
  refine (ref_new_ok _ n most (by have := HM.out.2; omega) hm1 (by omega) HM.out.1).mono ?_
  rintro e w3 ⟨b2, L2, rfl, hr3, hM3, hL3⟩
  have hP := ps_start hM1 hm2 hM2 hL2 hr3 hM3 hL3 (by omega) HM.out.1 hm1 HM.out.2
  clear hM1 hm2 hM2 hL2 hr3 hM3 hL3
  obtain ⟨hlen, hD⟩ := hD
  go_wp2_with fail
  go_loopw [12] (fun t12 wr => ∃ k : Nat, k ≤ len ∧ k ≤ 40 ∧ t12 = .int .i64 k ∧ ∃ n f, PS w wr b1 b2 n f most) (fun t12 _ => 40 - (intOf t12).toNat)
  case atStart => exact ⟨0, by omega, by omega, rfl, n, _, hP⟩
  case round =>
    clear hP
    obtain ⟨k, hk, hk40, rfl, m, f, hP⟩ := hrel
    by_cases hkl : k < len ∧ k < 40
    · obtain ⟨hk1, hk2⟩ := hkl
      obtain ⟨b, off, rfl, hd⟩ := hD (by omega)
      obtain ⟨K, A, F, S, N, s, d1, d2, ⟨d3, d3'⟩, d4, d5, d6⟩ := hd k hk1
      have e0 : wr.cell? ⟨b, off + k * 6, none⟩ = some (.int .u8 K) := hP.1.1.cell ((d6 0 (by omega)).trans rfl) (by simp)
      have e1 : wr.cell? ⟨b, off + k * 6 + 1, none⟩ = some (.int .u64 A) := hP.1.1.cell ((d6 1 (by omega)).trans rfl) (by simp)
      have e2 : wr.cell? ⟨b, off + k * 6 + 2, none⟩ = some (.bool F) := hP.1.1.cell ((d6 2 (by omega)).trans rfl) (by simp)
      have e3 : wr.cell? ⟨b, off + k * 6 + 3, none⟩ = some (.int .i64 S) := hP.1.1.cell ((d6 3 (by omega)).trans rfl) (by simp)
      have e4 : wr.cell? ⟨b, off + k * 6 + 4, none⟩ = some (.int .u64 N) := hP.1.1.cell ((d6 4 (by omega)).trans rfl) (by simp)
      have e5 : wr.cell? ⟨b, off + k * 6 + 5, none⟩ = some (.string s) := hP.1.1.cell ((d6 5 (by omega)).trans rfl) (by simp)
      clear d6 hd
      have hstep : ∀ w', (∃ n f, PS w w' b1 b2 n f most) → ∃ k', k' ≤ len ∧ k' ≤ 40 ∧ Value.int .i64 ((k : Int) + 1) = Value.int .i64 ((k' : Nat) : Int) ∧ ∃ n f, PS w w' b1 b2 n f most :=
        fun w' h => ⟨k + 1, by omega, by omega, by go_num, h⟩
      by_cases hK : (K : Int) % 6 = 0
      · have hr : (N : Int) % 5 = ((N % 5 : Nat) : Int) := by omega
        have hn5 : N % 5 < 5 := by omega
        generalize N % 5 = N' at *
        have hq := hP.quiet ((Mods.refl [] wr).alloc (.cells (deedV K A F S N' s) 44))
        go_wp2_with fail
        refine (does_any w _ b1 b2 m f most hq K A F S N' s d2 d3 d3' (by omega) (fun _ => hn5) d5).mono ?_
        rintro e w4 ⟨rfl, m4, f4, hP4⟩
        go_wp2_with fail
        refine (ps_mpages hP4).mono ?_
        rintro e w5 ⟨rfl, rfl⟩
        go_wp2_with fail
        refine (ps_xpages hP4).mono ?_
        rintro e w5 ⟨rfl, rfl⟩
        go_wp2_with fail
        exact ⟨hstep _ ⟨m4, f4, hP4⟩, by simp [intOf]; omega⟩
      · have hK1 : ((K : Int) % 6 == 0) = false := by rw [beq_eq_false_iff_ne]; exact hK
        have hq := hP.quiet ((Mods.refl [] wr).alloc (.cells (deedV K A F S N s) 44))
        go_wp2_with fail
        refine (does_any w _ b1 b2 m f most hq K A F S N s d2 d3 d3' (by omega) (fun h => absurd (by omega) hK) d5).mono ?_
        rintro e w4 ⟨rfl, m4, f4, hP4⟩
        go_wp2_with fail
        refine (ps_mpages hP4).mono ?_
        rintro e w5 ⟨rfl, rfl⟩
        go_wp2_with fail
        refine (ps_xpages hP4).mono ?_
        rintro e w5 ⟨rfl, rfl⟩
        go_wp2_with fail
        exact ⟨hstep _ ⟨m4, f4, hP4⟩, by simp [intOf]; omega⟩
    · go_wp2_with fail
      all_goals go_ret
      all_goals exact ⟨rfl, hP.1.1⟩

set_option maxRecDepth 100000 in
set_option maxHeartbeats 4000000 in
theorem plays_ok2 (least : Int) (c1 : 6 < least) (c2 : least ≤ 256) (n : Nat) (hr0 : least % 7 = (n : Int)) (most : Int) (hm0 : -1 ≤ most) (hm1 : most ≤ 9223372036854775807) (ao : Option Addr) (len cap : Nat) (w : World) (hn : n ≤ 6) (hm : most = -1 ∨ (n : Int) ≤ most) (hD : DeedsIn w ao len) :
    Calls Try.prog 5 #[.int .i64 least, .int .i64 most, .slice ao len cap] w fun e w' => e = .returned (.bool true) ∧ Mods [] w w' := by
  have HM := Lib.hid (And.intro hm hm0)
  clear hm hm0
  go_enter Try.func5, Try.ntmps5
  go_wp2_with fail
  refine (examples8 _).mono ?_
  rintro e w1 ⟨rfl, hM1⟩
  go_wp2_with fail
  refine (new_is _ n most (by have := HM.out.2; omega) hm1 (by omega) HM.out.1).mono ?_
  rintro e w2 ⟨b1, L1, rfl, hm2, hM2, hL2⟩
  go_wp2_with fail
  refine (ref_new_ok _ n most (by have := HM.out.2; omega) hm1 (by omega) HM.out.1).mono ?_
  rintro e w3 ⟨b2, L2, rfl, hr3, hM3, hL3⟩
  have hP := ps_start hM1 hm2 hM2 hL2 hr3 hM3 hL3 (by omega) HM.out.1 hm1 HM.out.2
  clear hM1 hm2 hM2 hL2 hr3 hM3 hL3
  obtain ⟨hlen, hD⟩ := hD
  go_wp2_with fail
  go_loopw [12] (fun t12 wr => ∃ k : Nat, k ≤ len ∧ k ≤ 40 ∧ t12 = .int .i64 k ∧ ∃ n f, PS w wr b1 b2 n f most) (fun t12 _ => 40 - (intOf t12).toNat)
  case atStart => exact ⟨0, by omega, by omega, rfl, n, _, hP⟩
  case round =>
    clear hP
    obtain ⟨k, hk, hk40, rfl, m, f, hP⟩ := hrel
    by_cases hkl : k < len ∧ k < 40
    · obtain ⟨hk1, hk2⟩ := hkl
      obtain ⟨b, off, rfl, hd⟩ := hD (by omega)
      obtain ⟨K, A, F, S, N, s, d1, d2, ⟨d3, d3'⟩, d4, d5, d6⟩ := hd k hk1
      have e0 : wr.cell? ⟨b, off + k * 6, none⟩ = some (.int .u8 K) := hP.1.1.cell ((d6 0 (by omega)).trans rfl) (by simp)
      have e1 : wr.cell? ⟨b, off + k * 6 + 1, none⟩ = some (.int .u64 A) := hP.1.1.cell ((d6 1 (by omega)).trans rfl) (by simp)
      have e2 : wr.cell? ⟨b, off + k * 6 + 2, none⟩ = some (.bool F) := hP.1.1.cell ((d6 2 (by omega)).trans rfl) (by simp)
      have e3 : wr.cell? ⟨b, off + k * 6 + 3, none⟩ = some (.int .i64 S) := hP.1.1.cell ((d6 3 (by omega)).trans rfl) (by simp)
      have e4 : wr.cell? ⟨b, off + k * 6 + 4, none⟩ = some (.int .u64 N) := hP.1.1.cell ((d6 4 (by omega)).trans rfl) (by simp)
      have e5 : wr.cell? ⟨b, off + k * 6 + 5, none⟩ = some (.string s) := hP.1.1.cell ((d6 5 (by omega)).trans rfl) (by simp)
      clear d6 hd
      have hstep : ∀ w', (∃ n f, PS w w' b1 b2 n f most) → ∃ k', k' ≤ len ∧ k' ≤ 40 ∧ Value.int .i64 ((k : Int) + 1) = Value.int .i64 ((k' : Nat) : Int) ∧ ∃ n f, PS w w' b1 b2 n f most :=
        fun w' h => ⟨k + 1, by omega, by omega, by go_num, h⟩
      by_cases hK : (K : Int) % 6 = 0
      · have hr : (N : Int) % 5 = ((N % 5 : Nat) : Int) := by omega
        have hn5 : N % 5 < 5 := by omega
        generalize N % 5 = N' at *
        have hq := hP.quiet ((Mods.refl [] wr).alloc (.cells (deedV K A F S N' s) 44))
        go_wp2_with fail
        refine (does_any w _ b1 b2 m f most hq K A F S N' s d2 d3 d3' (by omega) (fun _ => hn5) d5).mono ?_
        rintro e w4 ⟨rfl, m4, f4, hP4⟩
        go_wp2_with fail
        refine (ps_mpages hP4).mono ?_
        rintro e w5 ⟨rfl, rfl⟩
        go_wp2_with fail
        refine (ps_xpages hP4).mono ?_
        rintro e w5 ⟨rfl, rfl⟩
        go_wp2_with fail
        exact ⟨hstep _ ⟨m4, f4, hP4⟩, by simp [intOf]; omega⟩
      · have hK1 : ((K : Int) % 6 == 0) = false := by rw [beq_eq_false_iff_ne]; exact hK
        have hq := hP.quiet ((Mods.refl [] wr).alloc (.cells (deedV K A F S N s) 44))
        go_wp2_with fail
        refine (does_any w _ b1 b2 m f most hq K A F S N s d2 d3 d3' (by omega) (fun h => absurd (by omega) hK) d5).mono ?_
        rintro e w4 ⟨rfl, m4, f4, hP4⟩
        go_wp2_with fail
        refine (ps_mpages hP4).mono ?_
        rintro e w5 ⟨rfl, rfl⟩
        go_wp2_with fail
        refine (ps_xpages hP4).mono ?_
        rintro e w5 ⟨rfl, rfl⟩
        go_wp2_with fail
        exact ⟨hstep _ ⟨m4, f4, hP4⟩, by simp [intOf]; omega⟩
    · go_wp2_with fail
      all_goals go_ret
      all_goals exact ⟨rfl, hP.1.1⟩

theorem memPlays_walk (least most : Int) (hl : -9223372036854775808 ≤ least ∧ least ≤ 9223372036854775807) (hm : -9223372036854775808 ≤ most ∧ most ≤ 9223372036854775807) (ao : Option Addr) (len cap : Nat) (w : World) (hD : DeedsIn w ao len) :
    Calls Try.prog 5 #[.int .i64 least, .int .i64 most, .slice ao len cap] w fun e w' => e = .returned (.bool true) ∧ Mods [] w w' := by
  by_cases hc : 6 < least ∧ least ≤ 256
  · by_cases he : newErr (least % 7) most = 0
    · have hn : -1 ≤ most ∧ (most = -1 ∨ least % 7 ≤ most) := by unfold newErr at he; (repeat' split at he) <;> omega
      obtain ⟨n, hr⟩ := Int.eq_ofNat_of_zero_le (show 0 ≤ least % 7 by omega)
      exact plays_ok2 least hc.1 hc.2 n hr most hn.1 hm.2 ao len cap w (by omega) (by omega) hD
    · exact plays_err2 least most hl.1 hl.2 hm.1 hm.2 ao len cap w hc.1 hc.2 he
  · by_cases he : newErr least most = 0
    · have hn : 0 ≤ least ∧ least ≤ 256 ∧ -1 ≤ most ∧ (most = -1 ∨ least ≤ most) := by unfold newErr at he; (repeat' split at he) <;> omega
      obtain ⟨n, rfl⟩ := Int.eq_ofNat_of_zero_le hn.1
      exact plays_ok n most hn.2.2.1 hm.2 ao len cap w (by omega) (by omega) hD
    · exact plays_err least most hl.1 hl.2 hm.1 hm.2 ao len cap w hc he

end Go.Proofs.Ytagpnalhilgcpaa
