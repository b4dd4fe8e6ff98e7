/-
  The law PageSizes, walked whole.
-/
import Derived.Test.YtagpnalhilgcpaaPagN
import Derived.Deep.LoopGhost
namespace Go.Proofs.Ytagpnalhilgcpaa
open Go.RowKit
set_option linter.unusedVariables false

def zT : Value := .agg #[.int .i64 0, .int .i64 0]
def zV : Value := .agg #[.bool false, .int .i64 0, .string ⟨#[]⟩]
def mkT (n : Nat) : Array Value := madeCells zT.cells (n * 2)
def mkV (n : Nat) : Array Value := madeCells zV.cells (n * 3)
theorem info_T : (Try.prog.info? 60).map (fun i => (i.zero, i.size, i.bytes)) = some (some zT, 2, 16) := by kernel_rfl
theorem info_V : (Try.prog.info? 77).map (fun i => (i.zero, i.size, i.bytes)) = some (some zV, 3, 32) := by kernel_rfl
theorem run_mkT (w : World) (n : Nat) (h : n ≤ 1000) :
    (Instr.makeSlice 51 (.int .i64 n) (.int .i64 n)).run Try.prog w = .ok (.slice (some ⟨w.heap.size, 0, none⟩) n n) (w.alloc (.cells (mkT n) 60)) := by
  obtain ⟨i0, hi, hz0, hz1, hz2⟩ := info_parts info_T
  have := run_make (P := Try.prog) w 51 60 i0 zT Try.underlying51 hi hz0 .i64 .i64 n n (by omega) (by omega) (by rw [hz2]; omega) (by omega)
  rw [this, hz1]
  rfl
theorem run_mkV (w : World) (n : Nat) (h : n ≤ 1000) :
    (Instr.makeSlice 71 (.int .i64 n) (.int .i64 n)).run Try.prog w = .ok (.slice (some ⟨w.heap.size, 0, none⟩) n n) (w.alloc (.cells (mkV n) 77)) := by
  obtain ⟨i0, hi, hz0, hz1, hz2⟩ := info_parts info_V
  have := run_make (P := Try.prog) w 71 77 i0 zV Try.underlying71 hi hz0 .i64 .i64 n n (by omega) (by omega) (by rw [hz2]; omega) (by omega)
  rw [this, hz1]
  rfl
theorem size_mkT (n : Nat) : (mkT n).size = n * 2 := size_madeCells _ _
theorem size_mkV (n : Nat) : (mkV n).size = n * 3 := size_madeCells _ _

def SzSt (w : World) (tb rb n k : Nat) (X : Nat → Int) (Y : Nat → Bool) (m : Nat) (wr : World) : Prop :=
  Mods [] w wr ∧ (w.heap.size ≤ tb ∧ w.heap.size ≤ rb ∧ tb ≠ rb) ∧ TRow wr tb n k (fun _ => (1, 0)) ∧ VRow wr rb n k (szV X Y m)

theorem SzSt.quiet {w : World} {tb rb n k : Nat} {X : Nat → Int} {Y : Nat → Bool} {m : Nat} {wr w' : World} (h : SzSt w tb rb n k X Y m wr) (hM : Mods [] wr w') : SzSt w tb rb n k X Y m w' :=
  ⟨h.1.trans hM (by simp), h.2.1, h.2.2.1.mods hM (by simp), h.2.2.2.mods hM (by simp)⟩
theorem SzSt.next {w : World} {tb rb n k : Nat} {X : Nat → Int} {Y : Nat → Bool} {m : Nat} {wr w' w'' : World} (h : SzSt w tb rb n k X Y m wr) (hM : Mods [tb] wr w') (hM' : Mods [rb] w' w'') (hT : TRow w' tb n (k + 1) (fun i => if i = k then (1, 0) else (1, 0))) (hV : VRow w'' rb n (k + 1) (fun i => if i = k then szV X Y m k else szV X Y m i)) :
    SzSt w tb rb n (k + 1) X Y m w'' := by
  obtain ⟨h1, ⟨h2, h3, h4⟩, -⟩ := h
  refine ⟨(h1.trans hM (fun x hx => .inr (by simp at hx; omega))).trans hM' (fun x hx => .inr (by simp at hx; omega)), ⟨h2, h3, h4⟩, ?_, ?_⟩
  · exact (hT.congr (fun i hi => by split <;> rfl)).mods hM' (by simpa using h4)
  · exact hV.congr fun i hi => by
      by_cases e : i = k
      · rw [if_pos e, e]
      · rw [if_neg e]

theorem sz_start (w : World) (n : Nat) (X : Nat → Int) (Y : Nat → Bool) (m : Nat) : SzSt w w.heap.size (w.heap.size + 1) n 0 X Y m ((w.alloc (.cells (mkT n) 60)).alloc (.cells (mkV n) 77)) := by
  obtain ⟨h1, h2⟩ := two_new w (.cells (mkT n) 60) (.cells (mkV n) 77)
  exact ⟨((Mods.refl [] w).alloc _).alloc _, ⟨Nat.le_refl _, by omega, by omega⟩, ⟨_, h1, size_mkT n, fun i hi => by omega⟩, ⟨_, h2, size_mkV n, fun i hi => by omega⟩⟩

set_option maxRecDepth 100000 in
set_option maxHeartbeats 2000000 in
theorem pageSizes_walk (lao nao : Option Addr) (N cl m cn : Nat) (X : Nat → Int) (Y : Nat → Bool) (w : World) (hN : N ≤ 9223372036854775807) (hm : m ≤ 9223372036854775807) (hc : N ≤ cl) (hX : IntsIn w lao N X) (hY : BoolsIn w nao m Y) :
    Calls Try.prog 11 #[.slice lao N cl, .slice nao m cn] w fun e w' => e = .returned (.bool true) ∧ Mods [] w w' := by
  obtain ⟨n, hn, hn20, hnN⟩ : ∃ n, ((N ≤ 20 ∧ n = N) ∨ (20 < N ∧ n = 20)) ∧ n ≤ 20 ∧ n ≤ N := ⟨if N ≤ 20 then N else 20, by split <;> omega, by split <;> omega, by split <;> omega⟩
  have hmkT := fun w => run_mkT w n (by omega)
  have hmkV := fun w => run_mkV w n (by omega)
  have HN := Lib.hid hn
  clear hn
  go_enter Try.func11, Try.ntmps11
  go_wp2_with fail
  refine (examples16 _).mono ?_
  rintro e w1 ⟨rfl, hM1⟩
  go_wp2_with (refine wpList_min rfl _ _ _ _ rfl .i64 N 20 n rfl rfl (by have := HN.out; omega) ?_)
  have hst := sz_start w1 n X Y m
  generalize w1.heap.size + 1 = rb at *
  generalize w1.heap.size = tb at *
  go_loopw [8, 9] (fun t8 t9 wr => ∃ k : Nat, k ≤ n ∧ t9 = .int .i64 k ∧ t8 = .int .u64 ((nullsF (szVs X Y m n) k : Nat) : Int) ∧ SzSt w1 tb rb n k X Y m wr) (fun _ t9 _ => n - (intOf t9).toNat)
  case atStart => exact ⟨0, by omega, rfl, rfl, hst⟩
  case round =>
    clear hst hmkT hmkV
    obtain ⟨k, hk, rfl, rfl, hS⟩ := hrel
    by_cases hkn : k < n
    · obtain ⟨ta, tc, u0, u1, u2, u3⟩ := hS.2.2.1.there hkn
      obtain ⟨lb, lo, rfl, hXc⟩ := hX (by omega)
      obtain ⟨xc, x0, x1⟩ := hXc k (by omega)
      have hMw := hM1.trans hS.1 (by simp)
      have hTs := hS.2.2.1.set hkn (1, 0) (k + 1) (by omega)
      have hMa : Mods [tb] wr ((wr.setCell ⟨tb, k * 2, none⟩ (.int .i64 1)).setCell ⟨tb, k * 2 + 1, none⟩ (.int .i64 0)) := ((Mods.refl _ _).setCell (.inl (by simp)) _).setCell (.inl (by simp)) _
      have xw := hMw.cell xc (by simp)
      have hlb : lb ∉ [tb] := by
        have h5 : lb < w.heap.size := lt_of_cell xc
        have := hS.2.1.1
        have := hM1.size
        simp; omega
      have hrt : rb ∉ [tb] := by have := hS.2.1.2.2; simp; exact fun h => this h.symm
      have hVa := hS.2.2.2.mods hMa hrt
      have xa := hMa.cell xw hlb
      clear hXc xw xc
      go_upto_region 12 with (fail)
      clear u0 u1 u2 u3 
      change TRow ((wr.setCell ⟨tb, k * 2, none⟩ (.int .i64 1)).setCell ⟨tb, k * 2 + 1, none⟩ (.int .i64 0)) tb n (k + 1) _ at hTs
      generalize (wr.setCell ⟨tb, k * 2, none⟩ (.int .i64 1)).setCell ⟨tb, k * 2 + 1, none⟩ (.int .i64 0) = wa at *
      obtain ⟨v0, v1, v2, r0, r1, r2, r3, r4, r5⟩ := hVa.there hkn
      have hnull := nullsF_next (vs := szVs X Y m n) (k := k) (v := szV X Y m k) (by rw [szVs_len]; exact hkn) (by simp [szVs])
      have hbits := null_bits (nullsF (szVs X Y m n) k) k (by omega) (nullsF_lt _ _)
      have hVb := hVa.set hkn ⟨false, X k, ⟨#[]⟩⟩ (k + 1) (by omega)
      have hMb : Mods [rb] wa (((wa.setCell ⟨rb, k * 3, none⟩ (.bool false)).setCell ⟨rb, k * 3 + 1, none⟩ (.int .i64 (X k))).setCell ⟨rb, k * 3 + 2, none⟩ (.string ⟨#[]⟩)) := (((Mods.refl _ _).setCell (.inl (by simp)) _).setCell (.inl (by simp)) _).setCell (.inl (by simp)) _
      have hstep : ∀ w', Mods [rb] wa w' → VRow w' rb n (k + 1) (fun i => if i = k then szV X Y m k else szV X Y m i) → SzSt w1 tb rb n (k + 1) X Y m w' := fun w' h1 h2 => hS.next hMa h1 hTs h2
      have hr1 : w1.heap.size ≤ rb := hS.2.1.2.1
      have ht1 : w1.heap.size ≤ tb := hS.2.1.1
      have hMv := (hMw.trans hMa (fun x hx => .inr (by simp at hx; have := hM1.size; omega))).trans hMb (fun x hx => .inr (by simp at hx; have := hM1.size; omega))
      have HS := Lib.hid hstep
      clear hS hTs hstep hMa hVa
      go_upto_region 13 with (fail)
      change VRow (((wa.setCell ⟨rb, k * 3, none⟩ (.bool false)).setCell ⟨rb, k * 3 + 1, none⟩ (.int .i64 (X k))).setCell ⟨rb, k * 3 + 2, none⟩ (.string ⟨#[]⟩)) rb n (k + 1) _ at hVb
      clear r0 r1 r2 r3 r4 r5 xa
      generalize (((wa.setCell ⟨rb, k * 3, none⟩ (.bool false)).setCell ⟨rb, k * 3 + 1, none⟩ (.int .i64 (X k))).setCell ⟨rb, k * 3 + 2, none⟩ (.string ⟨#[]⟩)) = wb at *
      by_cases hnul : k < m ∧ Y k = true
      · obtain ⟨hkm, hYk⟩ := hnul
        have hsz : szV X Y m k = ⟨true, 0, ⟨#[]⟩⟩ := by unfold szV; rw [if_pos ⟨hkm, hYk⟩]
        obtain ⟨yb, yo, rfl, hYc⟩ := hY (by omega)
        have yc := hMv.cell (hYc k hkm) (by simp)
        rw [hYk] at yc
        have hlt : (k : Int) < (m : Int) := by omega
        obtain ⟨v0, v1, v2, r0, r1, r2, r3, r4, r5⟩ := hVb.there hkn
        rw [hsz, if_pos rfl] at hnull
        have hVc := hVb.set hkn ⟨true, 0, ⟨#[]⟩⟩ (k + 1) (by omega)
        have hMc : Mods [rb] wa (((wb.setCell ⟨rb, k * 3, none⟩ (.bool true)).setCell ⟨rb, k * 3 + 1, none⟩ (.int .i64 0)).setCell ⟨rb, k * 3 + 2, none⟩ (.string ⟨#[]⟩)) := ((hMb.setCell (.inl (by simp)) _).setCell (.inl (by simp)) _).setCell (.inl (by simp)) _
        have hrel := HS.out _ hMc (hVc.congr fun i hi => by
          by_cases e : i = k
          · simp only [if_pos e]; exact hsz.symm
          · simp only [if_neg e])
        have HR := Lib.hid hrel
        have HNl := Lib.hid hnull
        clear hrel hVc hVb hMb hYc hY hX hnull hsz
        go_wp2_with fail
        go_roundw
        case measure => simp [intOf]; omega
        case rel => exact ⟨k + 1, by omega, by go_num, by rw [HNl.out]; simp, HR.out⟩
      · have hsz : szV X Y m k = ⟨false, X k, ⟨#[]⟩⟩ := by unfold szV; rw [if_neg hnul]
        rw [hsz, if_neg (by simp)] at hnull
        have hrel := HS.out _ hMb (hVb.congr fun i hi => by
          by_cases e : i = k
          · simp only [if_pos e]; exact hsz.symm
          · simp only [if_neg e])
        have HR := Lib.hid hrel
        have HNl := Lib.hid hnull
        by_cases hkm : k < m
        · obtain ⟨yb, yo, rfl, hYc⟩ := hY (by omega)
          have yc := hMv.cell (hYc k hkm) (by simp)
          have hYk : Y k = false := by
            cases h : Y k with
            | false => rfl
            | true => exact absurd ⟨hkm, h⟩ hnul
          rw [hYk] at yc
          have hlt : (k : Int) < (m : Int) := by omega
          clear hrel hVb hMb hYc hY hX hnull hsz hnul
          go_wp2_with fail
          go_roundw
          case measure => simp [intOf]; omega
          case rel => exact ⟨k + 1, by omega, by go_num, by rw [HNl.out]; rfl, HR.out⟩
        · have hlt : decide ((k : Int) < (m : Int)) = false := by simp; omega
          have hlt2 : ¬ (k : Int) < (m : Int) := by omega
          clear hrel hVb hMb hY hX hnull hsz hnul
          go_wp2_with fail
          go_roundw
          case measure => simp [intOf]; omega
          case rel => exact ⟨k + 1, by omega, by go_num, by rw [HNl.out]; rfl, HR.out⟩
    · obtain rfl : n = k := by omega
      obtain ⟨hMr, ⟨ht1, hr1, htr⟩, hTR, hVR⟩ := hS
      have hMw := hM1.trans hMr (by simp)
      have hX' : ∀ i, i < n → -9223372036854775808 ≤ X i ∧ X i ≤ 9223372036854775807 := fun i hi => by
        obtain ⟨b, off, -, h⟩ := hX (by omega)
        exact (h i (by omega)).2
      have hMa := (Mods.refl [] wr).alloc (.cells #[.slice (some ⟨rb, 0, none⟩) n n, .slice (some ⟨rb, 0, none⟩) n n] 71)
      have hVa := hVR.vals.mods hMa
      have hT := hTR.tys.mods hMa
      have hR := rows_two (vs := szVs X Y m n) (us := szVs X Y m n) (heap_alloc_new wr (.cells #[.slice (some ⟨rb, 0, none⟩) n n, .slice (some ⟨rb, 0, none⟩) n n] 71)) (szVs_len _ _ _ _) hVa (szVs_len _ _ _ _) hVa
      have hput := pgput_any _ (szTs n) [szVs X Y m n, szVs X Y m n] _ _ n 2 hT hR (fun vs hvs => by
        simp at hvs
        subst hvs
        exact ⟨by rw [szVs_len]; omega, szVs_ok X Y m n hX'⟩) 0 (by decide) (by decide) (by rw [szTs_len]; omega) (by simp)
      unfold PgPost at hput
      rw [sz_putE X Y m n hn20, if_pos rfl, szTs_len] at hput
      have hlen : (⟨(putB 0 n [szVs X Y m n, szVs X Y m n]).toArray⟩ : ByteArray).size = 2 * (8 * (n + 1)) := by
        have := sz_len X Y m n
        simpa [ByteArray.size] using this
      have hrd := fun k hk => sz_read (f := putF (fun _ => 0) 0 (⟨(putB 0 n [szVs X Y m n, szVs X Y m n]).toArray⟩ : ByteArray).size (sAt ⟨(putB 0 n [szVs X Y m n, szVs X Y m n]).toArray⟩)) X Y m n hn20 hX' (bys_put _ _ _) k hk
      change Calls _ _ _ _ (fun e w' => e = Ending.returned (Value.tuple #[Value.string ⟨(putB 0 n [szVs X Y m n, szVs X Y m n]).toArray⟩, _]) ∧ _) at hput
      generalize (⟨(putB 0 n [szVs X Y m n, szVs X Y m n]).toArray⟩ : ByteArray) = S at *
      have hz : sizeI (n : Int) = ((8 * (n + 1) : Nat) : Int) := by unfold sizeI; rw [if_pos (by omega)]; omega
      obtain ⟨S8, hS8⟩ : ∃ S8, 8 * (n + 1) = S8 := ⟨_, rfl⟩
      rw [hS8] at hz hlen hrd
      have H8 := Lib.hid hS8
      have HRD := Lib.hid hrd
      have HX' := Lib.hid hX'
      have hle := Nat.le_of_eq hlen
      have hge := Nat.le_of_eq hlen.symm
      have HL := Lib.hid hlen
      have hVR2 := hVR.mods hMa (by simp)
      have hMw2 := hMw.trans hMa (by simp)
      clear hS8 hrd hX' hlen hVa hT hR hTR hVR hMa hMw hMr
      have h88 : S8 ≤ 168 := by have := H8.out; omega
      go_wp2_with fail
      refine hput.mono ?_
      rintro e w3 ⟨rfl, hM3⟩
      have hMw3 := hMw2.trans hM3 (by simp)
      have hVR3 := hVR2.mods hM3 (by simp)
      clear hput hM3 hVR2 hMw2
      go_wp2_with fail
      refine (new_is _ 1 1 (by omega) (by omega) (by omega) (by omega)).mono ?_
      rintro e w4 ⟨b, L, rfl, hm4, hM4, hL4⟩
      have hMw4 := hMw3.trans hM4 (by simp)
      have hVR4 := hVR3.mods hM4 (by simp)
      have hrL : rb ∉ L := fun h => by
        obtain ⟨arr, h1, -⟩ := hVR3
        have h2 := lt_size_of_heap h1
        have := hL4 rb h
        omega
      have hL4' : ∀ k ∈ L, w.heap.size ≤ k := fun k hk => by have := hL4 k hk; have := hMw3.size; omega
      clear hVR3 hMw3 hM4 hL4
      go_wp2_with fail
      refine (size_any n _).mono ?_
      rintro e w5 ⟨rfl, rfl⟩
      rw [hz]
      have hln : (S.size : Int) = 2 * (S8 : Int) := by omega
      have HLN := Lib.hid hln
      clear hle hge
      go_wp2_with fail
      refine (write_ok w5 b 1 _ _ L 0 S hm4 (by omega) (by have := HLN.out; omega)).mono ?_
      rintro e w6 ⟨rfl, hN⟩
      obtain ⟨hM6, L6, hm6, hL6, hM7, -⟩ := hN.go hMw4 hL4'
      have hVR6 := hVR4.mods hM7 hrL
      clear hN hVR4 hMw4 hM7 hm4 hL4' hrL hln
      generalize hNB : nullsF (szVs X Y m n) n = NB at *
      have hrd := HRD.out
      clear HRD
      generalize putF (fun _ => 0) 0 S.size (sAt S) = f at *
      have HRD := Lib.hid hrd
      have HNB := Lib.hid hNB
      clear hrd hNB
      go_wp2_with fail
      go_loopw [14] (fun t14 wr => ∃ k : Nat, k ≤ 2 ∧ t14 = .int .i64 k ∧ Mods [] w6 wr) (fun t14 _ => 2 - (intOf t14).toNat)
      case atStart => exact ⟨0, by omega, rfl, Mods.refl _ _⟩
      case round =>
        obtain ⟨k, hk, rfl, hMr⟩ := hrel
        have hmr := hm6.mods hMr (by simp)
        have hMwr := hM6.trans hMr (by simp)
        by_cases hk2 : k < 2
        · obtain ⟨hr1, hr2⟩ := HRD.out k hk2
          obtain ⟨A, hA⟩ : ∃ A, S8 * k = A := ⟨_, rfl⟩
          have hA1 : A ≤ S8 := by rw [← hA]; have := Nat.mul_le_mul_left S8 (show k ≤ 1 by omega); omega
          have hA2 : (k : Int) * (S8 : Int) = (A : Int) := by rw [← hA, Int.natCast_mul, Int.mul_comm]
          rw [hA] at hr1 hr2
          have HR2 := Lib.hid hr2
          have hld := load_ok wr b 1 1 f L6 A 8 hmr (by omega) (by rw [show hasB 1 (A : Int) 8 = true from decide_eq_true (by omega)]; rfl)
          have e1 : num (fun j => f (A + j)) (8 : Int).toNat = NB := hr1
          rw [e1] at hld
          clear hr1 hr2 e1 hA
          go_wp2_with fail
          refine (size_any n _).mono ?_
          rintro e w7 ⟨rfl, rfl⟩
          rw [hz]
          go_wp2_with fail
          refine hld.mono ?_
          rintro e w8 ⟨rfl, hM8⟩
          have hMr8 := hMr.trans hM8 (by simp)
          clear hld hM8 hMr hmr hMwr
          go_wp2_with fail
          go_loopw [18] (fun t18 wx => ∃ i : Nat, i ≤ n ∧ t18 = .int .i64 i ∧ Mods [] w6 wx) (fun t18 _ => n - (intOf t18).toNat)
          case atStart => exact ⟨0, by omega, rfl, hMr8⟩
          case round =>
            obtain ⟨i, hi, rfl, hMx⟩ := hrel
            by_cases hin : i < n
            · have hmx := hm6.mods hMx (by simp)
              have hVx := hVR6.mods hMx (by simp)
              have hld := load_ok wr b 1 1 f L6 (A + 8 + 8 * i) 8 hmx (by omega) (by rw [show hasB 1 ((A + 8 + 8 * i : Nat) : Int) 8 = true from decide_eq_true (by have := H8.out; omega)]; rfl)
              have e1 := HR2.out i hin
              unfold numAt at e1
              rw [show (8 : Int).toNat = 8 from rfl, e1] at hld
              obtain ⟨arr, ha1, ha2, ha3⟩ := hVx
              have hc := (cell_of_heap ha1 (i * 3 + 1)).trans (ha3 i hin).2.1
              have hzb := ((szVs_ok X Y m n HX'.out) _ (List.mem_of_getElem? (szVs_get X Y m n i hin))).1
              have hzw := i64_back (szV X Y m i).n hzb.1 hzb.2
              generalize ((szV X Y m i).n % 18446744073709551616).toNat = zN at *
              generalize (szV X Y m i).n = Z at *
              have hzw2 : wrap64 (zN : Int) = Z := by rw [← hzw]; simp only [wrap64, IntKind.wrap_i64]
              have hMx8 : ∀ w', Mods [] wr w' → Mods [] w6 w' := fun w' h => hMx.trans h (by simp)
              have hcx := fun w' (h : Mods [] wr w') => h.cell hc (by simp)
              clear ha1 ha2 ha3 e1 hmx hMx hc hVR6 hzw
              go_wp2_with fail
              refine hld.mono ?_
              rintro e w9 ⟨rfl, hM9⟩
              have hc9 := hcx _ hM9
              have hMx9 := hMx8 _ hM9
              clear hld hcx hMx8 hM9
              go_wp2_with fail
              go_roundw
              case measure => simp [intOf]; omega
              case rel => exact ⟨i + 1, by omega, by go_num, hMx9⟩
            · obtain rfl : n = i := by omega
              go_wp2_with fail
              go_roundw
              case measure => simp [intOf]; omega
              case rel => exact ⟨k + 1, by omega, by go_num, hMx⟩
        · obtain rfl : k = 2 := by omega
          go_wp2_with fail
          refine (size_any (-1) _).mono ?_
          rintro e w7 ⟨rfl, rfl⟩
          rw [show sizeI (-1) = 0 from rfl]
          go_wp2_with fail
          refine (size_any 65 _).mono ?_
          rintro e w7 ⟨rfl, rfl⟩
          rw [show sizeI 65 = 0 from rfl]
          go_wp2_with fail
          go_ret
          exact ⟨rfl, hMwr⟩

theorem pageSizes_law {w : World} (lao : Option Addr) (N cl : Nat) (X : Nat → Int) (h0 : N ≤ 9223372036854775807 ∧ N ≤ cl ∧ (lao = none → N = 0)) (hX : IntsIn w lao N X) (nao : Option Addr) (m cn : Nat) (Y : Nat → Bool) (h1 : m ≤ 9223372036854775807 ∧ m ≤ cn ∧ (nao = none → m = 0)) (hY : BoolsIn w nao m Y) :
    Calls Try.prog 11 #[.slice lao N cl, .slice nao m cn] w fun e w' => e = .returned (.bool true) ∧ Mods [] w w' :=
  pageSizes_walk lao nao N cl m cn X Y w h0.1 h1.1 h0.2.1 hX hY
end Go.Proofs.Ytagpnalhilgcpaa
