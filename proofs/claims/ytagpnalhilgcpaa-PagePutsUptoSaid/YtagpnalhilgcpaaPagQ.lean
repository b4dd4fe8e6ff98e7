/-
  The law PageTexts, walked whole.
-/
import Derived.Test.YtagpnalhilgcpaaPagP
import Derived.Test.YtagpnalhilgcpaaPagK
import Derived.Deep.RegionHeld
namespace Go.Proofs.Ytagpnalhilgcpaa
open Go.RowKit
set_option linter.unusedVariables false

theorem TysIn.later {w w' : World} {ao : Option Addr} {ts : List (Int × Int)} {L L' : List Nat} (h : TysIn w' ao ts L) (h0 : TysIn w ao ts L) (hL : ∀ k ∈ L', k ∈ L ∨ w.heap.size ≤ k) : TysIn w' ao ts L' := by
  intro hn
  obtain ⟨tb, off, h1, h2, h3⟩ := h hn
  obtain ⟨tb', off', h1', h2', h3'⟩ := h0 hn
  rw [h1] at h1'
  cases h1'
  refine ⟨tb, off, h1, fun hm => ?_, h3⟩
  have hl : 0 < ts.length := List.length_pos_iff.2 hn
  have h4 : tb < w.heap.size := lt_of_cell (h3' 0 hl).1
  rcases hL tb hm with h5 | h5
  · exact h2 h5
  · omega
theorem conv1g (w : World) (g : Nat) (x : Nat) (hx : x < 256) (hc : w.cell? ⟨g, 0, none⟩ = some (.int .u8 x)) : (convert 47 9 (.slice (some ⟨g, 0, none⟩) 1 1)).run Try.prog w = .ok (.string ⟨#[UInt8.ofNat x]⟩) w := by
  have := run_convert_bytes_back (P := Try.prog) w 47 9 5 ⟨g, 0, none⟩ 1 [UInt8.ofNat x] Try.underlying47 Try.underlying5 Try.underlying9 (by
    intro j hj
    obtain rfl : j = 0 := by simpa using hj
    rw [addr_add, hc]
    have : (UInt8.ofNat x).toNat = x := by simp; omega
    simp [this])
  exact this
theorem tx_head (p q : Nat) : (txHead p q).length = 32 := by simp [txHead, eightB_len]
theorem tx_ok (a b : ByteArray) (ha : a.size ≤ 200) (hb : b.size ≤ 200) : ∀ vs ∈ [txRow a b], ∀ v ∈ vs, v.ok := by
  intro vs hvs v hv
  simp at hvs
  subst hvs
  simp [txRow] at hv
  rcases hv with rfl | rfl | rfl
  · exact ⟨⟨by show (-9223372036854775808 : Int) ≤ 0; decide, by show (0 : Int) ≤ 9223372036854775807; decide⟩, Nat.le_trans ha (by decide)⟩
  · exact ⟨⟨by show (-9223372036854775808 : Int) ≤ 0; decide, by show (0 : Int) ≤ 9223372036854775807; decide⟩, Nat.le_trans hb (by decide)⟩
  · exact ⟨by decide, Nat.zero_le _⟩

theorem run_min {P : Program} (w : World) (t1 t2 ty : TypeId) (k : IntKind) (m n r : Int) (hr : (m ≤ n ∧ r = m) ∨ (n < m ∧ r = n)) : (Builtin.min_ #[t1, t2] ty #[.int k m, .int k n]).run P w = .ok (.int k r) w := by
  rcases hr with ⟨h1, rfl⟩ | ⟨h1, rfl⟩
  · have h2 : ¬ n < r := by omega
    simp [Builtin.min_, Builtin.min2, h2]
  · simp [Builtin.min_, Builtin.min2, h1]

set_option maxRecDepth 100000 in
set_option maxHeartbeats 2000000 in
theorem pageTexts_walk (a : ByteArray) (ha : a.size ≤ 140737488351232) (b : ByteArray) (hb : b.size ≤ 140737488351232) (at_ : Nat) (hat : at_ < 256) (by_ : Nat) (hby : by_ < 256) (w : World) :
    Calls Try.prog 10 #[.string a, .string b, .int .u8 at_, .int .u8 by_] w fun e w' => e = .returned (.bool true) ∧ Mods [] w w' := by
  obtain ⟨sa, qa⟩ : ∃ n, a.size = n := ⟨_, rfl⟩
  obtain ⟨sb, qb⟩ : ∃ n, b.size = n := ⟨_, rfl⟩
  obtain ⟨na, hna, hna1, hna2⟩ : ∃ n, ((sa ≤ 99 ∧ n = sa) ∨ (99 < sa ∧ n = 99)) ∧ n ≤ 99 ∧ n ≤ sa := ⟨if sa ≤ 99 then sa else 99, by split <;> omega, by split <;> omega, by split <;> omega⟩
  obtain ⟨nb, hnb, hnb1, hnb2⟩ : ∃ n, ((sb ≤ 99 ∧ n = sb) ∨ (99 < sb ∧ n = 99)) ∧ n ≤ 99 ∧ n ≤ sb := ⟨if sb ≤ 99 then sb else 99, by split <;> omega, by split <;> omega, by split <;> omega⟩
  have hm1 := fun w => run_min (P := Try.prog) w 3 3 3 .i64 sa 99 na (by omega)
  have hm2 := fun w => run_min (P := Try.prog) w 3 3 3 .i64 sb 99 nb (by omega)
  clear hna hnb
  have hsa : (a.extract 0 na).size = na := by rw [ByteArray.size_extract]; omega
  have hsb : (b.extract 0 nb).size = nb := by rw [ByteArray.size_extract]; omega
  rw [qa] at ha
  rw [qb] at hb
  have hla : ¬ 9223372036854775807 < 1 + na := by omega
  have hlb : ¬ 9223372036854775807 < 1 + nb := by omega
  go_enter Try.func10, Try.ntmps10
  go_wp2_with fail
  refine (examples16 _).mono ?_
  rintro e w1 ⟨rfl, hM1⟩
  go_upto_region 6 with fail
  have hA1 : (({ data := #[97] } : ByteArray) ++ a.extract 0 na).size = na + 1 := by rw [ByteArray.size_append, hsa]; exact Nat.add_comm 1 na
  have hB1 : (({ data := #[98] } : ByteArray) ++ b.extract 0 nb).size = nb + 1 := by rw [ByteArray.size_append, hsb]; exact Nat.add_comm 1 nb
  clear hsa hsb hla hlb ha hb qa qb hm1 hm2
  generalize ({ data := #[97] } : ByteArray) ++ a.extract 0 na = A at *
  generalize ({ data := #[98] } : ByteArray) ++ b.extract 0 nb = B at *
  obtain ⟨p, hp⟩ : ∃ p, na + 1 = p := ⟨_, rfl⟩
  obtain ⟨q, hq⟩ : ∃ p, nb + 1 = p := ⟨_, rfl⟩
  rw [hp] at hA1
  rw [hq] at hB1
  have hp1 : 1 ≤ p ∧ p ≤ 100 := by omega
  have hq1 : 1 ≤ q ∧ q ≤ 100 := by omega
  clear hp hq hna1 hna2 hnb1 hnb2
  have hA0 : A.size ≠ 0 := by omega
  have hB0 : B.size ≠ 0 := by omega
  obtain ⟨hh1, hh2, hh3⟩ := three_new w1 (.cells #[.int .i64 3, .int .i64 0, .int .i64 3, .int .i64 0, .int .i64 1, .int .i64 0] 60) (.cells #[.bool false, .int .i64 0, .string A, .bool false, .int .i64 0, .string B, .bool false, .int .i64 (-5), .string ⟨#[]⟩] 77) (.cells #[.slice (some ⟨w1.heap.size + 1, 0, none⟩) 3 3] 71)
  have hMa := (((Mods.refl [] w1).alloc (.cells #[.int .i64 3, .int .i64 0, .int .i64 3, .int .i64 0, .int .i64 1, .int .i64 0] 60)).alloc (.cells #[.bool false, .int .i64 0, .string A, .bool false, .int .i64 0, .string B, .bool false, .int .i64 (-5), .string ⟨#[]⟩] 77)).alloc (.cells #[.slice (some ⟨w1.heap.size + 1, 0, none⟩) 3 3] 71)
  have hT := tys_new (ts := txTs) hh1 rfl
  have hV := vals_new (vs := txRow A B) hh2 rfl
  have hR := rows_one (vs := txRow A B) hh3 rfl hV
  have hok : ∀ vs ∈ [txRow A B], ∀ v ∈ vs, v.ok := tx_ok A B (by omega) (by omega)
  have hro := tx_rowOK A B (by omega) (by omega)
  have hlen : (putB 1000 3 [txRow A B]).length = 32 + (p + q) := by rw [tx_putB A B hA0 hB0, List.length_append, List.length_append, tx_head, Array.length_toList, Array.length_toList]; show 32 + (A.size + B.size) = _; rw [hA1, hB1]
  have hput := pgput_any _ txTs [txRow A B] _ _ 3 1 hT hR (fun vs hvs => ⟨by simp at hvs; subst hvs; show 3 ≤ 9223372036854775807; decide, hok vs hvs⟩) 1000 (by decide) (by decide) (by decide) (by show 1 ≤ 1000000; decide)
  have hE : putE 1000 txTs [txRow A B] = 0 := by
    unfold putE
    rw [if_neg (by decide), if_neg (by simp [hro]), if_neg]
    rw [show (1000 : Int).toNat = 1000 from rfl, show txTs.length = 3 from rfl, hlen]
    omega
  unfold PgPost at hput
  rw [hE, if_pos rfl] at hput
  have hsz : (⟨(putB 1000 3 [txRow A B]).toArray⟩ : ByteArray).size = 32 + (p + q) := by
    show (putB 1000 3 [txRow A B]).toArray.size = _
    rw [List.size_toArray]; exact hlen
  have hbys := bys_put (fun _ => 0) 1000 (⟨(putB 1000 3 [txRow A B]).toArray⟩ : ByteArray)
  change Bys _ 1000 (putB 1000 3 [txRow A B]) at hbys
  change Calls _ _ _ _ (fun e w' => e = Ending.returned (Value.tuple #[Value.string ⟨(putB 1000 3 [txRow A B]).toArray⟩, _]) ∧ _) at hput
  generalize (⟨(putB 1000 3 [txRow A B]).toArray⟩ : ByteArray) = S at *
  have hMw := hM1.trans hMa (by simp)
  have HBY := Lib.hid hbys
  have HO := Lib.hid (And.intro hok hro)
  clear hbys hok hro hh1 hh2 hh3 hV hR hE hlen hMa
  go_wp2_with fail
  refine hput.mono ?_
  rintro e w2 ⟨rfl, hM2⟩
  have hT2 := hT.mods hM2
  have hMw2 := hMw.trans hM2 (by simp)
  clear hput hT hM2 hMw
  go_wp2_with fail
  refine (new_is _ 1 1 (by omega) (by omega) (by omega) (by omega)).mono ?_
  rintro e w3 ⟨b0, L, rfl, hm1, hM3, hL1⟩
  have hT3 := (hT2.apart hL1).mods (hM3.mono (by simp))
  have hM4 := hMw2.trans hM3 (by simp)
  have hL2 : ∀ k ∈ L, w.heap.size ≤ k := fun k hk => by have := hL1 k hk; have := hMw2.size; omega
  clear hT2 hMw2 hM3 hL1
  have hsi : (S.size : Int) = 32 + (p : Int) + (q : Int) := by omega
  have HSZ := Lib.hid hsz
  clear hsz
  go_wp2_with fail
  refine (write_ok w3 b0 1 _ _ L 1000 S hm1 (by omega) (by have := HSZ.out; omega)).mono ?_
  rintro e w4 ⟨rfl, hN⟩
  obtain ⟨hM5, L4, hm4, hL4, hM6, hL5⟩ := hN.go hM4 hL2
  have hT4 := hT3.mods hM6
  have hT5 := hT4.later hT3 hL5
  clear hN hT3 hM4 hM6 hm1 hL2 hT4 hsi hL5
  obtain ⟨k, hk⟩ : ∃ k, at_ % p = k := ⟨_, rfl⟩
  have hk1 : k < p := by rw [← hk]; exact Nat.mod_lt _ (by omega)
  have hk2 : (at_ : Int) % (p : Int) = (k : Int) := by rw [← hk]; simp
  clear hk
  go_upto_region 12 with fail
  rw [hk2]
  have hcv := fun w => conv1 w by_ hby
  have hMb := (Mods.refl [] w4).alloc (.cells #[.int .u8 by_] 5)
  have hm5 := hm4.mods hMb (by simp)
  have hT6 := hT5.mods (hMb.mono (by simp))
  have hMw5 := hM5.trans hMb (by simp)
  have hc1 : (⟨#[UInt8.ofNat by_]⟩ : ByteArray).size = 1 := rfl
  have hsv : sAt ⟨#[UInt8.ofNat by_]⟩ 0 = UInt8.ofNat by_ := rfl
  have hbys2 := tx_turned A B k (UInt8.ofNat by_) hA0 hB0 (by omega) HBY.out (sAt ⟨#[UInt8.ofNat by_]⟩) hsv
  have hrd := rows_read (nP := 1) (rs := [txRow (turnB A k (UInt8.ofNat by_)) B]) (ts := txTs) (at_ := 1000) (i := 0) (by decide) (tx_ok _ _ (by rw [turnB_size]; omega) (by omega)) (by intro vs hvs; simp at hvs; subst hvs; exact tx_rowOK _ _ (by rw [turnB_size]; omega) (by omega)) hbys2 (by
    rw [show txTs.length = 3 from rfl, tx_putB _ B (by rw [turnB_size]; exact hA0) hB0, List.length_append, List.length_append, tx_head, Array.length_toList, Array.length_toList]
    show 1000 + (32 + ((turnB A k (UInt8.ofNat by_)).size + B.size)) ≤ _
    rw [turnB_size]
    omega) (by decide) (by show 0 < 1; decide)
  have hteq := turnB_eq A k (UInt8.ofNat by_) (by omega)
  have HRD := Lib.hid hrd
  have HTE := Lib.hid hteq
  clear hMb hm4 hT5 hM5 hbys2 hrd hteq HBY hsv hk2
  go_wp2_with fail
  refine (write_ok _ b0 1 _ _ L4 (1032 + k) ⟨#[UInt8.ofNat by_]⟩ hm5 (by omega) (by rw [hc1]; omega)).mono ?_
  rintro e w5 ⟨rfl, hN⟩
  obtain ⟨hM7, L5, hm6, hL5, hM8, hL6⟩ := hN.go hMw5 (fun x hx => hL4 x hx)
  have hT7 := hT6.mods hM8
  clear hN hT6 hMw5 hM8 hm5 hL5 hL6 hL4
  go_wp2_with fail
  refine (pgrow_any w5 b0 1 _ _ L5 hm6 (by omega) _ txTs 3 3 rfl (by omega) (fun h => by obtain ⟨x1, x2, x3, x4, x5⟩ := hT7 h; exact ⟨x1, x2, x3, by simp, x5⟩) 1000 (by omega)).mono ?_
  rintro e w6 ⟨hM9, hans⟩
  have hrd := HRD.out
  rw [show 1000 + 8 * (txTs.length + 1) * 0 = 1000 from rfl] at hrd
  change rowAns (putF _ (1032 + k) 1 _) 1 1000 txTs = some (txRow (turnB A k (UInt8.ofNat by_)) B) at hrd
  rw [hc1, hrd] at hans
  clear hrd
  obtain ⟨ao, cap, rfl, hV9, -⟩ := hans
  obtain ⟨vb, vo, rfl, -, hvc⟩ := hV9 (by simp [txRow])
  rw [show (txRow (turnB A k (UInt8.ofNat by_)) B).length = 3 from rfl]
  have c0 : w6.cell? ⟨vb, vo + 2, none⟩ = some (.string (turnB A k (UInt8.ofNat by_))) := (hvc 0 (by show 0 < 3; decide)).2.2
  have c1 : w6.cell? ⟨vb, vo + 3 + 2, none⟩ = some (.string B) := (hvc 1 (by show 1 < 3; decide)).2.2
  have c2 : w6.cell? ⟨vb, vo + 6 + 1, none⟩ = some (.int .i64 (-5)) := (hvc 2 (by show 2 < 3; decide)).2.1
  have hteq := HTE.out
  rw [hA1] at hteq
  have hx1 : (A.extract 0 k).size = k := by rw [ByteArray.size_extract]; omega
  have hx2 : (A.extract 0 k ++ ⟨#[UInt8.ofNat by_]⟩).size = k + 1 := by rw [ByteArray.size_append, hx1, hc1]
  have hx3 : (A.extract (k + 1) p).size = p - (k + 1) := by rw [ByteArray.size_extract]; omega
  have hx4 : ¬ 9223372036854775807 < k + 1 := by omega
  have hx5 : ¬ 9223372036854775807 < k + 1 + (p - (k + 1)) := by omega
  have hki : (0 : Int) ≤ (k : Int) ∧ (k : Int) ≤ (p : Int) := by omega
  have hkj : (0 : Int) ≤ (k : Int) + 1 ∧ (k : Int) + 1 ≤ (p : Int) := by omega
  have hkw : IntKind.i64.wrap ((k : Int) + 1) = (k : Int) + 1 := by rw [IntKind.wrap_i64]; omega
  have hkt : ((k : Int) + 1).toNat = k + 1 := by omega
  have hMw6 := hM7.trans hM9 (by simp)
  clear hvc hV9 HTE HRD hT7 hm6 hM9
  have hcv2 := conv1g (w6.alloc (.cells #[.int .u8 by_] 5)).drew w6.heap.size by_ hby (cell_of_heap (heap_alloc_new w6 _) 0)
  clear hcv
  go_wp2_with fail
  go_region_held (fun w' => w'.cell? ⟨vb, vo + 2, none⟩ = some (.string (turnB A k (UInt8.ofNat by_))) ∧ w'.cell? ⟨vb, vo + 3 + 2, none⟩ = some (.string B) ∧ w'.cell? ⟨vb, vo + 6 + 1, none⟩ = some (.int .i64 (-5)) ∧ w6.heap.size ≤ w'.heap.size ∧ Mods [] w6 w')
    (((with_reducible refine keepS c0 c1 c2 ?_); (try (with_reducible refine Mods.drew ?_)); first | assumption | exact Mods.refl _ _ | ((with_reducible refine Mods.alloc ?_ _); first | assumption | exact Mods.drew (Mods.refl _ _) | exact Mods.refl _ _ | simp only [*])))
    (fail)
  go_wp2_with fail
  go_ret
  exact ⟨rfl, (hMw6.alloc _).drew⟩
end Go.Proofs.Ytagpnalhilgcpaa
