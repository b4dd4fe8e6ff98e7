/-
  mem's exported methods Bytes, Write and Store: what they answer and what memory holds behind them, for every argument.
-/
import Derived.Test.YtagpnalhilgcpaaMemE
namespace Go.Proofs.Ytagpnalhilgcpaa
open Go.RowKit
set_option linter.unusedVariables false

/-- n bytes of f from a on, as a string. -/
def strF (f : Nat → UInt8) (a n : Nat) : ByteArray := ⟨((List.range n).map fun j => f (a + j)).toArray⟩
theorem strF_zero (f : Nat → UInt8) (a : Nat) : strF f a 0 = ⟨#[]⟩ := rfl
theorem strF_size (f : Nat → UInt8) (a n : Nat) : (strF f a n).size = n := by simp [strF, ByteArray.size]

def BytesPost (w : World) (n : Nat) (f : Nat → UInt8) (at_ : Nat) (size : Int) (e : Ending) (w' : World) : Prop :=
  e = .returned (.tuple #[.string (if hasB n at_ size = true then strF f at_ size.toNat else ⟨#[]⟩), .bool (hasB n at_ size)]) ∧ Mods [] w w'

set_option maxRecDepth 100000 in
set_option maxHeartbeats 1000000 in
theorem bytes_any (w : World) (b n : Nat) (most : Int) (f : Nat → UInt8) (L : List Nat) (at_ : Nat) (size : Int) (h0m : Mem w b n most f L) (hn : n ≤ 256) (ha : at_ < 18446744073709551616) (hs0 : -9223372036854775808 ≤ size) (hs1 : size ≤ 9223372036854775807) :
    Calls Try.prog 19 #[.pointer (some ⟨b, 0, none⟩), .int .u64 at_, .int .i64 size] w (BytesPost w n f at_ size) := by
  obtain ⟨⟨ad, c, hc0⟩, hc1⟩ := h0m.cells
  cases hh : hasB n at_ size with
  | false =>
    have fin : BytesPost w n f at_ size (.returned (.tuple #[.string ⟨#[]⟩, .bool false])) w := by
      unfold BytesPost
      rw [hh]
      exact ⟨rfl, Mods.refl _ _⟩
    go_enter Try.func19, Try.ntmps19
    go_wp2_with fail
    refine (has_any _ b ad n c at_ size hn (by omega) (by omega) hs0 hs1 hc0).mono ?_
    rintro e w2 ⟨rfl, rfl⟩
    go_wp2_with fail
    go_ret2
    exact fin
  | true =>
    have hin : 0 ≤ size ∧ at_ + size ≤ 65536 * n := by unfold hasB at hh; exact of_decide_eq_true hh
    have fin : ∀ w', Mods [] w w' → BytesPost w n f at_ size (.returned (.tuple #[.string (strF f at_ size.toNat), .bool true])) w' := by
      intro w' hM
      unfold BytesPost
      rw [hh]
      exact ⟨rfl, hM⟩
    obtain ⟨hin0, hin1⟩ := hin
    obtain ⟨s, rfl⟩ := Int.eq_ofNat_of_zero_le hin0
    simp only [Int.toNat_natCast] at fin
    have hmk := fun (w : World) => run_mkbytes w .i64 .i64 s (by omega)
    go_enter Try.func19, Try.ntmps19
    go_wp2_with fail
    refine (has_any _ b ad n c at_ s hn (by omega) (by omega) hs0 hs1 hc0).mono ?_
    rintro e w2 ⟨rfl, rfl⟩
    go_wp2_with fail
    have hmA := h0m.mods ((Mods.refl [] w).alloc (.cells (zeros s) 5)) (by simp)
    obtain ⟨sv, ps, hI, hpl, hft⟩ := hmA
    have hgf : w.heap.size ∉ foot b sv ps := fun hc => by rw [hft] at hc; exact Nat.lt_irrefl _ (h0m.lt _ hc)
    have HP := Lib.hid hpl
    have hps : ps.length ≤ 256 := by omega
    have hat : at_ + s ≤ 65536 * ps.length := by omega
    clear hpl hft
    refine (get_any (w.alloc (.cells (zeros s) 5)) b most sv ps f at_ w.heap.size 0 s s 5 (zeros s) hI hps hat (heap_alloc_new w _) (by omega) (by rw [size_zeros]; omega)
      (fun i hi => by rw [Nat.zero_add]; exact zeros_get (by omega)) hgf).mono ?_
    rintro e w3 ⟨rfl, hM3, arr, ha3, hgot⟩
    have hM := (((Mods.refl [] w).alloc (.cells (zeros s) 5)).trans hM3 (by
      intro x hx
      simp only [List.mem_singleton] at hx
      exact .inr (by rw [hx]; exact Nat.le_refl _)))
    have hfin := fin _ hM
    have hcv : (convert 47 9 (.slice (some ⟨w.heap.size, 0, none⟩) s s)).run Try.prog w3 = .ok (.string (strF f at_ s)) w3 := by
      have := run_convert_bytes_back (P := Try.prog) w3 47 9 5 ⟨w.heap.size, 0, none⟩ s ((List.range s).map fun j => f (at_ + j)) Try.underlying47 Try.underlying5 Try.underlying9 (by
        intro j hj
        have hj' : j < s := by simpa using hj
        rw [addr_add, cell_of_heap ha3, hgot.2]
        rw [if_pos (by omega)]
        simp [bv])
      simpa [strF] using this
    clear hgot fin
    go_wp2_with fail
    go_ret2
    exact hfin

/-- A string's bytes. -/
def sAt (s : ByteArray) (j : Nat) : UInt8 := s.data.toList.getD j 0

def WritePost (w : World) (b n : Nat) (most : Int) (f : Nat → UInt8) (L : List Nat) (at_ : Nat) (size : Nat) (s : Nat → UInt8) (ok : Bool) (e : Ending) (w' : World) : Prop :=
  e = .returned (.bool ok) ∧ Mods L w w' ∧ ∃ L', Mem w' b n most (if ok = true then putF f at_ size s else f) L' ∧ ∀ k ∈ L', k ∈ L ∨ w.heap.size ≤ k

set_option maxRecDepth 100000 in
set_option maxHeartbeats 1000000 in
theorem write_any (w : World) (b n : Nat) (most : Int) (f : Nat → UInt8) (L : List Nat) (at_ : Nat) (s : ByteArray) (h0m : Mem w b n most f L) (hn : n ≤ 256) (ha : at_ < 18446744073709551616) (hs1 : s.size ≤ 9223372036854775807) :
    Calls Try.prog 23 #[.pointer (some ⟨b, 0, none⟩), .int .u64 at_, .string s] w (WritePost w b n most f L at_ s.size (sAt s) (hasB n at_ s.size)) := by
  obtain ⟨⟨ad, c, hc0⟩, hc1⟩ := h0m.cells
  cases hh : hasB n at_ s.size with
  | false =>
    have fin : WritePost w b n most f L at_ s.size (sAt s) false (.returned (.bool false)) w := ⟨rfl, Mods.refl _ _, L, by simpa using h0m, fun k hk => .inl hk⟩
    go_enter Try.func23, Try.ntmps23
    go_wp2_with fail
    refine (has_any _ b ad n c at_ s.size hn (by omega) (by omega) (by omega) (by omega) hc0).mono ?_
    rintro e w2 ⟨rfl, rfl⟩
    go_wp2_with fail
    go_ret
    exact fin
  | true =>
    have hin : at_ + s.size ≤ 65536 * n := by unfold hasB at hh; have := (of_decide_eq_true hh).2; omega
    have hcv := fun (w : World) => run_bytes_of_string (P := Try.prog) w 9 47 5 s Try.underlying9 Try.underlying47 Try.underlying5
    go_enter Try.func23, Try.ntmps23
    go_wp2_with fail
    refine (has_any _ b ad n c at_ s.size hn (by omega) (by omega) (by omega) (by omega) hc0).mono ?_
    rintro e w2 ⟨rfl, rfl⟩
    go_wp2_with fail
    obtain ⟨O, hO⟩ : ∃ O, O = Obj.cells (bytesRow s (grownCap w s.size 0 5)) 5 ((bytesRow s (grownCap w s.size 0 5)).size, (bytesRow s (grownCap w s.size 0 5)).size + 1) := ⟨_, rfl⟩
    have hMA : Mods [] w (w.alloc O).drew := ((Mods.refl [] w).alloc O).drew
    obtain ⟨sv, ps, hI, hpl, hft⟩ := h0m.mods hMA (by simp)
    have hgf : w.heap.size ∉ foot b sv ps := fun hc => by rw [hft] at hc; exact Nat.lt_irrefl _ (h0m.lt _ hc)
    have fin : ∀ w', PutPost (w.alloc O).drew b most sv ps (putF f at_ s.size (sAt s)) w' → WritePost w b n most f L at_ s.size (sAt s) true (.returned (.bool true)) w' := by
      rintro w' ⟨hM, ps', q1, q2, q3⟩
      refine ⟨rfl, (hMA.mono (L' := L) (by simp)).trans hM (fun x hx => .inl (hft ▸ hx)), _, ⟨sv, ps', by simpa using q1, q2.trans hpl, rfl⟩, fun k hk => ?_⟩
      · rcases q3 k hk with h1 | h1
        · exact .inl (hft ▸ h1)
        · have h2 := hMA.size
          exact .inr (by omega)
    have hcells : ∀ i, i < s.size → (w.alloc O).drew.cell? ⟨w.heap.size, 0 + i, none⟩ = some (bv (sAt s i)) := by
      intro i hi
      show (w.alloc O).cell? _ = _
      rw [hO, World.cell?_alloc_mark, Nat.zero_add, bytesRow_at s _ i hi]
      unfold sAt bv
      rw [List.getD_eq_getElem?_getD, Array.getElem?_toList, Array.getElem?_eq_getElem hi]
      rfl
    have hps : ps.length ≤ 256 := by omega
    have hat : at_ + s.size ≤ 65536 * ps.length := by rw [hpl]; omega
    rw [← hO]
    clear hpl hft hO hcv
    refine (put_any (w.alloc O).drew b most sv ps f (sAt s) at_ w.heap.size 0 s.size (grownCap w s.size 0 5) hI hps hat (grownCap_ge w s.size 0 _) hcells hgf (by show _ < (w.alloc O).heap.size; simp) (by omega)).mono ?_
    rintro e w3 ⟨rfl, hp⟩
    have hfin := fin _ hp
    clear hp fin
    go_wp2_with fail
    go_ret
    exact hfin

/-- The bytes of a number, the lowest first. -/
def byteOf (v j : Nat) : UInt8 := UInt8.ofNat (v / 256 ^ j)

theorem byte_shr (v k : Nat) : (v : Int) / 2 ^ (8 * k) % 256 = ((byteOf v k).toNat : Int) := by
  have e : (2 : Int) ^ (8 * k) = ((256 ^ k : Nat) : Int) := by
    rw [show (256 : Nat) ^ k = 2 ^ (8 * k) from by rw [Nat.pow_mul]]; simp
  rw [e]
  simp [byteOf]

def StorePost (w : World) (b n : Nat) (most : Int) (f : Nat → UInt8) (L : List Nat) (at_ : Nat) (size : Int) (v : Nat) (e : Ending) (w' : World) : Prop :=
  WritePost w b n most f L at_ size.toNat (byteOf v) (wOK size && hasB n at_ size) e w'

set_option maxRecDepth 100000 in
theorem store_no (w : World) (b n : Nat) (most : Int) (f : Nat → UInt8) (L : List Nat) (at_ : Nat) (size : Int) (v : Nat) (h0m : Mem w b n most f L) (hn : n ≤ 256) (ha : at_ < 18446744073709551616) (hs0 : -9223372036854775808 ≤ size) (hs1 : size ≤ 9223372036854775807)
    (hno : (wOK size && hasB n at_ size) = false) :
    Calls Try.prog 18 #[.pointer (some ⟨b, 0, none⟩), .int .u64 at_, .int .i64 size, .int .u64 v] w (StorePost w b n most f L at_ size v) := by
  have fin : ∀ w', Below w.heap.size w w' → StorePost w b n most f L at_ size v (.returned (.bool false)) w' := by
    intro w' hb
    have hM := Mods.of_below hb (Nat.le_refl _) []
    unfold StorePost
    rw [hno]
    exact ⟨rfl, hM.mono (by simp), L, by simpa using h0m.mods hM (by simp), fun k hk => .inl hk⟩
  cases hw : wOK size with
  | false =>
    clear hno
    go_enter Try.func18, Try.ntmps18
    go_wp2_with fail
    refine (width_any size _).mono ?_
    rintro e w1 ⟨rfl, hb⟩
    have hq := fin _ hb
    go_wp2_with fail
    go_ret
    exact hq
  | true =>
    rw [hw, Bool.true_and] at hno
    go_enter Try.func18, Try.ntmps18
    go_wp2_with fail
    refine (width_any size _).mono ?_
    rintro e w1 ⟨rfl, hb⟩
    have hq := fin _ hb
    obtain ⟨⟨ad, c, hc0⟩, hc1⟩ := (h0m.mods (Mods.of_below hb (Nat.le_refl _) []) (by simp)).cells
    go_wp2_with fail
    refine (has_any _ b ad n c at_ size hn (by omega) (by omega) hs0 hs1 hc0).mono ?_
    rintro e w2 ⟨rfl, rfl⟩
    go_wp2_with fail
    go_ret
    exact hq

/-- The first k cells of the row hold the number's bytes. -/
def StRow (w : World) (g v k : Nat) : Prop := ∃ arr, w.heap[g]? = some (.cells arr 91 (0, 0)) ∧ arr.size = 8 ∧ ∀ j, j < k → arr[j]? = some (bv (byteOf v j))

set_option maxRecDepth 100000 in
set_option maxHeartbeats 1000000 in
theorem store_yes (w : World) (b n : Nat) (most : Int) (f : Nat → UInt8) (L : List Nat) (at_ : Nat) (size : Int) (v : Nat) (h0m : Mem w b n most f L) (hn : n ≤ 256) (ha : at_ < 18446744073709551616) (hs0 : -9223372036854775808 ≤ size) (hs1 : size ≤ 9223372036854775807)
    (hv : v < 2 ^ 64) (hyes : (wOK size && hasB n at_ size) = true) :
    Calls Try.prog 18 #[.pointer (some ⟨b, 0, none⟩), .int .u64 at_, .int .i64 size, .int .u64 v] w (StorePost w b n most f L at_ size v) := by
  obtain ⟨hw, hh⟩ := Bool.and_eq_true_iff.1 hyes
  obtain ⟨hz1, hz2⟩ := wOK_range hw
  have hin : at_ + size ≤ 65536 * n := by unfold hasB at hh; exact (of_decide_eq_true hh).2
  obtain ⟨s, rfl⟩ := Int.eq_ofNat_of_zero_le (show 0 ≤ size by omega)
  have fin0 : ∀ e w', WritePost w b n most f L at_ s (byteOf v) true e w' → StorePost w b n most f L at_ s v e w' := by
    intro e w' h
    unfold StorePost
    rw [hyes]
    exact h
  have hv' : v < 18446744073709551616 := by omega
  have HV := Lib.hid hv
  clear hyes hv
  go_enter Try.func18, Try.ntmps18
  go_wp2_with fail
  refine (width_any s _).mono ?_
  rintro e w1 ⟨rfl, hb⟩
  have hM1 := Mods.of_below hb (Nat.le_refl _) []
  have hm1 := h0m.mods hM1 (by simp)
  obtain ⟨⟨ad, c, hc0⟩, hc1⟩ := hm1.cells
  go_wp2_with fail
  refine (has_any _ b ad n c at_ s hn (by omega) (by omega) hs0 hs1 hc0).mono ?_
  rintro e w2 ⟨rfl, rfl⟩
  go_wp2_with fail
  go_loopw [21] (fun t21 wr => ∃ k : Nat, k ≤ 8 ∧ t21 = .int .i64 k ∧ Mods [] w1 wr ∧ StRow wr w1.heap.size v k) (fun t21 _ => 8 - (intOf t21).toNat)
  case atStart => exact ⟨0, by omega, rfl, (Mods.refl [] w1).alloc _, ⟨_, heap_alloc_new w1 _, rfl, fun j hj => by omega⟩⟩
  case round =>
    obtain ⟨k, hk, rfl, hMr, arr, hg, hsz, hval⟩ := hrel
    by_cases hk8 : k < 8
    · obtain ⟨u, hcell⟩ : ∃ u, wr.cell? ⟨w1.heap.size, k, none⟩ = some u := ⟨arr[k], by rw [cell_of_heap hg, Array.getElem?_eq_getElem (by omega)]⟩
      have hfr := frozen_of_heap hg k
      have HS := Lib.hid (And.intro hsz hval)
      clear hsz hval
      go_wp2_with fail
      rw [byte_shr]
      refine ⟨⟨k + 1, by omega, by go_num, hMr.setCell (.inr (Nat.le_refl _)) _, _, heap_setCell_same hg _ _, by simpa using HS.out.1, fun j hj => ?_⟩, by simp [intOf]; omega⟩
      by_cases hjk : j = k
      · subst hjk
        rw [Array.getElem?_setIfInBounds_self_of_lt (by rw [HS.out.1]; omega)]; rfl
      · rw [Array.getElem?_setIfInBounds_ne (fun e => hjk e.symm)]
        exact HS.out.2 j (by omega)
    · obtain rfl : k = 8 := by omega
      have hmr := hm1.mods hMr (by simp)
      obtain ⟨sv, ps, hI, hpl, hft⟩ := hmr
      have hgf : w1.heap.size ∉ foot b sv ps := fun hc => by rw [hft] at hc; exact Nat.lt_irrefl _ (hm1.lt _ hc)
      have fin : ∀ w', PutPost wr b most sv ps (putF f at_ s (byteOf v)) w' → StorePost w b n most f L at_ s v (.returned (.bool true)) w' := by
        rintro w' ⟨hM, ps', q1, q2, q3⟩
        have hMA : Mods [] w wr := hM1.trans hMr (by simp)
        refine fin0 _ _ ⟨rfl, (hMA.mono (L' := L) (by simp)).trans hM (fun x hx => .inl (hft ▸ hx)), _, ⟨sv, ps', by simpa using q1, q2.trans hpl, rfl⟩, fun k hk => ?_⟩
        rcases q3 k hk with h1 | h1
        · exact .inl (hft ▸ h1)
        · have h2 := hMA.size
          exact .inr (by omega)
      have hcells : ∀ i, i < s → wr.cell? ⟨w1.heap.size, 0 + i, none⟩ = some (bv (byteOf v i)) := fun i hi => by rw [cell_of_heap hg, Nat.zero_add, hval i (by omega)]
      have hgw := lt_size_of_heap hg
      have hps : ps.length ≤ 256 := by omega
      have hat : at_ + s ≤ 65536 * ps.length := by rw [hpl]; omega
      have hs8 : s ≤ 8 := by omega
      clear hpl hft hval hsz hv'
      go_wp2_with fail
      refine (put_any wr b most sv ps f (byteOf v) at_ w1.heap.size 0 s 8 hI hps hat hs8 hcells hgf hgw (by omega)).mono ?_
      rintro e w3 ⟨rfl, hp⟩
      have hfin := fin _ hp
      clear hp fin
      go_wp2_with fail
      go_ret
      exact hfin

theorem store_any (w : World) (b n : Nat) (most : Int) (f : Nat → UInt8) (L : List Nat) (at_ : Nat) (size : Int) (v : Nat) (h0m : Mem w b n most f L) (hn : n ≤ 256) (ha : at_ < 18446744073709551616) (hs0 : -9223372036854775808 ≤ size) (hs1 : size ≤ 9223372036854775807)
    (hv : v < 2 ^ 64) :
    Calls Try.prog 18 #[.pointer (some ⟨b, 0, none⟩), .int .u64 at_, .int .i64 size, .int .u64 v] w (StorePost w b n most f L at_ size v) := by
  cases h : wOK size && hasB n at_ size with
  | false => exact store_no w b n most f L at_ size v h0m hn ha hs0 hs1 h
  | true => exact store_yes w b n most f L at_ size v h0m hn ha hs0 hs1 hv h

theorem load_any (w : World) (b n : Nat) (most : Int) (f : Nat → UInt8) (L : List Nat) (at_ : Nat) (size : Int) (h0m : Mem w b n most f L) (hn : n ≤ 256) (ha : at_ < 18446744073709551616) (hs0 : -9223372036854775808 ≤ size) (hs1 : size ≤ 9223372036854775807) :
    Calls Try.prog 16 #[.pointer (some ⟨b, 0, none⟩), .int .u64 at_, .int .i64 size] w (LoadPost w n f at_ size) := by
  cases h : wOK size && hasB n at_ size with
  | false => exact load_no w b n most f L at_ size h0m hn ha hs0 hs1 h
  | true => exact load_yes w b n most f L at_ size h0m hn ha hs0 hs1 h

end Go.Proofs.Ytagpnalhilgcpaa
