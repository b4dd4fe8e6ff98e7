/-
  The reference's memory (chapter 8): Store, Write, Bytes and Grow, for every argument.
-/
import Derived.Test.YtagpnalhilgcpaaRefB
namespace Go.Proofs.Ytagpnalhilgcpaa
open Go.RowKit
set_option linter.unusedVariables false
set_option linter.unusedSimpArgs false

/-- What a write to the reference's memory leaves. -/
def RWrite (w : World) (b n : Nat) (most : Int) (f : Nat → UInt8) (L : List Nat) (at_ : Nat) (size : Nat) (s : Nat → UInt8) (ok : Bool) (e : Ending) (w' : World) : Prop :=
  e = .returned (.bool ok) ∧ Mods L w w' ∧ Ref w' b n most (if ok = true then putF f at_ size s else f) L

theorem IsRef.quiet {w w' : World} {b n : Nat} {most : Int} {sv : Value} {f : Nat → UInt8} (h : IsRef w b n most sv f) (hm : Mods [] w w') : IsRef w' b n most sv f :=
  ⟨hm.heap h.hb (by simp), ownsRow_mods h.own hm (by simp), h.val, h.past⟩

set_option maxRecDepth 100000 in
set_option maxHeartbeats 1000000 in
theorem ref_store (w : World) (b n : Nat) (most : Int) (f : Nat → UInt8) (L : List Nat) (at_ : Nat) (size : Int) (v : Nat) (hR : Ref w b n most f L) (hn : n ≤ 256) (ha : at_ < 18446744073709551616) (hs0 : -9223372036854775808 ≤ size) (hs1 : size ≤ 9223372036854775807)
    (hv : v < 18446744073709551616) :
    Calls Try.prog 41 #[.pointer (some ⟨b, 0, none⟩), .int .u64 at_, .int .i64 size, .int .u64 v] w (RWrite w b n most f L at_ size.toNat (byteOf v) (wOK size && hasB n at_ size)) := by
  cases hh : hasB n at_ size with
  | false =>
    have fin : RWrite w b n most f L at_ size.toNat (byteOf v) (wOK size && false) (.returned (.bool false)) w := by
      rw [Bool.and_false]; exact ⟨rfl, Mods.refl _ _, by simpa using hR⟩
    go_enter Try.func41, Try.ntmps41
    go_wp2_with fail
    refine (ref_has w b n most f L at_ size hR hn ha hs0 hs1).mono ?_
    rintro e w1 ⟨rfl, rfl⟩
    go_wp2_with fail
    go_ret
    exact fin
  | true =>
    cases hw : wOK size with
    | false =>
      have fin : RWrite w b n most f L at_ size.toNat (byteOf v) (false && true) (.returned (.bool false)) w := ⟨rfl, Mods.refl _ _, by simpa using hR⟩
      go_enter Try.func41, Try.ntmps41
      go_wp2_with fail
      refine (ref_has w b n most f L at_ size hR hn ha hs0 hs1).mono ?_
      rintro e w1 ⟨rfl, rfl⟩
      go_wp2_with fail
      refine (ref_width size w).mono ?_
      rintro e w1 ⟨rfl, rfl⟩
      go_wp2_with fail
      go_ret
      exact fin
    | true =>
      have hsz := wOK_range hw
      have hin : at_ + size ≤ 65536 * n := by unfold hasB at hh; exact (of_decide_eq_true hh).2
      obtain ⟨s, rfl⟩ := Int.eq_ofNat_of_zero_le (show 0 ≤ size by omega)
      have hs8 : 1 ≤ s ∧ s ≤ 8 := by omega
      obtain ⟨hs1', hs8'⟩ := hs8
      have hR' := hR
      obtain ⟨sv, h, hL⟩ := hR'
      obtain ⟨g, cap, -, rfl, -⟩ := h.open_
      have HL := Lib.hid hL
      clear hL
      go_enter Try.func41, Try.ntmps41
      go_wp2_with fail
      refine (ref_has w b n most f L at_ s hR hn ha hs0 hs1).mono ?_
      rintro e w1 ⟨rfl, rfl⟩
      go_wp2_with fail
      refine (ref_width s w).mono ?_
      rintro e w1 ⟨rfl, rfl⟩
      go_wp2_with fail
      go_loopw [3, 10] (fun t3 t10 wr => ∃ k : Nat, k ≤ s ∧ t10 = .int .i64 k ∧ t3 = .int .u64 ((v / 256 ^ k : Nat) : Int) ∧ Mods [g] w wr ∧ IsRef wr b n most (.slice (some ⟨g, 0, none⟩) (65536 * n) cap) (putF f at_ k (byteOf v))) (fun _ t10 _ => s - (intOf t10).toNat)
      case atStart => exact ⟨0, by omega, rfl, by simp, Mods.refl _ _, by rw [putF_zero]; exact h⟩
      case round =>
        clear h
        obtain ⟨k, hk, rfl, rfl, hM, hI⟩ := hrel
        by_cases hks : k < s
        · obtain ⟨g', cap', cur, hsv, hc0, -, hg, hnc, -, hcs, hcells, -⟩ := hI.open_
          simp only [Value.slice.injEq, Option.some.injEq, Addr.mk.injEq, and_true, true_and] at hsv
          obtain ⟨rfl, rfl⟩ := hsv
          have hcell : wr.cell? ⟨g, at_ + k, none⟩ = some (bv (putF f at_ k (byteOf v) (at_ + k))) := by rw [cell_of_heap hg, hcells _ (by omega)]
          have hfr := frozen_of_heap hg (at_ + k)
          have hbo : ((byteOf v k).toNat : Int) = ((v / 256 ^ k : Nat) : Int) % 256 := by simp [byteOf]
          have hdiv : v / 256 ^ (k + 1) = v / 256 ^ k / 256 := by rw [Nat.pow_succ, Nat.div_div_eq_div_mul]
          have hq : v / 256 ^ k < 18446744073709551616 := Nat.lt_of_le_of_lt (Nat.div_le_self _ _) hv
          have HD := Lib.hid (And.intro hdiv hbo)
          clear hdiv hbo
          generalize v / 256 ^ k = q at *
          have HC := Lib.hid (And.intro hcs hcells)
          clear hcs hcells
          unfold bv at hcell
          go_wp2_with fail
          have hset := hI.set (at_ + k) (by omega) (byteOf v k)
          rw [putF_one] at hset
          unfold bv at hset
          rw [HD.out.2] at hset
          refine ⟨⟨k + 1, by omega, by go_num, by rw [HD.out.1]; go_num, hM.setCell (p := ⟨g, at_ + k, none⟩) (.inl (by simp)) _, hset⟩, by simp [intOf]; omega⟩
        · obtain rfl : k = s := by omega
          go_wp2_with fail
          go_ret
          refine ⟨rfl, hM.mono (by rw [HL.out]; simp [Value.ownBlock]), ⟨_, by simpa using hI, HL.out⟩⟩

set_option maxRecDepth 100000 in
set_option maxHeartbeats 1000000 in
theorem ref_write (w : World) (b n : Nat) (most : Int) (f : Nat → UInt8) (L : List Nat) (at_ : Nat) (s : ByteArray) (hR : Ref w b n most f L) (hn : n ≤ 256) (ha : at_ < 18446744073709551616) (hs1 : s.size ≤ 9223372036854775807) :
    Calls Try.prog 43 #[.pointer (some ⟨b, 0, none⟩), .int .u64 at_, .string s] w (RWrite w b n most f L at_ s.size (sAt s) (hasB n at_ s.size)) := by
  cases hh : hasB n at_ s.size with
  | false =>
    have fin : RWrite w b n most f L at_ s.size (sAt s) false (.returned (.bool false)) w := ⟨rfl, Mods.refl _ _, by simpa using hR⟩
    go_enter Try.func43, Try.ntmps43
    go_wp2_with fail
    refine (ref_has w b n most f L at_ s.size hR hn ha (by omega) (by omega)).mono ?_
    rintro e w1 ⟨rfl, rfl⟩
    go_wp2_with fail
    go_ret
    exact fin
  | true =>
    have hin : at_ + s.size ≤ 65536 * n := by unfold hasB at hh; have := (of_decide_eq_true hh).2; omega
    have hR' := hR
    obtain ⟨sv, h, hL⟩ := hR'
    obtain ⟨g, cap, -, rfl, -⟩ := h.open_
    have HL := Lib.hid hL
    clear hL
    go_enter Try.func43, Try.ntmps43
    go_wp2_with fail
    refine (ref_has w b n most f L at_ s.size hR hn ha (by omega) (by omega)).mono ?_
    rintro e w1 ⟨rfl, rfl⟩
    go_wp2_with fail
    go_loopw [8] (fun t8 wr => ∃ k : Nat, k ≤ s.size ∧ t8 = .int .i64 k ∧ Mods [g] w wr ∧ IsRef wr b n most (.slice (some ⟨g, 0, none⟩) (65536 * n) cap) (putF f at_ k (sAt s))) (fun t8 _ => s.size - (intOf t8).toNat)
    case atStart => exact ⟨0, by omega, rfl, Mods.refl _ _, by rw [putF_zero]; exact h⟩
    case round =>
      clear h
      obtain ⟨k, hk, rfl, hM, hI⟩ := hrel
      by_cases hks : k < s.size
      · obtain ⟨g', cap', cur, hsv, hc0, -, hg, hnc, -, hcs, hcells, -⟩ := hI.open_
        simp only [Value.slice.injEq, Option.some.injEq, Addr.mk.injEq, and_true, true_and] at hsv
        obtain ⟨rfl, rfl⟩ := hsv
        have hcell : wr.cell? ⟨g, at_ + k, none⟩ = some (.int .u8 ((putF f at_ k (sAt s) (at_ + k)).toNat : Int)) := by rw [cell_of_heap hg, hcells _ (by omega)]; rfl
        have hfr := frozen_of_heap hg (at_ + k)
        have HC := Lib.hid (And.intro hcs hcells)
        clear hcs hcells
        have hak : (at_ : Int) + k < ((65536 * n : Nat) : Int) := by omega
        have hak2 : at_ + k < 65536 * n := by omega
        have hak0 : (0 : Int) ≤ (at_ : Int) + k := by omega
        have hakn : ((at_ : Int) + k).toNat = at_ + k := by omega
        have hsb : s[k]'hks = sAt s k := by
          unfold sAt
          rw [List.getD_eq_getElem?_getD, Array.getElem?_toList, Array.getElem?_eq_getElem (by exact hks)]; rfl
        have HS := Lib.hid hsb
        clear hsb
        go_wp2_with fail
        go_region
        go_wp2_with fail
        have hset := (hI.set (at_ + k) (by omega) (sAt s k)).quiet ((Mods.refl [] _).drew)
        rw [putF_one] at hset
        have hb : (Value.int .u8 ((s[k]'hks).toNat : Int)) = bv (sAt s k) := by rw [HS.out]; rfl
        rw [hb]
        refine ⟨⟨k + 1, by omega, by go_num, (hM.setCell (p := ⟨g, at_ + k, none⟩) (.inl (by simp)) _).drew, hset⟩, by simp [intOf]; omega⟩
      · obtain rfl : k = s.size := by omega
        go_wp2_with fail
        go_ret
        refine ⟨rfl, hM.mono (by rw [HL.out]; simp [Value.ownBlock]), ⟨_, by simpa using hI, HL.out⟩⟩

set_option maxRecDepth 100000 in
set_option maxHeartbeats 1000000 in
theorem ref_bytes (w : World) (b n : Nat) (most : Int) (f : Nat → UInt8) (L : List Nat) (at_ : Nat) (size : Int) (hR : Ref w b n most f L) (hn : n ≤ 256) (ha : at_ < 18446744073709551616) (hs0 : -9223372036854775808 ≤ size) (hs1 : size ≤ 9223372036854775807) :
    Calls Try.prog 44 #[.pointer (some ⟨b, 0, none⟩), .int .u64 at_, .int .i64 size] w (BytesPost w n f at_ size) := by
  cases hh : hasB n at_ size with
  | false =>
    have fin : BytesPost w n f at_ size (.returned (.tuple #[.string ⟨#[]⟩, .bool false])) w := by
      unfold BytesPost; rw [hh]; exact ⟨rfl, Mods.refl _ _⟩
    go_enter Try.func44, Try.ntmps44
    go_wp2_with fail
    refine (ref_has w b n most f L at_ size hR hn ha hs0 hs1).mono ?_
    rintro e w1 ⟨rfl, rfl⟩
    go_wp2_with fail
    go_ret2
    exact fin
  | true =>
    have hin : 0 ≤ size ∧ at_ + size ≤ 65536 * n := by unfold hasB at hh; exact of_decide_eq_true hh
    have fin : BytesPost w n f at_ size (.returned (.tuple #[.string (strF f at_ size.toNat), .bool true])) w := by
      unfold BytesPost; rw [hh]; exact ⟨rfl, Mods.refl _ _⟩
    obtain ⟨hin0, hin1⟩ := hin
    obtain ⟨s, rfl⟩ := Int.eq_ofNat_of_zero_le hin0
    simp only [Int.toNat_natCast] at fin
    have hR' := hR
    obtain ⟨sv, h, hL⟩ := hR'
    obtain ⟨g, cap, cur, rfl, hc0, -, hg, hnc, hcm, hcs, hcells, -⟩ := h.open_
    have hcv : ∀ ad cp, (0 < s → ad = ⟨g, at_, none⟩) → (convert 47 9 (.slice (some ad) s cp)).run Try.prog w = .ok (.string (strF f at_ s)) w := by
      intro ad cp had
      have := run_convert_bytes_back (P := Try.prog) w 47 9 5 ad cp ((List.range s).map fun j => f (at_ + j)) Try.underlying47 Try.underlying5 Try.underlying9 (by
        intro j hj
        have hj' : j < s := by simpa using hj
        rw [had (by omega), addr_add, cell_of_heap hg, hcells _ (by omega)]
        simp [bv])
      simpa [strF] using this
    have hb1 : at_ ≤ 65536 * n := by omega
    have hb2 : at_ + s ≤ cap := by omega
    have hb3 : at_ + s ≤ 16777216 := by omega
    have hes : at_ + s - at_ = s := by omega
    have HC := Lib.hid (And.intro hcs (And.intro hcells (And.intro hnc hcm)))
    clear hcs hcells hL h hnc hcm hin0 hin1
    by_cases hc : cap = at_
    · have hcv1 := hcv ⟨g, 0, none⟩ 0 (fun h => by omega)
      have hcp : cap - at_ = 0 := by omega
      have HE := Lib.hid hc
      clear hcv hc
      go_enter Try.func44, Try.ntmps44
      go_wp2_with fail
      refine (ref_has w b n most f L at_ s hR hn ha hs0 hs1).mono ?_
      rintro e w1 ⟨rfl, rfl⟩
      go_wp2_with fail
      go_ret2
      exact fin
    · have hcv1 := hcv ⟨g, at_, none⟩ (cap - at_) (fun h => rfl)
      clear hcv
      go_enter Try.func44, Try.ntmps44
      go_wp2_with fail
      refine (ref_has w b n most f L at_ s hR hn ha hs0 hs1).mono ?_
      rintro e w1 ⟨rfl, rfl⟩
      go_wp2_with fail
      go_ret2
      exact fin

theorem zeroCells_u8 (k : Nat) : Builtin.zeroCells (Value.int .u8 0).cells k = zeros k := by
  apply Array.ext_getElem?
  intro i
  by_cases h : i < k
  · simp [Builtin.zeroCells, Value.cells, zeros, h, Nat.mod_one]
  · simp [Builtin.zeroCells, Value.cells, zeros, h]

/-- 'append(s, make([]byte, k)...)' to a row of the call's own. -/
theorem run_app_zeros (w : World) (g cap n k : Nat) (cur : Array Value) (ty : TypeId) (kq : IntKind) (hg : w.heap[g]? = some (.cells cur 5 (0, 0))) (hsz : cur.size = cap) (hn : n ≤ cap) (hcap : cap ≤ maxLen) (hk : n + k ≤ 16777216) :
    ∃ g' cap' cur' w', (Builtin.append_ #[47, 3] ty #[.slice (some ⟨g, 0, none⟩) n cap, .int kq k]).run Try.prog w = .ok (.slice (some ⟨g', 0, none⟩) (n + k) cap') w' ∧
      w'.heap[g']? = some (.cells cur' 5 (0, 0)) ∧ cur'.size = cap' ∧ n + k ≤ cap' ∧ cap' ≤ maxLen ∧ (∀ o, o < n → cur'[o]? = cur[o]?) ∧ (∀ o, n ≤ o → o < n + k → cur'[o]? = some (.int .u8 0)) ∧ Mods [g] w w' ∧ (g' = g ∨ w.heap.size ≤ g') := by
  obtain ⟨i0, hi, hz0, hz1, hz2⟩ := info_parts info_u8
  by_cases hroom : n + k ≤ cap
  · by_cases hk0 : k = 0
    · subst hk0
      refine ⟨g, cap, cur, w, ?_, hg, hsz, hroom, hcap, fun _ _ => rfl, fun o h1 h2 => by omega, Mods.refl _ _, .inl rfl⟩
      have hw0 : IntKind.i64.wrap 0 = 0 := by decide
      simp [Builtin.append_, run_underlying Try.underlying47, run_underlying Try.underlying3, sizeOf, typeInfo, hi, hz1, hz2, asInt, asIntOf, hw0, hn, storeCells]
    · have hw : IntKind.i64.wrap (k : Int) = k := by rw [IntKind.wrap_i64]; omega
      have hneg : ¬ ((k : Int) < 0) := by omega
      have h48i : ¬ (281474976710656 < (k : Int)) := by omega
      have hst := run_storeCells_at Try.prog g n 5 (zeros k).toList 0 cur w hg (by simp [size_zeros]; omega) (by intro v hv; simp [zeros] at hv; rw [hv.2]; rfl)
      simp only [Nat.add_zero] at hst
      have hl : n + (zeros k).toList.length ≤ cur.toList.length := by simp [size_zeros]; omega
      refine ⟨g, cap, (splice cur.toList n (zeros k).toList).toArray, w.setRow g (splice cur.toList n (zeros k).toList).toArray, ?_, setRow_heap _ _ _ _ _ _ hg, ?_, hroom, hcap, fun o ho => ?_, fun o h1 h2 => ?_, (Mods.refl [g] w).setRow (.inl (by simp)) _, .inl rfl⟩
      · simp [Builtin.append_, run_underlying Try.underlying47, run_underlying Try.underlying3, sizeOf, typeInfo, zeroValue, hi, hz0, hz1, hz2, asInt, asIntOf, hw, hneg, h48i, hroom, hk0, zeroCells_u8, addr_add, hst, splice]
      · simp only [List.size_toArray]; rw [length_splice _ _ _ hl]; simpa using hsz
      · rw [List.getElem?_toArray, splice_get _ _ _ hl, if_neg (by omega), Array.getElem?_toList]
      · rw [List.getElem?_toArray, splice_get _ _ _ hl, if_pos (by simp [size_zeros]; omega), Array.getElem?_toList]
        exact zeros_get (by omega)
  · have hold : (Builtin.firstCells i0.size n (.slice (some ⟨g, 0, none⟩) n cap)).run Try.prog w.drew = .ok (cur.toList.take n).toArray w.drew := by
      rw [hz1]
      exact run_firstCells_some (P := Try.prog) w.drew 1 n ⟨g, 0, none⟩ n cap (cur.toList.take n) (by simp; omega) (fun j v hj => by
        have hj' : j < n := by have := (List.getElem?_eq_some_iff.1 hj).1; simp at this; omega
        rw [addr_add, Nat.zero_add]
        show w.cell? _ = _
        rw [cell_of_heap hg]
        rw [List.getElem?_take, if_pos hj', Array.getElem?_toList] at hj
        exact hj)
    have hr := Lib.run_append_grow_zeros (P := Try.prog) w 47 3 ty 5 i0 (.int .u8 0) kq .i64 Try.underlying47 Try.underlying3 hi hz0 (some ⟨g, 0, none⟩) n cap (cur.toList.take n) hold k (by omega) (by omega) (by omega) (by omega) (by rw [hz2]; omega)
      (growslice_fits (by omega) (by rw [hz2]; omega))
    rw [zeroCells_u8, zeroCells_u8] at hr
    have hge := grownCap_ge w (n + k) cap 5
    refine ⟨w.heap.size, _, _, _, hr, heap_alloc_new w.drew _, ?_, hge, grownCap_le_maxLen w _ _ _ (by unfold maxLen; omega), fun o ho => ?_, fun o h1 h2 => ?_, ((Mods.refl [g] w).drew).alloc _, .inr (Nat.le_refl _)⟩
    · simp [size_zeros]; omega
    · rw [Array.getElem?_append_left (by simp [size_zeros]; omega), Array.getElem?_append_left (by simp; omega), List.getElem?_toArray, List.getElem?_take, if_pos ho, Array.getElem?_toList]
    · rw [Array.getElem?_append_left (by simp [size_zeros]; omega), Array.getElem?_append_right (by simp; omega)]
      exact zeros_get (by simp; omega)

end Go.Proofs.Ytagpnalhilgcpaa
