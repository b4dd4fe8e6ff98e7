/-
  The law LexWords, walked whole. No condition but that Go's own variables hold what they were laid with.
-/
import Derived.Test.YtcjijjdoglpjbaaDoorLyT
import Derived.Test.YtcjijjdoglpjbaaDoorLat
namespace Go.Proofs.YtcjijjdoglpjbaaDoor
open Go.RowKit
set_option linter.unusedVariables false

def wordCells : Array Value := (keyWords.map fun l => Value.string ⟨l.toArray⟩).toArray
theorem key_len {w : List UInt8} (h : w ∈ keyWords) : w ≠ [] ∧ w.length ≤ 6 := by
  have h2 : (keyWords.all fun w => !w.isEmpty && decide (w.length ≤ 6)) = true := by decide
  have h3 := List.all_eq_true.1 h2 w h
  simpa using h3
/-- Some capitals are made small. -/
structure LowRel (W : List UInt8) (i : Nat) (B : List UInt8) : Prop where
  len : B.length = W.length
  caps : B.map upc = W
  lets : ∀ x ∈ B, isLet x = true
  rest : B.drop i = W.drop i
theorem low_all : ((List.range 256).all fun n => !(decide (65 ≤ n) && decide (n ≤ 90)) || (upc (UInt8.ofNat n + 32) == UInt8.ofNat n && isLet (UInt8.ofNat n + 32) && (UInt8.ofNat n + 32).toNat == n + 32 && isLet (UInt8.ofNat n))) = true := by kernel_rfl
theorem low_c {c : UInt8} (h : 65 ≤ c.toNat ∧ c.toNat ≤ 90) : upc (c + 32) = c ∧ isLet (c + 32) = true ∧ (c + 32).toNat = c.toNat + 32 ∧ isLet c = true := by
  have h2 := List.all_eq_true.1 low_all c.toNat (List.mem_range.2 c.toNat_lt)
  rw [UInt8.ofNat_toNat] at h2
  simp only [h.1, h.2, decide_true, Bool.and_self, Bool.not_true, Bool.false_or, Bool.and_eq_true, beq_iff_eq] at h2
  exact ⟨h2.1.1.1, h2.1.1.2, h2.1.2, h2.2⟩
theorem LowRel.start {W : List UInt8} (h : isKey W = true) : LowRel W 0 W :=
  ⟨rfl, key_same h, fun x hx => (low_c (key_caps h x hx)).2.2.2, rfl⟩
theorem LowRel.at {W B : List UInt8} {i : Nat} (h : LowRel W i B) (hi : i < W.length) : B[i]? = some W[i] := by
  have h1 : (B.drop i)[0]? = (W.drop i)[0]? := by rw [h.rest]
  rw [List.getElem?_drop, List.getElem?_drop, Nat.add_zero, List.getElem?_eq_getElem hi] at h1
  exact h1
theorem drop_more {B W : List UInt8} {i : Nat} (h : B.drop i = W.drop i) : B.drop (i + 1) = W.drop (i + 1) := by
  rw [← List.drop_drop, ← List.drop_drop, h]
theorem LowRel.skip {W B : List UInt8} {i : Nat} (h : LowRel W i B) : LowRel W (i + 1) B := ⟨h.len, h.caps, h.lets, drop_more h.rest⟩
theorem LowRel.low {W B : List UInt8} {i : Nat} (h : LowRel W i B) (hk : isKey W = true) (hi : i < W.length) : LowRel W (i + 1) (B.set i (W[i] + 32)) := by
  have hc := low_c (key_caps hk W[i] (List.getElem_mem hi))
  have hB := h.at hi
  have hBi : i < B.length := by rw [h.len]; exact hi
  have hBe : B[i] = W[i] := by rw [List.getElem?_eq_getElem hBi] at hB; exact Option.some.inj hB
  refine ⟨by rw [List.length_set]; exact h.len, ?_, ?_, ?_⟩
  · rw [List.map_set, hc.1, h.caps, List.set_getElem_self]
  · intro x hx
    rcases List.mem_or_eq_of_mem_set hx with h1 | rfl
    · exact h.lets x h1
    · exact hc.2.1
  · rw [List.drop_set_of_lt (by omega)]
    exact drop_more h.rest

/-- Bytes lie in a block. -/
def BRow (w : World) (g : Nat) (B : List UInt8) : Prop := ∃ arr mk, w.heap[g]? = some (.cells arr 5 mk) ∧ B.length ≤ mk.1 ∧ ∀ (j : Nat) (x : UInt8), B[j]? = some x → arr[j]? = some (bv x)
theorem BRow.cell {w : World} {g : Nat} {B : List UInt8} (h : BRow w g B) {j : Nat} {x : UInt8} (hj : B[j]? = some x) : w.cell? ⟨g, j, none⟩ = some (bv x) ∧ w.frozen? ⟨g, j, none⟩ = false := by
  obtain ⟨arr, mk, h1, h2, h3⟩ := h
  refine ⟨(cell_of_heap h1 j).trans (h3 j x hj), ?_⟩
  have := (List.getElem?_eq_some_iff.1 hj).1
  unfold World.frozen?
  rw [h1]
  show (decide (mk.1 ≤ j) && _) = false
  rw [decide_eq_false (by omega)]; rfl
theorem BRow.set {w : World} {g : Nat} {B : List UInt8} (h : BRow w g B) (j : Nat) (x : UInt8) : BRow (w.setCell ⟨g, j, none⟩ (bv x)) g (B.set j x) := by
  obtain ⟨arr, mk, h1, h2, h3⟩ := h
  refine ⟨_, mk, heap_setCell_same h1 j (bv x), by rw [List.length_set]; exact h2, fun k y hk => ?_⟩
  have hkl := (List.getElem?_eq_some_iff.1 hk).1
  rw [List.length_set] at hkl
  by_cases hjk : j = k
  · subst hjk
    rw [List.getElem?_set_self hkl] at hk
    cases hk
    have hB := h3 j _ (List.getElem?_eq_getElem hkl)
    have := (Array.getElem?_eq_some_iff.1 hB).1
    rw [Array.getElem?_setIfInBounds_self_of_lt this]
  · rw [List.getElem?_set_ne hjk] at hk
    rw [Array.getElem?_setIfInBounds_ne hjk]
    exact h3 k y hk
theorem BRow.mods {w w' : World} {g : Nat} {B : List UInt8} (h : BRow w g B) (hM : Mods [] w w') : BRow w' g B := by
  obtain ⟨arr, mk, h1, h2, h3⟩ := h
  exact ⟨arr, mk, hM.heap h1 (by simp), h2, h3⟩

set_option maxRecDepth 100000 in
set_option maxHeartbeats 2000000 in
theorem lexWords_walk (w : World) (hT : Tabs w) (a : Nat) (ha : a < 256) (mask : Nat) (hmask : mask < 65536) :
    Calls Tryd.prog 7 #[.int .u8 a, .int .u16 mask] w fun e w' => e = .returned (.bool true) ∧ Mods [] w w' := by
  obtain ⟨i, hi, hiz⟩ : ∃ i : Nat, i < 24 ∧ (a : Int) % 24 = (i : Int) := ⟨a % 24, by omega, by omega⟩
  obtain ⟨x, hx⟩ : ∃ x, keyWords[i]? = some x := ⟨_, List.getElem?_eq_getElem hi⟩
  have hxm := List.mem_of_getElem? hx
  have hlen := key_len hxm
  have hkey : isKey x = true := by simpa [isKey] using hxm
  have hcx : wordCells[i]? = some (.string ⟨x.toArray⟩) := by
    show ((keyWords.map fun l => Value.string ⟨l.toArray⟩).toArray)[i]? = _
    rw [List.getElem?_toArray, List.getElem?_map, hx]; rfl
  have HCX := Lib.hid hcx
  clear hcx hx hxm
  go_enter Tryd.func7, Tryd.ntmps7
  go_wp2_with fail
  refine (examples11 _ hT).mono ?_
  rintro e w1 ⟨rfl, hM1⟩
  have hM2 := hM1.alloc (.cells wordCells 9)
  have hT2 := hT.mods hM2
  have hg := heap_alloc_new w1 (.cells wordCells 9)
  have c1 := (cell_of_heap hg i).trans HCX.out
  obtain ⟨X, hX⟩ : ∃ X : ByteArray, X = ⟨x.toArray⟩ := ⟨_, rfl⟩
  have hXl : X.data.toList = x := by rw [hX]
  rw [← hX] at c1
  clear hX
  subst hXl
  go_upto_region 5 with fail
  change Code.wp _ _ _ _ (w1.alloc (.cells wordCells 9))
  generalize w1.alloc (.cells wordCells 9) = w2 at *
  generalize w1.heap.size = gb at *
  clear hg HCX
  have hsx : X.size ≤ 6 := hlen.2
  have hcv := run_bytes_of_string (P := Tryd.prog) w2 9 37 5 X Tryd.underlying9 Tryd.underlying37 Tryd.underlying5
  have hcap := grownCap_ge w2 X.size 0 5
  generalize grownCap w2 X.size 0 5 = cap at *
  have hMb := (hM2.alloc (.cells (bytesRow X cap) 5 ((bytesRow X cap).size, (bytesRow X cap).size + 1))).drew
  have hT3 := (hT2.mods ((Mods.refl [] w2).alloc (.cells (bytesRow X cap) 5 ((bytesRow X cap).size, (bytesRow X cap).size + 1)))).mods (Mods.refl [] _).drew
  have hBr : BRow (w2.alloc (.cells (bytesRow X cap) 5 ((bytesRow X cap).size, (bytesRow X cap).size + 1))).drew w2.heap.size X.data.toList := by
    refine ⟨_, _, heap_alloc_new w2.drew _, ?_, fun j x hj => ?_⟩
    · show X.size ≤ (bytesRow X cap).size
      unfold bytesRow
      rw [Array.size_append, Array.size_map]
      exact Nat.le_add_right _ _
    · have hj2 : j < X.size := (List.getElem?_eq_some_iff.1 hj).1
      rw [bytesRow_at X _ j hj2]
      rw [Array.getElem?_toList, Array.getElem?_eq_getElem hj2] at hj
      cases hj
      rfl
  have HB := Lib.hid hBr
  have HK := Lib.hid hkey
  clear hBr hkey
  go_upto_region 7 with fail
  clear hcv
  have hgx := hM2.size
  generalize (w2.alloc (.cells (bytesRow X cap) 5 ((bytesRow X cap).size, (bytesRow X cap).size + 1))).drew = w3 at *
  generalize w2.heap.size = gx at *
  clear hT2 hT3
  go_wp2_with fail
  go_loopw [9] (fun t9 wr => ∃ (j : Nat) (B : List UInt8), j ≤ X.size ∧ t9 = .int .i64 j ∧ Mods [] w wr ∧ Hid (BRow wr gx B) ∧ Hid (LowRel X.data.toList j B)) (fun t9 _ => X.size - (intOf t9).toNat)
  case atStart => exact ⟨0, X.data.toList, by omega, rfl, hMb, HB, Lib.hid (LowRel.start HK.out)⟩
  case round =>
    obtain ⟨j, B, hj, rfl, hMr, HBr, HL⟩ := hrel
    by_cases hlt : j < X.size
    · have hB := HL.out.at hlt
      have hlow := HL.out.low HK.out hlt
      have hskip := HL.out.skip
      have hc4 := key_caps HK.out _ (List.getElem_mem (show j < X.data.toList.length from hlt))
      generalize X.data.toList[j]'hlt = c at *
      obtain ⟨hc, hfr⟩ := HBr.out.cell hB
      have hset := HBr.out.set j (c + 32)
      have hc5 := (low_c hc4).2.2.1
      have hwz : IntKind.u8.wrap ((c.toNat : Int) + 32) = ((c + 32).toNat : Int) := by rw [hc5, IntWalk.u8_in _ (by omega)]; omega
      have hMs := hMr.setCell (p := ⟨gx, j, none⟩) (.inr hgx) (bv (c + 32))
      unfold bv at hc hset hMs
      have H1 := Lib.hid hlow
      have H2 := Lib.hid hskip
      have H3 := Lib.hid hset
      clear hlow hskip hset hB hc5 hc4 HL
      go_wp2_with fail
      · refine ⟨⟨j + 1, _, by omega, by go_num, hMs, H3, H1⟩, by simp [intOf]; omega⟩
      · exact ⟨⟨j + 1, B, by omega, by go_num, hMr, HBr, H2⟩, by simp [intOf]; omega⟩
    · obtain rfl : j = X.size := by omega
      have hTr := hT.mods hMr
      obtain ⟨S, hS⟩ : ∃ S : ByteArray, S = ⟨B.toArray⟩ := ⟨_, rfl⟩
      have hSl : S.data.toList = B := by rw [hS]
      have hSz : S.size = X.size := by rw [size_list, hSl, HL.out.len]; rfl
      have hB0 : B ≠ [] := by intro h; have := HL.out.len; rw [h] at this; exact hlen.1 (List.length_eq_zero_iff.1 this.symm)
      have hcaps := HL.out.caps
      have hlets := HL.out.lets
      have hl1 := lex_word B hB0 hlets (by rw [hcaps]; exact HK.out)
      have hl2 := lex_name (B ++ [95, 49]) (by simp) (by rw [List.head_append_left hB0]; exact hlets _ (List.head_mem hB0)) (by
        intro y hy
        rcases List.mem_append.1 hy with h | h
        · exact let_LD (hlets y h)
        · clear hy; revert h; revert y; decide) (key_under (by simp)) (by rw [List.length_append, HL.out.len]; show X.size + 2 ≤ 40; omega)
      have hkk : isKey S.data.toList = (S.toList == X.toList) := by
        rw [hSl, ByteArray.toList_eq, ByteArray.toList_eq, hSl]
        cases hkb : isKey B with
        | true => rw [← key_same hkb, hcaps]; simp
        | false =>
          symm
          rw [beq_eq_false_iff_ne]
          intro h
          rw [h, HK.out] at hkb; cases hkb
      have hcvs : ∀ W, BRow W gx B → (convert 37 9 (.slice (some ⟨gx, 0, none⟩) X.size cap)).run Tryd.prog W = .ok (.string S) W := by
        intro W hW
        have := run_convert_bytes_back (P := Tryd.prog) W 37 9 5 ⟨gx, 0, none⟩ cap B Tryd.underlying37 Tryd.underlying5 Tryd.underlying9 (by
          intro k hk
          rw [addr_add, Nat.zero_add]
          exact (hW.cell (List.getElem?_eq_getElem hk)).1)
        rw [hS]
        rwa [HL.out.len] at this
      have ha1 := all_good wr hTr S (by omega) _ (by rw [hSl]; exact hl1)
      have ha2 := fun W (h : Tabs W) => all_good W h (S ++ ⟨#[95, 49]⟩) (by rw [ByteArray.size_append]; show S.size + 2 ≤ _; omega) _ (by rw [app_list, hSl]; exact hl2)
      have ht1 : (⟨(B.map upc).toArray⟩ : ByteArray) = X := by rw [hcaps]
      have ht2 : (⟨(B ++ [95, 49]).toArray⟩ : ByteArray) = S ++ ⟨#[95, 49]⟩ := (bytes_of (by rw [app_list, hSl])).symm
      have hc1 : ¬ 9223372036854775807 < S.size + 2 := by omega
      have hkey := HK.out
      have H1 := Lib.hid ht1
      have H2 := Lib.hid ht2
      clear hlt hl1 hl2 ht1 ht2 HL hS hSl hcaps hlets hB0 hsx
      have hcv1 := hcvs _ HBr.out
      go_wp2_with fail
      (with_reducible refine ha1.mono ?_)
      rintro e w4 ⟨g1, cap1, rfl, hM4, hA1, hx1⟩
      clear ha1 hcv1
      have hT4 := hTr.mods hM4
      have hcv2 := hcvs _ (HBr.out.mods hM4)
      go_wp2_with fail
      (with_reducible refine (ha2 w4 hT4).mono ?_)
      rintro e w5 ⟨g2, cap2, rfl, hM5, hA2, hx2⟩
      have hA1' := hA1.mods hM5
      have hB5 := (HBr.out.mods hM4).mods hM5
      have hT5 := hT4.mods hM5
      have hcv3 := hcvs _ hB5
      have c0 : w5.cell? ⟨g1, 0, none⟩ = some (.int .i64 1) := hA1' 0 _ rfl
      have c1 : w5.cell? ⟨g1, 2, none⟩ = some (.string X) := by
        have := hA1' 2 _ rfl
        rwa [H1.out] at this
      have c2 : w5.cell? ⟨g2, 0, none⟩ = some (.int .i64 2) := hA2 0 _ rfl
      have c3 : w5.cell? ⟨g2, 2, none⟩ = some (.string (S ++ ⟨#[95, 49]⟩)) := by
        have := hA2 2 _ rfl
        rwa [H2.out] at this
      have k0 : ∀ k : Later w5, k.val.cell? ⟨g1, 0, none⟩ = some (.int .i64 1) := fun k => k.mods.cell c0 (by simp)
      have k1 : ∀ k : Later w5, k.val.cell? ⟨g1, 2, none⟩ = some (.string X) := fun k => k.mods.cell c1 (by simp)
      have k2 : ∀ k : Later w5, k.val.cell? ⟨g2, 0, none⟩ = some (.int .i64 2) := fun k => k.mods.cell c2 (by simp)
      have k3 : ∀ k : Later w5, k.val.cell? ⟨g2, 2, none⟩ = some (.string (S ++ ⟨#[95, 49]⟩)) := fun k => k.mods.cell c3 (by simp)
      have k4 : ∀ k : Later w5, (convert 37 9 (.slice (some ⟨gx, 0, none⟩) X.size cap)).run Tryd.prog k.val = .ok (.string S) k.val := fun k => hcvs _ (hB5.mods k.mods)
      have kcall : ∀ (k : Later w5) (Z : ByteArray) (b : Bool), isKey Z.data.toList = b → Calls Tryd.prog 16 #[.string Z] k.val fun e w' => e = .returned (.bool b) ∧ ∃ k' : Later w5, w' = k'.val := fun k Z b hb =>
        (key_any k.val (hT5.mods k.mods) Z).mono fun e w' h => ⟨by rw [h.1, hb], ⟨_, k.mods.trans h.2 (by simp)⟩, rfl⟩
      clear ha2 hcv2 hA1 hA1' hA2 c0 c1 c2 c3 hcv3
      go_upto_region 14 with fail
      clear hcvs
      have HKK := Lib.hid hkk
      have HKE := Lib.hid hkey
      have HKC := Lib.hid kcall
      clear hkk hkey kcall
      dsimp only [List.append]
      refine region_later (by kernel_rfl) (by kernel_rfl) ?_
      repeat (go_big_quiet_step (first | with_reducible exact HKC.out _ X true HKE.out | with_reducible exact HKC.out _ S _ HKK.out))
      refine wpQuiet_nil ?_
      rintro _ ⟨kk, rfl⟩
      go_wp2_with fail
      go_ret
      exact ⟨rfl, ((hMr.trans hM4 (by simp)).trans hM5 (by simp)).trans kk.mods (by simp)⟩
end Go.Proofs.YtcjijjdoglpjbaaDoor
