/-
  The law ParseWords, walked. No condition but that Go's own variables hold what they were laid with.
-/
import Derived.Test.YtgbpoaimbjlamaaGreatDoorMPx
import Derived.Test.YtgbpoaimbjlamaaGreatDoorPtQ
import Derived.Test.YtgbpoaimbjlamaaGreatDoorMPu
namespace Go.Proofs.YtgbpoaimbjlamaaGreatDoor
open Go.RowKit
set_option linter.unusedVariables false

/-- Bytes lie in a block. -/
def BRow (w : World) (g : Nat) (B : List UInt8) : Prop := ∃ arr mk, w.heap[g]? = some (.cells arr 5 mk) ∧ B.length ≤ mk.1 ∧ ∀ (j : Nat) (x : UInt8), B[j]? = some x → arr[j]? = some (bv x)
theorem BRow.cell {w : World} {g : Nat} {B : List UInt8} (h : BRow w g B) {j : Nat} {x : UInt8} (hj : B[j]? = some x) : w.cell? ⟨g, j, none⟩ = some (bv x) ∧ w.frozen? ⟨g, j, none⟩ = false := by
  obtain ⟨arr, mk, h1, h2, h3⟩ := h
  refine ⟨(cell_of_heap h1 j).trans (h3 j x hj), ?_⟩
  have := (List.getElem?_eq_some_iff.1 hj).1
  unfold World.frozen?
  rw [h1]
  show (decide (mk.1 ≤ j) && _) = false
  rw [decide_eq_false (by omega)]; rfl
theorem BRow.set {w : World} {g : Nat} {B : List UInt8} (h : BRow w g B) (j : Nat) (x : UInt8) : BRow (w.setCell ⟨g, j, none⟩ (bv x)) g (B.set j x) := by
  obtain ⟨arr, mk, h1, h2, h3⟩ := h
  refine ⟨_, mk, heap_setCell_same h1 j (bv x), by rw [List.length_set]; exact h2, fun k y hk => ?_⟩
  have hkl := (List.getElem?_eq_some_iff.1 hk).1
  rw [List.length_set] at hkl
  by_cases hjk : j = k
  · subst hjk
    rw [List.getElem?_set_self hkl] at hk
    cases hk
    have hB := h3 j _ (List.getElem?_eq_getElem hkl)
    have := (Array.getElem?_eq_some_iff.1 hB).1
    rw [Array.getElem?_setIfInBounds_self_of_lt this]
  · rw [List.getElem?_set_ne hjk] at hk
    rw [Array.getElem?_setIfInBounds_ne hjk]
    exact h3 k y hk
theorem BRow.mods {w w' : World} {g : Nat} {B : List UInt8} (h : BRow w g B) (hM : Mods [] w w') : BRow w' g B := by
  obtain ⟨arr, mk, h1, h2, h3⟩ := h
  exact ⟨arr, mk, hM.heap h1 (by simp), h2, h3⟩

/-- The law's words lie in a block. -/
def WRow (w : World) (g : Nat) (f : Nat → Bs) : Prop := ∃ arr T, w.heap[g]? = some (.cells arr T (0, 0)) ∧ arr.size = 8 ∧ ∀ j, j < 8 → arr[j]? = some (.string ⟨(f j).toArray⟩)
theorem WRow.set {w : World} {g : Nat} {f : Nat → Bs} (h : WRow w g f) {j : Nat} {v : Bs} (hj : j < 8) : WRow (w.setCell ⟨g, j, none⟩ (.string ⟨v.toArray⟩)) g (fun i => if i = j then v else f i) := by
  obtain ⟨arr, T, h1, h2, h3⟩ := h
  refine ⟨_, T, heap_setCell_same h1 _ _, by simpa using h2, fun i hi => ?_⟩
  by_cases hij : i = j
  · subst hij
    rw [Array.getElem?_setIfInBounds_self_of_lt (by omega)]
    simp
  · rw [Array.getElem?_setIfInBounds_ne (fun h => hij h.symm)]
    simp only [hij, if_false]
    exact h3 i hi
theorem WRow.cell {w : World} {g : Nat} {f : Nat → Bs} (h : WRow w g f) {j : Nat} (hj : j < 8) : w.cell? ⟨g, j, none⟩ = some (.string ⟨(f j).toArray⟩) := by
  obtain ⟨arr, T, h1, h2, h3⟩ := h
  rw [cell_of_heap h1]; exact h3 j hj
theorem WRow.free {w : World} {g : Nat} {f : Nat → Bs} (h : WRow w g f) (j : Nat) : w.frozen? ⟨g, j, none⟩ = false := by
  obtain ⟨arr, T, h1, h2, h3⟩ := h
  exact frozen_of_heap h1 j
theorem WRow.congr {w : World} {g : Nat} {f f' : Nat → Bs} (h : WRow w g f) (hf : ∀ j, j < 8 → f j = f' j) : WRow w g f' := by
  obtain ⟨arr, T, h1, h2, h3⟩ := h
  exact ⟨arr, T, h1, h2, fun j hj => by rw [← hf j hj]; exact h3 j hj⟩
theorem WRow.mods {w w' : World} {L : List Nat} {g : Nat} {f : Nat → Bs} (h : WRow w g f) (hM : Mods L w w') (hg : g ∉ L) : WRow w' g f := by
  obtain ⟨arr, T, h1, h2, h3⟩ := h
  exact ⟨arr, T, hM.heap h1 hg, h2, h3⟩
def wordCells13 : Array Value := #[.string ⟨#[83, 69, 76, 69, 67, 84]⟩, .string ⟨#[70, 82, 79, 77]⟩, .string ⟨#[87, 72, 69, 82, 69]⟩, .string ⟨#[71, 82, 79, 85, 80]⟩, .string ⟨#[66, 89]⟩, .string ⟨#[79, 82, 68, 69, 82]⟩, .string ⟨#[76, 73, 77, 73, 84]⟩, .string ⟨#[79, 70, 70, 83, 69, 84]⟩]
theorem WRow.start (w : World) : WRow (w.alloc (.cells wordCells13 9)) w.heap.size wwU := by
  refine ⟨_, _, heap_alloc_new w _, rfl, fun j hj => ?_⟩
  rcases ww_cases hj with rfl | rfl | rfl | rfl | rfl | rfl | rfl | rfl <;> rfl
/-- So many words have been turned. -/
def wordsAt (small i j : Nat) : Bs := if j < i then wwV small j else wwU j
/-- So many bytes of a word have been turned. -/
def lowN (X : Bs) (j : Nat) : Bs := (X.take j).map (fun c => c + 32) ++ X.drop j
theorem lowN_zero (X : Bs) : lowN X 0 = X := by simp [lowN]
theorem lowN_all (X : Bs) : lowN X X.length = X.map (fun c => c + 32) := by simp [lowN]
theorem lowN_len (X : Bs) (j : Nat) : (lowN X j).length = X.length := by simp [lowN]; omega
theorem lowN_at (X : Bs) (j : Nat) (h : j < X.length) : (lowN X j)[j]? = some X[j] := by
  unfold lowN
  rw [List.getElem?_append_right (by rw [List.length_map, List.length_take]; omega), List.length_map, List.length_take, List.getElem?_drop]
  rw [show j + (j - min j X.length) = j by omega]
  exact List.getElem?_eq_getElem h
theorem lowN_set (X : Bs) (j : Nat) (h : j < X.length) : (lowN X j).set j (X[j] + 32) = lowN X (j + 1) := by
  unfold lowN
  rw [List.set_append_right _ _ (by rw [List.length_map, List.length_take]; omega), List.length_map, List.length_take, List.take_add_one, List.getElem?_eq_getElem h, List.map_append]
  rw [show j - min j X.length = 0 by omega]
  have e : (X.drop j).set 0 (X[j] + 32) = (X[j] + 32) :: X.drop (j + 1) := by rw [List.drop_eq_getElem_cons h]; rfl
  rw [e]
  simp
theorem ww_low {i : Nat} (h : i < 8) : ∀ c ∈ wwU i, (c + 32).toNat = c.toNat + 32 ∧ c.toNat + 32 < 256 := by
  rcases ww_cases h with rfl | rfl | rfl | rfl | rfl | rfl | rfl | rfl <;> decide
theorem wsS_zero (e : Bs) : wsS 0 e = [83, 69, 76, 69, 67, 84, 32, 97, 32, 70, 82, 79, 77, 32, 116, 32, 87, 72, 69, 82, 69, 32] ++ e ++ [32, 71, 82, 79, 85, 80, 32, 66, 89, 32, 97, 32, 79, 82, 68, 69, 82, 32, 66, 89, 32, 49, 32, 76, 73, 77, 73, 84, 32, 53, 32, 79, 70, 70, 83, 69, 84, 32, 54] := by
  unfold wsS
  rw [show wwV 0 0 = [83, 69, 76, 69, 67, 84] from rfl, show wwV 0 1 = [70, 82, 79, 77] from rfl, show wwV 0 2 = [87, 72, 69, 82, 69] from rfl, show wwV 0 3 = [71, 82, 79, 85, 80] from rfl, show wwV 0 4 = [66, 89] from rfl, show wwV 0 5 = [79, 82, 68, 69, 82] from rfl, show wwV 0 6 = [76, 73, 77, 73, 84] from rfl, show wwV 0 7 = [79, 70, 70, 83, 69, 84] from rfl]
  simp only [List.append_assoc, List.cons_append, List.nil_append]
set_option maxRecDepth 100000 in
set_option maxHeartbeats 8000000 in
theorem parseWords_walk (w : World) (hT : Tabs2 w) (a : Option Addr) (l : List PartT) (cap : Nat) (hP : PartsIn w a l) (hl : l.length ≤ 9223372036854775807) (hok : ∀ p ∈ l, PartOk p) (n : Nat) (hn : n < 256) :
    Calls Tryz.prog 7 #[.slice a l.length cap, .int .u8 n] w fun e w' => e = .returned (.bool true) ∧ Mods [] w w' := by
  have hex := examples13_any w hT
  have hxp := fun w1 (hM : Mods [] w w1) => expr13_any w1 a l cap (hP.mods hM) hl hok
  have HX := Lib.hid hxp
  have HT := Lib.hid hT
  clear hT hxp hP hok
  have hsm := exprV_small l
  have hlaw := words_law l n
  have HLAW := Lib.hid hlaw
  clear hlaw
  generalize exprV l = EV at *
  generalize l.length = len at *
  go_enter Tryz.func7, Tryz.ntmps7
  go_wp2_with fail
  (with_reducible refine hex.mono ?_)
  rintro e wa ⟨rfl, hMa⟩
  clear hex
  have hw0 := WRow.start wa
  have hMb := hMa.trans ((Mods.refl [] wa).alloc (.cells wordCells13 9)) (by simp)
  have hga : w.heap.size ≤ wa.heap.size := hMa.size
  unfold wordCells13 at hw0 hMb
  go_upto_region 5 with fail
  generalize wa.alloc (.cells #[.string ⟨#[83, 69, 76, 69, 67, 84]⟩, .string ⟨#[70, 82, 79, 77]⟩, .string ⟨#[87, 72, 69, 82, 69]⟩, .string ⟨#[71, 82, 79, 85, 80]⟩, .string ⟨#[66, 89]⟩, .string ⟨#[79, 82, 68, 69, 82]⟩, .string ⟨#[76, 73, 77, 73, 84]⟩, .string ⟨#[79, 70, 70, 83, 69, 84]⟩] 9) = wb at *
  generalize wa.heap.size = g at *
  have HW0 := Lib.hid hw0
  clear hw0 hMa
  go_wp2_with fail
  go_loopg [7] 8 (fun gk t7 wr => ∃ i : Nat, i + gk = 8 ∧ t7 = .int .i64 i ∧ Mods [] w wr ∧ Hid (WRow wr g (wordsAt n i)))
  case atStart => exact ⟨0, by omega, rfl, hMb, HW0⟩
  obtain ⟨i, hi, rfl, hMr, HWR⟩ := hrel
  rcases Nat.lt_or_ge i 8 with hlt | hge
  · have hli : (i : Int) < 8 := by omega
    have c0 := HWR.out.cell hlt
    have hfr := HWR.out.free i
    have hci : wordsAt n i i = wwU i := by unfold wordsAt; rw [if_neg (by omega)]
    rw [hci] at c0
    go_upto_if 35 with fail
    rw [bit_eq]
    by_cases hb : n / 2 ^ i % 2 = 1
    · rw [decide_eq_true hb]
      have hwl := wwU_len hlt
      have hlow := ww_low hlt
      have hnew : wwV n i = (wwU i).map (fun c => c + 32) := by unfold wwV; rw [if_pos hb]
      clear hci hb
      obtain ⟨S, hS⟩ : ∃ S : ByteArray, (⟨(wwU i).toArray⟩ : ByteArray) = S := ⟨_, rfl⟩
      have hSl : S.data.toList = wwU i := by rw [← hS]
      have hSs : S.size = (wwU i).length := by rw [← hS]; rfl
      rw [hS] at c0
      rw [← hSl] at hwl hlow hnew
      have hwl2 : S.size ≤ 6 ∧ 1 ≤ S.size := ⟨hwl.2, hwl.1⟩
      clear hS hSl hSs hwl
      have hgr : g < wr.heap.size := by
        obtain ⟨arr, T, h1, -⟩ := HWR.out
        exact (Array.getElem?_eq_some_iff.1 h1).1
      have hcv := run_bytes_of_string (P := Tryz.prog) wr 9 38 5 S Tryz.underlying9 Tryz.underlying38 Tryz.underlying5
      have hcap := grownCap_ge wr S.size 0 5
      generalize grownCap wr S.size 0 5 = cp at *
      have hBr : BRow (wr.alloc (.cells (bytesRow S cp) 5 ((bytesRow S cp).size, (bytesRow S cp).size + 1))).drew wr.heap.size S.data.toList := by
        refine ⟨_, _, heap_alloc_new wr.drew _, ?_, fun j x hj => ?_⟩
        · show S.size ≤ (bytesRow S cp).size
          unfold bytesRow
          rw [Array.size_append, Array.size_map]
          exact Nat.le_add_right _ _
        · have hj2 : j < S.size := (List.getElem?_eq_some_iff.1 hj).1
          rw [bytesRow_at S _ j hj2]
          rw [Array.getElem?_toList, Array.getElem?_eq_getElem hj2] at hj
          cases hj
          rfl
      have hM3 := ((Mods.refl [] wr).alloc (.cells (bytesRow S cp) 5 ((bytesRow S cp).size, (bytesRow S cp).size + 1))).drew
      have hg3 : wr.heap.size < (wr.alloc (.cells (bytesRow S cp) 5 ((bytesRow S cp).size, (bytesRow S cp).size + 1))).drew.heap.size := by
        show wr.heap.size < (wr.heap.push _).size
        rw [Array.size_push]; exact Nat.lt_succ_self _
      go_upto_region 10 with fail
      clear hcv
      generalize (wr.alloc (.cells (bytesRow S cp) 5 ((bytesRow S cp).size, (bytesRow S cp).size + 1))).drew = w3 at *
      have hMw3 := hMr.trans hM3 (by simp)
      have hwx : w.heap.size ≤ wr.heap.size := hMr.size
      have HW3 : Hid (WRow w3 g (wordsAt n i)) := Lib.hid (HWR.out.mods hM3 (by simp))
      clear hM3 HWR c0 hfr hMr
      obtain ⟨gx, hgx⟩ : ∃ gx, wr.heap.size = gx := ⟨_, rfl⟩
      rw [hgx] at hBr hgr hg3 hwx
      rw [hgx]
      clear hgx
      have HB := Lib.hid hBr
      have HNEW := Lib.hid hnew
      have HLOW := Lib.hid hlow
      clear hBr hnew hlow
      have hM33 := Mods.refl [gx] w3
      go_wp2_with fail
      go_loopg [9] S.size (fun gk t9 wq => ∃ j : Nat, j + gk = S.size ∧ t9 = .int .i64 j ∧ Mods [gx] w3 wq ∧ Hid (BRow wq gx (lowN S.data.toList j)))
      case atStart => exact ⟨0, by omega, rfl, hM33, Lib.hid (by rw [lowN_zero]; exact HB.out)⟩
      obtain ⟨j, hj, rfl, hMq, HBq⟩ := hrel
      rcases Nat.lt_or_ge j S.size with hjlt | hjge
      · have hjl : j < S.data.toList.length := hjlt
        have hji : (j : Int) < (S.size : Int) := by omega
        have hat := lowN_at S.data.toList j hjl
        have hset := lowN_set S.data.toList j hjl
        have hmem := List.getElem_mem hjl
        generalize S.data.toList[j]'hjl = c at *
        obtain ⟨hc, hfr⟩ := HBq.out.cell hat
        have hst := HBq.out.set j (c + 32)
        rw [hset] at hst
        obtain ⟨hl1, hl2⟩ := HLOW.out c hmem
        have hwz : IntKind.u8.wrap ((c.toNat : Int) + 32) = ((c + 32).toNat : Int) := by rw [hl1, IntWalk.u8_in _ (by omega)]; omega
        have hMs := hMq.setCell (p := ⟨gx, j, none⟩) (.inl (by simp)) (bv (c + 32))
        unfold bv at hc hst hMs
        have HST := Lib.hid hst
        clear hat hset hmem hst hl1 hl2 hjl HBq
        go_wp2_with fail
        go_roundg (S.size - (j + 1))
        case measure => omega
        case rel => exact ⟨j + 1, by omega, by go_num, hMs, HST⟩
      · obtain rfl : j = S.size := by omega
        have hcvs : (convert 38 9 (.slice (some ⟨gx, 0, none⟩) S.size cp)).run Tryz.prog wr = .ok (.string ⟨(wwV n i).toArray⟩) wr := by
          have hB := HBq.out
          have hls : S.data.toList.length = S.size := rfl
          rw [← hls, lowN_all, ← HNEW.out] at hB
          have := run_convert_bytes_back (P := Tryz.prog) wr 38 9 5 ⟨gx, 0, none⟩ cp (wwV n i) Tryz.underlying38 Tryz.underlying5 Tryz.underlying9 (by
            intro k hk
            rw [addr_add, Nat.zero_add]
            exact (hB.cell (List.getElem?_eq_getElem hk)).1)
          have hlen : (wwV n i).length = S.size := by rw [HNEW.out, List.length_map]; rfl
          rwa [hlen] at this
        have hWq := HW3.out.mods hMq (by simp; omega)
        have c0 := hWq.cell hlt
        have hfr := hWq.free i
        have HN : Hid (WRow (wr.setCell ⟨g, i, none⟩ (.string ⟨(wwV n i).toArray⟩)) g (wordsAt n (i + 1))) := Lib.hid ((hWq.set (v := wwV n i) hlt).congr fun j hj => by
          unfold wordsAt
          by_cases h2 : j = i
          · rw [if_pos h2, if_pos (by omega), h2]
          · rw [if_neg h2]
            by_cases h1 : j < i
            · rw [if_pos h1, if_pos (by omega)]
            · rw [if_neg h1, if_neg (by omega)])
        have hMn := (hMw3.trans hMq (by simp; omega)).setCell (p := ⟨g, i, none⟩) (.inr hga) (.string ⟨(wwV n i).toArray⟩)
        generalize (⟨(wwV n i).toArray⟩ : ByteArray) = NW at *
        clear hWq HW3 HBq HNEW HLOW hjge hMq hMw3
        go_wp2_with fail
        go_roundg (8 - (i + 1))
        case measure => omega
        case rel => exact ⟨i + 1, by omega, by go_num, hMn, HN⟩
    · rw [decide_eq_false hb]
      have HN : Hid (WRow wr g (wordsAt n (i + 1))) := Lib.hid (HWR.out.congr fun j hj => by
        unfold wordsAt
        by_cases h1 : j < i
        · rw [if_pos h1, if_pos (by omega)]
        · rw [if_neg h1]
          by_cases h2 : j = i
          · rw [if_pos (by omega), h2]; unfold wwV; rw [if_neg hb]
          · rw [if_neg (by omega)])
      clear hb
      go_wp2_with fail
      go_roundg (8 - (i + 1))
      case measure => omega
      case rel => exact ⟨i + 1, by omega, by go_num, hMr, HN⟩
  · obtain rfl : i = 8 := by omega
    have hx := HX.out wr hMr
    have hcl : ∀ j, j < 8 → wr.cell? ⟨g, j, none⟩ = some (.string ⟨(wwV n j).toArray⟩) := fun j hj => by
      have := HWR.out.cell hj
      unfold wordsAt at this
      rw [if_pos hj] at this
      exact this
    have hwz : ∀ j, j < 8 → (⟨(wwV n j).toArray⟩ : ByteArray).size ≤ 6 := fun j hj => by
      show (wwV n j).length ≤ 6
      rw [wwV_len n hj]; exact (wwU_len hj).2
    have hcat : (⟨(wwV n 0).toArray⟩ : ByteArray) ++ ⟨#[32, 97, 32]⟩ ++ ⟨(wwV n 1).toArray⟩ ++ ⟨#[32, 116, 32]⟩ ++ ⟨(wwV n 2).toArray⟩ ++ ⟨#[32]⟩ ++ ⟨EV.toArray⟩ ++ ⟨#[32]⟩ ++ ⟨(wwV n 3).toArray⟩ ++ ⟨#[32]⟩ ++ ⟨(wwV n 4).toArray⟩ ++ ⟨#[32, 97, 32]⟩ ++ ⟨(wwV n 5).toArray⟩ ++ ⟨#[32]⟩ ++ ⟨(wwV n 4).toArray⟩ ++ ⟨#[32, 49, 32]⟩ ++ ⟨(wwV n 6).toArray⟩ ++ ⟨#[32, 53, 32]⟩ ++ ⟨(wwV n 7).toArray⟩ ++ ⟨#[32, 54]⟩ = ⟨(wsS n EV).toArray⟩ := by
      have e0 : (⟨#[32]⟩ : ByteArray) = ⟨([32] : Bs).toArray⟩ := rfl
      have e1 : (⟨#[32, 116, 32]⟩ : ByteArray) = ⟨([32, 116, 32] : Bs).toArray⟩ := rfl
      have e2 : (⟨#[32, 49, 32]⟩ : ByteArray) = ⟨([32, 49, 32] : Bs).toArray⟩ := rfl
      have e3 : (⟨#[32, 53, 32]⟩ : ByteArray) = ⟨([32, 53, 32] : Bs).toArray⟩ := rfl
      have e4 : (⟨#[32, 54]⟩ : ByteArray) = ⟨([32, 54] : Bs).toArray⟩ := rfl
      have e5 : (⟨#[32, 97, 32]⟩ : ByteArray) = ⟨([32, 97, 32] : Bs).toArray⟩ := rfl
      rw [e0, e1, e2, e3, e4, e5]
      simp only [cat2]
      rfl
    have hcat2 : (⟨#[83, 69, 76, 69, 67, 84, 32, 97, 32, 70, 82, 79, 77, 32, 116, 32, 87, 72, 69, 82, 69, 32]⟩ : ByteArray) ++ ⟨EV.toArray⟩ ++ ⟨#[32, 71, 82, 79, 85, 80, 32, 66, 89, 32, 97, 32, 79, 82, 68, 69, 82, 32, 66, 89, 32, 49, 32, 76, 73, 77, 73, 84, 32, 53, 32, 79, 70, 70, 83, 69, 84, 32, 54]⟩ = ⟨(wsS 0 EV).toArray⟩ := by
      rw [wsS_zero]
      exact cat3 _ _ _
    have hEs : (⟨EV.toArray⟩ : ByteArray).size ≤ 352 := hsm
    obtain ⟨p, q, hp, hq, hpq, h5, h6⟩ := HLAW.out
    have hl1 : (wsS n EV).length ≤ 9223372036854775807 := by have := wsS_small n EV; omega
    have hl2 : (wsS 0 EV).length ≤ 9223372036854775807 := by have := wsS_small 0 EV; omega
    have p1 := fun w (hT : Tabs2 w) => parse_good w hT.1 (wsS n EV) p hp hl1
    have p2 := fun w (hT : Tabs2 w) => parse_good w hT.1 (wsS 0 EV) q hq hl2
    rw [← hcat] at p1
    rw [← hcat2] at p2
    have c0 := hcl 0 (by decide)
    have c1 := hcl 1 (by decide)
    have c2 := hcl 2 (by decide)
    have c3 := hcl 3 (by decide)
    have c4 := hcl 4 (by decide)
    have c5 := hcl 5 (by decide)
    have c6 := hcl 6 (by decide)
    have c7 := hcl 7 (by decide)
    have z0 := hwz 0 (by decide)
    have z1 := hwz 1 (by decide)
    have z2 := hwz 2 (by decide)
    have z3 := hwz 3 (by decide)
    have z4 := hwz 4 (by decide)
    have z5 := hwz 5 (by decide)
    have z6 := hwz 6 (by decide)
    have z7 := hwz 7 (by decide)
    clear hcl hwz hcat hcat2 hp hq hl1 hl2 HLAW HWR HX hge hi HW0 hMb
    generalize (⟨(wwV n 0).toArray⟩ : ByteArray) = W0 at *
    generalize (⟨(wwV n 1).toArray⟩ : ByteArray) = W1 at *
    generalize (⟨(wwV n 2).toArray⟩ : ByteArray) = W2 at *
    generalize (⟨(wwV n 3).toArray⟩ : ByteArray) = W3 at *
    generalize (⟨(wwV n 4).toArray⟩ : ByteArray) = W4 at *
    generalize (⟨(wwV n 5).toArray⟩ : ByteArray) = W5 at *
    generalize (⟨(wwV n 6).toArray⟩ : ByteArray) = W6 at *
    generalize (⟨(wwV n 7).toArray⟩ : ByteArray) = W7 at *
    generalize (⟨EV.toArray⟩ : ByteArray) = E at *
    have HP1 := Lib.hid p1
    have HP2 := Lib.hid p2
    have HPQ := Lib.hid (And.intro hpq (And.intro h5 h6))
    clear p1 p2 hpq h5 h6
    go_wp2_with fail
    (with_reducible refine hx.mono ?_)
    rintro e wc ⟨rfl, hMc⟩
    have hMwc := hMr.trans hMc (by simp)
    have d0 := hMc.cell c0 (by simp)
    have d1 := hMc.cell c1 (by simp)
    have d2 := hMc.cell c2 (by simp)
    have d3 := hMc.cell c3 (by simp)
    have d4 := hMc.cell c4 (by simp)
    have d5 := hMc.cell c5 (by simp)
    have d6 := hMc.cell c6 (by simp)
    have d7 := hMc.cell c7 (by simp)
    clear hx c0 c1 c2 c3 c4 c5 c6 c7 hMc hMr
    go_upto_region 16 with fail
    have b1 : W0.size + 3 ≤ 9 := Nat.add_le_add z0 (Nat.le_refl 3)
    have b2 : W0.size + 3 + W1.size ≤ 15 := Nat.add_le_add b1 z1
    have b3 : W0.size + 3 + W1.size + 3 ≤ 18 := Nat.add_le_add b2 (Nat.le_refl 3)
    have b4 : W0.size + 3 + W1.size + 3 + W2.size ≤ 24 := Nat.add_le_add b3 z2
    have b5 : W0.size + 3 + W1.size + 3 + W2.size + 1 ≤ 25 := Nat.add_le_add b4 (Nat.le_refl 1)
    have b6 : W0.size + 3 + W1.size + 3 + W2.size + 1 + E.size ≤ 377 := Nat.add_le_add b5 hEs
    have b7 : W0.size + 3 + W1.size + 3 + W2.size + 1 + E.size + 1 ≤ 378 := Nat.add_le_add b6 (Nat.le_refl 1)
    have b8 : W0.size + 3 + W1.size + 3 + W2.size + 1 + E.size + 1 + W3.size ≤ 384 := Nat.add_le_add b7 z3
    have b9 : W0.size + 3 + W1.size + 3 + W2.size + 1 + E.size + 1 + W3.size + 1 ≤ 385 := Nat.add_le_add b8 (Nat.le_refl 1)
    have b10 : W0.size + 3 + W1.size + 3 + W2.size + 1 + E.size + 1 + W3.size + 1 + W4.size ≤ 391 := Nat.add_le_add b9 z4
    have b11 : W0.size + 3 + W1.size + 3 + W2.size + 1 + E.size + 1 + W3.size + 1 + W4.size + 3 ≤ 394 := Nat.add_le_add b10 (Nat.le_refl 3)
    have b12 : W0.size + 3 + W1.size + 3 + W2.size + 1 + E.size + 1 + W3.size + 1 + W4.size + 3 + W5.size ≤ 400 := Nat.add_le_add b11 z5
    have b13 : W0.size + 3 + W1.size + 3 + W2.size + 1 + E.size + 1 + W3.size + 1 + W4.size + 3 + W5.size + 1 ≤ 401 := Nat.add_le_add b12 (Nat.le_refl 1)
    have b14 : W0.size + 3 + W1.size + 3 + W2.size + 1 + E.size + 1 + W3.size + 1 + W4.size + 3 + W5.size + 1 + W4.size ≤ 407 := Nat.add_le_add b13 z4
    have b15 : W0.size + 3 + W1.size + 3 + W2.size + 1 + E.size + 1 + W3.size + 1 + W4.size + 3 + W5.size + 1 + W4.size + 3 ≤ 410 := Nat.add_le_add b14 (Nat.le_refl 3)
    have b16 : W0.size + 3 + W1.size + 3 + W2.size + 1 + E.size + 1 + W3.size + 1 + W4.size + 3 + W5.size + 1 + W4.size + 3 + W6.size ≤ 416 := Nat.add_le_add b15 z6
    have b17 : W0.size + 3 + W1.size + 3 + W2.size + 1 + E.size + 1 + W3.size + 1 + W4.size + 3 + W5.size + 1 + W4.size + 3 + W6.size + 3 ≤ 419 := Nat.add_le_add b16 (Nat.le_refl 3)
    have b18 : W0.size + 3 + W1.size + 3 + W2.size + 1 + E.size + 1 + W3.size + 1 + W4.size + 3 + W5.size + 1 + W4.size + 3 + W6.size + 3 + W7.size ≤ 425 := Nat.add_le_add b17 z7
    have b19 : W0.size + 3 + W1.size + 3 + W2.size + 1 + E.size + 1 + W3.size + 1 + W4.size + 3 + W5.size + 1 + W4.size + 3 + W6.size + 3 + W7.size + 2 ≤ 427 := Nat.add_le_add b18 (Nat.le_refl 2)
    have n1 := Nat.not_lt.2 (Nat.le_trans b1 (Nat.le_of_ble_eq_true (rfl : Nat.ble _ 9223372036854775807 = true)))
    have n2 := Nat.not_lt.2 (Nat.le_trans b2 (Nat.le_of_ble_eq_true (rfl : Nat.ble _ 9223372036854775807 = true)))
    have n3 := Nat.not_lt.2 (Nat.le_trans b3 (Nat.le_of_ble_eq_true (rfl : Nat.ble _ 9223372036854775807 = true)))
    have n4 := Nat.not_lt.2 (Nat.le_trans b4 (Nat.le_of_ble_eq_true (rfl : Nat.ble _ 9223372036854775807 = true)))
    have n5 := Nat.not_lt.2 (Nat.le_trans b5 (Nat.le_of_ble_eq_true (rfl : Nat.ble _ 9223372036854775807 = true)))
    have n6 := Nat.not_lt.2 (Nat.le_trans b6 (Nat.le_of_ble_eq_true (rfl : Nat.ble _ 9223372036854775807 = true)))
    have n7 := Nat.not_lt.2 (Nat.le_trans b7 (Nat.le_of_ble_eq_true (rfl : Nat.ble _ 9223372036854775807 = true)))
    have n8 := Nat.not_lt.2 (Nat.le_trans b8 (Nat.le_of_ble_eq_true (rfl : Nat.ble _ 9223372036854775807 = true)))
    have n9 := Nat.not_lt.2 (Nat.le_trans b9 (Nat.le_of_ble_eq_true (rfl : Nat.ble _ 9223372036854775807 = true)))
    have n10 := Nat.not_lt.2 (Nat.le_trans b10 (Nat.le_of_ble_eq_true (rfl : Nat.ble _ 9223372036854775807 = true)))
    have n11 := Nat.not_lt.2 (Nat.le_trans b11 (Nat.le_of_ble_eq_true (rfl : Nat.ble _ 9223372036854775807 = true)))
    have n12 := Nat.not_lt.2 (Nat.le_trans b12 (Nat.le_of_ble_eq_true (rfl : Nat.ble _ 9223372036854775807 = true)))
    have n13 := Nat.not_lt.2 (Nat.le_trans b13 (Nat.le_of_ble_eq_true (rfl : Nat.ble _ 9223372036854775807 = true)))
    have n14 := Nat.not_lt.2 (Nat.le_trans b14 (Nat.le_of_ble_eq_true (rfl : Nat.ble _ 9223372036854775807 = true)))
    have n15 := Nat.not_lt.2 (Nat.le_trans b15 (Nat.le_of_ble_eq_true (rfl : Nat.ble _ 9223372036854775807 = true)))
    have n16 := Nat.not_lt.2 (Nat.le_trans b16 (Nat.le_of_ble_eq_true (rfl : Nat.ble _ 9223372036854775807 = true)))
    have n17 := Nat.not_lt.2 (Nat.le_trans b17 (Nat.le_of_ble_eq_true (rfl : Nat.ble _ 9223372036854775807 = true)))
    have n18 := Nat.not_lt.2 (Nat.le_trans b18 (Nat.le_of_ble_eq_true (rfl : Nat.ble _ 9223372036854775807 = true)))
    have n19 := Nat.not_lt.2 (Nat.le_trans b19 (Nat.le_of_ble_eq_true (rfl : Nat.ble _ 9223372036854775807 = true)))
    clear b1 b2 b3 b4 b5 b6 b7 b8 b9 b10 b11 b12 b13 b14 b15 b16 b17 b18 b19
    go_quiet (fail)
    have hMwd := hMwc.drewN nq
    generalize wc.drewN nq = wd at *
    clear d0 d1 d2 d3 d4 d5 d6 d7 hMwc n1 n2 n3 n4 n5 n6 n7 n8 n9 n10 n11 n12 n13 n14 n15 n16 n17 n18 n19
    have hp1 := HP1.out wd (HT.out.later hMwd)
    go_wp2_with fail
    (with_reducible refine hp1.mono ?_)
    rintro e we ⟨pb, rfl, hMe, hQp, hokp⟩
    unfold PtrV
    have hMwe := hMwd.trans hMe (by simp)
    have HQP := Lib.hid (And.intro hQp hokp)
    clear hp1 hQp hokp hMe hMwd
    have hp2 := HP2.out we (HT.out.later hMwe)
    have m1 : ¬ 9223372036854775807 < 22 + E.size := by omega
    have m2 : ¬ 9223372036854775807 < 22 + E.size + 39 := by omega
    go_wp2_with fail
    (with_reducible refine hp2.mono ?_)
    rintro e wf ⟨qb, rfl, hMf, hQq, hokq⟩
    unfold PtrV
    have hMwf := hMwe.trans hMf (by simp)
    have HQQ := Lib.hid (And.intro hQq hokq)
    clear hp2 hQq hokq m1 m2
    obtain ⟨r, hr, hrx⟩ := text_of ex_c
    have hp3 : Calls Tryz.prog 13 #[.string ⟨#[83, 69, 76, 69, 67, 84, 32, 65, 32, 70, 82, 79, 77, 32, 116]⟩] wf _ := parse_good wf (HT.out.1.mods hMwf) exC r hr (by decide)
    have HRX := Lib.hid hrx
    clear hr hrx
    go_wp2_with fail
    (with_reducible refine hp3.mono ?_)
    rintro e wg ⟨rb, rfl, hMg, hQr, hokr⟩
    unfold PtrV
    have hMwg := hMwf.trans hMg (by simp)
    have hMeg := hMf.trans hMg (by simp)
    have HQR := Lib.hid (And.intro hQr hokr)
    clear hp3 hQr hokr
    have ht1 := queryText_any wg pb p (HT.out.2.later hMwg) (HQP.out.1.later hMeg) HQP.out.2
    unfold PtrV at ht1
    obtain ⟨TX, hTX⟩ : ∃ X : ByteArray, (⟨(queryS p).toArray⟩ : ByteArray) = X := ⟨_, rfl⟩
    rw [hTX] at ht1
    have HTX := Lib.hid hTX
    clear hTX hMf hMwe hMwf
    go_wp2_with fail
    (with_reducible refine ht1.mono ?_)
    rintro e wh ⟨rfl, hMh⟩
    have hMwh := hMwg.trans hMh (by simp)
    have hMgh := hMg.trans hMh (by simp)
    have hMeh := hMeg.trans hMh (by simp)
    have ht2 := queryText_any wh qb q (HT.out.2.later hMwh) (HQQ.out.1.later hMgh) HQQ.out.2
    unfold PtrV at ht2
    rw [← HPQ.out.1, HTX.out] at ht2
    clear ht1 hMwg
    go_wp2_with fail
    (with_reducible refine ht2.mono ?_)
    rintro e wi ⟨rfl, hMi⟩
    have hMwi := hMwh.trans hMi (by simp)
    have hMei := hMeh.trans hMi (by simp)
    have hQ := HQP.out.1.later hMei
    obtain ⟨vi, von, vwh, vg, vo, hqb, -⟩ := hQ
    have cl := cell_of_heap hqb 10
    have co := cell_of_heap hqb 11
    change wi.cell? _ = some (.int .i64 p.limit) at cl
    change wi.cell? _ = some (.int .i64 p.offset) at co
    rw [HPQ.out.2.1] at cl
    rw [HPQ.out.2.2] at co
    have ht3 := queryText_any wi rb r (HT.out.2.later hMwi) (HQR.out.1.later (hMh.trans hMi (by simp))) HQR.out.2
    unfold PtrV at ht3
    rw [HRX.out] at ht3
    clear ht2 hqb hMh hMi hMgh hMwh hMei hMeh hMeg hMg
    go_wp2_with fail
    (with_reducible refine ht3.mono ?_)
    rintro e wj ⟨rfl, hMj⟩
    have hMwj := hMwi.trans hMj (by simp)
    clear ht3
    go_wp2_with fail
    go_ret
    exact ⟨rfl, hMwj⟩
end Go.Proofs.YtgbpoaimbjlamaaGreatDoor
