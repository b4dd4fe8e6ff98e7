/-
  The law SchemaRoom, walked whole. No condition but that Go's own variables hold what they were laid with.
-/
import Derived.Test.YtijapjnhjioknaaDoorScN
namespace Go.Proofs.YtijapjnhjioknaaDoor
open Go.RowKit
open Go.Maps
set_option linter.unusedVariables false

theorem rowsL_rep (cs : List Col) (r : List V) (hb : badAt cs r 0 = none) (hl : r.length = cs.length) : ∀ (m i : Nat), i ≤ 10000 → rowsL cs i (List.replicate m r) = if i + m ≤ 10000 then (0, 0, 0) else (10000, 0, 10) := by
  intro m
  induction m with
  | zero => intro i hi; rw [if_pos (by omega)]; rfl
  | succ m ih =>
    intro i hi
    rw [List.replicate_succ, rowsL_cons]
    by_cases h : i = 10000
    · rw [if_pos h, if_neg (by omega), h]; rfl
    · rw [if_neg h, hb]
      simp only
      rw [if_pos hl, ih (i + 1) (by omega)]
      by_cases h2 : i + 1 + m ≤ 10000
      · rw [if_pos h2, if_pos (by omega)]
      · rw [if_neg h2, if_neg (by omega)]

/-- Rows that all share one. -/
def RRow (w : World) (g ob n k : Nat) : Prop := ∃ arr, w.heap[g]? = some (.cells arr 35 (0, 0)) ∧ arr.size = n ∧ ∀ i, i < k → arr[i]? = some (.slice (some ⟨ob, 0, none⟩) 1 1)
theorem RRow.mods {w w' : World} {g ob n k : Nat} {L : List Nat} (h : RRow w g ob n k) (hM : Mods L w w') (hg : g ∉ L) : RRow w' g ob n k := by
  obtain ⟨arr, h1, h2⟩ := h
  exact ⟨arr, hM.heap h1 hg, h2⟩
theorem RRow.there {w : World} {g ob n k : Nat} (h : RRow w g ob n k) {j : Nat} (hj : j < n) : ∃ x, w.cell? ⟨g, j, none⟩ = some x ∧ w.frozen? ⟨g, j, none⟩ = false := by
  obtain ⟨arr, h1, h2, h3⟩ := h
  exact ⟨arr[j]'(by omega), by rw [cell_of_heap h1, Array.getElem?_eq_getElem], frozen_of_heap h1 _⟩
theorem RRow.set {w : World} {g ob n k : Nat} (h : RRow w g ob n k) (hj : k < n) : RRow (w.setCell ⟨g, k, none⟩ (.slice (some ⟨ob, 0, none⟩) 1 1)) g ob n (k + 1) := by
  obtain ⟨arr, h1, h2, h3⟩ := h
  refine ⟨_, heap_setCell_same h1 _ _, by simp [h2], fun i hi => ?_⟩
  rw [Array.getElem?_setIfInBounds]
  by_cases hik : k = i
  · rw [if_pos hik, if_pos (by omega)]
  · rw [if_neg hik]; exact h3 i (by omega)
theorem RRow.rows {w : World} {g ob n : Nat} {r : List V} (h : RRow w g ob n n) (hr : r.length = 1) (hV : ValsIn w (some ⟨ob, 0, none⟩) r []) : RowsIn w (some ⟨g, 0, none⟩) (List.replicate n r) [] := by
  obtain ⟨arr, h1, h2, h3⟩ := h
  intro _
  refine ⟨g, 0, rfl, by simp, fun i hi => ?_⟩
  rw [List.length_replicate] at hi
  simp only [List.getElem_replicate]
  refine ⟨_, 1, by omega, ?_, hV⟩
  rw [cell_of_heap h1, Nat.zero_add, h3 i hi, hr]

theorem ColsIn.drop {w : World} {ao : Option Addr} {cs : List Col} {L : List Nat} (h : ColsIn w ao cs L) : ColsIn w ao cs [] := fun h0 => by
  obtain ⟨b, off, h1, -, h2⟩ := h h0
  exact ⟨b, off, h1, by simp, h2⟩
theorem ValsIn.drop {w : World} {ao : Option Addr} {vs : List V} {L : List Nat} (h : ValsIn w ao vs L) : ValsIn w ao vs [] := fun h0 => by
  obtain ⟨b, off, h1, -, h2⟩ := h h0
  exact ⟨b, off, h1, by simp, h2⟩
theorem ColsIn.apart' {w : World} {b off : Nat} {cs : List Col} {L L' : List Nat} (h : ColsIn w (some ⟨b, off, none⟩) cs L') (hb : b ∉ L) : ColsIn w (some ⟨b, off, none⟩) cs L := fun h0 => by
  obtain ⟨b', off', h1, -, h2⟩ := h h0
  cases h1
  exact ⟨b, off, rfl, hb, h2⟩
theorem ValsIn.apart' {w : World} {b off : Nat} {vs : List V} {L L' : List Nat} (h : ValsIn w (some ⟨b, off, none⟩) vs L') (hb : b ∉ L) : ValsIn w (some ⟨b, off, none⟩) vs L := fun h0 => by
  obtain ⟨b', off', h1, -, h2⟩ := h h0
  cases h1
  exact ⟨b, off, rfl, hb, h2⟩

def roomTbl : Tbl := ⟨⟨#[116]⟩, [⟨⟨#[120]⟩, 4, 0, false⟩]⟩
theorem room_ok : roomTbl.ok := tbl_ok (by decide) (by decide) (fun c hc => by simp at hc; subst hc; exact col_ok (by decide) (by omega) (by omega))
theorem room_tbl : tblOK roomTbl = true := by decide +kernel
theorem room_rows (n : Nat) : rowsR roomTbl (List.replicate n [exV1]) = if n ≤ 10000 then (0, 0, 0) else (10000, 0, 10) := by
  unfold rowsR
  rw [room_tbl, if_pos rfl, rowsL_rep _ _ (by decide +kernel) rfl _ _ (by omega), Nat.zero_add]

def mkR (n : Nat) : Array Value := madeCells (Value.slice none 0 0).cells n
theorem info_R : (Tryd.prog.info? 35).map (fun i => (i.zero, i.size, i.bytes)) = some (some (.slice none 0 0), 1, 24) := by kernel_rfl
theorem run_mkR (w : World) (n : Nat) (h : n ≤ 20000) :
    (Instr.makeSlice 31 (.int .i64 n) (.int .i64 n)).run Tryd.prog w = .ok (.slice (some ⟨w.heap.size, 0, none⟩) n n) (w.alloc (.cells (mkR n) 35)) := by
  obtain ⟨i0, hi, hz0, hz1, hz2⟩ := info_parts info_R
  have := run_make (P := Tryd.prog) w 31 35 i0 (.slice none 0 0) Tryd.underlying31 hi hz0 .i64 .i64 n n (by omega) (by omega) (by rw [hz2]; omega) (by omega)
  rw [this, hz1, Nat.mul_one]
  rfl
theorem size_mkR (n : Nat) : (mkR n).size = n := size_madeCells _ _

set_option maxRecDepth 100000 in
set_option maxHeartbeats 2000000 in
theorem schemaRoom_walk (w : World) (hT : Tabs w) (n : Nat) (hn : n < 256) :
    Calls Tryd.prog 5 #[.int .u8 n] w fun e w' => e = .returned (.bool true) ∧ Mods [] w w' := by
  obtain ⟨m, hm⟩ : ∃ m, n % 5 = m := ⟨_, rfl⟩
  have hm5 : m < 5 := by omega
  have hmr : (n : Int) % 5 = (m : Int) := by omega
  obtain ⟨K, hK⟩ : ∃ K, 9998 + m = K := ⟨_, rfl⟩
  have hKi : (9998 : Int) + (m : Int) = (K : Int) := by omega
  have hmk := fun w => run_mkR w K (by omega)
  go_enter Tryd.func5, Tryd.ntmps5
  go_wp2_with fail
  refine (examples12 _ hT).mono ?_
  rintro e w1 ⟨rfl, hM1⟩
  have hMA := (((Mods.refl [] w1).alloc (.cells #[.string ⟨#[120]⟩, .int .i64 4, .int .i64 0, .bool false] 27)).alloc (.cells #[.string ⟨#[116]⟩, .slice (some ⟨w1.heap.size, 0, none⟩) 1 1] 30)).alloc (.cells (mkR K) 35)
  obtain ⟨hh1, hh2, hh3⟩ := three_new w1 (.cells #[.string ⟨#[120]⟩, .int .i64 4, .int .i64 0, .bool false] 27) (.cells #[.string ⟨#[116]⟩, .slice (some ⟨w1.heap.size, 0, none⟩) 1 1] 30) (.cells (mkR K) 35)
  have hs3 : (((w1.alloc (.cells #[.string ⟨#[120]⟩, .int .i64 4, .int .i64 0, .bool false] 27)).alloc (.cells #[.string ⟨#[116]⟩, .slice (some ⟨w1.heap.size, 0, none⟩) 1 1] 30)).alloc (.cells (mkR K) 35)).heap.size = w1.heap.size + 1 + 1 + 1 := by rw [size_alloc, size_alloc, size_alloc]
  go_wp2_with fail
  generalize ((w1.alloc (.cells #[.string ⟨#[120]⟩, .int .i64 4, .int .i64 0, .bool false] 27)).alloc (.cells #[.string ⟨#[116]⟩, .slice (some ⟨w1.heap.size, 0, none⟩) 1 1] 30)).alloc (.cells (mkR K) 35) = w3 at *
  have hh4 := heap_alloc_new w3 (.cells #[.bool false, .int .i64 1, .string ⟨#[]⟩] 33)
  have hMD := (Mods.refl [] w3).alloc (.cells #[.bool false, .int .i64 1, .string ⟨#[]⟩] 33)
  rw [hs3] at hh4
  replace hh1 := hMD.heap hh1 (by simp)
  replace hh2 := hMD.heap hh2 (by simp)
  replace hh3 := hMD.heap hh3 (by simp)
  have hMw := (hM1.trans hMA (by simp)).trans hMD (by simp)
  have hge := hM1.size
  generalize w3.alloc (.cells #[.bool false, .int .i64 1, .string ⟨#[]⟩] 33) = w4 at *
  generalize w1.heap.size = wb at *
  have hC := cols_new (cs := [⟨⟨#[120]⟩, 4, 0, false⟩]) hh1 rfl
  have hV := vals_new (vs := [exV1]) hh4 rfl
  have hR0 : RRow w4 (wb + 1 + 1) (wb + 1 + 1 + 1) K 0 := ⟨_, hh3, size_mkR K, fun i hi => by omega⟩
  clear hh1 hh3 hh4 hMD hMA hs3 hmk hM1
  go_loopw [8] (fun t8 wr => ∃ i : Nat, i ≤ K ∧ t8 = .int .i64 i ∧ Mods [wb + 1 + 1] w4 wr ∧ RRow wr (wb + 1 + 1) (wb + 1 + 1 + 1) K i) (fun t8 _ => K - (intOf t8).toNat)
  case atStart => exact ⟨0, by omega, rfl, Mods.refl _ _, hR0⟩
  case round =>
    clear hR0
    obtain ⟨i, hi, rfl, hM, hR⟩ := hrel
    by_cases hlt : i < K
    · have hiz : (i : Int) < (K : Int) := by omega
      obtain ⟨x, x0, x1⟩ := hR.there hlt
      have hR2 := hR.set hlt
      have hM2 := hM.setCell (p := ⟨wb + 1 + 1, i, none⟩) (.inl (by simp)) (.slice (some ⟨wb + 1 + 1 + 1, 0, none⟩) 1 1)
      clear hR
      go_wp2_with fail
      go_roundw
      case measure => simp [intOf]; omega
      case rel => exact ⟨i + 1, by omega, by go_num, hM2, hR2⟩
    · obtain rfl : K = i := by omega
      have hMx : Mods [] w wr := hMw.trans hM (fun x hx => .inr (by simp at hx; omega))
      have hVr := (hV.apart' (L := [wb + 1 + 1]) (by simp)).mods hM
      have hCr := (hC.apart' (L := [wb + 1 + 1]) (by simp; omega)).mods hM
      have hbr := hM.heap hh2 (by simp)
      have hRows := hR.rows (r := [exV1]) rfl hVr.drop
      have hrw := rows_any wr (hT.mods hMx) roomTbl room_ok 1 rfl (some ⟨wb, 0, none⟩) 1 hCr.drop (List.replicate K [exV1]) (fun r hr => by rw [List.eq_of_mem_replicate hr]; exact ⟨by simp, fun v hv => by simp at hv; subst hv; decide⟩) K (by simp) (by omega) _ K hRows
      rw [room_rows] at hrw
      dsimp only [roomTbl] at hrw
      have a0 := cell_of_heap hbr 0
      have a1 := cell_of_heap hbr 1
      change wr.cell? _ = some (.string ⟨#[116]⟩) at a0
      change wr.cell? _ = some (.slice (some ⟨wb, 0, none⟩) 1 1) at a1
      clear hRows hR hbr hCr hVr hC hV hM hh2 hMw hT
      by_cases hK1 : K ≤ 10000
      · rw [if_pos hK1] at hrw
        simp only [tri] at hrw
        have z1 : (K : Int) ≤ 10000 := by omega
        go_wp2_with fail
        (with_reducible refine hrw.mono ?_)
        rintro e w6 ⟨rfl, hM6⟩
        go_wp2_with fail
        go_ret
        exact ⟨rfl, hMx.trans hM6 (by simp)⟩
      · rw [if_neg hK1] at hrw
        simp only [tri] at hrw
        have z1 : ¬ (K : Int) ≤ 10000 := by omega
        go_wp2_with fail
        (with_reducible refine hrw.mono ?_)
        rintro e w6 ⟨rfl, hM6⟩
        go_wp2_with fail
        go_ret
        exact ⟨rfl, hMx.trans hM6 (by simp)⟩
end Go.Proofs.YtijapjnhjioknaaDoor
