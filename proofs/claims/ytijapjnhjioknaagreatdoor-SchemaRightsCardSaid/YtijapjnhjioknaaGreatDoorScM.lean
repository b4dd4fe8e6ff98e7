/-
  Slices that a call has just made, read as columns, tables, values, rows; and the chapter's examples (law12.examples), walked: they hold. No condition but that Go's own variables hold what they were laid with.
-/
import Derived.Test.YtijapjnhjioknaaGreatDoorScL
namespace Go.Proofs.YtijapjnhjioknaaGreatDoor
open Go.RowKit
open Go.Maps
set_option linter.unusedVariables false

theorem bytes_ext {a b : ByteArray} (h : a.data.toList = b.data.toList) : a = b := ByteArray.ext (Array.toList_inj.1 h)
theorem toList_ne {a b : ByteArray} (h : a ≠ b) : ¬ a.toList = b.toList := by
  rw [ByteArray.toList_eq, ByteArray.toList_eq]
  exact fun e => h (bytes_ext e)

theorem flat_get {α : Type} (f : α → List Value) (m : Nat) (hf : ∀ x, (f x).length = m) (l : List α) (i : Nat) (h : i < l.length) (j : Nat) (hj : j < m) : (l.flatMap f)[i * m + j]? = (f l[i])[j]? := by
  induction l generalizing i with
  | nil => simp at h
  | cons x xs ih =>
    rw [List.flatMap_cons]
    cases i with
    | zero =>
      rw [Nat.zero_mul, Nat.zero_add, List.getElem?_append_left (by rw [hf]; exact hj)]; rfl
    | succ i =>
      rw [List.getElem?_append_right (by rw [hf, Nat.succ_mul]; omega), hf, show (i + 1) * m + j - m = i * m + j by rw [Nat.succ_mul]; omega]
      exact ih i (by simpa using h)
def valC (v : V) : List Value := [.bool v.z, .int .i64 v.n, .string v.s]
theorem cols_new {w : World} {b : Nat} {arr : Array Value} {T : TypeId} {fr : Nat × Nat} {cs : List Col} (h : w.heap[b]? = some (.cells arr T fr)) (ha : arr.toList = cs.flatMap colC) : ColsIn w (some ⟨b, 0, none⟩) cs [] := by
  intro _
  refine ⟨b, 0, rfl, by simp, fun i hi => ?_⟩
  have g := fun j (hj : j < 4) => flat_get colC 4 (fun _ => rfl) cs i hi j hj
  rw [cell_of_heap h, cell_of_heap h, cell_of_heap h, cell_of_heap h, Nat.zero_add, ← Array.getElem?_toList, ← Array.getElem?_toList, ← Array.getElem?_toList, ← Array.getElem?_toList, ha]
  exact ⟨g 0 (by omega), g 1 (by omega), g 2 (by omega), g 3 (by omega)⟩
theorem vals_new {w : World} {b : Nat} {arr : Array Value} {T : TypeId} {fr : Nat × Nat} {vs : List V} (h : w.heap[b]? = some (.cells arr T fr)) (ha : arr.toList = vs.flatMap valC) : ValsIn w (some ⟨b, 0, none⟩) vs [] := by
  intro _
  refine ⟨b, 0, rfl, by simp, fun i hi => ?_⟩
  have g := fun j (hj : j < 3) => flat_get valC 3 (fun _ => rfl) vs i hi j hj
  rw [cell_of_heap h, cell_of_heap h, cell_of_heap h, Nat.zero_add, ← Array.getElem?_toList, ← Array.getElem?_toList, ← Array.getElem?_toList, ha]
  exact ⟨g 0 (by omega), g 1 (by omega), g 2 (by omega)⟩
theorem rows_two {w : World} {b : Nat} {vo uo : Option Addr} {n c m d : Nat} {T : TypeId} {fr : Nat × Nat} {vs us : List V} (h : w.heap[b]? = some (.cells #[.slice vo n c, .slice uo m d] T fr)) (hn : vs.length = n) (hnc : n ≤ c) (hv : ValsIn w vo vs []) (hm : us.length = m) (hmd : m ≤ d) (hu : ValsIn w uo us []) : RowsIn w (some ⟨b, 0, none⟩) [vs, us] [] := by
  intro _
  refine ⟨b, 0, rfl, by simp, fun i hi => ?_⟩
  by_cases h0 : i = 0
  · subst h0
    refine ⟨vo, c, by simpa [hn] using hnc, ?_, hv⟩
    rw [cell_of_heap h, ← hn]
    rfl
  · obtain rfl : i = 1 := by simp at hi; omega
    refine ⟨uo, d, by simpa [hm] using hmd, ?_, hu⟩
    rw [cell_of_heap h, ← hm]
    rfl
theorem tbls_two {w : World} {b : Nat} {co du : Option Addr} {n c m d : Nat} {T : TypeId} {fr : Nat × Nat} {t u : Tbl} (h : w.heap[b]? = some (.cells #[.string t.name, .slice co n c, .string u.name, .slice du m d] T fr)) (hn : t.cols.length = n) (hv : ColsIn w co t.cols []) (hm : u.cols.length = m) (hu : ColsIn w du u.cols []) : TblsIn w (some ⟨b, 0, none⟩) [t, u] [] := by
  intro _
  refine ⟨b, 0, rfl, by simp, fun i hi => ?_⟩
  by_cases h0 : i = 0
  · subst h0
    refine ⟨by rw [cell_of_heap h]; rfl, co, c, ?_, hv⟩
    rw [cell_of_heap h]
    simp [hn]
  · obtain rfl : i = 1 := by simp at hi; omega
    refine ⟨by rw [cell_of_heap h]; rfl, du, d, ?_, hu⟩
    rw [cell_of_heap h]
    simp [hm]
theorem two_new (w : World) (A B : Obj) : ((w.alloc A).alloc B).heap[w.heap.size]? = some A ∧ ((w.alloc A).alloc B).heap[w.heap.size + 1]? = some B := by
  refine ⟨?_, ?_⟩
  · rw [Below.heap_alloc _ _ _ (by rw [size_alloc]; omega)]; exact heap_alloc_new _ _
  · have := heap_alloc_new (w.alloc A) B
    rw [size_alloc] at this
    exact this
theorem three_new (w : World) (A B C : Obj) : (((w.alloc A).alloc B).alloc C).heap[w.heap.size]? = some A ∧ (((w.alloc A).alloc B).alloc C).heap[w.heap.size + 1]? = some B ∧ (((w.alloc A).alloc B).alloc C).heap[w.heap.size + 1 + 1]? = some C := by
  obtain ⟨h1, h2⟩ := two_new w A B
  refine ⟨?_, ?_, ?_⟩
  · rw [Below.heap_alloc _ _ _ (by rw [size_alloc, size_alloc]; omega)]; exact h1
  · rw [Below.heap_alloc _ _ _ (by rw [size_alloc, size_alloc]; omega)]; exact h2
  · have := heap_alloc_new ((w.alloc A).alloc B) C
    rw [size_alloc, size_alloc] at this
    exact this

theorem col_ok {x : ByteArray} {k s : Int} {z : Bool} (h : x.size ≤ 9223372036854775807) (hk : 0 ≤ k ∧ k ≤ 9) (hs : 0 ≤ s ∧ s ≤ 9) : Col.ok ⟨x, k, s, z⟩ :=
  ⟨⟨⟨by show _ ≤ k; omega, by show k ≤ _; omega⟩, by show _ ≤ s; omega, by show s ≤ _; omega⟩, h⟩
theorem tbl_ok {x : ByteArray} {cs : List Col} (h : x.size ≤ 9223372036854775807) (hl : cs.length ≤ 9223372036854775807) (hc : ∀ c ∈ cs, c.ok) : Tbl.ok ⟨x, cs⟩ := ⟨h, hl, hc⟩

def exCol : Col := ⟨⟨#[97]⟩, 1, 0, false⟩
def exTbl : Tbl := ⟨⟨#[116]⟩, [exCol]⟩
def exV1 : V := ⟨false, 1, ⟨#[]⟩⟩
def exV2 : V := ⟨true, 0, ⟨#[]⟩⟩
theorem ex_rows : rowsR exTbl [[exV1], [exV2]] = (1, 0, 10) := by decide +kernel
theorem ex_tbl : tblOK exTbl = true := by decide +kernel
theorem ex_ok : exTbl.ok := ⟨by decide, by decide, fun c hc => by simp [exTbl] at hc; subst hc; exact ⟨⟨⟨by decide, by decide⟩, by decide, by decide⟩, by decide⟩⟩
theorem ex_n1 : nameL [120, 95, 49] = true := by decide +kernel
theorem ex_n2 : nameL [115, 101, 108, 101, 99, 116] = false := by decide +kernel

set_option maxRecDepth 100000 in
set_option maxHeartbeats 1000000 in
theorem examples12 (w : World) (hT : Tabs w) : Calls Tryz.prog 5 #[] w fun e w' => e = .returned (.bool true) ∧ Mods [] w w' := by
  have hM1 := ((((Mods.refl [] w).alloc (.cells #[.string ⟨#[97]⟩, .int .i64 1, .int .i64 0, .bool false] 44)).alloc (.cells #[.string ⟨#[116]⟩, .slice (some ⟨w.heap.size, 0, none⟩) 1 1] 24)).alloc (.cells #[.string ⟨#[116]⟩, .slice (some ⟨w.heap.size, 0, none⟩) 1 1] 24))
  obtain ⟨hh1, hh2, hh3⟩ := three_new w (.cells #[.string ⟨#[97]⟩, .int .i64 1, .int .i64 0, .bool false] 44) (.cells #[.string ⟨#[116]⟩, .slice (some ⟨w.heap.size, 0, none⟩) 1 1] 24) (.cells #[.string ⟨#[116]⟩, .slice (some ⟨w.heap.size, 0, none⟩) 1 1] 24)
  have hC := cols_new (cs := [exCol]) hh1 rfl
  have hI := tbls_one (t := exTbl) hh3 rfl hC
  have hf := findT_any _ [exTbl] 1 rfl (by omega) _ 1 hI ⟨#[116]⟩
  rw [show findV ([exTbl].map Tbl.name) ⟨#[116]⟩ = .tuple #[.int .i64 0, .bool true] from findV_some (i := 0) (by decide) rfl (fun j _ h => by omega)] at hf
  go_enter Tryz.func5, Tryz.ntmps5
  go_wp2_with fail
  (with_reducible refine hf.mono ?_)
  rintro e w1 ⟨rfl, hM2⟩
  have hC1 := hC.mods hM2
  have hb1 := hM2.heap hh2 (by simp)
  have hMw1 := hM1.trans hM2 (by simp)
  clear hf hI hC hh1 hh2 hh3 hM2 hM1
  generalize w.heap.size = cb at *
  have hT1 := hT.mods hMw1
  have hM3 := ((((Mods.refl [] w1).alloc (.cells #[.bool false, .int .i64 1, .string ⟨#[]⟩] 46)).alloc (.cells #[.bool true, .int .i64 0, .string ⟨#[]⟩] 46)).alloc (.cells #[.slice (some ⟨w1.heap.size, 0, none⟩) 1 1, .slice (some ⟨w1.heap.size + 1, 0, none⟩) 1 1] 48))
  obtain ⟨hh1, hh2, hh3⟩ := three_new w1 (.cells #[.bool false, .int .i64 1, .string ⟨#[]⟩] 46) (.cells #[.bool true, .int .i64 0, .string ⟨#[]⟩] 46) (.cells #[.slice (some ⟨w1.heap.size, 0, none⟩) 1 1, .slice (some ⟨w1.heap.size + 1, 0, none⟩) 1 1] 48)
  have hR := rows_two (vs := [exV1]) (us := [exV2]) hh3 rfl (by omega) (vals_new hh1 rfl) rfl (by omega) (vals_new hh2 rfl)
  have hrw := rows_any _ (hT1.mods hM3) exTbl ex_ok 1 rfl _ 1 (hC1.mods hM3) [[exV1], [exV2]] (fun r hr => ⟨by simp at hr; rcases hr with rfl | rfl <;> decide, fun v hv => by simp at hr; rcases hr with rfl | rfl <;> (simp at hv; subst hv; decide)⟩) 2 rfl (by omega) _ 2 hR
  rw [ex_rows] at hrw
  simp only [tri] at hrw
  dsimp only [exTbl] at hrw
  have a0 := cell_of_heap hb1 0
  have a1 := cell_of_heap hb1 1
  change w1.cell? _ = some (.string ⟨#[116]⟩) at a0
  change w1.cell? _ = some (.slice (some ⟨cb, 0, none⟩) 1 1) at a1
  clear hh1 hh2 hh3 hR
  go_wp2_with fail
  (with_reducible refine hrw.mono ?_)
  rintro e w2 ⟨rfl, hM4⟩
  have hMw2 := (hMw1.trans hM3 (by simp)).trans hM4 (by simp)
  have hb2 := hM4.heap (hM3.heap hb1 (by simp)) (by simp)
  have hC2 := (hC1.mods hM3).mods hM4
  have hT2 := hT.mods hMw2
  clear hrw hM3 hM4 hMw1 hb1 hC1 a0 a1 hT1
  have hn := nameRight_any w2 hT2 ⟨#[120, 95, 49]⟩ (by decide)
  rw [show nameL (⟨#[120, 95, 49]⟩ : ByteArray).data.toList = true from ex_n1] at hn
  go_wp2_with fail
  (with_reducible refine hn.mono ?_)
  rintro e w3 ⟨rfl, hM3⟩
  clear hn
  have hT3 := hT2.mods hM3
  have hn := nameRight_any w3 hT3 ⟨#[115, 101, 108, 101, 99, 116]⟩ (by decide)
  rw [show nameL (⟨#[115, 101, 108, 101, 99, 116]⟩ : ByteArray).data.toList = false from ex_n2] at hn
  go_wp2_with fail
  (with_reducible refine hn.mono ?_)
  rintro e w4 ⟨rfl, hM4⟩
  clear hn
  have hT4 := hT3.mods hM4
  have hM24 := hM3.trans hM4 (by simp)
  have hb4 := hM24.heap hb2 (by simp)
  have hC4 := hC2.mods hM24
  have hMw4 := hMw2.trans hM24 (by simp)
  clear hM3 hM4 hM24 hMw2 hC2 hb2 hT2 hT3
  have a0 := cell_of_heap hb4 0
  have a1 := cell_of_heap hb4 1
  change w4.cell? _ = some (.string ⟨#[116]⟩) at a0
  change w4.cell? _ = some (.slice (some ⟨cb, 0, none⟩) 1 1) at a1
  have htr := tableRight_any _ hT4 exTbl ex_ok 1 rfl _ 1 hC4
  rw [ex_tbl] at htr
  dsimp only [exTbl] at htr
  go_wp2_with fail
  (with_reducible refine htr.mono ?_)
  rintro e w5 ⟨rfl, hM5⟩
  have hMA := hM5.alloc (.cells #[.string ⟨#[116]⟩, .slice (some ⟨cb, 0, none⟩) 1 1] 24)
  have hI5 := tbls_one (t := exTbl) (heap_alloc_new w5 (.cells #[.string ⟨#[116]⟩, .slice (some ⟨cb, 0, none⟩) 1 1] 24)) rfl (hC4.mods hMA)
  have hb5 := hM5.heap hb4 (by simp)
  have e0 := cell_of_heap hb5 0
  have e1 := cell_of_heap hb5 1
  change w5.cell? _ = some (.string ⟨#[116]⟩) at e0
  change w5.cell? _ = some (.slice (some ⟨cb, 0, none⟩) 1 1) at e1
  have hr := rights_any _ (hT4.mods hMA) [exTbl] (by simpa using ex_ok) 1 rfl (by omega) _ 1 hI5
  rw [tblsOK_one, ex_tbl] at hr
  have hMw5 := hMw4.trans hMA (by simp)
  clear htr hI5 hM5 hMA hMw4 a0 a1
  go_wp2_with fail
  (with_reducible refine hr.mono ?_)
  rintro e w6 ⟨rfl, hM6⟩
  clear hr
  go_wp2_with fail
  go_ret
  exact ⟨rfl, hMw5.trans hM6 (by simp)⟩
end Go.Proofs.YtijapjnhjioknaaGreatDoor
