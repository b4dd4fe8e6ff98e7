/-
  lex.keys, walked: the map of the words; what the calls read of Go's own variables. No condition but that these variables hold what their initialisers lay.
-/
import Derived.Test.YtgbpoaimbjlamaaGreatDoorMLy
import Derived.Test.YtgbpoaimbjlamaaGreatDoorShelf
import Derived.Lib.SmallJoins
namespace Go.Proofs.YtgbpoaimbjlamaaGreatDoor
open Go.RowKit
set_option linter.unusedVariables false

/-- What the calls read of Go's own variables. -/
def Tabs (w : World) : Prop := Lib.TabIs Tryz.prog w "strings.asciiSpace" .u8 Lib.asciiSpaceTab ∧ ∃ ev, w.cell? ⟨10, 0, none⟩ = some ev ∧ (ev = .nilIface ∨ ∃ te pe, ev = .iface te pe)

theorem Tabs.mods {w w' : World} (h : Tabs w) (hM : Mods [] w w') : Tabs w' := by
  obtain ⟨h1, ev, h2, h3⟩ := h
  exact ⟨Joins.tab_stays (g := 0) (by kernel_rfl) h1 (hM.below _ (Nat.le_refl _) (by simp)) (Nat.le_refl _), ev, hM.cell h2 (by simp), h3⟩

def kwText : ByteArray := ⟨#[65, 78, 68, 32, 65, 83, 32, 65, 83, 67, 32, 66, 89, 32, 67, 79, 85, 78, 84, 32, 68, 69, 83, 67, 32, 70, 65, 76, 83, 69, 32, 70, 82, 79, 77, 32, 71, 82, 79, 85, 80, 32, 73, 83, 32, 74, 79, 73, 78, 32, 76, 73, 77, 73, 84, 32, 77, 65, 88, 32, 77, 73, 78, 32, 78, 79, 84, 32, 78, 85, 76, 76, 32, 79, 70, 70, 83, 69, 84, 32, 79, 78, 32, 79, 82, 32, 79, 82, 68, 69, 82, 32, 83, 69, 76, 69, 67, 84, 32, 83, 85, 77, 32, 84, 82, 85, 69, 32, 87, 72, 69, 82, 69]⟩
theorem kw_fields : Lib.fields kwText.data.toList = keyWords := by kernel_rfl
theorem kw_ascii : ∀ (j : Nat) b, kwText.data.toList[j]? = some b → b.toNat < 128 := by
  have h : (kwText.data.toList.all fun b => decide (b.toNat < 128)) = true := by kernel_rfl
  intro j b hb
  simpa using List.all_eq_true.1 h b (List.mem_of_getElem? hb)
theorem kw_new (k : Nat) (hk : k < 24) : keyWords[k]'(by exact hk) ∉ keyWords.take k := by
  have h : ((List.range 24).all fun k => !((keyWords.take k).contains (keyWords.getD k []))) = true := by kernel_rfl
  have := List.all_eq_true.1 h k (List.mem_range.2 hk)
  rw [show keyWords.getD k [] = keyWords[k]'(by exact hk) by rw [List.getD, List.getElem?_eq_getElem (by exact hk)]; rfl] at this
  simpa using this

/-- The cells of the words. -/
def kwCells : Array Value := (keyWords.map fun l => Value.string ⟨l.toArray⟩).toArray

set_option maxRecDepth 100000 in
set_option maxHeartbeats 1000000 in
theorem keys_any (w : World) (hT : Tabs w) :
    Calls Tryz.prog 28 #[] w fun e w' => ∃ mb, e = .returned (.map (some mb)) ∧ KeyMap w' mb ∧ w.heap.size ≤ mb ∧ Mods [] w w' := by
  have hM1 := (Mods.refl [] w).alloc (.map #[] 0)
  have hF := Tryz.strings_Fields kwText (w.alloc (.map #[] 0)) (by decide) kw_ascii (hT.mods hM1).1
  rw [kw_fields] at hF
  have hb0 := heap_alloc_new w (.map #[] 0)
  have hMA := hM1.alloc (.cells kwCells 9)
  have hb1 : ((w.alloc (.map #[] 0)).alloc (.cells kwCells 9)).heap[w.heap.size]? = some (.map #[] 0) := (Mods.refl [] _).alloc (.cells kwCells 9) |>.heap hb0 (by simp)
  have hg1 := heap_alloc_new (w.alloc (.map #[] 0)) (.cells kwCells 9)
  change Calls _ _ _ _ (fun e w' => e = .returned (.slice (some ⟨(w.alloc (.map #[] 0)).heap.size, 0, none⟩) 24 24) ∧ w' = (w.alloc (.map #[] 0)).alloc (.cells kwCells 9)) at hF
  rw [size_alloc] at hg1 hF
  clear hT hM1 hb0
  have hmm : (Instr.makeMap 73 none).run Tryz.prog w = .ok (.map (some w.heap.size)) (w.alloc (.map #[] 0)) := by rfl
  go_enter Tryz.func28, Tryz.ntmps28
  go_wp2_with fail
  refine hF.mono ?_
  rintro e w2 ⟨rfl, rfl⟩
  clear hF
  go_wp2_with fail
  generalize (w.alloc (.map #[] 0)).alloc (.cells kwCells 9) = w2 at *
  generalize hmb : w.heap.size = mb at *
  have HMB := Lib.hid hmb
  clear hmb
  go_loopw [7] (fun t7 wr => ∃ k : Nat, k ≤ 24 ∧ t7 = .int .i64 k ∧ Mods [] w wr ∧ wr.heap[mb]? = some (.map (entriesOf (keyWords.take k)) k) ∧ wr.heap[mb + 1]? = some (.cells kwCells 9 (0, 0))) (fun t7 _ => 24 - (intOf t7).toNat)
  case atStart => exact ⟨0, by omega, rfl, hMA, hb1, hg1⟩
  case round =>
    clear hMA hb1 hg1
    obtain ⟨k, hk, rfl, hM, hb, hg⟩ := hrel
    by_cases hk24 : k < 24
    · have hw : kwCells[k]? = some (.string ⟨(keyWords[k]'(by exact hk24)).toArray⟩) := by
        show ((keyWords.map fun l => Value.string ⟨l.toArray⟩).toArray)[k]? = _
        rw [List.getElem?_toArray, List.getElem?_map, List.getElem?_eq_getElem (by exact hk24)]; rfl
      have hc := (cell_of_heap hg k).trans hw
      have hnew := find_new (keyWords.take k) ⟨(keyWords[k]'(by exact hk24)).toArray⟩ (kw_new k hk24)
      have hup := run_update_at (P := Tryz.prog) 73 9 110 .string Tryz.underlying73 Tryz.underlying9 wr mb _ k hb (.string ⟨(keyWords[k]'(by exact hk24)).toArray⟩) (.agg #[]) trivial hnew
      have e1 : (entriesOf (keyWords.take k)).push { key := .string ⟨(keyWords[k]'(by exact hk24)).toArray⟩, val := .agg #[], born := k } = entriesOf (keyWords.take (k + 1)) := by
        have := entries_snoc (keyWords.take k) (keyWords[k]'(by exact hk24))
        rw [List.length_take, Nat.min_eq_left (show k ≤ keyWords.length from Nat.le_of_lt hk24)] at this
        rw [this, List.take_succ_eq_append_getElem (by exact hk24)]
      rw [e1] at hup
      have HB := Lib.hid (setHeap_same (o' := .map (entriesOf (keyWords.take (k + 1))) (k + 1)) hb)
      have HG := Lib.hid ((((Mods.refl [mb] wr).setHeap (r := mb) (.inl (by simp)) (.map (entriesOf (keyWords.take (k + 1))) (k + 1)))).heap hg (by simp))
      have HM := Lib.hid (hM.setHeap (r := mb) (.inr (by rw [HMB.out]; exact Nat.le_refl _)) (.map (entriesOf (keyWords.take (k + 1))) (k + 1)))
      clear hw hnew hb hg hM e1
      go_wp2_with fail
      go_roundw
      case measure => simp [intOf]; omega
      case rel => exact ⟨k + 1, by omega, by go_num, HM.out, HB.out, HG.out⟩
    · obtain rfl : k = 24 := by omega
      have hk : KeyMap wr mb := ⟨24, hb⟩
      clear hb hg
      go_wp2_with fail
      go_ret
      exact ⟨mb, rfl, hk, by rw [HMB.out]; exact Nat.le_refl _, hM⟩
end Go.Proofs.YtgbpoaimbjlamaaGreatDoor
