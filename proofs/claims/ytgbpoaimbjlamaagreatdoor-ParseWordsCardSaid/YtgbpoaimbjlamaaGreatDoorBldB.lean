/-
  strings.Builder.WriteByte, wherever the builder lies. No conditions but the length's bound.
-/
import Derived.Test.YtgbpoaimbjlamaaGreatDoorBldA
namespace Go.Proofs.YtgbpoaimbjlamaaGreatDoor
open Go.RowKit
set_option linter.unusedVariables false
section
variable {w : World} {b o : Nat} {T : TypeId} {arr : Array Value} {v : Value} {bs : List UInt8}

set_option maxHeartbeats 1000000 in
set_option maxRecDepth 100000 in
theorem writeByte_any {n : Nat} (hl : Lies T n o) (hn : arr.size = n) (h : Bld w b o T arr v bs) (c : UInt8) (hlen : bs.length + 1 ≤ 140737488355328) :
    Calls Tryz.prog 52 #[.pointer (some ⟨b, o, none⟩), .int .u8 (c.toNat : Int)] w fun e w' => e = .returned .nilIface ∧ Wrote w b o T arr v (bs ++ [c]) w' := by
  obtain ⟨i0, hi, hz0, hz1, hz2⟩ := info_parts info_u8
  have hlt := hl.lt
  have hne := h.ne hl.ne
  go_enter Tryz.func52, Tryz.ntmps52
  go_wp2_with fail
  refine (copyCheck_any hl hn h).mono ?_
  rintro e w1 ⟨rfl, hb1, hM1⟩
  have hown1 : w1.ownsRow 0 5 1 v bs.length (Lib.byteCells bs) := ownsRow_mods h.own hM1 (fun g hg => by simp; rintro rfl; exact hne hg)
  have hMA := (Mods.refl [] w1).alloc (.cells #[.int .u8 (c.toNat : Int)] 5)
  have hb1' := hMA.heap hb1 (by simp)
  have c1 : w1.cell? ⟨b, o + 1, none⟩ = some v := by
    rw [cell_of_heap hb1, Array.getElem?_setIfInBounds_ne (by omega)]; exact h.a1
  have hlt1 := lt_size_of_heap hb1
  go_wp2_with (at_builtin; refine wpList_app _ rfl _ _ 38 rfl 5 i0 _ 1 1 Tryz.underlying38 hi hz0 hz1 hz2 rfl (by decide) v bs.length (Lib.byteCells bs) rfl (hown1.alloc _) ⟨w1.heap.size, 0, none⟩ 1 1 [.int .u8 (c.toNat : Int)] rfl rfl (cell_one_new _ _ _) ?c2 (by decide) ?c3 ?c4 ?_)
  case c2 => intro u hu; simp at hu; subst hu; rfl
  case c3 => unfold maxLen; omega
  case c4 => omega
  intro g cap w2 hown' hM2 hwhere
  have hb2 : w2.heap[b]? = some (.cells (arr.setIfInBounds o (.pointer (some ⟨b, o, none⟩))) T (0, 0)) := hM2.heap hb1' (by simpa using hne)
  have d1 : w2.cell? ⟨b, o + 1, none⟩ = some v := by
    rw [cell_of_heap hb2, Array.getElem?_setIfInBounds_ne (by omega)]; exact h.a1
  have f1 : w2.frozen? ⟨b, o + 1, none⟩ = false := frozen_of_heap hb2 _
  go_wp2
  go_ret
  have hne' := Lib.ownBlock_ne hown' hb2 hl.ne
  have hM3 : Mods [b] w2 (w2.setCell ⟨b, o + 1, none⟩ (.slice (some ⟨g, 0, none⟩) (bs.length + 1) cap)) := (Mods.refl _ w2).setCell (.inl (by simp)) _
  have hsz : (w1.alloc (.cells #[.int .u8 (c.toNat : Int)] 5)).heap.size = w1.heap.size + 1 := size_alloc _ _
  refine ⟨rfl, (((hM1.mono (by simp)).trans hMA (by simp)).trans hM2 (by simp; intro x hx; exact .inl (.inr hx))).trans hM3 (by simp), _, ⟨heap_setCell_same hb2 _ _, ?_, ?_, ?_, ?_⟩, ?_⟩
  · right
    rw [Array.getElem?_setIfInBounds_ne (by omega), Array.getElem?_setIfInBounds_self_of_lt (by omega)]
  · rw [Array.getElem?_setIfInBounds_self_of_lt (by rw [Array.size_setIfInBounds]; omega)]
  · have := ownsRow_mods hown' hM3 (fun g' hg => by simp; rintro rfl; exact hne' hg)
    have e1 : Lib.byteCells bs ++ [.int .u8 (c.toNat : Int)] = Lib.byteCells (bs ++ [c]) := by simp [Lib.byteCells]
    rw [e1] at this
    rw [List.length_append]
    exact this
  · intro h0
    simp at h0
  · intro g' hg
    obtain rfl : g = g' := by simpa [Value.ownBlock] using hg
    rcases hwhere with h1 | h1
    · exact .inl h1
    · exact .inr (by have := hM1.size; omega)
end
end Go.Proofs.YtgbpoaimbjlamaaGreatDoor
