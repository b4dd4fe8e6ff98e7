/-
  What it means that a mem.Memory lies in memory: its pages, its bytes; and that it stays while other blocks change. No program runs here; no conditions.
-/
import Derived.Test.YtagpnalhilgcpaaBase
namespace Go.Proofs.Ytagpnalhilgcpaa
open Go.RowKit

/-- Block g is a row of n bytes f. -/
def IsRow (w : World) (g n : Nat) (f : Nat → UInt8) : Prop :=
  ∃ arr : Array Value, w.heap[g]? = some (.cells arr 5 (0, 0)) ∧ arr.size = n ∧ ∀ o, o < n → arr[o]? = some (bv (f o))

/-- A page's slice: none is made yet, or its block. -/
def pv : Option Nat → Value
  | none => .slice none 0 0
  | some g => .slice (some ⟨g, 0, none⟩) 65536 65536

def foot (b : Nat) (sv : Value) (ps : List (Option Nat)) : List Nat := b :: (sv.ownBlock.toList ++ ps.filterMap id)

structure IsMem (w : World) (b : Nat) (most : Int) (sv : Value) (ps : List (Option Nat)) (f : Nat → UInt8) : Prop where
  hb : w.heap[b]? = some (.cells #[sv, .int .i64 most] 87 (0, 0))
  own : w.ownsRow 0 47 1 sv ps.length (ps.map pv)
  page : ∀ i g, ps[i]? = some (some g) → IsRow w g 65536 (fun o => f (65536 * i + o))
  zero : ∀ i o, ps[i]? = some none → o < 65536 → f (65536 * i + o) = 0
  past : ∀ a, 65536 * ps.length ≤ a → f a = 0
  nd : (foot b sv ps).Nodup

/-- A memory of n pages, at most 'most', of bytes f; its blocks are L. -/
def Mem (w : World) (b n : Nat) (most : Int) (f : Nat → UInt8) (L : List Nat) : Prop :=
  ∃ sv ps, IsMem w b most sv ps f ∧ ps.length = n ∧ foot b sv ps = L

theorem IsRow.mods {L : List Nat} {w w' : World} {g n : Nat} {f : Nat → UInt8} (h : IsRow w g n f) (hm : Mods L w w') (hn : g ∉ L) : IsRow w' g n f := by
  obtain ⟨arr, h1, h2, h3⟩ := h
  exact ⟨arr, hm.heap h1 hn, h2, h3⟩

theorem mem_foot_page {b : Nat} {sv : Value} {ps : List (Option Nat)} {i g : Nat} (h : ps[i]? = some (some g)) : g ∈ foot b sv ps := by
  refine List.mem_cons_of_mem _ (List.mem_append_right _ ?_)
  rw [List.mem_filterMap]
  exact ⟨some g, List.mem_of_getElem? h, rfl⟩

theorem IsMem.lt {w : World} {b : Nat} {most : Int} {sv : Value} {ps : List (Option Nat)} {f : Nat → UInt8} (h : IsMem w b most sv ps f) : ∀ k ∈ foot b sv ps, k < w.heap.size := by
  intro k hk
  rcases List.mem_cons.1 hk with rfl | hk
  · exact lt_size_of_heap h.hb
  rcases List.mem_append.1 hk with hk | hk
  · exact ownsRow_lt h.own k hk
  · obtain ⟨x, hx, rfl⟩ := List.mem_filterMap.1 hk
    obtain ⟨i, hi⟩ := List.getElem?_of_mem hx
    obtain ⟨arr, h1, _⟩ := h.page i k hi
    exact lt_size_of_heap h1

theorem Mem.lt {w : World} {b n : Nat} {most : Int} {f : Nat → UInt8} {L : List Nat} (h : Mem w b n most f L) : ∀ k ∈ L, k < w.heap.size := by
  obtain ⟨sv, ps, h1, _, rfl⟩ := h
  exact h1.lt

theorem IsMem.mods {L : List Nat} {w w' : World} {b : Nat} {most : Int} {sv : Value} {ps : List (Option Nat)} {f : Nat → UInt8} (h : IsMem w b most sv ps f) (hm : Mods L w w') (hn : ∀ k ∈ foot b sv ps, k ∉ L) :
    IsMem w' b most sv ps f :=
  ⟨hm.heap h.hb (hn b (List.mem_cons_self ..)), ownsRow_mods h.own hm (fun g hg => hn g (List.mem_cons_of_mem _ (List.mem_append_left _ (by simp [hg])))),
    fun i g hi => (h.page i g hi).mods hm (hn g (mem_foot_page hi)), h.zero, h.past, h.nd⟩

theorem Mem.mods {L' : List Nat} {w w' : World} {b n : Nat} {most : Int} {f : Nat → UInt8} {L : List Nat} (h : Mem w b n most f L) (hm : Mods L' w w') (hn : ∀ k ∈ L, k ∉ L') : Mem w' b n most f L := by
  obtain ⟨sv, ps, h1, h2, rfl⟩ := h
  exact ⟨sv, ps, h1.mods hm hn, h2, rfl⟩

theorem Mem.mem {w : World} {b n : Nat} {most : Int} {f : Nat → UInt8} {L : List Nat} (h : Mem w b n most f L) : b ∈ L := by
  obtain ⟨sv, ps, _, _, rfl⟩ := h
  exact List.mem_cons_self ..

/-- The two cells of the struct. -/
theorem Mem.cells {w : World} {b n : Nat} {most : Int} {f : Nat → UInt8} {L : List Nat} (h : Mem w b n most f L) :
    (∃ ad c, w.cell? ⟨b, 0, none⟩ = some (.slice ad n c)) ∧ w.cell? ⟨b, 1, none⟩ = some (.int .i64 most) := by
  obtain ⟨sv, ps, h1, rfl, _⟩ := h
  refine ⟨?_, by rw [cell_of_heap h1.hb]; rfl⟩
  rcases h1.own.2 with ⟨rfl, h0⟩ | ⟨g, cap, cur, rfl, _⟩
  · exact ⟨none, 0, by rw [cell_of_heap h1.hb, h0]; rfl⟩
  · exact ⟨_, cap, by rw [cell_of_heap h1.hb]; rfl⟩

/-- A page more, of bytes 0: the slice has moved, or not. -/
theorem IsMem.push {w w' : World} {b : Nat} {most : Int} {sv sv' : Value} {ps : List (Option Nat)} {f : Nat → UInt8} (h : IsMem w b most sv ps f)
    (hb : w'.heap[b]? = some (.cells #[sv', .int .i64 most] 87 (0, 0))) (hown : w'.ownsRow 0 47 1 sv' (ps.length + 1) (ps.map pv ++ [.slice none 0 0]))
    (hm : Mods (b :: sv.ownBlock.toList) w w') (hg : ∀ g ∈ sv'.ownBlock.toList, g ∈ sv.ownBlock.toList ∨ w.heap.size ≤ g) :
    IsMem w' b most sv' (ps ++ [none]) f ∧ ∀ k ∈ foot b sv' (ps ++ [none]), k ∈ foot b sv ps ∨ w.heap.size ≤ k := by
  have hf : (ps ++ [none]).filterMap id = ps.filterMap id := by simp
  have hnd := h.nd
  have hlt := h.lt
  refine ⟨⟨hb, by simpa [pv] using hown, ?_, ?_, ?_, ?_⟩, ?_⟩
  · intro i g hi
    have hi' : ps[i]? = some (some g) := by
      rcases Nat.lt_trichotomy i ps.length with h1 | h1 | h1
      · rwa [List.getElem?_append_left h1] at hi
      · rw [List.getElem?_append_right (by omega), h1] at hi; simp at hi
      · rw [List.getElem?_eq_none (by simp; omega)] at hi; cases hi
    refine (h.page i g hi').mods hm ?_
    have hmem : g ∈ ps.filterMap id := List.mem_filterMap.2 ⟨some g, List.mem_of_getElem? hi', rfl⟩
    intro hc
    rcases List.mem_cons.1 hc with rfl | hc
    · exact (List.nodup_cons.1 hnd).1 (List.mem_append_right _ hmem)
    · exact (List.nodup_append.1 (List.nodup_cons.1 hnd).2).2.2 g hc g hmem rfl
  · intro i o hi ho
    rcases Nat.lt_trichotomy i ps.length with h1 | h1 | h1
    · rw [List.getElem?_append_left h1] at hi; exact h.zero i o hi ho
    · exact h.past _ (by rw [h1]; omega)
    · rw [List.getElem?_eq_none (by simp; omega)] at hi; cases hi
  · intro a ha
    exact h.past a (by simp at ha; omega)
  · unfold foot at *
    rw [hf]
    obtain ⟨n1, n2⟩ := List.nodup_cons.1 hnd
    obtain ⟨m1, m2, m3⟩ := List.nodup_append.1 n2
    have hb' : b ∉ sv'.ownBlock.toList := by
      intro hc
      rcases hg b hc with h1 | h1
      · exact n1 (List.mem_append_left _ h1)
      · have := lt_size_of_heap h.hb; omega
    refine List.nodup_cons.2 ⟨fun hc => ?_, List.nodup_append.2 ⟨by cases sv'.ownBlock <;> simp, m2, ?_⟩⟩
    · rcases List.mem_append.1 hc with h1 | h1
      · exact hb' h1
      · exact n1 (List.mem_append_right _ h1)
    · intro a ha c hc e
      subst e
      rcases hg a ha with h1 | h1
      · exact m3 a h1 a hc rfl
      · have := hlt a (List.mem_cons_of_mem _ (List.mem_append_right _ hc)); omega
  · intro k hk
    unfold foot at *
    rw [hf] at hk
    rcases List.mem_cons.1 hk with rfl | hk
    · exact .inl (List.mem_cons_self ..)
    rcases List.mem_append.1 hk with hk | hk
    · rcases hg k hk with h1 | h1
      · exact .inl (List.mem_cons_of_mem _ (List.mem_append_left _ h1))
      · exact .inr h1
    · exact .inl (List.mem_cons_of_mem _ (List.mem_append_right _ hk))

end Go.Proofs.Ytagpnalhilgcpaa
