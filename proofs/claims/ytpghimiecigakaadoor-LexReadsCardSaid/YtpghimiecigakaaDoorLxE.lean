/-
  A map whose keys are texts, in whatever block: one more key, a look-up; the map of the words. It speaks of no program; no conditions.
-/
import Derived.Test.YtpghimiecigakaaDoorBase
import Derived.Test.YtpghimiecigakaaDoorLxD
import Derived.Lib.Hide
namespace Go.Proofs.YtpghimiecigakaaDoor
open Go.RowKit

def setHeap (w : World) (r : Nat) (o : Obj) : World := { w with heap := w.heap.setIfInBounds r o }
theorem setHeap_same {w : World} {r : Nat} {o o' : Obj} (hb : w.heap[r]? = some o) : (setHeap w r o').heap[r]? = some o' := (MapKept.heap_set hb).1
theorem Mods.setHeap {L : List Nat} {a w : World} (h : Mods L a w) {r : Nat} (hr : r ∈ L ∨ a.heap.size ≤ r) (o : Obj) : Mods L a (setHeap w r o) :=
  h.trans (L' := [r]) ⟨rfl, rfl, rfl, by simp [Proofs.YtpghimiecigakaaDoor.setHeap], fun k hk hn => by
    show (w.heap.setIfInBounds r o)[k]? = w.heap[k]?
    have : ¬ r = k := fun e => hn (by simp [e])
    simp [this]⟩ (by simpa using hr)

theorem run_update_at {P : Program} (T kt et : TypeId) (d : TypeDesc) (hT : P.underlying T = some (.map kt et)) (hk : P.underlying kt = some d) (w : World) (r : Nat) (es : Array MapEntry) (clock : Nat) (hb : w.heap[r]? = some (.map es clock)) (k v : Value)
    (hkey : MapKept.IsKey d k) (hf : Instr.findNow d k es.toList 0 = some none) :
    (Instr.mapUpdate T (.map (some r)) k v).run P w = .ok () (setHeap w r (.map (es.push { key := k, val := v, born := clock }) (clock + 1))) := by
  have hc : (Instr.checkKey false 10000 kt k).run P w = .ok () w := MapKept.run_checkKey hk hkey false 9999
  simp [Instr.mapUpdate, run_underlying hT, MapKept.run_getObj_map hb, hc, MapKept.run_findKey hk hf, MapKept.run_setObj_map _ hb, Result.andThen]
  rfl

/-- A key that is there: its value is another one. -/
theorem run_update_old {P : Program} (T kt et : TypeId) (d : TypeDesc) (hT : P.underlying T = some (.map kt et)) (hk : P.underlying kt = some d) (w : World) (r : Nat) (es : Array MapEntry) (clock : Nat) (hb : w.heap[r]? = some (.map es clock)) (k v : Value)
    (hkey : MapKept.IsKey d k) (j : Nat) (u : Value) (hf : Instr.findNow d k es.toList 0 = some (some (j, u))) (e : MapEntry) (he : es[j]? = some e) (hek : e.key = k) :
    (Instr.mapUpdate T (.map (some r)) k v).run P w = .ok () (setHeap w r (.map (es.modify j fun e => { e with key := k, val := v }) clock)) := by
  have hc : (Instr.checkKey false 10000 kt k).run P w = .ok () w := MapKept.run_checkKey hk hkey false 9999
  simp [Instr.mapUpdate, run_underlying hT, MapKept.run_getObj_map hb, hc, MapKept.run_findKey hk hf, he, hek, MapKept.run_keyThatStays hkey, MapKept.run_setObj_map _ hb, Result.andThen]
  rfl

theorem run_lookup_at {P : Program} (T kt et : TypeId) (d : TypeDesc) (hT : P.underlying T = some (.map kt et)) (hk : P.underlying kt = some d) (w : World) (b : Nat) (es : Array MapEntry) (clock : Nat) (hb : w.heap[b]? = some (.map es clock)) (k : Value) (z : Value)
    (hz : ∀ w, (zeroValue et).run P w = .ok z w) (hkey : MapKept.IsKey d k) (r : Option (Nat × Value)) (hf : Instr.findNow d k es.toList 0 = some r) :
    (Instr.lookup T (.map (some b)) k true).run P w = .ok (.tuple #[(r.map (·.2)).getD z, .bool r.isSome]) w := by
  have hc : (Instr.checkKey es.isEmpty 10000 kt k).run P w = .ok () w := MapKept.run_checkKey hk hkey _ 9999
  cases r <;> simp [Instr.lookup, run_underlying hT, MapKept.run_getObj_map hb, hc, MapKept.run_findKey hk hf, hz, Result.andThen]

/-! ### The map of the words -/

/-- The entries of a set of texts. -/
def entriesOf (l : List (List UInt8)) : Array MapEntry := (l.zipIdx.map fun x => ({ key := .string ⟨x.1.toArray⟩, val := .agg #[], born := x.2 } : MapEntry)).toArray

theorem entries_keys (l : List (List UInt8)) : ∀ x ∈ (entriesOf l).toList, MapKept.IsKey .string x.key := by
  intro x hx
  simp only [entriesOf, List.mem_map] at hx
  obtain ⟨y, -, rfl⟩ := hx
  trivial
theorem entries_has (l : List (List UInt8)) (s : ByteArray) : (∃ x ∈ (entriesOf l).toList, x.key = .string s) ↔ s.data.toList ∈ l := by
  simp only [entriesOf, List.mem_map]
  constructor
  · rintro ⟨x, ⟨y, hy, rfl⟩, hk⟩
    simp only [Value.string.injEq] at hk
    subst hk
    have := List.mem_zipIdx hy
    simpa using this.2.2 ▸ List.getElem_mem _
  · intro h
    obtain ⟨i, hi, he⟩ := List.getElem_of_mem h
    refine ⟨_, ⟨(l[i], i), ?_, rfl⟩, ?_⟩
    · rw [List.mem_iff_getElem]; exact ⟨i, by simpa using hi, by simp⟩
    · simp only [he]
theorem entries_snoc (l : List (List UInt8)) (s : List UInt8) : (entriesOf l).push { key := .string ⟨s.toArray⟩, val := .agg #[], born := l.length } = entriesOf (l ++ [s]) := by
  simp [entriesOf, List.zipIdx_append]

theorem find_new (l : List (List UInt8)) (s : ByteArray) (h : s.data.toList ∉ l) : Instr.findNow .string (.string s) (entriesOf l).toList 0 = some none := by
  rcases MapKept.findNow_spec (d := .string) (k := .string s) trivial (entriesOf l).toList 0 (entries_keys l) with h1 | ⟨j, e, -, h2, h3⟩
  · exact h1.1
  · exact absurd ((entries_has l s).1 ⟨e, List.mem_of_getElem? h2, h3⟩) h
theorem find_any (l : List (List UInt8)) (s : ByteArray) : ∃ r, Instr.findNow .string (.string s) (entriesOf l).toList 0 = some r ∧ r.isSome = l.contains s.data.toList ∧ ∀ z, (r.map (·.2)).getD z = z ∨ (r.map (·.2)).getD z = .agg #[] := by
  rcases MapKept.findNow_spec (d := .string) (k := .string s) trivial (entriesOf l).toList 0 (entries_keys l) with ⟨h1, h2⟩ | ⟨j, e, h1, h2, h3⟩
  · refine ⟨none, h1, ?_, fun z => .inl rfl⟩
    have : s.data.toList ∉ l := fun hm => by
      obtain ⟨x, hx, hk⟩ := (entries_has l s).2 hm
      exact h2 x hx hk
    simp [this]
  · refine ⟨some (0 + j, e.val), h1, ?_, fun z => .inr ?_⟩
    · have := (entries_has l s).1 ⟨e, List.mem_of_getElem? h2, h3⟩
      simp [this]
    · have hm := List.mem_of_getElem? h2
      simp only [entriesOf, List.mem_map] at hm
      obtain ⟨y, -, rfl⟩ := hm
      rfl

/-- A block that is the map of the words. -/
def KeyMap (w : World) (mb : Nat) : Prop := ∃ clock, w.heap[mb]? = some (.map (entriesOf keyWords) clock)
theorem KeyMap.mods {w w' : World} {mb : Nat} {L : List Nat} (h : KeyMap w mb) (hM : Mods L w w') (hn : mb ∉ L) : KeyMap w' mb := by
  obtain ⟨c, hc⟩ := h
  exact ⟨c, hM.heap hc hn⟩
theorem KeyMap.look {P : Program} {w : World} {mb : Nat} (h : KeyMap w mb) (T kt et : TypeId) (hT : P.underlying T = some (.map kt et)) (hk : P.underlying kt = some .string) (hz : ∀ w, (zeroValue et).run P w = .ok (.agg #[]) w) (s : ByteArray) :
    (Instr.lookup T (.map (some mb)) (.string s) true).run P w = .ok (.tuple #[.agg #[], .bool (isKey s.data.toList)]) w := by
  obtain ⟨c, hc⟩ := h
  obtain ⟨r, hr, h1, h2⟩ := find_any keyWords s
  rw [run_lookup_at T kt et .string hT hk w mb _ c hc (.string s) (.agg #[]) hz trivial r hr]
  have : (r.map (·.2)).getD (.agg #[]) = .agg #[] := by rcases h2 (.agg #[]) with h | h <;> exact h
  rw [this, h1]
  rfl
end Go.Proofs.YtpghimiecigakaaDoor
