/-
  schema's names.fresh at a place that was met, walked. No condition.
-/
import Derived.Test.YtijapjnhjioknaaGreatDoorScF
namespace Go.Proofs.YtijapjnhjioknaaGreatDoor
open Go.RowKit
open Go.Maps
set_option linter.unusedVariables false

theorem born_at {es : Array MapEntry} {clock : Nat} (h : MapKept.Stamped es clock) {j : Nat} {e : MapEntry} (he : es[j]? = some e) : es.findIdx? (fun x => (x.born : Int) == (e.born : Int)) = some j := by
  obtain ⟨hj, hje⟩ := Array.getElem?_eq_some_iff.1 he
  rw [Array.findIdx?_eq_some_iff_getElem]
  refine ⟨hj, by rw [hje]; simp, fun i hi => ?_⟩
  have hnd := h.2.1
  intro hc
  rw [beq_iff_eq] at hc
  have hij : (es.toList.map (·.born))[i]? = (es.toList.map (·.born))[j]? := by
    simp only [List.getElem?_map, Array.getElem?_toList, Array.getElem?_eq_getElem hj, Array.getElem?_eq_getElem (show i < es.size by omega), Option.map_some]
    congr 1
    rw [hje]; omega
  have := (List.getElem?_inj (by simp; omega) hnd).1 hij
  omega
theorem modify_same {es : Array MapEntry} {j : Nat} {e : MapEntry} {k : Value} (he : es[j]? = some e) (hk : e.key = k) : es.modify j (fun e => { e with key := k }) = es := by
  apply Array.ext_getElem?
  intro i
  rw [Array.getElem?_modify]
  by_cases h : j = i
  · subst h
    rw [if_pos rfl, he]
    simp [← hk]
  · rw [if_neg h]
theorem find_turned {es : Array MapEntry} {clock : Nat} {met : List (Int × List UInt8)} (h : NRow es clock met) {p : Int × List UInt8} (hp : okP p) {j : Nat} {e : MapEntry} (he : es[j]? = some e) (hk : e.key = keyP p) (v : Value) (w : World) :
    ∃ i, (Instr.findKey 83 (keyP p) (es.modify j fun x => { x with val := v }).toList).run Tryz.prog w = .ok (some (i, v)) w := by
  obtain ⟨l, hl⟩ := hp.key
  have hget : ∀ i x, (es.modify j fun x => { x with val := v })[i]? = some x → ∃ y, es[i]? = some y ∧ x.key = y.key ∧ (i = j → x.val = v) := by
    intro i x hx
    rw [Array.getElem?_modify] at hx
    by_cases hij : j = i
    · rw [if_pos hij] at hx
      obtain ⟨y, hy, rfl⟩ := Option.map_eq_some_iff.1 hx
      exact ⟨y, hy, rfl, fun _ => rfl⟩
    · rw [if_neg hij] at hx
      exact ⟨x, hx, rfl, fun h => absurd h.symm hij⟩
  have hall : ∀ x ∈ (es.modify j fun x => { x with val := v }).toList, ∃ l, keyOf Tryz.prog 83 x.key = some l := fun x hx => by
    obtain ⟨i, hi⟩ := List.mem_iff_getElem?.1 hx
    rw [Array.getElem?_toList] at hi
    obtain ⟨y, hy, hky, -⟩ := hget i x hi
    obtain ⟨q, hq, hkq, -⟩ := h.sub y (List.mem_of_getElem? (by rw [Array.getElem?_toList]; exact hy))
    rw [hky, hkq]; exact (h.ok q hq).key
  rcases place_keyed.find w hl _ hall with ⟨h1, h2⟩ | ⟨i, x, h1, h2, h3⟩
  · have hm : (es.modify j fun x => { x with val := v })[j]? = some { e with val := v } := by rw [Array.getElem?_modify, if_pos rfl, he]; rfl
    exact absurd hk (h2 { e with val := v } (List.mem_of_getElem? (by rw [Array.getElem?_toList]; exact hm)))
  · rw [Array.getElem?_toList] at h2
    obtain ⟨y, hy, hky, hv⟩ := hget i x h2
    have hij : (es.toList.map (·.key))[i]? = (es.toList.map (·.key))[j]? := by
      simp only [List.getElem?_map, Array.getElem?_toList, hy, he, Option.map_some]
      rw [← hky, h3, hk]
    have hlt : i < (es.toList.map (·.key)).length := by
      have := (Array.getElem?_eq_some_iff.1 hy).1
      simpa using this
    have := (List.getElem?_inj hlt h.stamped.2.2).1 hij
    rw [hv this] at h1
    exact ⟨i, h1⟩

set_option maxRecDepth 100000 in
set_option maxHeartbeats 1000000 in
theorem fresh_old (w : World) (mb : Nat) (es : Array MapEntry) (clock : Nat) (hb : w.heap[mb]? = some (.map es clock)) (met : List (Int × List UInt8)) (hN : NRow es clock met) (t : Int) (s : ByteArray) (hp : okP (t, s.data.toList)) (hn : (t, s.data.toList) ∈ met) :
    Calls Tryz.prog 29 #[.map (some mb), .int .i64 t, .string s] w fun e w' => e = .returned (.bool false) ∧ Mods [mb] w w' := by
  obtain ⟨l, hl⟩ := hp.key
  have hfa : ∀ W, ∃ j e, (Instr.findKey 83 (keyP (t, s.data.toList)) es.toList).run Tryz.prog W = .ok (some (j, e.val)) W ∧ es[j]? = some e ∧ e.key = keyP (t, s.data.toList) ∧ e.val = .int .i64 1 := fun W => by
    rcases hN.find hp W with ⟨h, -⟩ | ⟨-, h⟩
    · exact absurd hn h
    · exact h
  have hb1 : w.drew.heap[mb]? = some (.map es clock) := hb
  obtain ⟨j, e, hf, he, hk, hv⟩ := hfa w.drew
  have e1 := run_lookup_k (T := 53) place_keyed Tryz.underlying53 hb1 hl zero_int _ hf
  have e2 := run_mapEntry_old (T := 53) place_keyed Tryz.underlying53 hb1 hl hf he hk
  have hsame := modify_same he hk
  rw [hsame] at e2
  have hb2 := setHeap_same (o' := .map es clock) hb1
  obtain ⟨j2, e', hf2, -, -, hv2⟩ := hfa (setHeap w.drew mb (.map es clock))
  have e3 := run_lookup_k (T := 53) place_keyed Tryz.underlying53 hb2 hl zero_int _ hf2
  have e4 := run_entryStore_at (P := Tryz.prog) 53 hb2 (e.born : Int) (.int .i64 2) (born_at hN.stamped he)
  have hb3 := setHeap_same (o' := .map (es.modify j fun x => { x with val := .int .i64 2 }) clock) hb2
  obtain ⟨j5, hf5⟩ := find_turned hN hp he hk (.int .i64 2) (setHeap (setHeap w.drew mb (.map es clock)) mb (.map (es.modify j fun x => { x with val := .int .i64 2 }) clock))
  have e5 := run_lookup_k (T := 53) place_keyed Tryz.underlying53 hb3 hl zero_int _ hf5
  have hM2 := (((Mods.refl [mb] w).drew).setHeap (r := mb) (.inl (by simp)) (.map es clock)).setHeap (r := mb) (.inl (by simp)) (.map (es.modify j fun x => { x with val := .int .i64 2 }) clock)
  have hkv : keyP (t, s.data.toList) = .agg #[.int .i64 t, .string s] := rfl
  simp only [Option.map_some, Option.getD_some, hv, hv2] at e1 e2 e3 e5
  rw [hkv] at e1 e2 e3 e5
  generalize setHeap w.drew mb (.map es clock) = w1 at *
  generalize setHeap w1 mb (.map (es.modify j fun x => { x with val := .int .i64 2 }) clock) = w2 at *
  clear hb2 hf2 hf hf5 hb1 hb3 hb hfa he hk hv hv2 hsame hkv hN hp hn
  go_enter Tryz.func29, Tryz.ntmps29
  go_wp2_with fail
  go_region
  clear e1 e2 e3 e4
  go_wp2_with fail
  go_ret
  exact ⟨rfl, hM2⟩
end Go.Proofs.YtijapjnhjioknaaGreatDoor
