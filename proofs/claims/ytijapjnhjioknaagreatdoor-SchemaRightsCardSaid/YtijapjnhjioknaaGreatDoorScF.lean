/-
  schema's names.fresh, walked (under way). No condition.
-/
import Derived.Test.YtijapjnhjioknaaGreatDoorScE
namespace Go.Proofs.YtijapjnhjioknaaGreatDoor
open Go.RowKit
open Go.Maps
set_option linter.unusedVariables false

theorem zero_int (w : World) : (zeroValue 3).run Tryz.prog w = .ok (.int .i64 0) w := by kernel_rfl

theorem find_pushed {es : Array MapEntry} {clock : Nat} {met : List (Int × List UInt8)} (h : NRow es clock met) {p : Int × List UInt8} (hp : okP p) (hn : p ∉ met) (v : Value) (c : Nat) (w : World) :
    ∃ j, (Instr.findKey 83 (keyP p) (es.push { key := keyP p, val := v, born := c }).toList).run Tryz.prog w = .ok (some (j, v)) w := by
  obtain ⟨l, hl⟩ := hp.key
  have hall : ∀ e ∈ (es.push { key := keyP p, val := v, born := c }).toList, ∃ l, keyOf Tryz.prog 83 e.key = some l := fun e he => by
    simp at he
    rcases he with he | rfl
    · obtain ⟨q, hq, hk, -⟩ := h.sub e (by simpa using he)
      rw [hk]; exact (h.ok q hq).key
    · exact ⟨l, hl⟩
  rcases place_keyed.find w hl _ hall with ⟨h1, h2⟩ | ⟨j, e, h1, h2, h3⟩
  · exact absurd rfl (h2 { key := keyP p, val := v, born := c } (by simp))
  · have he := List.mem_of_getElem? h2
    simp at he
    rcases he with he | rfl
    · obtain ⟨q, hq, hk, -⟩ := h.sub e (by simpa using he)
      exact absurd (keyP_inj (h3.symm.trans hk) ▸ hq) hn
    · exact ⟨j, h1⟩
theorem born_last {es : Array MapEntry} {clock : Nat} (h : MapKept.Stamped es clock) (x : MapEntry) (hx : x.born = clock) : (es.push x).findIdx? (fun e => (e.born : Int) == (clock : Int)) = some es.size := by
  rw [Array.findIdx?_push]
  have : es.findIdx? (fun e => (e.born : Int) == (clock : Int)) = none := by
    rw [Array.findIdx?_eq_none_iff]
    intro e he
    have := h.1 e (by simpa using he)
    rw [beq_eq_false_iff_ne]; omega
  rw [this]
  simp [hx]

set_option maxRecDepth 100000 in
set_option maxHeartbeats 1000000 in
theorem fresh_new (w0 w : World) (hT : Tabs w0) (hM0 : Mods [] w0 w) (mb : Nat) (hmb : w0.heap.size ≤ mb) (es : Array MapEntry) (clock : Nat) (hb : w.heap[mb]? = some (.map es clock)) (met : List (Int × List UInt8)) (hN : NRow es clock met) (t : Int) (s : ByteArray) (hp : okP (t, s.data.toList)) (hn : (t, s.data.toList) ∉ met) :
    Calls Tryz.prog 29 #[.map (some mb), .int .i64 t, .string s] w fun e w' => e = .returned (.bool (nameL s.data.toList)) ∧ Mods [mb] w w' ∧ ∃ es' clock', w'.heap[mb]? = some (.map es' clock') ∧ NRow es' clock' ((t, s.data.toList) :: met) := by
  obtain ⟨l, hl⟩ := hp.key
  have hf : (Instr.findKey 83 (placeV t s) es.toList).run Tryz.prog w.drew = .ok none w.drew := by
    rcases hN.find hp w.drew with ⟨-, h⟩ | ⟨h, -⟩
    · exact h
    · exact absurd h hn
  have hb1 : w.drew.heap[mb]? = some (.map es clock) := hb
  have e1 := run_lookup_k (T := 53) place_keyed Tryz.underlying53 hb1 hl zero_int none hf
  have e2 := run_mapEntry_new (T := 53) place_keyed Tryz.underlying53 hb1 hl zero_int hf
  have hb2 := setHeap_same (o' := .map (es.push { key := keyP (t, s.data.toList), val := .int .i64 0, born := clock }) (clock + 1)) hb1
  obtain ⟨j, hf2⟩ := find_pushed hN hp hn (.int .i64 0) clock (setHeap w.drew mb (.map (es.push { key := keyP (t, s.data.toList), val := .int .i64 0, born := clock }) (clock + 1)))
  have e3 := run_lookup_k (T := 53) place_keyed Tryz.underlying53 hb2 hl zero_int _ hf2
  have e4 := run_entryStore_at (P := Tryz.prog) 53 hb2 (clock : Int) (.int .i64 1) (born_last hN.stamped _ rfl)
  have hpush : (es.push { key := keyP (t, s.data.toList), val := .int .i64 0, born := clock }).modify es.size (fun e => { e with val := .int .i64 1 }) = es.push { key := keyP (t, s.data.toList), val := .int .i64 1, born := clock } := by
    apply Array.ext_getElem?
    intro i
    rw [Array.getElem?_modify]
    by_cases h : es.size = i
    · subst h; simp
    · rw [if_neg h, Array.getElem?_push, Array.getElem?_push, if_neg (Ne.symm h), if_neg (Ne.symm h)]
  rw [hpush] at e4
  have hkv : keyP (t, s.data.toList) = .agg #[.int .i64 t, .string s] := rfl
  simp only [Option.map_none, Option.getD_none, Option.map_some, Option.getD_some] at e1 e3
  have hMw1 := (((Mods.refl [mb] w).drew).setHeap (r := mb) (.inl (by simp)) (.map (es.push { key := keyP (t, s.data.toList), val := .int .i64 0, born := clock }) (clock + 1)))
  have hb3 := setHeap_same (o' := .map (es.push { key := keyP (t, s.data.toList), val := .int .i64 1, born := clock }) (clock + 1)) hb2
  have hM2 := hMw1.setHeap (r := mb) (.inl (by simp)) (.map (es.push { key := keyP (t, s.data.toList), val := .int .i64 1, born := clock }) (clock + 1))
  obtain ⟨j5, hf5⟩ := find_pushed hN hp hn (.int .i64 1) clock (setHeap (setHeap w.drew mb (.map (es.push { key := keyP (t, s.data.toList), val := .int .i64 0, born := clock }) (clock + 1))) mb (.map (es.push { key := keyP (t, s.data.toList), val := .int .i64 1, born := clock }) (clock + 1)))
  have e5 := run_lookup_k (T := 53) place_keyed Tryz.underlying53 hb3 hl zero_int _ hf5
  simp only [Option.map_some, Option.getD_some] at e5
  have hNN := Lib.hid (hN.push hp hn)
  rw [hkv] at e1 e2 e3 e4 e5 hb3 hM2
  generalize setHeap w.drew mb (.map (es.push { key := .agg #[.int .i64 t, .string s], val := .int .i64 0, born := clock }) (clock + 1)) = w1 at *
  clear hb2 hf2 hpush hf hf5 hMw1 hb1
  go_enter Tryz.func29, Tryz.ntmps29
  go_wp2_with fail
  go_region
  clear e1 e2 e3 e4
  generalize setHeap w1 mb (.map (es.push { key := .agg #[.int .i64 t, .string s], val := .int .i64 1, born := clock }) (clock + 1)) = w2 at *
  have hT2 := hT.mods (hM0.trans hM2 (fun x hx => .inr (by simp at hx; omega)))
  have hnm := nameRight_any w2 hT2 s hp.2
  go_wp2_with fail
  (with_reducible refine hnm.mono ?_)
  rintro e w3 ⟨rfl, hM3⟩
  clear hnm
  go_wp2_with fail
  go_ret
  exact ⟨rfl, hM2.trans hM3 (by simp), _, _, hM3.heap hb3 (by simp), hNN.out⟩
end Go.Proofs.YtijapjnhjioknaaGreatDoor
