/-
  A map keyed by whatever reads as a key: look-up, 'm[k]++' (mapEntry, entryStore) as run equations. It speaks of no program; no conditions.
-/
import Derived.Test.YtijapjnhjioknaaGreatDoorScC
import Derived.Test.YtijapjnhjioknaaGreatDoorLxE
namespace Go.Proofs.YtijapjnhjioknaaGreatDoor
open Go.RowKit
open Go.Maps
set_option linter.unusedVariables false

theorem run_lookup_k {P : Program} {T kt et : TypeId} (K : Keyed P kt) (hT : P.underlying T = some (.map kt et)) {w : World} {mb : Nat} {es : Array MapEntry} {clock : Nat} (hb : w.heap[mb]? = some (.map es clock)) {k : Value} {l : Lit} (hk : keyOf P kt k = some l) {z : Value}
    (hz : ∀ w, (zeroValue et).run P w = .ok z w) (r : Option (Nat × Value)) (hf : (Instr.findKey kt k es.toList).run P w = .ok r w) :
    (Instr.lookup T (.map (some mb)) k false).run P w = .ok ((r.map (·.2)).getD z) w := by
  have hc : (Instr.checkKey es.isEmpty 10000 kt k).run P w = .ok () w := K.check w _ hk
  cases r <;> simp [Instr.lookup, run_underlying hT, MapKept.run_getObj_map hb, hc, hf, hz, Result.andThen]

theorem run_mapEntry_new {P : Program} {T kt et : TypeId} (K : Keyed P kt) (hT : P.underlying T = some (.map kt et)) {w : World} {mb : Nat} {es : Array MapEntry} {clock : Nat} (hb : w.heap[mb]? = some (.map es clock)) {k : Value} {l : Lit} (hk : keyOf P kt k = some l) {z : Value}
    (hz : ∀ w, (zeroValue et).run P w = .ok z w) (hf : (Instr.findKey kt k es.toList).run P w = .ok none w) :
    (Instr.mapEntry T (.map (some mb)) k).run P w = .ok (.tuple #[z, .int .i64 clock]) (setHeap w mb (.map (es.push { key := k, val := z, born := clock }) (clock + 1))) := by
  have hc : (Instr.checkKey false 10000 kt k).run P w = .ok () w := K.check w _ hk
  simp [Instr.mapEntry, run_underlying hT, MapKept.run_getObj_map hb, hc, hf, hz, MapKept.run_setObj_map _ hb, Result.andThen]
  exact ⟨rfl, rfl⟩

theorem run_mapEntry_old {P : Program} {T kt et : TypeId} (K : Keyed P kt) (hT : P.underlying T = some (.map kt et)) {w : World} {mb : Nat} {es : Array MapEntry} {clock : Nat} (hb : w.heap[mb]? = some (.map es clock)) {k : Value} {l : Lit} (hk : keyOf P kt k = some l)
    {j : Nat} {e : MapEntry} (hf : (Instr.findKey kt k es.toList).run P w = .ok (some (j, e.val)) w) (he : es[j]? = some e) (hek : e.key = k) :
    (Instr.mapEntry T (.map (some mb)) k).run P w = .ok (.tuple #[e.val, .int .i64 e.born]) (setHeap w mb (.map (es.modify j fun e => { e with key := k }) clock)) := by
  have hc : (Instr.checkKey false 10000 kt k).run P w = .ok () w := K.check w _ hk
  have hs : (Instr.keyThatStays k k).run P w = .ok k w := K.stays w hk
  simp [Instr.mapEntry, run_underlying hT, MapKept.run_getObj_map hb, hc, hf, he, hek, hs, MapKept.run_setObj_map _ hb, Result.andThen]
  exact ⟨rfl, rfl⟩

theorem run_entryStore_at {P : Program} (T : TypeId) {w : World} {mb : Nat} {es : Array MapEntry} {clock : Nat} (hb : w.heap[mb]? = some (.map es clock)) (b : Int) (v : Value) {i : Nat} (hi : es.findIdx? (fun e => (e.born : Int) == b) = some i) :
    (Instr.entryStore T (.map (some mb)) (.int .i64 b) v).run P w = .ok () (setHeap w mb (.map (es.modify i fun e => { e with val := v }) clock)) := by
  have h1 : (asIntOf (.int .i64 b)).run P w = .ok (.i64, b) w := rfl
  simp [Instr.entryStore, MapKept.run_getObj_map hb, asInt, h1, hi, MapKept.run_setObj_map _ hb, Result.andThen]
  rfl
end Go.Proofs.YtijapjnhjioknaaGreatDoor
