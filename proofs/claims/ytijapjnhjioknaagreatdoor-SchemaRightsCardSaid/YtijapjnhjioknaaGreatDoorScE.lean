/-
  The names that were met, as a map. No condition.
-/
import Derived.Test.YtijapjnhjioknaaGreatDoorScD
namespace Go.Proofs.YtijapjnhjioknaaGreatDoor
open Go.RowKit
open Go.Maps
set_option linter.unusedVariables false

def okP (p : Int × List UInt8) : Prop := (-9223372036854775808 ≤ p.1 ∧ p.1 ≤ 9223372036854775807) ∧ p.2.length ≤ 9223372036854775807
def keyP (p : Int × List UInt8) : Value := placeV p.1 ⟨p.2.toArray⟩
theorem keyP_inj {p q : Int × List UInt8} (h : keyP p = keyP q) : p = q := by
  obtain ⟨a, b⟩ := p; obtain ⟨c, d⟩ := q
  simp [keyP, placeV] at h
  rw [h.1, h.2]
theorem okP.key {p : Int × List UInt8} (h : okP p) : ∃ l, keyOf Tryz.prog 83 (keyP p) = some l := place_key p.1 h.1 _ h.2

/-- The map in block mb holds, each with 1, the places that were met. -/
structure NRow (es : Array MapEntry) (clock : Nat) (met : List (Int × List UInt8)) : Prop where
  stamped : MapKept.Stamped es clock
  sub : ∀ e ∈ es.toList, ∃ p ∈ met, e.key = keyP p ∧ e.val = .int .i64 1
  has : ∀ p ∈ met, ∃ e ∈ es.toList, e.key = keyP p
  ok : ∀ p ∈ met, okP p

theorem NRow.find {es : Array MapEntry} {clock : Nat} {met : List (Int × List UInt8)} (h : NRow es clock met) {p : Int × List UInt8} (hp : okP p) (w : World) :
    (p ∉ met ∧ (Instr.findKey 83 (keyP p) es.toList).run Tryz.prog w = .ok none w) ∨
    (p ∈ met ∧ ∃ j e, (Instr.findKey 83 (keyP p) es.toList).run Tryz.prog w = .ok (some (j, e.val)) w ∧ es[j]? = some e ∧ e.key = keyP p ∧ e.val = .int .i64 1) := by
  obtain ⟨l, hl⟩ := hp.key
  have hall : ∀ e ∈ es.toList, ∃ l, keyOf Tryz.prog 83 e.key = some l := fun e he => by
    obtain ⟨q, hq, hk, -⟩ := h.sub e he
    rw [hk]; exact (h.ok q hq).key
  rcases place_keyed.find w hl es.toList hall with ⟨h1, h2⟩ | ⟨j, e, h1, h2, h3⟩
  · left
    refine ⟨fun hm => ?_, h1⟩
    obtain ⟨e, he, hk⟩ := h.has p hm
    exact h2 e he hk
  · right
    have he : e ∈ es.toList := List.mem_of_getElem? h2
    obtain ⟨q, hq, hk, hv⟩ := h.sub e he
    have : p = q := keyP_inj (h3.symm.trans hk)
    subst this
    exact ⟨hq, j, e, h1, by simpa using h2, h3, hv⟩

theorem NRow.push {es : Array MapEntry} {clock : Nat} {met : List (Int × List UInt8)} (h : NRow es clock met) {p : Int × List UInt8} (hp : okP p) (hn : p ∉ met) : NRow (es.push { key := keyP p, val := .int .i64 1, born := clock }) (clock + 1) (p :: met) := by
  have hk : ∀ x ∈ es.toList, x.key ≠ keyP p := fun x hx he => by
    obtain ⟨q, hq, hk, -⟩ := h.sub x hx
    exact hn (keyP_inj (he.symm.trans hk) ▸ hq)
  refine ⟨MapKept.stamped_push h.stamped hk, fun e he => ?_, fun q hq => ?_, fun q hq => ?_⟩
  · simp at he
    rcases he with he | rfl
    · obtain ⟨q, hq, h1, h2⟩ := h.sub e (by simpa using he)
      exact ⟨q, List.mem_cons_of_mem _ hq, h1, h2⟩
    · exact ⟨p, List.mem_cons_self, rfl, rfl⟩
  · rcases List.mem_cons.1 hq with rfl | hq
    · exact ⟨{ key := keyP q, val := .int .i64 1, born := clock }, by simp, rfl⟩
    · obtain ⟨e, he, hk⟩ := h.has q hq
      exact ⟨e, by simp; left; simpa using he, hk⟩
  · rcases List.mem_cons.1 hq with rfl | hq
    · exact hp
    · exact h.ok q hq
end Go.Proofs.YtijapjnhjioknaaGreatDoor
