/-
  page.Row: the row that stands somewhere, or none. Its plain answer; and where there is no room for a row.
-/
import Derived.Test.YtagpnalhilgcpaaPagI
import Derived.Test.YtagpnalhilgcpaaPagE
namespace Go.Proofs.Ytagpnalhilgcpaa
open Go.RowKit
set_option linter.unusedVariables false

/-- The number of eight bytes. -/
def numAt (f : Nat → UInt8) (x : Nat) : Nat := num (fun j => f (x + j)) 8

/-- What page.get hands back: what stands in a slot of number n, of a type; whether it is there. -/
def getP (f : Nat → UInt8) (nP : Nat) (t : Int × Int) (n : Nat) : V × Bool :=
  if t.1 ≠ 3 then (⟨false, IntKind.i64.wrap n, ⟨#[]⟩⟩, true)
  else (⟨false, 0, if hasB nP ((n / 256 : Nat) : Int) ((n % 256 : Nat) : Int) = true then strF f (n / 256) (n % 256) else ⟨#[]⟩⟩, hasB nP ((n / 256 : Nat) : Int) ((n % 256 : Nat) : Int))

/-- The value in slot k, of a type, and whether it is there, ahead of the look whether it fits. -/
def rawAt (f : Nat → UInt8) (nP a : Nat) (t : Int × Int) (k : Nat) : V × Bool :=
  if numAt f a / 2 ^ k % 2 ≠ 0 then (⟨true, 0, ⟨#[]⟩⟩, true) else getP f nP t (numAt f (a + 8 * (k + 1)))

/-- The value in slot k, of a type; it is none where there is no such text, or it does not fit. -/
def valAt (f : Nat → UInt8) (nP a : Nat) (t : Int × Int) (k : Nat) : Option V :=
  if ((rawAt f nP a t k).2 && fitsV t.1 t.2 true (rawAt f nP a t k).1.z (rawAt f nP a t k).1.n (rawAt f nP a t k).1.s) = true then some (rawAt f nP a t k).1 else none

set_option maxHeartbeats 1000000 in
set_option maxRecDepth 100000 in
theorem row_none (w : World) (b nP : Nat) (most : Int) (f : Nat → UInt8) (L : List Nat) (h : Mem w b nP most f L) (hnP : nP ≤ 256) (tao : Option Addr) (nT ct : Nat) (hnT : nT ≤ 9223372036854775807) (a : Nat) (ha : a < 18446744073709551616)
    (hno : 64 < nT ∨ 65536 * nP < a + 8 * (nT + 1)) :
    Calls Try.prog 31 #[.pointer (some ⟨b, 0, none⟩), .slice tao nT ct, .int .u64 a] w fun e w' => e = .returned (.tuple #[.slice none 0 0, .bool false]) ∧ Mods [] w w' := by
  have hM1 := ((Mods.refl [] w).alloc (.cells #[.pointer (some ⟨b, 0, none⟩)] 24)).alloc (.cells #[.int .u64 a] 30)
  have hmem := h.mods hM1 (by simp)
  by_cases h64 : nT ≤ 64
  · have hz : sizeI (nT : Int) = ((8 * (nT + 1) : Nat) : Int) := by unfold sizeI; rw [if_pos (by omega)]; omega
    have hbad : hasB nP (a : Int) ((8 * (nT + 1) : Nat) : Int) = false := decide_eq_false (by omega)
    have hby := bytes_bad _ b nP most f L a ((8 * (nT + 1) : Nat) : Int) hmem hnP ha (by omega) (by omega) hbad
    generalize 8 * (nT + 1) = S at *
    go_enter Try.func31, Try.ntmps31
    go_wp2_with fail
    refine (size_any nT _).mono ?_
    rintro e w1 ⟨rfl, rfl⟩
    rw [hz]
    go_wp2_with fail
    refine hby.mono ?_
    rintro e w2 ⟨rfl, hM2⟩
    go_wp2_with fail
    go_ret2
    exact ⟨rfl, hM1.trans hM2 (by simp)⟩
  · have hz : sizeI (nT : Int) = 0 := by unfold sizeI; rw [if_neg (by omega)]
    have hby := bytes_any _ b nP most f L a 0 hmem hnP ha (by omega) (by omega)
    unfold BytesPost at hby
    generalize (if hasB nP (a : Int) 0 = true then strF f a (0 : Int).toNat else ⟨#[]⟩) = S at *
    generalize hasB nP (a : Int) 0 = ok at *
    go_enter Try.func31, Try.ntmps31
    go_wp2_with fail
    refine (size_any nT _).mono ?_
    rintro e w1 ⟨rfl, rfl⟩
    rw [hz]
    go_wp2_with fail
    refine hby.mono ?_
    rintro e w2 ⟨rfl, hM2⟩
    cases ok with
    | false =>
      go_wp2_with fail
      go_ret2
      exact ⟨rfl, hM1.trans hM2 (by simp)⟩
    | true =>
      go_wp2_with fail
      go_ret2
      exact ⟨rfl, hM1.trans hM2 (by simp)⟩
end Go.Proofs.Ytagpnalhilgcpaa
