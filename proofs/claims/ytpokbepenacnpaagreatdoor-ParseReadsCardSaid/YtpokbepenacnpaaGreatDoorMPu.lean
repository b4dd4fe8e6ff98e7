/-
  The chapter's examples, by reckoning. Plain; it speaks of no program; no condition.
-/
import Derived.Test.YtpokbepenacnpaaGreatDoorMPq
import Derived.Test.YtpokbepenacnpaaGreatDoorMPy
import Derived.Test.YtpokbepenacnpaaGreatDoorMPf
namespace Go.Proofs.YtpokbepenacnpaaGreatDoor
open Go.RowKit
set_option linter.unusedVariables false

def exA : Bs := [83, 69, 76, 69, 67, 84, 32, 97, 32, 43, 32, 49, 32, 70, 82, 79, 77, 32, 116]
def exB : Bs := [83, 69, 76, 69, 67, 84, 32, 70, 82, 79, 77, 32, 116]
def Parsed.text : Parsed → Option Bs
  | .good q => some (queryS q)
  | .bad _ _ => none
theorem ex_a : (parseV exA).text = some [40, 43, 32, 97, 32, 49, 41, 32, 102, 114, 111, 109, 32, 116] := by decide +kernel
theorem ex_b : parseV exB = .bad 7 8 := by decide +kernel
end Go.Proofs.YtpokbepenacnpaaGreatDoor

namespace Go.Proofs.YtpokbepenacnpaaGreatDoor
open Go.RowKit
set_option linter.unusedVariables false

theorem parse_good (w : World) (hT : Tabs w) (l : Bs) (q : QueryT) (h : parseV l = .good q) (hs : l.length ≤ 9223372036854775807) :
    Calls Tryz.prog 10 #[.string ⟨l.toArray⟩] w fun e w' => ∃ qb, e = .returned (.tuple #[PtrV qb, .int .i64 0, .int .i64 0]) ∧ Mods [] w w' ∧ QueryAt w' [] qb q ∧ QueryOk q :=
  (parse_any w hT ⟨l.toArray⟩ hs).mono fun e w' ⟨h1, h2⟩ => by
    have e1 : (⟨l.toArray⟩ : ByteArray).data.toList = l := by simp
    rw [e1, h] at h2
    obtain ⟨h3, qb, h4, -, h5⟩ := h2
    exact ⟨qb, h4, h1, h5, h3⟩
theorem parse_bad (w : World) (hT : Tabs w) (l : Bs) (p k : Nat) (h : parseV l = .bad p k) (hs : l.length ≤ 9223372036854775807) :
    Calls Tryz.prog 10 #[.string ⟨l.toArray⟩] w fun e w' => e = .returned (.tuple #[.pointer none, .int .i64 p, .int .i64 k]) ∧ Mods [] w w' :=
  (parse_any w hT ⟨l.toArray⟩ hs).mono fun e w' ⟨h1, h2⟩ => by
    have e1 : (⟨l.toArray⟩ : ByteArray).data.toList = l := by simp
    rw [e1, h] at h2
    exact ⟨h2, h1⟩
/-- What the laws of this chapter ask of Go's own variables. -/
def Tabs2 (w : World) : Prop := Tabs w ∧ Pow w
theorem Tabs2.later {w w' : World} (h : Tabs2 w) (hM : Mods [] w w') : Tabs2 w' := ⟨h.1.mods hM, h.2.later hM⟩
theorem text_of {r : Parsed} {x : Bs} (h : r.text = some x) : ∃ q, r = .good q ∧ queryS q = x := by
  cases r with
  | good q => exact ⟨q, rfl, by simpa [Parsed.text] using h⟩
  | bad p k => cases h

set_option maxRecDepth 100000 in
set_option maxHeartbeats 4000000 in
theorem examples13_any (w : World) (hT : Tabs2 w) : Calls Tryz.prog 8 #[] w fun e w' => e = .returned (.bool true) ∧ Mods [] w w' := by
  obtain ⟨q, hq, hx⟩ := text_of ex_a
  have hp1 : Calls Tryz.prog 10 #[.string ⟨#[83, 69, 76, 69, 67, 84, 32, 97, 32, 43, 32, 49, 32, 70, 82, 79, 77, 32, 116]⟩] w _ := parse_good w hT.1 exA q hq (by decide)
  have HT := Lib.hid hT
  have HX := Lib.hid hx
  clear hT hq hx
  go_enter Tryz.func8, Tryz.ntmps8
  go_wp2_with fail
  (with_reducible refine hp1.mono ?_)
  rintro e w2 ⟨qb, rfl, hM2, hQ, hok⟩
  unfold PtrV
  clear hp1
  have hp2 : Calls Tryz.prog 10 #[.string ⟨#[83, 69, 76, 69, 67, 84, 32, 70, 82, 79, 77, 32, 116]⟩] w2 _ := parse_bad w2 (HT.out.1.mods hM2) exB 7 8 ex_b (by decide)
  have HQ := Lib.hid (And.intro hQ hok)
  clear hQ hok
  go_wp2_with fail
  (with_reducible refine hp2.mono ?_)
  rintro e w3 ⟨rfl, hM3⟩
  clear hp2
  have hM13 := hM2.trans hM3 (by simp)
  have ht := queryText_any w3 qb q (HT.out.2.later hM13) (HQ.out.1.later hM3) HQ.out.2
  rw [HX.out] at ht
  unfold PtrV at ht
  go_wp2_with fail
  (with_reducible refine ht.mono ?_)
  rintro e w4 ⟨rfl, hM4⟩
  clear ht
  have hs := show_nil w4
  go_wp2_with fail
  (with_reducible refine hs.mono ?_)
  rintro e w5 ⟨rfl, hM5⟩
  clear hs
  go_wp2_with fail
  go_ret
  exact ⟨rfl, (hM13.trans hM4 (by simp)).trans hM5 (by simp)⟩
end Go.Proofs.YtpokbepenacnpaaGreatDoor
