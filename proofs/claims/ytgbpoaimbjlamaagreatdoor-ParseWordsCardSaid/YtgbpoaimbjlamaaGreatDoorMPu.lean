/-
  The chapter's examples, by reckoning. Plain; it speaks of no program; no condition.
-/
import Derived.Test.YtgbpoaimbjlamaaGreatDoorMPq
import Derived.Test.YtgbpoaimbjlamaaGreatDoorPsXp
import Derived.Test.YtgbpoaimbjlamaaGreatDoorPsZf
namespace Go.Proofs.YtgbpoaimbjlamaaGreatDoor
open Go.RowKit
set_option linter.unusedVariables false

def exA : Bs := [83, 69, 76, 69, 67, 84, 32, 97, 32, 43, 32, 49, 32, 70, 82, 79, 77, 32, 116]
def exB : Bs := [83, 69, 76, 69, 67, 84, 32, 70, 82, 79, 77, 32, 116]
def Parsed.text : Parsed → Option Bs
  | .good q => some (queryS q)
  | .bad _ _ => none
theorem ex_a : (parseV exA).text = some [40, 43, 32, 97, 32, 49, 41, 32, 102, 114, 111, 109, 32, 116] := by decide +kernel
theorem ex_b : parseV exB = .bad 7 8 := by decide +kernel
end Go.Proofs.YtgbpoaimbjlamaaGreatDoor

namespace Go.Proofs.YtgbpoaimbjlamaaGreatDoor
open Go.RowKit
set_option linter.unusedVariables false

def clBase : Bs := [83, 69, 76, 69, 67, 84, 32, 97, 32, 70, 82, 79, 77, 32, 116]
def clParts : List Bs := [[32, 74, 79, 73, 78, 32, 117, 32, 79, 78, 32, 84, 82, 85, 69], [32, 87, 72, 69, 82, 69, 32, 97], [32, 71, 82, 79, 85, 80, 32, 66, 89, 32, 97], [32, 79, 82, 68, 69, 82, 32, 66, 89, 32, 49], [32, 76, 73, 77, 73, 84, 32, 49], [32, 79, 70, 70, 83, 69, 84, 32, 50]]
def clP (i : Nat) : Bs := clParts.getD i []
/-- The text with the first few of the parts that are asked for. -/
def clT (n : Nat) : Nat → Bs
  | 0 => clBase
  | i + 1 => if n / 2 ^ i % 2 = 1 then clT n i ++ clP i else clT n i
def Parsed.isGood : Parsed → Bool
  | .good _ => true
  | .bad _ _ => false
theorem cl_good : ((List.range 256).all fun n => (parseV (clT n 6)).isGood) = true := by decide +kernel
theorem cl_bad : ((List.range 5).all fun k => parseV (clBase ++ clP (k + 1) ++ clP k) == .bad ((clBase ++ clP (k + 1)).length + 1) 8) = true := by decide +kernel
theorem clP_small (i : Nat) : (clP i).length ≤ 15 := by
  by_cases h : i < 6
  · have hall : ((List.range 6).all fun i => decide ((clP i).length ≤ 15)) = true := by decide +kernel
    simpa using List.all_eq_true.1 hall i (List.mem_range.2 h)
  · unfold clP
    rw [List.getD, List.getElem?_eq_none (by show 6 ≤ i; omega)]
    simp
theorem clT_small (n i : Nat) : (clT n i).length ≤ 15 + 15 * i := by
  induction i with
  | zero => show clBase.length ≤ 15; decide
  | succ i ih =>
    unfold clT
    have := clP_small i
    split
    · rw [List.length_append]; omega
    · omega
theorem bit_eq (n i : Nat) : (((n : Int) / 2 ^ i).tmod 2 == 1) = decide (n / 2 ^ i % 2 = 1) := by
  have h1 : (n : Int) / 2 ^ i = ((n / 2 ^ i : Nat) : Int) := by rw [Int.natCast_ediv, Int.natCast_pow]; rfl
  rw [h1]
  generalize n / 2 ^ i = k
  rw [Int.tmod_eq_emod_of_nonneg (by omega)]
  by_cases h : k % 2 = 1
  · rw [decide_eq_true h, beq_iff_eq]; omega
  · rw [decide_eq_false h, beq_eq_false_iff_ne]; omega
def clCells : Array Value := #[.string ⟨#[32, 74, 79, 73, 78, 32, 117, 32, 79, 78, 32, 84, 82, 85, 69]⟩, .string ⟨#[32, 87, 72, 69, 82, 69, 32, 97]⟩, .string ⟨#[32, 71, 82, 79, 85, 80, 32, 66, 89, 32, 97]⟩, .string ⟨#[32, 79, 82, 68, 69, 82, 32, 66, 89, 32, 49]⟩, .string ⟨#[32, 76, 73, 77, 73, 84, 32, 49]⟩, .string ⟨#[32, 79, 70, 70, 83, 69, 84, 32, 50]⟩]
theorem clCells_at (i : Nat) (h : i < 6) : clCells[i]? = some (.string ⟨(clP i).toArray⟩) := by
  have h2 : i = 0 ∨ i = 1 ∨ i = 2 ∨ i = 3 ∨ i = 4 ∨ i = 5 := by omega
  rcases h2 with rfl | rfl | rfl | rfl | rfl | rfl <;> rfl

end Go.Proofs.YtgbpoaimbjlamaaGreatDoor

namespace Go.Proofs.YtgbpoaimbjlamaaGreatDoor
open Go.RowKit
set_option linter.unusedVariables false

theorem parse_good (w : World) (hT : Tabs w) (l : Bs) (q : QueryT) (h : parseV l = .good q) (hs : l.length ≤ 9223372036854775807) :
    Calls Tryz.prog 13 #[.string ⟨l.toArray⟩] w fun e w' => ∃ qb, e = .returned (.tuple #[PtrV qb, .int .i64 0, .int .i64 0]) ∧ Mods [] w w' ∧ QueryAt w' [] qb q ∧ QueryOk q :=
  (parse_any w hT ⟨l.toArray⟩ hs).mono fun e w' ⟨h1, h2⟩ => by
    have e1 : (⟨l.toArray⟩ : ByteArray).data.toList = l := by simp
    rw [e1, h] at h2
    obtain ⟨h3, qb, h4, -, h5⟩ := h2
    exact ⟨qb, h4, h1, h5, h3⟩
theorem parse_bad (w : World) (hT : Tabs w) (l : Bs) (p k : Nat) (h : parseV l = .bad p k) (hs : l.length ≤ 9223372036854775807) :
    Calls Tryz.prog 13 #[.string ⟨l.toArray⟩] w fun e w' => e = .returned (.tuple #[.pointer none, .int .i64 p, .int .i64 k]) ∧ Mods [] w w' :=
  (parse_any w hT ⟨l.toArray⟩ hs).mono fun e w' ⟨h1, h2⟩ => by
    have e1 : (⟨l.toArray⟩ : ByteArray).data.toList = l := by simp
    rw [e1, h] at h2
    exact ⟨h2, h1⟩
/-- What the laws of this chapter ask of Go's own variables. -/
def Tabs2 (w : World) : Prop := Tabs w ∧ Pow w
theorem Tabs2.later {w w' : World} (h : Tabs2 w) (hM : Mods [] w w') : Tabs2 w' := ⟨h.1.mods hM, h.2.later hM⟩
theorem text_of {r : Parsed} {x : Bs} (h : r.text = some x) : ∃ q, r = .good q ∧ queryS q = x := by
  cases r with
  | good q => exact ⟨q, rfl, by simpa [Parsed.text] using h⟩
  | bad p k => cases h

set_option maxRecDepth 100000 in
set_option maxHeartbeats 4000000 in
theorem examples13_any (w : World) (hT : Tabs2 w) : Calls Tryz.prog 9 #[] w fun e w' => e = .returned (.bool true) ∧ Mods [] w w' := by
  obtain ⟨q, hq, hx⟩ := text_of ex_a
  have hp1 : Calls Tryz.prog 13 #[.string ⟨#[83, 69, 76, 69, 67, 84, 32, 97, 32, 43, 32, 49, 32, 70, 82, 79, 77, 32, 116]⟩] w _ := parse_good w hT.1 exA q hq (by decide)
  have HT := Lib.hid hT
  have HX := Lib.hid hx
  clear hT hq hx
  go_enter Tryz.func9, Tryz.ntmps9
  go_wp2_with fail
  (with_reducible refine hp1.mono ?_)
  rintro e w2 ⟨qb, rfl, hM2, hQ, hok⟩
  unfold PtrV
  clear hp1
  have hp2 : Calls Tryz.prog 13 #[.string ⟨#[83, 69, 76, 69, 67, 84, 32, 70, 82, 79, 77, 32, 116]⟩] w2 _ := parse_bad w2 (HT.out.1.mods hM2) exB 7 8 ex_b (by decide)
  have HQ := Lib.hid (And.intro hQ hok)
  clear hQ hok
  go_wp2_with fail
  (with_reducible refine hp2.mono ?_)
  rintro e w3 ⟨rfl, hM3⟩
  clear hp2
  have hM13 := hM2.trans hM3 (by simp)
  have ht := queryText_any w3 qb q (HT.out.2.later hM13) (HQ.out.1.later hM3) HQ.out.2
  rw [HX.out] at ht
  unfold PtrV at ht
  go_wp2_with fail
  (with_reducible refine ht.mono ?_)
  rintro e w4 ⟨rfl, hM4⟩
  clear ht
  have hs := show_nil w4
  go_wp2_with fail
  (with_reducible refine hs.mono ?_)
  rintro e w5 ⟨rfl, hM5⟩
  clear hs
  go_wp2_with fail
  go_ret
  exact ⟨rfl, (hM13.trans hM4 (by simp)).trans hM5 (by simp)⟩
end Go.Proofs.YtgbpoaimbjlamaaGreatDoor
