/-
  lex.Key and the examples of chapter 11, walked. No condition but that Go's own variables hold what they were laid with.
-/
import Derived.Test.YtpghimiecigakaaDoorLyB0
namespace Go.Proofs.YtpghimiecigakaaDoor
open Go.RowKit
set_option linter.unusedVariables false

set_option maxRecDepth 100000 in
set_option maxHeartbeats 1000000 in
theorem key_any (w : World) (hT : Tabs w) (s : ByteArray) : Calls Tryd.prog 7 #[.string s] w fun e w' => e = .returned (.bool (isKey s.data.toList)) ∧ Mods [] w w' := by
  go_enter Tryd.func7, Tryd.ntmps7
  go_wp2_with fail
  refine (keys_any _ hT).mono ?_
  rintro e w1 ⟨mb, rfl, hkm, hmb, hM1⟩
  have hlook := hkm.look 37 9 47 Tryd.underlying37 Tryd.underlying9 (fun w => by kernel_rfl) s
  go_wp2_with fail
  go_ret
  exact ⟨rfl, hM1.alloc _⟩

set_option maxRecDepth 100000 in
set_option maxHeartbeats 1000000 in
theorem examples11 (w : World) (hT : Tabs w) : Calls Tryd.prog 4 #[] w fun e w' => e = .returned (.bool true) ∧ Mods [] w w' := by
  have h1 := all_good w hT ⟨#[97, 60, 61, 49, 46, 53, 48]⟩ (by decide) _ lex_ex1
  go_enter Tryd.func4, Tryd.ntmps4
  go_wp2_with fail
  refine h1.mono ?_
  rintro e w1 ⟨g, cap, rfl, hM1, hA, hc⟩
  have hT1 := hT.mods hM1
  have h2 := all_bad w1 hT1 ⟨#[32, 32, 39, 120]⟩ (by decide) _ lex_ex2
  clear h1
  go_wp2_with fail
  refine h2.mono ?_
  rintro e w2 ⟨rfl, hM2⟩
  have hT2 := hT1.mods hM2
  have hA2 := hA.mods hM2
  have c0 : w2.cell? ⟨g, 0, none⟩ = some (.int .i64 2) := hA2 0 _ rfl
  have c7 : w2.cell? ⟨g, 7, none⟩ = some (.string ⟨#[60, 61]⟩) := hA2 7 _ rfl
  have c13 : w2.cell? ⟨g, 13, none⟩ = some (.int .i64 150) := hA2 13 _ rfl
  have c14 : w2.cell? ⟨g, 14, none⟩ = some (.int .i64 2) := hA2 14 _ rfl
  have c16 : w2.cell? ⟨g, 16, none⟩ = some (.int .i64 7) := hA2 16 _ rfl
  have hk1 := key_any w2 hT2 ⟨#[83, 69, 76, 69, 67, 84]⟩
  have hk2 := fun w (h : Tabs w) => key_any w h ⟨#[115, 101, 108, 101, 99, 116]⟩
  rw [show isKey (⟨#[83, 69, 76, 69, 67, 84]⟩ : ByteArray).data.toList = true by decide] at hk1
  rw [show isKey (⟨#[115, 101, 108, 101, 99, 116]⟩ : ByteArray).data.toList = false by decide] at hk2
  clear h2 hA hA2
  go_wp2_with fail
  (with_reducible refine hk1.mono ?_)
  rintro e w3 ⟨rfl, hM3⟩
  clear hk1
  go_wp2_with fail
  (with_reducible refine (hk2 w3 (hT2.mods hM3)).mono ?_)
  rintro e w4 ⟨rfl, hM4⟩
  clear hk2
  go_wp2_with fail
  go_ret
  exact ⟨rfl, ((hM1.trans hM2 (by simp)).trans hM3 (by simp)).trans hM4 (by simp)⟩
end Go.Proofs.YtpghimiecigakaaDoor
