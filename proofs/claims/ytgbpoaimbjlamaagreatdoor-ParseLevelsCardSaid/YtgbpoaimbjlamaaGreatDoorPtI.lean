/-
  The law's show and word, walked. No condition but that Go's own variables hold what they were laid with.
-/
import Derived.Test.YtgbpoaimbjlamaaGreatDoorMPu
import Derived.Test.YtgbpoaimbjlamaaGreatDoorPtJ
namespace Go.Proofs.YtgbpoaimbjlamaaGreatDoor
open Go.RowKit
set_option linter.unusedVariables false

set_option maxRecDepth 100000 in
set_option maxHeartbeats 4000000 in
theorem show13_any (w : World) (hT : Tabs2 w) (l : Bs) (hl : l.length ≤ 1000000000) : Calls Tryz.prog 11 #[.string ⟨l.toArray⟩] w fun e w' => e = .returned (.string ⟨(showV l).toArray⟩) ∧ Mods [] w w' := by
  obtain ⟨S, hS⟩ : ∃ S : ByteArray, (⟨l.toArray⟩ : ByteArray) = S := ⟨_, rfl⟩
  have hSs : S.size ≤ 1000000000 := by rw [← hS]; exact hl
  have hcat : (⟨#[83, 69, 76, 69, 67, 84, 32]⟩ : ByteArray) ++ S ++ ⟨#[32, 70, 82, 79, 77, 32, 116]⟩ = ⟨(selT ++ l ++ fromT).toArray⟩ := by rw [← hS]; exact cat3 selT l fromT
  have hlc : (selT ++ l ++ fromT).length ≤ 9223372036854775807 := by simp only [List.length_append]; show 7 + l.length + 7 ≤ _; omega
  cases hp : parseV (selT ++ l ++ fromT) with
  | bad p k =>
    have hk := bad_ne hp
    have hsv : showV l = [] := by unfold showV; rw [hp]
    have hpa : Calls Tryz.prog 13 #[.string ((⟨#[83, 69, 76, 69, 67, 84, 32]⟩ : ByteArray) ++ S ++ ⟨#[32, 70, 82, 79, 77, 32, 116]⟩)] w (fun e w' => e = .returned (.tuple #[.pointer none, .int .i64 (p : Int), .int .i64 (k : Int)]) ∧ Mods [] w w') := by
      rw [hcat]; exact parse_bad w hT.1 _ _ _ hp hlc
    have z0 : ((k : Int) != 0) = true := bne_iff_ne.2 (by omega)
    rw [hS, hsv]
    clear hcat hlc hp hsv hk hS
    go_enter Tryz.func11, Tryz.ntmps11
    go_wp2_with fail
    (with_reducible refine hpa.mono ?_)
    rintro e w2 ⟨rfl, hM2⟩
    clear hpa
    go_wp2_with fail
    go_ret
    exact ⟨rfl, hM2⟩
  | good q =>
    have hpa : Calls Tryz.prog 13 #[.string ((⟨#[83, 69, 76, 69, 67, 84, 32]⟩ : ByteArray) ++ S ++ ⟨#[32, 70, 82, 79, 77, 32, 116]⟩)] w (fun e w' => ∃ qb, e = .returned (.tuple #[PtrV qb, .int .i64 0, .int .i64 0]) ∧ Mods [] w w' ∧ QueryAt w' [] qb q ∧ QueryOk q) := by
      rw [hcat]; exact parse_good w hT.1 _ _ hp hlc
    have hsv : showV l = showItems q.items := by unfold showV; rw [hp]
    rw [hS, hsv]
    have HT := Lib.hid hT
    clear hcat hlc hp hsv hS hT
    obtain ⟨its, hits⟩ : ∃ x, q.items = x := ⟨_, rfl⟩
    obtain ⟨R, hR⟩ : ∃ R : Bs, showItems its = R := ⟨_, rfl⟩
    rw [hits, hR]
    have HI := Lib.hid (And.intro hits hR)
    clear hits hR
    go_enter Tryz.func11, Tryz.ntmps11
    go_wp2_with fail
    (with_reducible refine hpa.mono ?_)
    rintro e w2 ⟨qb, rfl, hM2, hQ, hok⟩
    unfold PtrV
    clear hpa
    obtain ⟨vi, von, vwh, vg, vo, hb, hp1, -⟩ := hQ
    obtain ⟨ai, ci, rfl, hai⟩ := hp1.read itemLen
    have c1 := cell_of_heap hb 1
    change w2.cell? _ = some (.slice ai q.items.length ci) at c1
    have hits := HI.out.1
    rw [hits] at c1 hai
    have hoi := hok.items
    rw [hits] at hoi
    have hR := HI.out.2
    clear hits HI hb hp1 hok
    cases its with
    | nil =>
      have HR := Lib.hid hR
      clear hR hai hoi
      change w2.cell? _ = some (.slice ai 0 ci) at c1
      go_wp2_with fail
      go_ret
      refine ⟨?_, hM2⟩
      have := HR.out
      rw [← this]; rfl
    | cons a its =>
    cases its with
    | cons b r =>
      have HR := Lib.hid hR
      have hlen : ((a :: b :: r).length : Int) ≠ 1 := by simp; omega
      obtain ⟨n, hn⟩ : ∃ n, (a :: b :: r).length = n := ⟨_, rfl⟩
      rw [hn] at c1 hlen
      have hn2 : n ≤ 10001 := by rw [← hn]; exact hoi.1
      have z0 : ((n : Int) != 1) = true := bne_iff_ne.2 hlen
      clear hR hai hoi hn hlen
      go_wp2_with fail
      go_ret
      refine ⟨?_, hM2⟩
      have := HR.out
      rw [← this]; rfl
    | nil =>
      obtain ⟨g, rfl, hcs⟩ := hai (by simp)
      obtain ⟨c, ⟨b, hcb, hE⟩, hcell⟩ := hcs 0 (by simp)
      rw [hcb] at hcell
      have k0 := hcell 0 _ rfl
      change w2.cell? ⟨g, 0, none⟩ = _ at k0
      have hsh := show_any a.e w2 (PtrV b) (HT.out.2.later hM2) hE (hoi.2 a (by simp)).1
      have hR2 : showT a.e = R := hR
      rw [hR2] at hsh
      unfold PtrV at hsh k0
      change w2.cell? _ = some (.slice (some ⟨g, 0, none⟩) 1 ci) at c1
      clear hcs hcell hcb hE hoi hR hR2
      go_wp2_with fail
      (with_reducible refine hsh.mono ?_)
      rintro e w3 ⟨rfl, hM3⟩
      clear hsh
      go_wp2_with fail
      go_ret
      exact ⟨rfl, hM2.trans hM3 (by simp)⟩

set_option maxRecDepth 100000 in
set_option maxHeartbeats 4000000 in
theorem word13_any (w : World) (n : Nat) (hn : n < 65536) : Calls Tryz.prog 12 #[.int .u16 n] w fun e w' => e = .returned (.string ⟨(wdL (n % 14)).toArray⟩) ∧ Mods [] w w' := by
  obtain ⟨k, hk⟩ : ∃ k, n % 14 = k := ⟨_, rfl⟩
  have hk14 : k < 14 := by omega
  have hkz : (n : Int).tmod 14 = (k : Int) := by rw [Int.tmod_eq_emod_of_nonneg (by omega)]; omega
  rw [hk]
  have hki : (k : Int) < 14 := by omega
  have hc : ∀ (w : World), (w.alloc (.cells #[.string ⟨#[97]⟩, .string ⟨#[98]⟩, .string ⟨#[99]⟩, .string ⟨#[100]⟩, .string ⟨#[120]⟩, .string ⟨#[121]⟩, .string ⟨#[116, 46, 97]⟩, .string ⟨#[116, 46, 98]⟩, .string ⟨#[117, 46, 120]⟩, .string ⟨#[117, 46, 121]⟩, .string ⟨#[116, 46, 99]⟩, .string ⟨#[117, 46, 122]⟩, .string ⟨#[110, 111, 110, 101]⟩, .string ⟨#[117, 46, 97]⟩] 9)).cell? ⟨w.heap.size, k, none⟩ = some (.string ⟨(wdL k).toArray⟩) := fun w => by
    rw [cell_of_heap (heap_alloc_new w _) k]
    have h2 : k = 0 ∨ k = 1 ∨ k = 2 ∨ k = 3 ∨ k = 4 ∨ k = 5 ∨ k = 6 ∨ k = 7 ∨ k = 8 ∨ k = 9 ∨ k = 10 ∨ k = 11 ∨ k = 12 ∨ k = 13 := by omega
    rcases h2 with h | h | h | h | h | h | h | h | h | h | h | h | h | h <;> rw [h] <;> rfl
  have c0 := hc w
  have hM := (Mods.refl [] w).alloc (.cells #[.string ⟨#[97]⟩, .string ⟨#[98]⟩, .string ⟨#[99]⟩, .string ⟨#[100]⟩, .string ⟨#[120]⟩, .string ⟨#[121]⟩, .string ⟨#[116, 46, 97]⟩, .string ⟨#[116, 46, 98]⟩, .string ⟨#[117, 46, 120]⟩, .string ⟨#[117, 46, 121]⟩, .string ⟨#[116, 46, 99]⟩, .string ⟨#[117, 46, 122]⟩, .string ⟨#[110, 111, 110, 101]⟩, .string ⟨#[117, 46, 97]⟩] 9)
  clear hc hk
  generalize wdL k = W at *
  go_enter Tryz.func12, Tryz.ntmps12
  go_wp2_with fail
  go_ret
  exact ⟨rfl, hM⟩
end Go.Proofs.YtgbpoaimbjlamaaGreatDoor
