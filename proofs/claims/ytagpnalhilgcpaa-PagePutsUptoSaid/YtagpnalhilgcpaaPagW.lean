/-
  The law's own helper same, walked: two lists of the same rows are the same.
-/
import Derived.Test.YtagpnalhilgcpaaPagV
import Derived.Deep.QuietTactic
import Derived.BigQuiet
namespace Go.Proofs.Ytagpnalhilgcpaa
open Go.RowKit
set_option linter.unusedVariables false

set_option maxHeartbeats 2000000 in
set_option maxRecDepth 100000 in
theorem same_true (w : World) (ao bo : Option Addr) (rs : List (List V)) (n ca cb : Nat) (hn : rs.length = n) (hn1 : n ≤ 9223372036854775807) (hl : ∀ r ∈ rs, r.length ≤ 9223372036854775807) (hA : RowsIn w ao rs []) (hB : RowsIn w bo rs []) :
    Calls Try.prog 32 #[.slice ao n ca, .slice bo n cb] w fun e w' => e = .returned (.bool true) ∧ Mods [] w w' := by
  go_enter Try.func32, Try.ntmps32
  go_wp2_with fail
  go_loopw [5] (fun t5 wr => ∃ i : Nat, i ≤ n ∧ t5 = .int .i64 i ∧ Mods [] w wr) (fun t5 _ => n - (intOf t5).toNat)
  case atStart => exact ⟨0, by omega, rfl, Mods.refl _ _⟩
  case round =>
    obtain ⟨i, hi, rfl, hM⟩ := hrel
    by_cases hin : i < n
    · have hir : i < rs.length := by omega
      obtain ⟨ab, aof, rfl, -, hAc⟩ := hA (by intro h; rw [h] at hir; simp at hir)
      obtain ⟨bb, bof, rfl, -, hBc⟩ := hB (by intro h; rw [h] at hir; simp at hir)
      obtain ⟨va, c1, a0, hVa⟩ := hAc i hir
      obtain ⟨vb, c2, b0, hVb⟩ := hBc i hir
      have hrl := hl rs[i] (List.getElem_mem hir)
      generalize rs[i] = r at *
      obtain ⟨m, hm⟩ : ∃ m, r.length = m := ⟨_, rfl⟩
      rw [hm] at a0 b0 hrl
      have HMM := Lib.hid hm
      have a1 := hM.cell a0 (by simp)
      have b1 := hM.cell b0 (by simp)
      have hki : (0 : Int) ≤ (i : Int) ∧ (i : Int) < (n : Int) := by omega
      clear hm hAc hBc a0 b0
      go_wp2_with fail
      go_quiet (fail)
      have hMq := hM.drewN nq
      have a2 : (wr.drewN nq).cell? ⟨ab, aof + i, none⟩ = some (.slice va m c1) := a1
      have b2 : (wr.drewN nq).cell? ⟨bb, bof + i, none⟩ = some (.slice vb m c2) := b1
      generalize wr.drewN nq = wo at *
      clear a1 b1
      go_wp2_with fail
      go_loopw [6] (fun t6 wx => ∃ k : Nat, k ≤ m ∧ t6 = .int .i64 k ∧ Mods [] wo wx) (fun t6 _ => m - (intOf t6).toNat)
      case atStart => exact ⟨0, by omega, rfl, Mods.refl _ _⟩
      case round =>
        obtain ⟨k, hk, rfl, hMk⟩ := hrel
        have a3 := hMk.cell a2 (by simp)
        have b3 := hMk.cell b2 (by simp)
        by_cases hkm : k < m
        · have hkr : k < r.length := by have := HMM.out; omega
          obtain ⟨p, po, rfl, -, hp⟩ := hVa (by intro h; rw [h] at hkr; simp at hkr)
          obtain ⟨q, qo, rfl, -, hq⟩ := hVb (by intro h; rw [h] at hkr; simp at hkr)
          obtain ⟨p0, p1, p2⟩ := hp k hkr
          obtain ⟨q0, q1, q2⟩ := hq k hkr
          have hMw := hMq.trans hMk (by simp)
          have p0 := hMw.cell p0 (by simp)
          have p1 := hMw.cell p1 (by simp)
          have p2 := hMw.cell p2 (by simp)
          have q0 := hMw.cell q0 (by simp)
          have q1 := hMw.cell q1 (by simp)
          have q2 := hMw.cell q2 (by simp)
          have hkk : (0 : Int) ≤ (k : Int) ∧ (k : Int) < (m : Int) := by omega
          generalize r[k] = v at *
          obtain ⟨z, x, s⟩ := v
          simp only at p0 p1 p2 q0 q1 q2
          clear hp hq
          go_wp2_with fail
          go_quiet (fail)
          have hMz := hMk.drewN nq
          generalize wr.drewN nq = wz at *
          go_wp2_with fail
          go_roundw
          case measure => simp [intOf]; omega
          case rel => exact ⟨k + 1, by omega, by go_num, hMz⟩
        · obtain rfl : m = k := by omega
          have hMz := hMq.trans hMk (by simp)
          go_wp2_with fail
          go_roundw
          case measure => simp [intOf]; omega
          case rel => exact ⟨i + 1, by omega, by go_num, hMz⟩
    · go_wp2_with fail
      go_ret
      exact ⟨rfl, hM⟩
end Go.Proofs.Ytagpnalhilgcpaa
