/-
  The reference's memory (chapter 8): Grow, for every argument.
-/
import Derived.Test.YtagpnalhilgcpaaRefC
namespace Go.Proofs.Ytagpnalhilgcpaa
open Go.RowKit
set_option linter.unusedVariables false
set_option linter.unusedSimpArgs false

def RGrow (w : World) (b n : Nat) (most : Int) (x : Nat) (f : Nat → UInt8) (L : List Nat) (e : Ending) (w' : World) : Prop :=
  e = .returned (.int .i32 (growTo n (newMost most) x)) ∧ Mods L w w' ∧ ∃ L', Ref w' b (if newMost most - n < x then n else n + x) most f L' ∧ ∀ k ∈ L', k ∈ L ∨ w.heap.size ≤ k

set_option maxRecDepth 100000 in
set_option maxHeartbeats 1000000 in
theorem ref_grow (w : World) (b n : Nat) (most : Int) (x : Nat) (f : Nat → UInt8) (L : List Nat) (hR : Ref w b n most f L) (hx1 : x ≤ 4294967295) (hn : n ≤ 256) (hm : most = -1 ∨ (n : Int) ≤ most) (hm1 : most ≤ 9223372036854775807) :
    Calls Try.prog 40 #[.pointer (some ⟨b, 0, none⟩), .int .u32 x] w (RGrow w b n most x f L) := by
  have hR' := hR
  obtain ⟨sv, h, hL⟩ := hR'
  obtain ⟨g, cap, cur, hsv, hc0, hc1, hg, hnc, hcm, hcs, hcells, hgb⟩ := h.open_
  have hNM : newMost most = if most < 0 then 256 else if most ≤ 256 then most else 256 := rfl
  rcases (show (256 < n + x) ∨ (n + x ≤ 256 ∧ most ≠ -1 ∧ most < (n : Int) + x) ∨ (n + x ≤ 256 ∧ most = -1) ∨ (n + x ≤ 256 ∧ most ≠ -1 ∧ (n : Int) + x ≤ most) from by omega) with c1 | ⟨c1, c2, c3⟩ | ⟨c1, c2⟩ | ⟨c1, c2, c3⟩
  · have hno : newMost most - n < x := by rw [hNM]; (repeat' split) <;> omega
    have fin : RGrow w b n most x f L (.returned (.int .i32 (-1))) w := ⟨by unfold growTo; rw [if_pos hno], Mods.refl _ _, L, by rw [if_pos hno]; exact hR, fun k hk => .inl hk⟩
    have d1 : (256 : Int) < (n : Int) + x := by omega
    clear hL hg hnc hcm hcs hcells hgb hNM hno h hsv hm
    go_enter Try.func40, Try.ntmps40
    go_wp2_with fail
    refine (ref_pages w b n most f L hR hn).mono ?_
    rintro e w1 ⟨rfl, rfl⟩
    go_wp2_with fail
    go_ret
    exact fin
  · have hno : newMost most - n < x := by rw [hNM]; (repeat' split) <;> omega
    have fin : RGrow w b n most x f L (.returned (.int .i32 (-1))) w := ⟨by unfold growTo; rw [if_pos hno], Mods.refl _ _, L, by rw [if_pos hno]; exact hR, fun k hk => .inl hk⟩
    have d1 : (n : Int) + x ≤ 256 := by omega
    have c4 : (most == -1) = false := by rw [beq_eq_false_iff_ne]; omega
    have c5 : (most != -1) = true := by rw [bne_iff_ne]; omega
    clear hL hg hnc hcm hcs hcells hgb hNM hno h hsv hm c2
    go_enter Try.func40, Try.ntmps40
    go_wp2_with fail
    refine (ref_pages w b n most f L hR hn).mono ?_
    rintro e w1 ⟨rfl, rfl⟩
    go_wp2_with fail
    go_ret
    exact fin
  all_goals
    have hyes : ¬ newMost most - n < x := by rw [hNM]; (repeat' split) <;> omega
    obtain ⟨g', cap', cur', w2, hr, q1, q2, q3, q4, q5, q6, q7, q8⟩ := run_app_zeros w g cap (65536 * n) (65536 * x) cur 47 .i64 hg hcs hnc hcm (by omega)
    rw [show ((65536 * x : Nat) : Int) = (x : Int) * 65536 from by omega] at hr
    have hb2 := q7.heap h.hb (by simpa using fun e => hgb e.symm)
    rw [hsv] at hb2
    have hc2 : w2.cell? ⟨b, 0, none⟩ = some (.slice (some ⟨g, 0, none⟩) (65536 * n) cap) := by rw [cell_of_heap hb2]; rfl
    have hf2 := frozen_of_heap hb2 0
    have hg'b : g' ≠ b := fun e => by subst e; rw [hb2] at q1; cases q1
    have hb3 : (w2.setCell ⟨b, 0, none⟩ (.slice (some ⟨g', 0, none⟩) (65536 * n + 65536 * x) cap')).heap[b]? = some (.cells #[.slice (some ⟨g', 0, none⟩) (65536 * n + 65536 * x) cap', .int .i64 most] 94 (0, 0)) := by
      rw [heap_setCell_same hb2]; rfl
    have fin : RGrow w b n most x f L (.returned (.int .i32 n)) (w2.setCell ⟨b, 0, none⟩ (.slice (some ⟨g', 0, none⟩) (65536 * n + 65536 * x) cap')) := by
      refine ⟨by unfold growTo; rw [if_neg hyes], ?_, b :: [g'], ?_, ?_⟩
      · refine ((q7.mono (L' := L) (fun y hy => .inl ?_)).setCell (p := ⟨b, 0, none⟩) (.inl ?_) _)
        · rw [hL, hsv]; simp at hy; subst hy; simp [Value.ownBlock]
        · rw [hL]; simp
      · rw [if_neg hyes]
        refine ⟨.slice (some ⟨g', 0, none⟩) (65536 * n + 65536 * x) cap', ?_, rfl⟩
        · rw [← Nat.mul_add]
          rw [← Nat.mul_add] at hb3 q3 q6
          refine IsRef.shut hb3 (by rw [Below.heap_setCell _ _ _ _ hg'b]; exact q1) q3 q4 q2 (fun o ho => ?_) (fun a ha => h.past a (by omega))
          by_cases ho2 : o < 65536 * n
          · rw [q5 o ho2]; exact hcells o ho2
          · rw [q6 o (by omega) (by omega), h.past o (by omega)]; rfl
      · intro k hk
        simp at hk
        rcases hk with rfl | rfl
        · exact .inl (by rw [hL]; simp)
        · rcases q8 with rfl | h8
          · exact .inl (by rw [hL, hsv]; simp [Value.ownBlock])
          · exact .inr h8
    have FIN := Lib.hid fin
    have d1 : (n : Int) + x ≤ 256 := by omega
  · subst c2
    clear fin hL hg hnc hcm hcs hcells hgb hNM hyes h hsv hm q1 q2 q3 q4 q5 q6 q7 q8 hg'b hb3
    go_enter Try.func40, Try.ntmps40
    go_wp2_with fail
    refine (ref_pages w b n (-1) f L hR hn).mono ?_
    rintro e w1 ⟨rfl, rfl⟩
    go_wp2_with (at_builtin; refine Lib.wpList_append_run _ rfl (.tmp 34) (.tmp 37) 47 3 rfl _ _ rfl rfl _ _ hr ?_)
    go_ret
    exact FIN.out
  · have c4 : (most == -1) = false := by rw [beq_eq_false_iff_ne]; omega
    have c5 : (most != -1) = true := by rw [bne_iff_ne]; omega
    clear fin hL hg hnc hcm hcs hcells hgb hNM hyes h hsv hm q1 q2 q3 q4 q5 q6 q7 q8 hg'b hb3 c2
    go_enter Try.func40, Try.ntmps40
    go_wp2_with fail
    refine (ref_pages w b n most f L hR hn).mono ?_
    rintro e w1 ⟨rfl, rfl⟩
    go_wp2_with (at_builtin; refine Lib.wpList_append_run _ rfl (.tmp 34) (.tmp 37) 47 3 rfl _ _ rfl rfl _ _ hr ?_)
    go_ret
    exact FIN.out

end Go.Proofs.Ytagpnalhilgcpaa
