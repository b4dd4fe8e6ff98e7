/-
  The law LexSpaces, walked whole. No condition but that Go's own variables hold what they were laid with.
-/
import Derived.Test.YtcjijjdoglpjbaaDoorLyT
import Derived.Deep.RegionWith
namespace Go.Proofs.YtcjijjdoglpjbaaDoor
open Go.RowKit
set_option linter.unusedVariables false

theorem lexG_len : ∀ (f : Nat) (l : List UInt8) (p : Nat) (L : List Tok), l.length ≤ f → lexG l p = .good L → L.length ≤ l.length + 1 := by
  intro f
  induction f with
  | zero =>
    intro l p L hf h
    obtain rfl : l = [] := List.length_eq_zero_iff.1 (by omega)
    rw [lexG_nil] at h
    cases h
    simp
  | succ f ih =>
    intro l p L hf h
    cases l with
    | nil => rw [lexG_nil] at h; cases h; simp
    | cons c r =>
      cases hk : tokL (c :: r) with
      | none => rw [lexG_bad p (by simp) hk] at h; cases h
      | some x =>
        obtain ⟨u, n⟩ := x
        obtain ⟨h1, h2⟩ := tokL_le hk
        rw [lexG_good p hk] at h
        have h3 := len_split isBl ((c :: r).drop n)
        have h4 : ((c :: r).drop n).length = (c :: r).length - n := List.length_drop
        cases hg : lexG (((c :: r).drop n).dropWhile isBl) (p + n + (((c :: r).drop n).takeWhile isBl).length) with
        | bad q => rw [hg] at h; cases h
        | good L2 =>
          rw [hg] at h
          simp only [Lexed.pre] at h
          cases h
          have := ih _ _ _ (by omega) hg
          simp only [List.cons_append, List.nil_append, List.length_cons] at this ⊢
          simp only [List.length_cons] at h1 h2 h3 h4
          omega
theorem lexAll_len {l : List UInt8} {L : List Tok} (h : lexAll l = .good L) : L.length ≤ l.length + 1 := by
  unfold lexAll at h
  have := lexG_len _ _ _ _ (Nat.le_refl _) h
  have := len_split isBl l
  omega

set_option maxRecDepth 100000 in
set_option maxHeartbeats 2000000 in
theorem lexSpaces_walk (w : World) (hT : Tabs w) (s : ByteArray) (hs0 : s.size ≤ 140737488351232) (nn : Nat) (hnn : nn < 256) (at_ : Nat) (hat : at_ < 256) :
    Calls Tryd.prog 4 #[.string s, .int .u8 nn, .int .u8 at_] w fun e w' => e = .returned (.bool true) ∧ Mods [] w w' := by
  obtain ⟨m, hm, hmz⟩ : ∃ m : Nat, m < 20 ∧ (nn : Int) % 20 = (m : Int) := ⟨nn % 20, by omega, by omega⟩
  go_enter Tryd.func4, Tryd.ntmps4
  go_wp2_with fail
  refine (examples11 _ hT).mono ?_
  rintro e w1 ⟨rfl, hM1⟩
  have hT1 := hT.mods hM1
  go_wp2_with fail
  clear hT
  have hall := all_any w1 hT1 s (by omega)
  by_cases h4 : s.size ≤ 4000
  · cases hl : lexAll s.data.toList with
    | bad p =>
      have hall := all_bad w1 hT1 s (by omega) p hl
      have h4z : ¬ (4000 : Int) < (s.size : Int) := by omega
      (with_reducible refine hall.mono ?_)
      rintro e w2 ⟨rfl, hM2⟩
      clear hall hl
      go_wp2_with fail
      go_ret
      exact ⟨rfl, hM1.trans hM2 (by simp)⟩
    | good ts =>
      have hg := all_good w1 hT1 s (by omega) ts hl
      have hne := lexAll_ne hl
      have hn1 : 0 < ts.length := List.length_pos_iff.2 hne
      obtain ⟨n, hn⟩ : ∃ n, ts.length = n := ⟨_, rfl⟩
      have hnb := lexAll_len hl
      rw [hn] at hn1 hnb
      have hnb2 : n ≤ 4001 := by have : s.data.toList.length = s.size := rfl; omega
      clear hnb
      have h4z : decide ((4000 : Int) < (s.size : Int)) = false := decide_eq_false (by omega)
      have hnz : ((n : Int) == 0) = false := by rw [beq_eq_false_iff_ne]; omega
      obtain ⟨j, hj, hja, hjz⟩ : ∃ j : Nat, j < n ∧ j ≤ at_ ∧ (at_ : Int) % (n : Int) = (j : Int) := ⟨at_ % n, Nat.mod_lt _ hn1, Nat.mod_le _ _, rfl⟩
      have hjt : IntKind.i64.wrap ((at_ : Int).tmod (n : Int)) = (j : Int) := by rw [Int.tmod_eq_emod_of_nonneg (by omega), hjz]; exact IntWalk.i64_in _ (by omega)
      have hp := lexB_pos (p := 0) (t := ts[j]'(by omega)) (by rw [lexB_zero]; exact hl) (List.getElem_mem _)
      (with_reducible refine hg.mono ?_)
      rintro e w2 ⟨g1, cap1, rfl, hM2, hA, hc1⟩
      rw [hn] at hc1
      rw [hn]
      have hc := (hA.tok j (by omega)).2.1
      clear hall hg
      have HL := Lib.hid hl
      clear hl
      have HA := Lib.hid hA
      obtain ⟨q, hq⟩ : ∃ q, (ts[j]'(by omega)).pos = q := ⟨_, rfl⟩
      rw [hq] at hc hp
      have hqs : q ≤ s.size := by have := hp.2; rw [Nat.zero_add] at this; exact this
      have HQ : Hid (∃ t ∈ ts, t.pos = q) := Lib.hid ⟨_, List.getElem_mem _, hq⟩
      have hMw2 := hM1.trans hM2 (by simp)
      have hT2 := hT1.mods hM2
      clear hp hA hq hM2 hM1 hT1
      go_wp2_with fail
      clear hc
      go_loopw [12, 13] (fun t12 t13 wr => ∃ (i : Nat) (B : ByteArray), i ≤ m ∧ t13 = .int .i64 i ∧ t12 = .string B ∧ B.size = i ∧ Mods [] w2 wr ∧ Hid (∀ x ∈ B.data.toList, isBl x = true)) (fun _ t13 _ => m - (intOf t13).toNat)
      case atStart => exact ⟨0, ⟨#[]⟩, by omega, rfl, rfl, rfl, Mods.refl [] _, Lib.hid (by simp)⟩
      case round =>
        obtain ⟨i, B, hi, rfl, rfl, hB, hMr, HB⟩ := hrel
        by_cases hlt : i < m
        · have h4i : (i : Int) % 4 = 0 ∨ (i : Int) % 4 = 1 ∨ (i : Int) % 4 = 2 ∨ (i : Int) % 4 = 3 := by omega
          have hcb : ¬ 9223372036854775807 < B.size + 1 := by omega
          have hnext : ∀ c : UInt8, isBl c = true → (B ++ ⟨#[c]⟩ : ByteArray).size = i + 1 ∧ Hid (∀ x ∈ (B ++ ⟨#[c]⟩ : ByteArray).data.toList, isBl x = true) := by
            intro c hc
            refine ⟨by rw [ByteArray.size_append, hB]; rfl, Lib.hid fun x hx => ?_⟩
            rw [app_list] at hx
            rcases List.mem_append.1 hx with h | h
            · exact HB.out x h
            · have : x = c := by simpa using h
              rw [this]; exact hc
          have HN := Lib.hid hnext
          clear hnext
          rcases h4i with h4i | h4i | h4i | h4i
          · have h := HN.out 32 rfl
            go_wp2_with fail
            exact ⟨⟨i + 1, _, by omega, by go_num, rfl, h.1, hMr.alloc _, h.2⟩, by simp [intOf]; omega⟩
          · have h := HN.out 9 rfl
            go_wp2_with fail
            exact ⟨⟨i + 1, _, by omega, by go_num, rfl, h.1, hMr.alloc _, h.2⟩, by simp [intOf]; omega⟩
          · have h := HN.out 10 rfl
            go_wp2_with fail
            exact ⟨⟨i + 1, _, by omega, by go_num, rfl, h.1, hMr.alloc _, h.2⟩, by simp [intOf]; omega⟩
          · have h := HN.out 13 rfl
            go_wp2_with fail
            exact ⟨⟨i + 1, _, by omega, by go_num, rfl, h.1, hMr.alloc _, h.2⟩, by simp [intOf]; omega⟩
        · obtain rfl : i = m := by omega
          have hMwr := hMw2.trans hMr (by simp)
          have hTr := hT2.mods hMr
          have HAr := Lib.hid (HA.out.mods hMr)
          have he1 : (s.extract 0 q).data.toList = s.data.toList.take q := by
            have := ext_list s 0 q
            rwa [Nat.zero_add, List.drop_zero] at this
          have he2 : (s.extract q s.size).data.toList = s.data.toList.drop q := by
            have := ext_list s q (s.size - q)
            rw [show q + (s.size - q) = s.size by omega] at this
            rw [this, List.take_of_length_le (by rw [List.length_drop]; exact Nat.le_refl _)]
          have hs1 : (s.extract 0 q).size = q := by rw [size_list, he1, List.length_take]; show min q s.size = q; omega
          have hs2 : (s.extract q s.size).size = s.size - q := by rw [size_list, he2, List.length_drop]; rfl
          have hcat : (s.extract 0 q ++ B ++ s.extract q s.size : ByteArray).data.toList = s.data.toList.take q ++ (B.data.toList ++ s.data.toList.drop q) := by
            rw [app_list, app_list, he1, he2, List.append_assoc]
          have hsz : (s.extract 0 q ++ B ++ s.extract q s.size : ByteArray).size ≤ 4096 := by
            rw [ByteArray.size_append, ByteArray.size_append, hs1, hs2]; omega
          have hlen : (s.data.toList.take q).length = q := by rw [List.length_take]; show min q s.size = q; omega
          have hls := lex_spaces B.data.toList HB.out _ (s.data.toList.take q) (s.data.toList.drop q) 0 ts (Nat.le_refl _) (by rw [List.take_append_drop, lexB_zero]; exact HL.out) (by rw [hlen, Nat.zero_add]; exact HQ.out)
          rw [hlen, Nat.zero_add, lexB_zero, ← hcat, ← size_list, hB] at hls
          have hk1 : ¬ 9223372036854775807 < (s.extract 0 q).size + B.size := by omega
          have hk2 : ¬ 9223372036854775807 < (s.extract 0 q ++ B : ByteArray).size + (s.extract q s.size).size := by rw [ByteArray.size_append, hs1, hs2]; omega
          obtain ⟨E, hE⟩ : ∃ E, (s.extract 0 q ++ B ++ s.extract q s.size : ByteArray) = E := ⟨_, rfl⟩
          rw [hE] at hls hsz
          have HE := Lib.hid hE
          have hall := fun W (h : Tabs W) => all_good W h E hsz _ hls
          have hqz : (q : Int) ≤ (s.size : Int) := by omega
          have HP : Hid (∀ t ∈ ts, t.pos ≤ s.size) := Lib.hid fun t ht => by
            have := (lexB_pos (p := 0) (by rw [lexB_zero]; exact HL.out) ht).2
            rw [Nat.zero_add] at this; exact this
          clear he1 he2 hs1 hs2 hcat hsz hlen hls hE HL HQ HA
          go_upto_region 13 with fail
          have hk3 : ¬ 9223372036854775807 < min q s.size + B.size := by omega
          have hk4 : ¬ 9223372036854775807 < min q s.size + B.size + (s.size - q) := by omega
          have hk5 : ¬ 9223372036854775807 < (s.extract 0 q).size + B.size + (s.extract q s.size).size := by rw [ByteArray.size_append] at hk2; exact hk2
          have hcall : Calls Tryd.prog 14 #[.string (s.extract 0 q ++ B ++ s.extract q s.size)] wr.drew fun e w' => ∃ g cap, e = .returned (.tuple #[.slice (some ⟨g, 0, none⟩) n cap, .int .i64 0, .int .i64 0]) ∧ Mods [] wr.drew w' ∧ ToksAt w' g (ts.map (Tok.shift q i)) ∧ n ≤ cap := by
            rw [HE.out]
            have := hall _ (hTr.mods (Mods.refl [] _).drew)
            rwa [List.length_map, hn] at this
          clear hall
          go_region_with ((with_reducible refine hcall.mono ?_); rintro e w4 ⟨g2, cap2, rfl, hM4, hA2, hc2⟩)
          have hM4' := ((Mods.refl [] wr).drew).trans hM4 (by simp)
          have HAT := Lib.hid (And.intro (HAr.out.mods hM4') hA2)
          have hMw4 := hMwr.trans hM4' (by simp)
          have hnnz : ((n : Int) == (n : Int)) = true := by simp
          clear hcall hA2 HAr hM4 hM4' hk1 hk2 hk3 hk4 hk5 HE hMwr hTr hMr hT2 hMw2 HB
          go_wp2_with fail
          go_loopw [17] (fun t17 wx => ∃ k : Nat, k ≤ n ∧ t17 = .int .i64 k ∧ Mods [] w4 wx) (fun t17 _ => n - (intOf t17).toNat)
          case atStart => exact ⟨0, by omega, rfl, Mods.refl [] _⟩
          case round =>
            obtain ⟨k, hk, rfl, hMx⟩ := hrel
            by_cases hkn : k < n
            · have hkl : k < ts.length := by omega
              obtain ⟨c0, c1, c2, c3, c4⟩ := (HAT.out.1.mods hMx).tok k hkl
              obtain ⟨d0, d1, d2, d3, d4⟩ := (HAT.out.2.mods hMx).tok k (by rw [List.length_map]; omega)
              rw [List.getElem_map] at d0 d1 d2 d3 d4
              have hTp := HP.out _ (List.getElem_mem hkl)
              generalize ts[k]'hkl = T at *
              have hkz : (k : Int) < (n : Int) := by omega
              by_cases hqp : q ≤ T.pos
              · have hsh : Tok.shift q i T = ⟨T.kind, T.pos + i, T.s, T.n, T.scale⟩ := if_pos hqp
                rw [hsh] at d0 d1 d2 d3 d4
                simp only at d0 d1 d2 d3 d4
                have hqz : (q : Int) ≤ (T.pos : Int) := by omega
                have hwz : IntKind.i64.wrap ((T.pos : Int) + (i : Int)) = ((T.pos + i : Nat) : Int) := by rw [IntWalk.i64_in _ (by omega)]; omega
                clear hsh hqp
                rw [Int.natCast_add] at d1
                go_upto_region 22 with fail
                have hMa := (Mods.refl [] wr).alloc (.cells #[.int .i64 T.kind, .int .i64 ((T.pos : Int) + (i : Int)), .string ⟨T.s.toArray⟩, .int .i64 T.n, .int .i64 T.scale] 32)
                have hnew := heap_alloc_new wr (.cells #[.int .i64 T.kind, .int .i64 ((T.pos : Int) + (i : Int)), .string ⟨T.s.toArray⟩, .int .i64 T.n, .int .i64 T.scale] 32)
                generalize wr.alloc (.cells #[.int .i64 T.kind, .int .i64 ((T.pos : Int) + (i : Int)), .string ⟨T.s.toArray⟩, .int .i64 T.n, .int .i64 T.scale] 32) = wa at *
                generalize wr.heap.size = vb at *
                have a0 : wa.cell? ⟨vb, 0, none⟩ = some (.int .i64 T.kind) := cell_of_heap hnew 0
                have a1 : wa.cell? ⟨vb, 1, none⟩ = some (.int .i64 ((T.pos : Int) + (i : Int))) := cell_of_heap hnew 1
                have a2 : wa.cell? ⟨vb, 2, none⟩ = some (.string ⟨T.s.toArray⟩) := cell_of_heap hnew 2
                have a3 : wa.cell? ⟨vb, 3, none⟩ = some (.int .i64 T.n) := cell_of_heap hnew 3
                have a4 : wa.cell? ⟨vb, 4, none⟩ = some (.int .i64 T.scale) := cell_of_heap hnew 4
                have b0 := hMa.cell d0 (by simp)
                have b1 := hMa.cell d1 (by simp)
                have b2 := hMa.cell d2 (by simp)
                have b3 := hMa.cell d3 (by simp)
                have b4 := hMa.cell d4 (by simp)
                have hMy := hMx.trans hMa (by simp)
                clear c0 c1 c2 c3 c4 d0 d1 d2 d3 d4 hnew hMa
                go_quiet (fail)
                go_wp2_with fail
                go_roundw
                case measure => simp [intOf]; omega
                case rel => exact ⟨k + 1, by omega, by go_num, hMy.drewN _⟩
              · have hsh : Tok.shift q i T = T := if_neg hqp
                rw [hsh] at d0 d1 d2 d3 d4
                have hqz : ¬ (q : Int) ≤ (T.pos : Int) := by omega
                clear hsh hqp
                go_upto_region 22 with fail
                have hMa := (Mods.refl [] wr).alloc (.cells #[.int .i64 T.kind, .int .i64 (T.pos : Int), .string ⟨T.s.toArray⟩, .int .i64 T.n, .int .i64 T.scale] 32)
                have hnew := heap_alloc_new wr (.cells #[.int .i64 T.kind, .int .i64 (T.pos : Int), .string ⟨T.s.toArray⟩, .int .i64 T.n, .int .i64 T.scale] 32)
                generalize wr.alloc (.cells #[.int .i64 T.kind, .int .i64 (T.pos : Int), .string ⟨T.s.toArray⟩, .int .i64 T.n, .int .i64 T.scale] 32) = wa at *
                generalize wr.heap.size = vb at *
                have a0 : wa.cell? ⟨vb, 0, none⟩ = some (.int .i64 T.kind) := cell_of_heap hnew 0
                have a1 : wa.cell? ⟨vb, 1, none⟩ = some (.int .i64 (T.pos : Int)) := cell_of_heap hnew 1
                have a2 : wa.cell? ⟨vb, 2, none⟩ = some (.string ⟨T.s.toArray⟩) := cell_of_heap hnew 2
                have a3 : wa.cell? ⟨vb, 3, none⟩ = some (.int .i64 T.n) := cell_of_heap hnew 3
                have a4 : wa.cell? ⟨vb, 4, none⟩ = some (.int .i64 T.scale) := cell_of_heap hnew 4
                have b0 := hMa.cell d0 (by simp)
                have b1 := hMa.cell d1 (by simp)
                have b2 := hMa.cell d2 (by simp)
                have b3 := hMa.cell d3 (by simp)
                have b4 := hMa.cell d4 (by simp)
                have hMy := hMx.trans hMa (by simp)
                clear c0 c1 c2 c3 c4 d0 d1 d2 d3 d4 hnew hMa
                go_quiet (fail)
                go_wp2_with fail
                go_roundw
                case measure => simp [intOf]; omega
                case rel => exact ⟨k + 1, by omega, by go_num, hMy.drewN _⟩
            · obtain rfl : k = n := by omega
              go_wp2_with fail
              go_ret
              exact ⟨rfl, hMw4.trans hMx (by simp)⟩
  · have h4z : (4000 : Int) < (s.size : Int) := by omega
    by_cases h96 : 4096 < s.size
    · unfold AllPost at hall
      simp only [if_pos h96] at hall
      clear h96
      (with_reducible refine hall.mono ?_)
      rintro e w2 ⟨rfl, hM2⟩
      clear hall
      go_wp2_with fail
      go_ret
      exact ⟨rfl, hM1.trans hM2 (by simp)⟩
    · cases hl : lexAll s.data.toList with
      | bad p =>
        have hall := all_bad w1 hT1 s (by omega) p hl
        clear hl h96
        (with_reducible refine hall.mono ?_)
        rintro e w2 ⟨rfl, hM2⟩
        clear hall
        go_wp2_with fail
        go_ret
        exact ⟨rfl, hM1.trans hM2 (by simp)⟩
      | good ts =>
        have hg := all_good w1 hT1 s (by omega) ts hl
        have hne := lexAll_ne hl
        have hn1 : 0 < ts.length := List.length_pos_iff.2 hne
        obtain ⟨n, hn⟩ : ∃ n, ts.length = n := ⟨_, rfl⟩
        rw [hn] at hn1 hg
        have hnz : ((n : Int) == 0) = false := by rw [beq_eq_false_iff_ne]; omega
        clear hl h96 hall hne hn
        (with_reducible refine hg.mono ?_)
        rintro e w2 ⟨g1, cap1, rfl, hM2, hA, hc1⟩
        clear hg hA
        go_wp2_with fail
        go_ret
        exact ⟨rfl, hM1.trans hM2 (by simp)⟩
end Go.Proofs.YtcjijjdoglpjbaaDoor
