/-
  The document's Put (ref16.Put), walked: the state while rows are put.
-/
import Derived.Test.YtagpnalhilgcpaaPutA
import Derived.Test.YtagpnalhilgcpaaBldA
import Derived.StillTailTactics
import Derived.Deep.LoopGhost
import Derived.Lib.BufferRead
namespace Go.Proofs.Ytagpnalhilgcpaa
open Go.RowKit
set_option linter.unusedVariables false

/-- Two slices of bytes of the call's own, apart. -/
def TwoB (w0 wr : World) (t u : Value) (O H : List UInt8) : Prop :=
  Mods [] w0 wr ∧ wr.ownsRow 0 5 1 t O.length (Lib.byteCells O) ∧ wr.ownsRow 0 5 1 u H.length (Lib.byteCells H) ∧ (∀ g, t.ownBlock = some g → w0.heap.size ≤ g) ∧ (∀ g, u.ownBlock = some g → w0.heap.size ≤ g) ∧ ∀ g, t.ownBlock = some g → u.ownBlock ≠ some g
theorem TwoB.start (w : World) : TwoB w w (.slice none 0 0) (.slice none 0 0) [] [] :=
  ⟨Mods.refl _ _, World.ownsRow_nil _ _ _ _, World.ownsRow_nil _ _ _ _, fun g hg => (by cases hg), fun g hg => (by cases hg), fun g hg => (by cases hg)⟩
theorem TwoB.quiet {w0 wr w' : World} {t u : Value} {O H : List UInt8} (h : TwoB w0 wr t u O H) (hM : Mods [] wr w') : TwoB w0 w' t u O H :=
  ⟨h.1.trans hM (by simp), ownsRow_mods h.2.1 hM (by simp), ownsRow_mods h.2.2.1 hM (by simp), h.2.2.2⟩
theorem TwoB.fst {w0 wr w' : World} {t t' u : Value} {O H : List UInt8} (h : TwoB w0 wr t u O H) {s : ByteArray} (hown : w'.ownsRow 0 5 1 t' (O.length + s.size) (Lib.byteCells O ++ Lib.strCells s)) (hM : Mods t.ownBlock.toList wr w') (hw : ∀ g, t'.ownBlock = some g → t.ownBlock = some g ∨ wr.heap.size ≤ g) :
    TwoB w0 w' t' u (O ++ s.data.toList) H := by
  obtain ⟨h1, h2, h3, h4, h5, h6⟩ := h
  have hsz := h1.size
  refine ⟨h1.trans hM (fun x hx => .inr (h4 x (by simpa using hx))), ?_, ownsRow_mods h3 hM (fun g hg hm => h6 g (by simpa using hm) hg), fun g hg => ?_, h5, fun g hg hu => ?_⟩
  · rw [Lib.strCells_eq, ← Lib.byteCells_append] at hown
    have e1 : O.length + s.size = (O ++ s.data.toList).length := by rw [List.length_append, Array.length_toList]; rfl
    rw [e1] at hown
    exact hown
  · rcases hw g hg with h | h
    · exact h4 g h
    · omega
  · rcases hw g hg with h | h
    · exact h6 g h hu
    · have := ownsRow_lt h3 g (by simp [hu]); omega
theorem TwoB.snd {w0 wr w' : World} {t u u' : Value} {O H : List UInt8} (h : TwoB w0 wr t u O H) {s : ByteArray} (hown : w'.ownsRow 0 5 1 u' (H.length + s.size) (Lib.byteCells H ++ Lib.strCells s)) (hM : Mods u.ownBlock.toList wr w') (hw : ∀ g, u'.ownBlock = some g → u.ownBlock = some g ∨ wr.heap.size ≤ g) :
    TwoB w0 w' t u' O (H ++ s.data.toList) := by
  obtain ⟨h1, h2, h3, h4, h5, h6⟩ := h
  have hsz := h1.size
  refine ⟨h1.trans hM (fun x hx => .inr (h5 x (by simpa using hx))), ownsRow_mods h2 hM (fun g hg hm => h6 g hg (by simpa using hm)), ?_, h4, fun g hg => ?_, fun g hg hu => ?_⟩
  · rw [Lib.strCells_eq, ← Lib.byteCells_append] at hown
    have e1 : H.length + s.size = (H ++ s.data.toList).length := by rw [List.length_append, Array.length_toList]; rfl
    rw [e1] at hown
    exact hown
  · rcases hw g hg with h | h
    · exact h5 g h
    · omega
  · rcases hw g hu with h | h
    · exact h6 g hg h
    · have := ownsRow_lt h2 g (by simp [hg]); omega
theorem TwoB.slice1 {w0 wr : World} {t u : Value} {O H : List UInt8} (h : TwoB w0 wr t u O H) : ∃ ao c, t = .slice ao O.length c := by
  rcases h.2.1.2 with ⟨hv, hn0⟩ | ⟨g, cap, cur, hv, _⟩
  · exact ⟨none, 0, by rw [hv, hn0]⟩
  · exact ⟨_, _, hv⟩
theorem TwoB.slice2 {w0 wr : World} {t u : Value} {O H : List UInt8} (h : TwoB w0 wr t u O H) : ∃ ao c, u = .slice ao H.length c := by
  rcases h.2.2.1.2 with ⟨hv, hn0⟩ | ⟨g, cap, cur, hv, _⟩
  · exact ⟨none, 0, by rw [hv, hn0]⟩
  · exact ⟨_, _, hv⟩

theorem hFIT_next {ts : List (Int × Int)} {vs : List V} {k : Nat} (h : ∀ i, i < k → fitI ts vs i = true) (h' : fitI ts vs k = true) : ∀ i, i < k + 1 → fitI ts vs i = true := fun i hi => by
  by_cases e : i = k
  · rw [e]; exact h'
  · exact h i (by omega)
theorem slots_next {fr : Nat} {H Hb Sb : List UInt8} {vs : List V} {k : Nat} {v : V} (hsk : slotsS fr H (vs.take (k + 1)) = stepS fr (slotsS fr H (vs.take k)) v) (h : (slotsS fr H (vs.take k)).2 = Hb ∧ (slotsS fr H (vs.take k)).1 = Sb) :
    (slotsS fr H (vs.take (k + 1))).1 = Sb ++ eightB (slotN (fr + Hb.length) v.n v.s) ∧ (slotsS fr H (vs.take (k + 1))).2 = Hb ++ v.s.data.toList := by
  rw [hsk, ← h.1, ← h.2]
  exact ⟨rfl, rfl⟩
theorem sum_bit (N k : Nat) (h : N + 2 ^ k < 18446744073709551616) : IntKind.u64.wrap ((N : Int) + IntKind.u64.wrap (2 ^ k)) = ((N + 2 ^ k : Nat) : Int) := by
  have e : ((2 : Int) ^ k) = ((2 ^ k : Nat) : Int) := by simp
  rw [e]
  generalize 2 ^ k = P at *
  rw [IntKind.wrap_u64, IntKind.wrap_u64]
  omega
theorem rows_next {fr : Nat} {O H : List UInt8} {rs : List (List V)} {q : Nat} {vs : List V} (hn : putS fr (rs.take (q + 1)) = stepR fr (putS fr (rs.take q)) vs) (h : (putS fr (rs.take q)).1 = O ∧ (putS fr (rs.take q)).2 = H) :
    (putS fr (rs.take (q + 1))).1 = O ++ eightB (nullsF vs vs.length) ++ (slotsS fr H vs).1 ∧ (putS fr (rs.take (q + 1))).2 = (slotsS fr H vs).2 := by
  rw [hn, ← h.1, ← h.2]
  refine ⟨?_, rfl⟩
  show (putS fr (rs.take q)).1 ++ rowB fr (putS fr (rs.take q)).2 vs = _
  unfold rowB
  rw [List.append_assoc]
theorem conv_own {w : World} {ao : Option Addr} {n c : Nat} {O : List UInt8} (h : w.ownsRow 0 5 1 (.slice ao n c) O.length (Lib.byteCells O)) : (convert 47 9 (.slice ao O.length c)).run Try.prog w = .ok (.string ⟨O.toArray⟩) w := by
  rcases h.2 with ⟨hv, hn0⟩ | ⟨g, cap, cur, hv, -⟩
  · simp only [Value.slice.injEq] at hv
    obtain ⟨rfl, -, rfl⟩ := hv
    obtain rfl := List.length_eq_zero_iff.1 hn0
    exact Lib.run_convert_nil_bytes w _ _ _ _ Try.underlying47 Try.underlying5 Try.underlying9
  · simp only [Value.slice.injEq] at hv
    obtain ⟨rfl, -, rfl⟩ := hv
    exact run_convert_bytes_back (P := Try.prog) w 47 9 5 ⟨g, 0, none⟩ _ O Try.underlying47 Try.underlying5 Try.underlying9 (by
      intro j hj
      have := h.cells (g := g) rfl j (.int .u8 (O[j].toNat : Int)) (by unfold Lib.byteCells; rw [List.getElem?_map, List.getElem?_eq_getElem hj]; rfl)
      exact this)
theorem cat_toArray (a b : List UInt8) : (⟨a.toArray⟩ : ByteArray) ++ ⟨b.toArray⟩ = ⟨(a ++ b).toArray⟩ := by
  apply ByteArray.ext
  simp
theorem size_mk (a : List UInt8) : (⟨a.toArray⟩ : ByteArray).size = a.length := by simp [ByteArray.size]

set_option maxHeartbeats 4000000 in
set_option maxRecDepth 100000 in
theorem refput_good (w : World) (nT nR : Nat) (ts : List (Int × Int)) (rs : List (List V)) (hts : ts.length = nT) (hrs : rs.length = nR) (tao rao : Option Addr) (ct cr : Nat) (hT : TysIn w tao ts []) (hR : RowsIn w rao rs []) (hok : ∀ vs ∈ rs, vs.length ≤ 9223372036854775807 ∧ ∀ v ∈ vs, v.ok)
    (a : Nat) (ha : a ≤ 16777216) (hnT : nT ≤ 64) (hnR : nR ≤ 1100000) :
    Calls Try.prog 28 #[.slice tao nT ct, .slice rao nR cr, .int .i64 a] w (PgPost w a ts rs) := by
  obtain ⟨i0, hi, hz0, hz1, hz2⟩ := info_parts info_u8
  have hz : sizeI (nT : Int) = ((8 * (nT + 1) : Nat) : Int) := by unfold sizeI; rw [if_pos (by omega)]; omega
  obtain ⟨S, hS⟩ : ∃ S, S = 8 * (nT + 1) := ⟨_, rfl⟩
  obtain ⟨M, hM⟩ : ∃ M, M = S * nR := ⟨_, rfl⟩
  have hM2 : M ≤ 520 * 1100000 := by rw [hM]; exact Nat.mul_le_mul (by omega) hnR
  have hMi : (S : Int) * (nR : Int) = (M : Int) := by rw [hM]; simp
  rw [← hS] at hz
  have HS := Lib.hid (And.intro hS hM)
  clear hS hM
  have h64 : ¬ (64 : Int) < nT := by omega
  go_enter Try.func28, Try.ntmps28
  go_wp2_with fail
  refine (ref_size nT _).mono ?_
  rintro e w1 ⟨rfl, rfl⟩
  rw [hz]
  go_wp2_with fail
  go_loopg [9, 10, 11] nR (fun gk t9 t10 t11 wr => ∃ q : Nat, q ≤ nR ∧ gk = nR - q ∧ t11 = .int .i64 q ∧ TwoB w1 wr t9 t10 (putS (a + M) (rs.take q)).1 (putS (a + M) (rs.take q)).2 ∧ ∀ i (h : i < rs.length), i < q → rowOK ts rs[i] = true)
  case atStart => exact ⟨0, by omega, by omega, rfl, TwoB.start w1, fun i h hi => by omega⟩
  case round =>
    obtain ⟨q, hq, hgk, rfl, hTB, hrow⟩ := hrel
    have HGK := Lib.hid hgk
    have HROW := Lib.hid hrow
    have hlens := putS_len (a + M) ts rs (by omega) q hrow
    clear hgk hrow
    by_cases hqn : q < nR
    · have hkr : q < rs.length := by omega
      obtain ⟨rb, roff, rfl, hrb, hRc⟩ := hR (by intro h0; rw [h0] at hkr; simp at hkr)
      obtain ⟨vo, c, hc, hV⟩ := hRc q hkr
      obtain ⟨hok1, hok2⟩ := hok rs[q] (List.getElem_mem hkr)
      have hc' := hTB.1.cell hc (by simp)
      have hnext := Lib.hid (putS_take (a + M) rs q hkr)
      have hki : (0 : Int) ≤ (q : Int) ∧ (q : Int) < (nR : Int) := by omega
      generalize hvs : rs[q] = vs at *
      have HVS := Lib.hid hvs
      generalize hO : (putS (a + M) (rs.take q)).1 = O at *
      generalize hH : (putS (a + M) (rs.take q)).2 = H at *
      have HOH := Lib.hid (And.intro hO hH)
      clear hO hH
      have hc0 := hc
      clear hRc hvs hc
      by_cases hlen : vs.length = nT
      · rw [hlen] at hc'
        have hst : TwoB w1 wr u9 u10 O (slotsS (a + M) H (vs.take 0)).2 := hTB
        go_wp2_with fail
        go_loopg [10, 12, 13, 14] nT (fun gk t10 t12 t13 t14 wx => ∃ k : Nat, k ≤ nT ∧ gk = nT - k ∧ t14 = .int .i64 k ∧ t12 = .int .u64 ((nullsF vs k : Nat) : Int) ∧ t13 = .string ⟨(slotsS (a + M) H (vs.take k)).1.toArray⟩ ∧ TwoB w1 wx u9 t10 O (slotsS (a + M) H (vs.take k)).2 ∧ ∀ i, i < k → fitI ts vs i = true)
        case atStart => exact ⟨0, by omega, by omega, rfl, rfl, rfl, hst, fun i hi => by omega⟩
        case round =>
          clear hst hTB
          obtain ⟨k, hk, hgk2, rfl, rfl, rfl, hTB, hfit⟩ := hrel
          have HGK2 := Lib.hid hgk2
          have hsl1 := slotsS_len (a + M) H vs k
          have hsl2 := slotsS_heap (a + M) H ts vs k hfit
          have hnk := nullsF_lt vs k
          have HFIT := Lib.hid hfit
          clear hgk2 hfit
          have hrow1 := hTB.1.cell hc0 (by simp)
          by_cases hkn : k < nT
          · have hkv : k < vs.length := by omega
            have hkn' : k < ts.length := by omega
            obtain ⟨tb, toff, rfl, -, hTc⟩ := (hT.mods hTB.1) (by intro h0; rw [h0] at hts; simp at hts; omega)
            obtain ⟨vb, voff, rfl, -, hVc⟩ := (hV.mods hTB.1) (by intro h0; rw [h0] at hkv; simp at hkv)
            obtain ⟨ct0, ct1⟩ := hTc k hkn'
            obtain ⟨cv0, cv1, cv2⟩ := hVc k hkv
            have hvo := hok2 vs[k] (List.getElem_mem hkv)
            have HFI := Lib.hid (fitI_at hkn' hkv)
            have HSK := Lib.hid (slotsS_take (a + M) H vs k hkv)
            have hnn := @nullsF_next vs k vs[k] hkv rfl
            have HNN := Lib.hid hnn
            have hkki : (0 : Int) ≤ (k : Int) ∧ (k : Int) < (nT : Int) := by omega
            generalize ts[k] = T at *
            generalize vs[k] = v at *
            clear hTc hVc hnn
            have hMa : Mods [] wr (wr.alloc (.cells #[.bool v.z, .int .i64 v.n, .string v.s] 77)) := (Mods.refl [] wr).alloc _
            have a0 : (wr.alloc (.cells #[.bool v.z, .int .i64 v.n, .string v.s] 77)).cell? ⟨wr.heap.size, 0, none⟩ = some (.bool v.z) := (cell_of_heap (heap_alloc_new wr _) 0).trans rfl
            have a1 : (wr.alloc (.cells #[.bool v.z, .int .i64 v.n, .string v.s] 77)).cell? ⟨wr.heap.size, 1, none⟩ = some (.int .i64 v.n) := (cell_of_heap (heap_alloc_new wr _) 1).trans rfl
            have a2 : (wr.alloc (.cells #[.bool v.z, .int .i64 v.n, .string v.s] 77)).cell? ⟨wr.heap.size, 2, none⟩ = some (.string v.s) := (cell_of_heap (heap_alloc_new wr _) 2).trans rfl
            have t0 := hMa.cell ct0 (by simp)
            have t1 := hMa.cell ct1 (by simp)
            have hTa := hTB.quiet hMa
            go_upto_region 17 with fail
            generalize wr.alloc (.cells #[.bool v.z, .int .i64 v.n, .string v.s] 77) = wa at *
            generalize wr.heap.size = bx at *
            have A0 : wa.drew.cell? ⟨bx, 0, none⟩ = some (.bool v.z) := a0
            have A1 : wa.drew.cell? ⟨bx, 1, none⟩ = some (.int .i64 v.n) := a1
            have A2 : wa.drew.cell? ⟨bx, 2, none⟩ = some (.string v.s) := a2
            have T0 : wa.drew.cell? ⟨tb, toff + k * 2, none⟩ = some (.int .i64 T.1) := t0
            have T1 : wa.drew.cell? ⟨tb, toff + k * 2 + 1, none⟩ = some (.int .i64 T.2) := t1
            have hTD := hTa.quiet ((Mods.refl [] wa).drew)
            clear hMa cv0 cv1 cv2 ct0 ct1 hTa hTB
            go_still_tail 5, (by kernel_rfl)
            change wpList _ _ _ _ _ wa.drew
            generalize wa.drew = wd at *
            clear t0 t1 T0 T1 a0 a1 a2
            cases hf : fitsV T.1 T.2 true v.z v.n v.s with
            | false =>
              have hbad := rowOK_false hkn' (HFI.out.trans hf)
              have hE : putE (a : Int) ts rs = 1 := by
                unfold putE
                rw [if_neg (by rw [hts]; omega), if_pos]
                rw [List.all_eq_false]
                exact ⟨rs[q], List.getElem_mem hkr, by rw [HVS.out, hbad]; decide⟩
              have fin : ∀ w', Mods [] w1 w' → PgPost w1 a ts rs (.returned (.tuple #[.string ⟨#[]⟩, .int .i64 1])) w' := fun w' h => by
                unfold PgPost
                rw [hE]
                exact ⟨rfl, h⟩
              clear hE hbad
              go_wp2_with fail
              refine (ref_fits T.1 T.2 true v.z v.n v.s hvo.2 _).mono ?_
              rintro e w2 ⟨rfl, hM2⟩
              rw [hf]
              go_wp2_with fail
              go_ret2
              exact fin _ (hTD.1.trans hM2 (by simp))
            | true =>
              have hs2 := fits_size hf
              have hfit := hFIT_next HFIT.out (HFI.out.trans hf)
              have HF2 := Lib.hid hfit
              clear hfit
              go_wp2_with fail
              refine (ref_fits T.1 T.2 true v.z v.n v.s hvo.2 _).mono ?_
              rintro e w2 ⟨rfl, hM2⟩
              have hT2 := hTD.quiet hM2
              have B0 := hM2.cell A0 (by simp)
              have B1 := hM2.cell A1 (by simp)
              have B2 := hM2.cell A2 (by simp)
              rw [hf]
              clear A0 A1 A2 hTD hM2
              generalize hN : nullsF vs k = N at *
              have hNk : N + 2 ^ k < 18446744073709551616 := by
                have h1 : (2 : Nat) ^ (k + 1) ≤ 2 ^ 64 := Nat.pow_le_pow_right (by decide) (by omega)
                have h2 : (2 : Nat) ^ (k + 1) = 2 ^ k * 2 := Nat.pow_succ ..
                omega
              have HN := Lib.hid hN
              clear hN hnk
              generalize hH : (slotsS (a + M) H (vs.take k)).2 = Hb at *
              generalize hSb : (slotsS (a + M) H (vs.take k)).1 = Sb at *
              have HHb := Lib.hid (And.intro hH hSb)
              clear hH hSb
              obtain ⟨hao, hcp, rfl⟩ := hT2.slice2
              cases hz : v.z with
              | true =>
                rw [hz] at B0
                obtain ⟨hn0, hs0⟩ := (fits_parts hf).1 hz
                rw [hn0] at B1
                rw [hs0] at B2
                have hsum : IntKind.u64.wrap ((N : Int) + IntKind.u64.wrap (2 ^ k)) = ((N + 2 ^ k : Nat) : Int) := sum_bit N k hNk
                have hsl9 : slotN (a + M + Hb.length) v.n v.s = 0 := by rw [hn0, hs0]; rfl
                have hno : ¬ 9223372036854775807 < Sb.length + (eightB 0).length := by rw [eightB_len]; omega
                have HZ := Lib.hid (And.intro hz (And.intro hs0 hsl9))
                have HSU := Lib.hid hsum
                have hf' := Lib.hid hf
                clear hz hn0 hs0 hsl9 hsum hf
                go_wp2_with fail
                refine (eight_any 0 (by omega) _).mono ?_
                rintro e w3 ⟨rfl, hM3⟩
                have hT3 := hT2.quiet hM3
                have hrel : (.string (⟨Sb.toArray⟩ ++ ⟨(eightB 0).toArray⟩) : Value) = .string ⟨(slotsS (a + M) H (vs.take (k + 1))).1.toArray⟩ ∧ TwoB w1 w3 u9 (.slice hao Hb.length hcp) O (slotsS (a + M) H (vs.take (k + 1))).2 := by
                  obtain ⟨e1, e2⟩ := slots_next HSK.out HHb.out
                  rw [e1, e2, HZ.out.2.2, HZ.out.2.1, cat_toArray]
                  refine ⟨rfl, ?_⟩
                  show TwoB w1 w3 u9 _ O (Hb ++ [])
                  rw [List.append_nil]
                  exact hT3
                have HREL := Lib.hid hrel
                clear hrel hT3 hT2 hM3 B0 B1 B2
                go_wp2_with fail
                go_roundg (nT - (k + 1))
                case measure => have := HGK2.out; omega
                case rel => exact ⟨k + 1, by omega, rfl, by go_num, by rw [HNN.out, if_pos HZ.out.1, HSU.out], HREL.out.1, HREL.out.2, HF2.out⟩
              | false =>
                rw [hz] at B0
                have hnn1 : nullsF vs (k + 1) = N := by rw [HNN.out, if_neg (by rw [hz]; decide)]; rfl
                have HNN1 := Lib.hid hnn1
                clear hnn1
                by_cases h0 : v.s.size = 0
                · have hs0 := str_empty h0
                  rw [hs0] at B2
                  obtain ⟨X, hX⟩ : ∃ X, (v.n % 18446744073709551616).toNat = X := ⟨_, rfl⟩
                  have hXb : X < 18446744073709551616 := by omega
                  have hXw : IntKind.u64.wrap v.n = (X : Int) := by rw [IntKind.wrap_u64]; omega
                  have hsl9 : slotN (a + M + Hb.length) v.n v.s = X := by rw [hs0]; exact hX
                  have hno : ¬ 9223372036854775807 < Sb.length + (eightB X).length := by rw [eightB_len]; omega
                  have HZ := Lib.hid (And.intro hs0 hsl9)
                  have hf' := Lib.hid hf
                  clear hz hs0 hsl9 hf hX h0
                  go_wp2_with fail
                  refine (eight_any X hXb _).mono ?_
                  rintro e w3 ⟨rfl, hM3⟩
                  have hT3 := hT2.quiet hM3
                  have hrel : (.string (⟨Sb.toArray⟩ ++ ⟨(eightB X).toArray⟩) : Value) = .string ⟨(slotsS (a + M) H (vs.take (k + 1))).1.toArray⟩ ∧ TwoB w1 w3 u9 (.slice hao Hb.length hcp) O (slotsS (a + M) H (vs.take (k + 1))).2 := by
                    obtain ⟨e1, e2⟩ := slots_next HSK.out HHb.out
                    rw [e1, e2, HZ.out.2, HZ.out.1, cat_toArray]
                    refine ⟨rfl, ?_⟩
                    show TwoB w1 w3 u9 _ O (Hb ++ [])
                    rw [List.append_nil]
                    exact hT3
                  have HREL := Lib.hid hrel
                  clear hrel hT3 hT2 hM3 B0 B1 B2
                  go_wp2_with fail
                  go_roundg (nT - (k + 1))
                  case measure => have := HGK2.out; omega
                  case rel => exact ⟨k + 1, by omega, rfl, by go_num, by rw [HNN1.out], HREL.out.1, HREL.out.2, HF2.out⟩
                · obtain ⟨X, hX⟩ : ∃ X, (a + M + Hb.length) * 256 + v.s.size = X := ⟨_, rfl⟩
                  obtain ⟨sz, hsz⟩ : ∃ sz, v.s.size = sz := ⟨_, rfl⟩
                  have hXb : X < 18446744073709551616 := by omega
                  have hXi : ((a : Int) + (M : Int) + (Hb.length : Int)) * 256 + (sz : Int) = (X : Int) := by omega
                  have hsl9 : slotN (a + M + Hb.length) v.n v.s = X := by unfold slotN; rw [if_neg h0]; exact hX
                  have hno : ¬ 9223372036854775807 < Sb.length + (eightB X).length := by rw [eightB_len]; omega
                  have hsz1 : 0 < sz ∧ sz ≤ 200 := by omega
                  obtain ⟨-, -, hown, -, -, -⟩ := id hT2
                  have HZ := Lib.hid hsl9
                  have hf' := Lib.hid hf
                  have HH0 := Lib.hid (And.intro h0 hX)
                  clear hz hsl9 hf hX h0
                  go_wp2_with (at_builtin; refine wpList_append_str rfl _ _ 47 9 rfl 5 i0 Try.underlying47 Try.underlying9 hi hz0 hz1 hz2 _ Hb.length (Lib.byteCells Hb) rfl hown v.s rfl ?c3 ?c4 ?_)
                  case c3 => unfold maxLen; omega
                  case c4 => omega
                  intro t' w5 hown5 hM5 hnil5 hw5
                  have hT5 := hT2.snd (s := v.s) (by rw [hsz]; exact hown5) hM5 hw5
                  clear hown5 hM5 hnil5 hw5 hown
                  go_wp2_with fail
                  refine (eight_any X hXb _).mono ?_
                  rintro e w3 ⟨rfl, hM3⟩
                  have hT3 := hT5.quiet hM3
                  have hrel : (.string (⟨Sb.toArray⟩ ++ ⟨(eightB X).toArray⟩) : Value) = .string ⟨(slotsS (a + M) H (vs.take (k + 1))).1.toArray⟩ ∧ TwoB w1 w3 u9 t' O (slotsS (a + M) H (vs.take (k + 1))).2 := by
                    obtain ⟨e1, e2⟩ := slots_next HSK.out HHb.out
                    rw [e1, e2, HZ.out, cat_toArray]
                    exact ⟨rfl, hT3⟩
                  have HREL := Lib.hid hrel
                  clear hrel hT3 hT2 hT5 hM3 B0 B1 B2
                  go_wp2_with fail
                  go_roundg (nT - (k + 1))
                  case measure => have := HGK2.out; omega
                  case rel => exact ⟨k + 1, by omega, rfl, by go_num, by rw [HNN1.out], HREL.out.1, HREL.out.2, HF2.out⟩
          · obtain rfl : nT = k := by omega
            have htk : vs.take nT = vs := List.take_of_length_le (by omega)
            rw [htk] at hTB hsl1 hsl2 ⊢
            have hok9 : rowOK ts vs = true := rowOK_true (by omega) (fun i hi => HFIT.out i (by omega))
            have hN9 : nullsF vs nT < 18446744073709551616 := Nat.lt_of_lt_of_le (nullsF_lt vs nT) (Nat.le_trans (Nat.pow_le_pow_right (by decide) hnT) (by decide))
            obtain ⟨N, hN⟩ : ∃ N, nullsF vs nT = N := ⟨_, rfl⟩
            rw [hN] at hN9 ⊢
            obtain ⟨SS, hSS⟩ : ∃ SS, (slotsS (a + M) H vs).1 = SS := ⟨_, rfl⟩
            rw [hSS] at hsl1 ⊢
            have HH9 := Lib.hid (And.intro hok9 (And.intro hN hSS))
            clear hok9 hN hSS htk hnk hrow1
            go_wp2_with fail
            refine (eight_any N hN9 _).mono ?_
            rintro e w3 ⟨rfl, hM3⟩
            have hT3 := hTB.quiet hM3
            obtain ⟨-, hown, -, -, -, -⟩ := id hT3
            have he8 := eightB_len N
            obtain ⟨E8, hE8⟩ : ∃ E8, (⟨(eightB N).toArray⟩ : ByteArray) = E8 := ⟨_, rfl⟩
            have hE8s : E8.size = 8 := by rw [← hE8, size_mk]; exact he8
            have HE8 := Lib.hid hE8
            rw [hE8]
            clear hM3 hTB he8 hE8
            go_wp2_with (at_builtin; refine wpList_append_str rfl _ _ 47 9 rfl 5 i0 Try.underlying47 Try.underlying9 hi hz0 hz1 hz2 u9 O.length (Lib.byteCells O) (by rfl) hown E8 (by rfl) ?c3 ?c4 ?_)
            case c3 => unfold maxLen; omega
            case c4 => omega
            intro t' w5 hown5 hM5 hnil5 hw5
            have hT5 := hT3.fst (s := E8) (by rw [hE8s]; exact hown5) hM5 hw5
            obtain ⟨-, hown6, -, -, -, -⟩ := id hT5
            obtain ⟨O2, hO2⟩ : ∃ O2, O ++ E8.data.toList = O2 := ⟨_, rfl⟩
            have hO2l : O2.length = O.length + 8 := by rw [← hO2, List.length_append, Array.length_toList]; exact congrArg (O.length + ·) hE8s
            rw [hO2] at hown6 hT5
            have HO2 := Lib.hid hO2
            obtain ⟨S9, hS9⟩ : ∃ S9, (⟨SS.toArray⟩ : ByteArray) = S9 := ⟨_, rfl⟩
            have hS9s : S9.size = SS.length := by rw [← hS9, size_mk]
            have HS9 := Lib.hid hS9
            rw [hS9]
            clear hown hT3 hown5 hM5 hnil5 hw5 hO2 hS9
            go_wp2_with (at_builtin; refine wpList_append_str rfl _ _ 47 9 rfl 5 i0 Try.underlying47 Try.underlying9 hi hz0 hz1 hz2 t' O2.length (Lib.byteCells O2) (by rfl) hown6 S9 (by rfl) ?c3 ?c4 ?_)
            case c3 => unfold maxLen; omega
            case c4 => omega
            intro t9 w7 hown7 hM7 hnil7 hw7
            have hT7 := hT5.fst (s := S9) (by rw [hS9s, hO2l]; exact hown7) hM7 hw7
            have hrel : TwoB w1 w7 t9 u10 (putS (a + M) (rs.take (q + 1))).1 (putS (a + M) (rs.take (q + 1))).2 ∧ ∀ i (h : i < rs.length), i < q + 1 → rowOK ts rs[i] = true := by
              obtain ⟨e1, e2⟩ := rows_next hnext.out HOH.out
              rw [e1, e2]
              refine ⟨?_, fun i h hi => ?_⟩
              · rw [hlen, HH9.out.2.1, HH9.out.2.2]
                have e3 : E8.data.toList = eightB N := by rw [← HE8.out]
                have e4 : S9.data.toList = SS := by rw [← HS9.out]
                rw [← HO2.out, e3, e4] at hT7
                exact hT7
              · by_cases e : i = q
                · subst e; rw [HVS.out]; exact HH9.out.1
                · exact HROW.out i h (by omega)
            have HREL := Lib.hid hrel
            clear hrel hown7 hM7 hnil7 hw7 hT7 hT5 hown6
            go_wp2_with fail
            go_roundg (nR - (q + 1))
            case measure => have := HGK.out; omega
            case rel => exact ⟨q + 1, by omega, rfl, by go_num, HREL.out.1, HREL.out.2⟩
      · have hbad : rowOK ts vs = false := rowOK_len (by omega)
        have hE : putE (a : Int) ts rs = 1 := by
          unfold putE
          rw [if_neg (by rw [hts]; omega), if_pos]
          rw [List.all_eq_false]
          exact ⟨rs[q], List.getElem_mem hkr, by rw [HVS.out, hbad]; decide⟩
        have fin : ∀ w', Mods [] w1 w' → PgPost w1 a ts rs (.returned (.tuple #[.string ⟨#[]⟩, .int .i64 1])) w' := fun w' h => by
          unfold PgPost
          rw [hE]
          exact ⟨rfl, h⟩
        have hlen2 : ¬ (vs.length : Int) = (nT : Int) := by omega
        clear hE hbad
        go_wp2_with fail
        go_ret2
        exact fin _ hTB.1
    · obtain rfl : nR = q := by omega
      have htk : rs.take nR = rs := List.take_of_length_le (by omega)
      rw [htk] at hTB hlens
      have hall : ¬ rs.all (rowOK ts) = false := by
        rw [Bool.not_eq_false, List.all_eq_true]
        intro vs hvs
        obtain ⟨i, hi, rfl⟩ := List.getElem_of_mem hvs
        exact HROW.out i hi (by omega)
      have hpb : putB (a : Int).toNat ts.length rs = (putS (a + M) rs).1 ++ (putS (a + M) rs).2 := by
        unfold putB
        rw [Int.toNat_natCast, hts, ← HS.out.1, hrs, ← HS.out.2]
      generalize (putS (a + M) rs).1 = R at *
      generalize (putS (a + M) rs).2 = H at *
      have hE : putE (a : Int) ts rs = if (16777216 : Int) - a < R.length + H.length then 12 else 0 := by
        unfold putE
        rw [if_neg (by rw [hts]; omega), if_neg hall, hpb, List.length_append]
        simp
      obtain ⟨ao1, cp1, rfl⟩ := hTB.slice1
      obtain ⟨ao2, cp2, rfl⟩ := hTB.slice2
      obtain ⟨hMw, ho1, ho2, -, -, -⟩ := hTB
      have hc1 := conv_own ho1
      have hc2 := conv_own ho2
      have hno : ¬ 9223372036854775807 < R.length + H.length := by omega
      have happ := cat_toArray R H
      have hcl : (⟨(R ++ H).toArray⟩ : ByteArray).size = R.length + H.length := by rw [size_mk, List.length_append]
      have HE := Lib.hid hE
      have HPB := Lib.hid hpb
      clear hE hpb hall htk
      by_cases hroom : (16777216 : Int) - a < R.length + H.length
      · have fin : PgPost w1 a ts rs (.returned (.tuple #[.string ⟨#[]⟩, .int .i64 12])) wr := by
          unfold PgPost
          rw [HE.out, if_pos hroom]
          exact ⟨rfl, hMw⟩
        have hroom2 : (16777216 : Int) < (a : Int) + ((R.length : Int) + (H.length : Int)) := by omega
        go_wp2_with fail
        go_ret2
        exact fin
      · have fin : PgPost w1 a ts rs (.returned (.tuple #[.string ⟨(R ++ H).toArray⟩, .int .i64 0])) wr := by
          unfold PgPost
          rw [HE.out, if_neg hroom, if_pos rfl, HPB.out]
          exact ⟨rfl, hMw⟩
        have hroom2 : ¬ (16777216 : Int) < (a : Int) + ((R.length : Int) + (H.length : Int)) := by omega
        go_wp2_with fail
        go_ret2
        exact fin
end Go.Proofs.Ytagpnalhilgcpaa
