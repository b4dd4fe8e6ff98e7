/-
  page's writer.row, walked: a row that fits is put; one that does not is refused.
-/
import Derived.Test.YtagpnalhilgcpaaPagD
import Derived.StillTailTactics
namespace Go.Proofs.Ytagpnalhilgcpaa
open Go.RowKit
set_option linter.unusedVariables false

def fitI (ts : List (Int × Int)) (vs : List V) (i : Nat) : Bool :=
  match ts[i]?, vs[i]? with
  | some t, some v => fitsV t.1 t.2 true v.z v.n v.s
  | _, _ => false
theorem fitI_at {ts : List (Int × Int)} {vs : List V} {i : Nat} (h : i < ts.length) (h' : i < vs.length) : fitI ts vs i = fitsV ts[i].1 ts[i].2 true vs[i].z vs[i].n vs[i].s := by
  unfold fitI
  rw [List.getElem?_eq_getElem h, List.getElem?_eq_getElem h']

def rowOK (ts : List (Int × Int)) (vs : List V) : Bool := vs.length == ts.length && (List.range ts.length).all (fitI ts vs)

theorem rowOK_true {ts : List (Int × Int)} {vs : List V} (h : vs.length = ts.length) (hf : ∀ i, i < ts.length → fitI ts vs i = true) : rowOK ts vs = true := by
  unfold rowOK
  simp [h]
  exact hf
theorem rowOK_false {ts : List (Int × Int)} {vs : List V} {i : Nat} (hi : i < ts.length) (hf : fitI ts vs i = false) : rowOK ts vs = false := by
  unfold rowOK
  rw [Bool.and_eq_false_iff]
  right
  rw [List.all_eq_false]
  exact ⟨i, by simpa using hi, by simp [hf]⟩
theorem rowOK_len {ts : List (Int × Int)} {vs : List V} (h : vs.length ≠ ts.length) : rowOK ts vs = false := by
  unfold rowOK
  simp [h]

theorem fits_size {k s n : Int} {z : Bool} {str : ByteArray} (h : fitsV k s true z n str = true) : str.size ≤ 200 := by
  unfold fitsV at h
  simp only [Bool.and_eq_true, Bool.true_and] at h
  obtain ⟨-, h⟩ := h
  (repeat' split at h) <;> simp at h <;> first | omega | (obtain ⟨-, h1⟩ := h; first | exact h1 | (rw [h1]; decide)) | (obtain ⟨h1, -⟩ := h; rw [h1]; decide)

/-- The loop's state: k values are put, each fitted. -/
def RowLoop (w : World) (b fr : Nat) (R H : List UInt8) (L : List Nat) (ts : List (Int × Int)) (vs : List V) (k : Nat) (wr : World) : Prop :=
  RowSt w b fr R (slotsS fr H (vs.take k)).2 L w.heap.size (slotsS fr H (vs.take k)).1 wr ∧ ∀ i, i < k → fitI ts vs i = true

theorem slotsS_len (fr : Nat) (H : List UInt8) (vs : List V) (k : Nat) : (slotsS fr H (vs.take k)).1.length ≤ 8 * k := by
  induction k with
  | zero => simp [slotsS]
  | succ k ih =>
    by_cases hk : k < vs.length
    · rw [slotsS_take _ _ _ _ hk]
      simp only [stepS, List.length_append, eightB_len]
      omega
    · rw [List.take_of_length_le (by omega)]
      rw [List.take_of_length_le (by omega)] at ih
      omega

theorem slotsS_heap (fr : Nat) (H : List UInt8) (ts : List (Int × Int)) (vs : List V) (k : Nat) (hf : ∀ i, i < k → fitI ts vs i = true) : (slotsS fr H (vs.take k)).2.length ≤ H.length + 200 * k := by
  induction k with
  | zero => simp [slotsS]
  | succ k ih =>
    have ih' := ih (fun i hi => hf i (by omega))
    by_cases hk : k < vs.length
    · have h1 := hf k (by omega)
      have h2 : vs[k].s.size ≤ 200 := by
        unfold fitI at h1
        rw [List.getElem?_eq_getElem hk] at h1
        split at h1
        · rename_i h3; simp at h3; subst h3; exact fits_size h1
        · cases h1
      rw [slotsS_take _ _ _ _ hk]
      simp only [stepS, List.length_append, Array.length_toList]
      have : vs[k].s.data.size = vs[k].s.size := rfl
      omega
    · rw [List.take_of_length_le (by omega)]
      rw [List.take_of_length_le (by omega)] at ih'
      omega

theorem slotN_lt (pos : Nat) (n : Int) (s : ByteArray) (h : pos ≤ 72057594037927935) (hs : s.size ≤ 200) : slotN pos n s < 18446744073709551616 := by
  unfold slotN
  split <;> omega
theorem nullsF_next {vs : List V} {k : Nat} {v : V} (h : k < vs.length) (hv : vs[k] = v) : nullsF vs (k + 1) = nullsF vs k + (if v.z = true then 2 ^ k else 0) := by
  simp only [nullsF]
  rw [List.getElem?_eq_getElem h, hv]
  rfl
theorem null_bits (x k : Nat) (hk : k < 64) (hx : x < 2 ^ k) : bits .or .u64 (x : Int) (IntKind.u64.wrap (2 ^ k)) = ((x + 2 ^ k : Nat) : Int) := by
  have h64 : (2 : Nat) ^ k < 2 ^ 64 := Nat.pow_lt_pow_right (by decide) hk
  have e1 : ((2 : Int) ^ k) = ((2 ^ k : Nat) : Int) := by simp
  rw [e1, wraps64 _ (Int.natCast_nonneg _) (by exact_mod_cast h64)]
  rw [(bits_nat .u64 64 (by decide) wraps64 x (2 ^ k) (by omega) h64).2]
  have := or_high x 1 k hx
  rw [Nat.one_mul] at this
  rw [this]

theorem app_bound (a b : List UInt8) (m N : Nat) (h : m + (a.length + b.length) ≤ N) : m + ((⟨a.toArray⟩ : ByteArray) ++ ⟨b.toArray⟩).size ≤ N := by
  have : ((⟨a.toArray⟩ : ByteArray) ++ ⟨b.toArray⟩).size = a.length + b.length := by simp [ByteArray.size]
  rw [this]
  exact h
theorem app_list (a b : List UInt8) : ((⟨a.toArray⟩ : ByteArray) ++ ⟨b.toArray⟩).data.toList = a ++ b := by simp

def RowPost (w : World) (b fr : Nat) (R H : List UInt8) (L : List Nat) (ts : List (Int × Int)) (vs : List V) (e : Ending) (w' : World) : Prop :=
  e = .returned (.bool (rowOK ts vs)) ∧ Mods L w w' ∧ (rowOK ts vs = true → WrNow w b fr (R ++ rowB fr H vs) (slotsS fr H vs).2 L w')

set_option maxHeartbeats 4000000 in
set_option maxRecDepth 100000 in
theorem row_same {w : World} {b fr : Nat} {R H : List UInt8} {L : List Nat} (hW : Wr w b fr R H L) (n : Nat) (ts : List (Int × Int)) (vs : List V) (hts : ts.length = n) (hvs : vs.length = n) (tao rao : Option Addr) (ct cr : Nat) (hT : TysIn w tao ts L) (hV : ValsIn w rao vs L) (hok : ∀ v ∈ vs, v.ok)
    (h64 : n ≤ 64) (hvl : vs.length ≤ 9223372036854775807) (hb1 : fr + H.length ≤ 72057594037900000) (hb2 : H.length ≤ 140737488300000) (hb3 : R.length ≤ 140737488300000) :
    Calls Try.prog 46 #[.pointer (some ⟨b, 0, none⟩), .slice tao n ct, .slice rao n cr] w (RowPost w b fr R H L ts vs) := by
    have hlt := hW.lt
    have hbeg := RowSt.begin hW
    go_enter Try.func46, Try.ntmps46
    go_wp2_with fail
    go_loopw [7, 18] (fun t7 t18 wr => ∃ k : Nat, k ≤ n ∧ t18 = .int .i64 k ∧ t7 = .int .u64 ((nullsF vs k : Nat) : Int) ∧ RowLoop w b fr R H L ts vs k wr) (fun _ t18 _ => n - (intOf t18).toNat)
    case atStart => exact ⟨0, by omega, rfl, rfl, hbeg, fun i hi => by omega⟩
    case round =>
      obtain ⟨k, hk, rfl, rfl, hq, hfit⟩ := hrel
      by_cases hkn : k < n
      · have hkv : k < vs.length := by omega
        obtain ⟨tb, toff, rfl, htb, hTc⟩ := (hT.mods hq.1) (by intro h0; rw [h0] at hts; simp at hts; omega)
        obtain ⟨rb, roff, rfl, hrb, hVc⟩ := (hV.mods hq.1) (by intro h0; rw [h0] at hkv; simp at hkv)
        have hkn' : k < ts.length := by omega
        obtain ⟨ct0, ct1⟩ := hTc k hkn'
        obtain ⟨cv0, cv1, cv2⟩ := hVc k hkv
        have hvo := hok vs[k] (List.getElem_mem hkv)
        have hFI := Lib.hid (fitI_at hkn' hkv)
        generalize ts[k] = T at *
        generalize hgv : vs[k] = v at *
        clear hTc hVc
        go_wp2_with fail
        have hMa : Mods [] wr (wr.alloc (.cells #[.bool v.z, .int .i64 v.n, .string v.s] 77)) := (Mods.refl [] wr).alloc _
        have a0 := (cell_of_heap (heap_alloc_new wr (.cells #[.bool v.z, .int .i64 v.n, .string v.s] 77)) 0).trans rfl
        have a1 := (cell_of_heap (heap_alloc_new wr (.cells #[.bool v.z, .int .i64 v.n, .string v.s] 77)) 1).trans rfl
        have a2 := (cell_of_heap (heap_alloc_new wr (.cells #[.bool v.z, .int .i64 v.n, .string v.s] 77)) 2).trans rfl
        have t0 := hMa.cell ct0 (by simp)
        have t1 := hMa.cell ct1 (by simp)
        have hqa := hq.quiet hMa
        generalize wr.alloc (.cells #[.bool v.z, .int .i64 v.n, .string v.s] 77) = wa at *
        generalize wr.heap.size = vb at *
        have A0 : wa.drew.cell? ⟨vb, 0, none⟩ = some (.bool v.z) := a0
        have A1 : wa.drew.cell? ⟨vb, 1, none⟩ = some (.int .i64 v.n) := a1
        have A2 : wa.drew.cell? ⟨vb, 2, none⟩ = some (.string v.s) := a2
        have T0 : wa.drew.cell? ⟨tb, toff + k * 2, none⟩ = some (.int .i64 T.1) := t0
        have T1 : wa.drew.cell? ⟨tb, toff + k * 2 + 1, none⟩ = some (.int .i64 T.2) := t1
        have hqd := hqa.quiet ((Mods.refl [] wa).drew)
        have hki : (0 : Int) ≤ (k : Int) ∧ (k : Int) < (n : Int) := by omega
        have hkt : (k : Int).toNat = k := by omega
        clear hMa cv0 cv1 cv2 ct0 ct1 hbeg hqa
        go_still_tail 5, (by kernel_rfl)
        change wpList _ _ _ _ _ wa.drew
        generalize wa.drew = wd at *
        clear hki hkt t0 t1 T0 T1 a0 a1 a2 htb hrb
        cases hf : fitsV T.1 T.2 true v.z v.n v.s with
        | false =>
          have hbad := rowOK_false hkn' (hFI.out.trans hf)
          go_wp2_with fail
          refine (fits_any T.1 T.2 true v.z v.n v.s hvo.2 _).mono ?_
          rintro e w2 ⟨rfl, hM2⟩
          have hq2 := hqd.quiet hM2
          rw [hf]
          go_wp2_with fail
          go_ret
          refine ⟨?_, hq2.1, fun h => by rw [hbad] at h; cases h⟩
          rw [hbad]
          rfl
        | true =>
          have hs2 := fits_size hf
          have hsk := (slotsS_take fr H vs k hkv).trans (congrArg _ hgv)
          have hln := slotsS_len fr H vs k
          have hlh := slotsS_heap fr H ts vs k hfit
          have hnk := nullsF_lt vs k
          go_wp2_with fail
          refine (fits_any T.1 T.2 true v.z v.n v.s hvo.2 _).mono ?_
          rintro e w2 ⟨rfl, hM2⟩
          have hq2 := hqd.quiet hM2
          have B0 := hM2.cell A0 (by simp)
          have B1 := hM2.cell A1 (by simp)
          have B2 := hM2.cell A2 (by simp)
          rw [hf]
          cases hz : v.z with
          | true =>
            rw [hz] at B0
            have hnext := nullsF_next hkv hgv
            rw [hz, if_pos rfl] at hnext
            go_wp2_with fail
            have hsl := rs_slot hq2 v hs2 (by omega) (by omega)
            rw [hz] at hsl
            refine hsl.mono ?_
            rintro e w3 ⟨rfl, h3⟩
            go_wp2_with fail
            refine (rs_number h3 _ (slotN_lt _ _ _ (by omega) hs2)).mono ?_
            rintro e w4 ⟨rfl, h4⟩
            go_wp2_with fail
            refine (rs_write h4 _ (by rw [eightB_len]; omega)).mono ?_
            rintro e w5 ⟨rfl, h5⟩
            go_wp2_with fail
            go_roundw
            case measure => simp [intOf]; omega
            case rel =>
              refine ⟨k + 1, by omega, by go_num, ?_, ?_, fun i hi => ?_⟩
              · rw [hnext]
                exact congrArg _ (null_bits _ _ (by omega) hnk)
              · rw [hsk]
                exact h5
              · by_cases hik : i = k
                · rw [hik]; exact hFI.out.trans hf
                · exact hfit i (by omega)
          | false =>
            rw [hz] at B0
            have hnext := nullsF_next hkv hgv
            rw [hz, if_neg (by decide), Nat.add_zero] at hnext
            go_wp2_with fail
            have hsl := rs_slot hq2 v hs2 (by omega) (by omega)
            rw [hz] at hsl
            refine hsl.mono ?_
            rintro e w3 ⟨rfl, h3⟩
            go_wp2_with fail
            refine (rs_number h3 _ (slotN_lt _ _ _ (by omega) hs2)).mono ?_
            rintro e w4 ⟨rfl, h4⟩
            go_wp2_with fail
            refine (rs_write h4 _ (by rw [eightB_len]; omega)).mono ?_
            rintro e w5 ⟨rfl, h5⟩
            go_wp2_with fail
            go_roundw
            case measure => simp [intOf]; omega
            case rel =>
              refine ⟨k + 1, by omega, by go_num, ?_, ?_, fun i hi => ?_⟩
              · rw [hnext]
                rfl
              · rw [hsk]
                exact h5
              · by_cases hik : i = k
                · rw [hik]; exact hFI.out.trans hf
                · exact hfit i (by omega)
      · obtain rfl : n = k := by omega
        have hqd := hq.quiet ((Mods.refl [] wr).drew)
        have htk : vs.take n = vs := List.take_of_length_le (by omega)
        have hb5 := slotsS_len fr H vs n
        have hN : nullsF vs n < 18446744073709551616 := Nat.lt_of_lt_of_le (nullsF_lt vs n) (Nat.le_trans (Nat.pow_le_pow_right (by decide) h64) (by decide))
        rw [htk] at hqd hb5
        have hbb : R.length + ((eightB (nullsF vs n)).length + (slotsS fr H vs).1.length) ≤ 140737488355328 := by rw [eightB_len]; omega
        have hok1 : rowOK ts vs = true := rowOK_true (by omega) (fun i hi => hfit i (by omega))
        have fin : ∀ w', WrNow w b fr (R ++ (eightB (nullsF vs n) ++ (slotsS fr H vs).1)) (slotsS fr H vs).2 L w' → RowPost w b fr R H L ts vs (.returned (.bool true)) w' := fun w' h => by
          refine ⟨by rw [hok1], h.1, fun _ => ?_⟩
          unfold rowB
          rw [hvs]
          exact h
        have hno : ¬ 9223372036854775807 < (eightB (nullsF vs n)).length + (slotsS fr H vs).1.length := by omega
        clear hq hfit hb5 hbeg
        go_wp2_with fail
        go_region_held3 (fun _ => True) (trivial)
          (first | (go_at_call 57; refine (rs_number hqd (nullsF vs n) hN).mono ?_; rintro e w2 ⟨rfl, h2⟩) | (go_at_call 47; refine (rs_string (by assumption)).mono ?_; rintro e w3 ⟨rfl, h3⟩) | (go_at_call 56; refine (rn_rows (by assumption) _ (app_bound _ _ _ _ hbb)).mono ?_; rintro e w4 ⟨rfl, h4⟩))
        go_wp2_with fail
        go_ret
        rw [app_list] at h4
        exact fin _ h4

set_option maxHeartbeats 4000000 in
set_option maxRecDepth 100000 in
theorem row_any {w : World} {b fr : Nat} {R H : List UInt8} {L : List Nat} (hW : Wr w b fr R H L) (ts : List (Int × Int)) (vs : List V) (tao rao : Option Addr) (ct cr : Nat) (hT : TysIn w tao ts L) (hV : ValsIn w rao vs L) (hok : ∀ v ∈ vs, v.ok)
    (h64 : ts.length ≤ 64) (hvl : vs.length ≤ 9223372036854775807) (hb1 : fr + H.length ≤ 72057594037900000) (hb2 : H.length ≤ 140737488300000) (hb3 : R.length ≤ 140737488300000) :
    Calls Try.prog 46 #[.pointer (some ⟨b, 0, none⟩), .slice tao ts.length ct, .slice rao vs.length cr] w (RowPost w b fr R H L ts vs) := by
  by_cases hlen : vs.length = ts.length
  · have := row_same hW ts.length ts vs rfl hlen tao rao ct cr hT hV hok h64 hvl hb1 hb2 hb3
    rw [hlen]
    exact this
  · have hlen' : ¬ (vs.length : Int) = (ts.length : Int) := by omega
    go_enter Try.func46, Try.ntmps46
    go_wp2_with fail
    go_ret
    exact ⟨ret_bool (rowOK_len hlen).symm, Mods.refl _ _, fun h => by rw [rowOK_len hlen] at h; cases h⟩
end Go.Proofs.Ytagpnalhilgcpaa
