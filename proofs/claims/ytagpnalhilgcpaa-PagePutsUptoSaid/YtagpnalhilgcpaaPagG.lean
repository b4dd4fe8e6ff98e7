/-
  page.Put, walked whole.
-/
import Derived.Test.YtagpnalhilgcpaaPagF
namespace Go.Proofs.Ytagpnalhilgcpaa
open Go.RowKit
set_option linter.unusedVariables false

def PgPost (w : World) (at_ : Int) (ts : List (Int × Int)) (rs : List (List V)) (e : Ending) (w' : World) : Prop :=
  e = .returned (.tuple #[.string (if putE at_ ts rs = 0 then ⟨(putB at_.toNat ts.length rs).toArray⟩ else ⟨#[]⟩), .int .i64 (putE at_ ts rs)]) ∧ Mods [] w w'

def PgLoop (w : World) (b fr : Nat) (ts : List (Int × Int)) (rs : List (List V)) (k : Nat) (wr : World) : Prop :=
  Mods [] w wr ∧ ∃ Lr, Wr wr b fr (putS fr (rs.take k)).1 (putS fr (rs.take k)).2 Lr ∧ (∀ x ∈ Lr, w.heap.size ≤ x) ∧ ∀ i (h : i < rs.length), i < k → rowOK ts rs[i] = true

theorem wr_new (w : World) (fr : Nat) : Wr (w.alloc (.cells #[.pointer none, .slice none 0 0, .pointer none, .slice none 0 0, .int .i64 fr] 103)) w.heap.size fr [] [] [w.heap.size] :=
  ⟨_, .slice none 0 0, .slice none 0 0, rfl, rfl, ⟨heap_alloc_new w _, .inl rfl, rfl, World.ownsRow_nil _ _ _ _, fun _ => rfl⟩, ⟨heap_alloc_new w _, .inl rfl, rfl, World.ownsRow_nil _ _ _ _, fun _ => rfl⟩, fun g hg => (by cases hg), rfl⟩

theorem putE_bad {at_ : Int} {ts : List (Int × Int)} {rs : List (List V)} (h : 64 < ts.length ∨ at_ < 0 ∨ 16777216 < at_) : putE at_ ts rs = 1 := by
  unfold putE
  rw [if_pos h]

set_option maxHeartbeats 4000000 in
set_option maxRecDepth 100000 in
theorem put_bad (w : World) (nT nR : Nat) (ts : List (Int × Int)) (rs : List (List V)) (hts : ts.length = nT) (tao rao : Option Addr) (ct cr : Nat) (at_ : Int) (ha0 : -9223372036854775808 ≤ at_) (ha1 : at_ ≤ 9223372036854775807) (hnT : nT ≤ 9223372036854775807)
    (hbad : 64 < nT ∨ at_ < 0 ∨ 16777216 < at_) :
    Calls Try.prog 27 #[.slice tao nT ct, .slice rao nR cr, .int .i64 at_] w (PgPost w at_ ts rs) := by
  have fin : PgPost w at_ ts rs (.returned (.tuple #[.string ⟨#[]⟩, .int .i64 1])) w := by
    unfold PgPost
    rw [putE_bad (by rw [hts]; exact hbad)]
    exact ⟨rfl, Mods.refl _ _⟩
  go_enter Try.func27, Try.ntmps27
  rcases hbad with h | h | h
  · have h' : (64 : Int) < nT := by omega
    go_wp2_with fail
    go_ret2
    exact fin
  · by_cases h1 : (64 : Int) < nT
    · go_wp2_with fail
      go_ret2
      exact fin
    · go_wp2_with fail
      go_ret2
      exact fin
  · by_cases h1 : (64 : Int) < nT
    · go_wp2_with fail
      go_ret2
      exact fin
    · have h2 : ¬ at_ < 0 := by omega
      go_wp2_with fail
      go_ret2
      exact fin

set_option maxHeartbeats 4000000 in
set_option maxRecDepth 100000 in
theorem put_good (w : World) (nT nR : Nat) (ts : List (Int × Int)) (rs : List (List V)) (hts : ts.length = nT) (hrs : rs.length = nR) (tao rao : Option Addr) (ct cr : Nat) (hT : TysIn w tao ts []) (hR : RowsIn w rao rs []) (hok : ∀ vs ∈ rs, vs.length ≤ 9223372036854775807 ∧ ∀ v ∈ vs, v.ok)
    (a : Nat) (ha : a ≤ 16777216) (hnT : nT ≤ 64) (hnR : nR ≤ 1100000) :
    Calls Try.prog 27 #[.slice tao nT ct, .slice rao nR cr, .int .i64 a] w (PgPost w a ts rs) := by
  have hz : sizeI (nT : Int) = ((8 * (nT + 1) : Nat) : Int) := by unfold sizeI; rw [if_pos (by omega)]; omega
  obtain ⟨S, hS⟩ : ∃ S, S = 8 * (nT + 1) := ⟨_, rfl⟩
  obtain ⟨M, hM⟩ : ∃ M, M = S * nR := ⟨_, rfl⟩
  have hM2 : M ≤ 520 * 1100000 := by rw [hM]; exact Nat.mul_le_mul (by omega) hnR
  have hMi : (S : Int) * (nR : Int) = (M : Int) := by rw [hM]; simp
  rw [← hS] at hz
  have HS := Lib.hid (And.intro hS hM)
  clear hS hM
  have h64 : ¬ (64 : Int) < nT := by omega
  go_enter Try.func27, Try.ntmps27
  go_wp2_with fail
  refine (size_any nT _).mono ?_
  rintro e w1 ⟨rfl, rfl⟩
  rw [hz]
  go_wp2_with fail
  go_loopw [35] (fun t35 wr => ∃ k : Nat, k ≤ nR ∧ t35 = .int .i64 k ∧ PgLoop w1 w1.heap.size (a + M) ts rs k wr) (fun t35 _ => nR - (intOf t35).toNat)
  case atStart =>
    refine ⟨0, by omega, rfl, (Mods.refl [] w1).alloc _, [w1.heap.size], ?_, fun x hx => by simp at hx; omega, fun i h hi => by omega⟩
    rw [← Int.natCast_add]
    exact wr_new w1 (a + M)
  case round =>
    obtain ⟨k, hk, rfl, hMr, Lr, hWr, hLr, hrow⟩ := hrel
    have hlens := putS_len (a + M) ts rs (by omega) k hrow
    by_cases hkn : k < nR
    · have hkr : k < rs.length := by omega
      have hT' : TysIn wr tao ts Lr := (hT.apart hLr).mods (hMr.mono (by simp))
      obtain ⟨rb, roff, rfl, hrb, hRc⟩ := hR (by intro h0; rw [h0] at hkr; simp at hkr)
      obtain ⟨vo, c, hc, hV⟩ := hRc k hkr
      have hc' := hMr.cell hc (by simp)
      have hV' : ValsIn wr vo rs[k] Lr := (hV.apart hLr).mods (hMr.mono (by simp))
      obtain ⟨hok1, hok2⟩ := hok rs[k] (List.getElem_mem hkr)
      have hnext := putS_take (a + M) rs k hkr
      have hro := row_any hWr ts rs[k] tao vo ct c hT' hV' hok2 (by omega) hok1 (by omega) (by omega) (by omega)
      rw [hts] at hro
      clear hRc hT' hV' hV
      go_wp2_with fail
      refine hro.mono ?_
      rintro e w2 ⟨rfl, hM2, hW2⟩
      have hM3 : Mods [] w1 w2 := hMr.trans hM2 (fun x hx => .inr (hLr x hx))
      cases hrk : rowOK ts rs[k] with
      | false =>
        have hE : putE (a : Int) ts rs = 1 := by
          unfold putE
          rw [if_neg (by rw [hts]; omega), if_pos]
          rw [List.all_eq_false]
          exact ⟨rs[k], List.getElem_mem hkr, by rw [hrk]; decide⟩
        have fin : PgPost w1 a ts rs (.returned (.tuple #[.string ⟨#[]⟩, .int .i64 1])) w2 := by
          unfold PgPost
          rw [hE]
          exact ⟨rfl, hM3⟩
        go_wp2_with fail
        go_ret2
        exact fin
      | true =>
        obtain ⟨-, L', h5, h6⟩ := hW2 hrk
        have hsz := hMr.size
        have hg : PgLoop w1 w1.heap.size (a + M) ts rs (k + 1) w2 := by
          refine ⟨hM3, L', by rw [hnext]; exact h5, fun x hx => ?_, fun i h hi => ?_⟩
          · rcases h6 x hx with h7 | h7
            · exact hLr x h7
            · omega
          · by_cases hik : i = k
            · subst hik; exact hrk
            · exact hrow i h (by omega)
        clear h5 h6 hW2 hnext hrow
        go_wp2_with fail
        go_roundw
        case measure => simp [intOf]; omega
        case rel => exact ⟨k + 1, by omega, by go_num, hg⟩
    · obtain rfl : nR = k := by omega
      have htk : rs.take nR = rs := List.take_of_length_le (by omega)
      rw [htk] at hWr hlens
      have hall : ¬ rs.all (rowOK ts) = false := by
        rw [Bool.not_eq_false, List.all_eq_true]
        intro vs hvs
        obtain ⟨i, hi, rfl⟩ := List.getElem_of_mem hvs
        exact hrow i hi (by omega)
      have hpb : putB (a : Int).toNat ts.length rs = (putS (a + M) rs).1 ++ (putS (a + M) rs).2 := by
        unfold putB
        rw [Int.toNat_natCast, hts, ← HS.out.1, hrs, ← HS.out.2]
      generalize (putS (a + M) rs).1 = R at *
      generalize (putS (a + M) rs).2 = H at *
      have hE : putE (a : Int) ts rs = if (16777216 : Int) - a < R.length + H.length then 12 else 0 := by
        unfold putE
        rw [if_neg (by rw [hts]; omega), if_neg hall, hpb, List.length_append]
        simp
      have hWD : Wr wr.drew w1.heap.size (a + M) R H Lr := hWr.mods ((Mods.refl [] wr).drew) (by simp)
      have hno : ¬ 9223372036854775807 < R.length + H.length := by omega
      have happ : ((⟨R.toArray⟩ : ByteArray) ++ ⟨H.toArray⟩) = ⟨(R ++ H).toArray⟩ := by
        apply ByteArray.ext
        simp
      have hMD : Mods [] w1 wr.drew := hMr.drew
      by_cases hroom : (16777216 : Int) - a < R.length + H.length
      · have fin : ∀ w', Mods [] w1 w' → PgPost w1 a ts rs (.returned (.tuple #[.string ⟨#[]⟩, .int .i64 12])) w' := by
          intro w' hm
          unfold PgPost
          rw [hE, if_pos hroom]
          exact ⟨rfl, hm⟩
        clear hE hpb hall hrow htk hMr
        go_wp2_with fail
        go_region_held3 (fun _ => True) (trivial)
          (first | (go_at_call_of 47 (Value.pointer (some ⟨w1.heap.size, 0, none⟩)); refine (both_rows hWD).mono ?_; rintro e w2 ⟨rfl, hM2, arr, v, hB, hv⟩) | (go_at_call 47; refine (string_any (by assumption)).mono ?_; rintro e w3 ⟨rfl, hM3⟩))
        go_wp2_with fail
        go_ret2
        exact fin _ ((hMD.trans hM2 (fun x hx => .inr (hLr x hx))).trans hM3 (fun x hx => .inr (hLr x (hv x (by simpa using hx)))))
      · have fin : ∀ w', Mods [] w1 w' → PgPost w1 a ts rs (.returned (.tuple #[.string ⟨(R ++ H).toArray⟩, .int .i64 0])) w' := by
          intro w' hm
          unfold PgPost
          rw [hE, if_neg hroom, if_pos rfl, hpb]
          exact ⟨rfl, hm⟩
        clear hE hpb hall hrow htk hMr
        go_wp2_with fail
        go_region_held3 (fun _ => True) (trivial)
          (first | (go_at_call_of 47 (Value.pointer (some ⟨w1.heap.size, 0, none⟩)); refine (both_rows hWD).mono ?_; rintro e w2 ⟨rfl, hM2, arr, v, hB, hv⟩) | (go_at_call 47; refine (string_any (by assumption)).mono ?_; rintro e w3 ⟨rfl, hM3⟩))
        go_wp2_with fail
        go_ret2
        exact fin _ ((hMD.trans hM2 (fun x hx => .inr (hLr x hx))).trans hM3 (fun x hx => .inr (hLr x (hv x (by simpa using hx)))))

theorem pgput_big (w : World) (ts : List (Int × Int)) (rs : List (List V)) (tao rao : Option Addr) (ct cr : Nat) (hT : TysIn w tao ts []) (hR : RowsIn w rao rs []) (hok : ∀ vs ∈ rs, vs.length ≤ 9223372036854775807 ∧ ∀ v ∈ vs, v.ok)
    (at_ : Int) (ha0 : -9223372036854775808 ≤ at_) (ha1 : at_ ≤ 9223372036854775807) (hnT : ts.length ≤ 9223372036854775807) (hnR : rs.length ≤ 1100000) :
    Calls Try.prog 27 #[.slice tao ts.length ct, .slice rao rs.length cr, .int .i64 at_] w (PgPost w at_ ts rs) := by
  by_cases hbad : 64 < ts.length ∨ at_ < 0 ∨ 16777216 < at_
  · exact put_bad w _ _ ts rs rfl tao rao ct cr at_ ha0 ha1 hnT hbad
  · obtain ⟨a, rfl⟩ := Int.eq_ofNat_of_zero_le (show 0 ≤ at_ by omega)
    exact put_good w _ _ ts rs rfl rfl tao rao ct cr hT hR hok a (by omega) (by omega) hnR
theorem pgput_any (w : World) (ts : List (Int × Int)) (rs : List (List V)) (tao rao : Option Addr) (ct cr : Nat) (hT : TysIn w tao ts []) (hR : RowsIn w rao rs []) (hok : ∀ vs ∈ rs, vs.length ≤ 9223372036854775807 ∧ ∀ v ∈ vs, v.ok)
    (at_ : Int) (ha0 : -9223372036854775808 ≤ at_) (ha1 : at_ ≤ 9223372036854775807) (hnT : ts.length ≤ 9223372036854775807) (hnR : rs.length ≤ 1000000) :
    Calls Try.prog 27 #[.slice tao ts.length ct, .slice rao rs.length cr, .int .i64 at_] w (PgPost w at_ ts rs) :=
  pgput_big w ts rs tao rao ct cr hT hR hok at_ ha0 ha1 hnT (by omega)
end Go.Proofs.Ytagpnalhilgcpaa
