/-
  The document's Text, walked: it prints what the program's does. No condition but that the query was read.
-/
import Derived.Test.YtpokbepenacnpaaGreatDoorMQp
import Derived.Test.YtpokbepenacnpaaGreatDoorMQu
import Derived.Test.YtpokbepenacnpaaGreatDoorRpQ
import Derived.Deep.CutRange
import Derived.Deep.RegionLaw
namespace Go.Proofs.YtpokbepenacnpaaGreatDoor
open Go.RowKit
set_option linter.unusedVariables false

theorem OptD.ptr {w : World} {L : List Nat} {v : Value} {o : Option Tree} (h : OptD w L v o) : ∃ p, v = .pointer p ∧ (p.isSome = o.isSome) := by
  cases o with
  | none => exact ⟨none, h, rfl⟩
  | some t => obtain ⟨b, rfl, -⟩ := h; exact ⟨_, rfl, rfl⟩
theorem bcat (a b : Bs) : (⟨(a ++ b).toArray⟩ : ByteArray) = ⟨a.toArray⟩ ++ ⟨b.toArray⟩ := (cat2 a b).symm
theorem bnil (S : ByteArray) : S ++ (⟨#[]⟩ : ByteArray) = S := by
  apply ByteArray.ext; apply Array.toList_inj.1; simp [ByteArray.data_append]
theorem isE {l : Bs} {S : ByteArray} (h : (⟨l.toArray⟩ : ByteArray) = S) {b : Bool} (hb : (!S.toList.isEmpty) = b) : (b = false ↔ l = []) := by
  rw [← hb, ← h, ByteArray.toList_eq]
  cases l <;> simp
theorem digits_key (w : World) (k : Int) (h0 : 0 ≤ k) (h1 : k ≤ 9223372036854775807) : Calls Tryz.prog 38 #[.int .i64 k, .int .i64 1] w fun e w' => e = .returned (.string ⟨(Lib.itoa k).toArray⟩) ∧ Mods [] w w' := by
  obtain ⟨n, rfl⟩ : ∃ n : Nat, k = (n : Int) := ⟨k.toNat, by omega⟩
  have h := refDigits_any w n 1 (by omega) (by decide)
  rw [refD_eq n 0 (by omega) (by decide), numD_zero n (by omega)] at h
  exact h
theorem itoa_small {k : Int} (h0 : 0 ≤ k) (h1 : k ≤ 9223372036854775807) : (⟨(Lib.itoa k).toArray⟩ : ByteArray).size ≤ 21 := Lib.itoa_length_le k (by omega) h1

set_option maxRecDepth 100000 in
set_option maxHeartbeats 8000000 in
theorem refText_any (w : World) (rb : Nat) (q : QueryT) (hq : QueryD w rb q) (hok : QueryOk q) (hst : QuerySt q) :
    Calls Tryz.prog 14 #[PtrV rb] w fun e w' => e = .returned (.string ⟨(queryS q).toArray⟩) ∧ Mods [] w w' := by
  obtain ⟨wq, di, don, dwh, dgr, dor, hb, hD⟩ := hq
  obtain ⟨ei, ki, rfl, hei⟩ := hD.items.read itemDRep itemDLen
  obtain ⟨eg, kg, rfl, heg⟩ := hD.group.read treeDRep treeDLen
  obtain ⟨eo, ko, rfl, heo⟩ := hD.order.read keyRep keyLen
  obtain ⟨hq2, hq3⟩ := hD.opts rfl [] (by simp)
  obtain ⟨wp, rfl, hwp⟩ := hq3.ptr
  have hn1 := hok.items.1
  have hn2 := hok.group.1
  have hn3 := hok.order.1
  have HB : Hid (∀ W, Mods [] w W → W.heap[rb]? = some (.cells (queryC q (.slice ei q.items.length ki) don (.pointer wp) (.slice eg q.group.length kg) (.slice eo q.order.length ko)).toArray 100 (0, 0))) := Lib.hid fun W hM => hM.heap hb (by simp)
  have HA := Lib.hid (And.intro hei (And.intro heg (And.intro heo (And.intro hq2 (And.intro hq3 hwp)))))
  have HK := Lib.hid (And.intro hok hst)
  have HSM := Lib.hid (t_small hok)
  have HNE := Lib.hid (t_ne q)
  unfold PtrV at *
  clear hb hei heg heo hq2 hq3 hwp hD
  obtain ⟨R, hR⟩ : ∃ R : Bs, queryS q = R := ⟨_, rfl⟩
  rw [hR]
  have HR := Lib.hid hR
  clear hR
  obtain ⟨n1, hnn1⟩ : ∃ n, q.items.length = n := ⟨_, rfl⟩
  obtain ⟨n2, hnn2⟩ : ∃ n, q.group.length = n := ⟨_, rfl⟩
  obtain ⟨n3, hnn3⟩ : ∃ n, q.order.length = n := ⟨_, rfl⟩
  rw [hnn1] at HB hn1
  rw [hnn2] at HB hn2
  rw [hnn3] at HB hn3
  have HNN := Lib.hid (And.intro hnn1 (And.intro hnn2 hnn3))
  clear hnn1 hnn2 hnn3 hok hst
  obtain ⟨st, hst⟩ : ∃ st, q.star = st := ⟨_, rfl⟩
  have c0 := cell_of_heap (HB.out w (Mods.refl _ _)) 0
  change w.cell? _ = some (.bool q.star) at c0
  rw [hst] at c0
  have HST := Lib.hid hst
  clear hst
  go_enter Tryz.func14, Tryz.ntmps14
  go_upto_if 11 with fail
  go_cut [3] from 12 to 12 (fun s3 wx => s3 = .string ⟨(stS st).toArray⟩ ∧ w = wx)
  case first =>
    cases st with
    | false =>
      go_wp2_with fail
      go_meet
      exact ⟨rfl, rfl⟩
    | true =>
      go_wp2_with fail
      go_meet
      exact ⟨rfl, rfl⟩
  case rest =>
  obtain ⟨rfl, rfl⟩ := hcut
  -- ITEMS
  have c1 := cell_of_heap (HB.out w (Mods.refl _ _)) 1
  change w.cell? _ = some (.slice ei n1 ki) at c1
  go_wp2_with fail
  go_loopg [3, 4] n1 (fun gk t3 t4 wr => ∃ i : Nat, i + gk = n1 ∧ t4 = .int .i64 i ∧ t3 = .string ⟨(itP st (q.items.take i)).toArray⟩ ∧ Mods [] w wr)
  case atStart => exact ⟨0, by omega, rfl, by simp [itP, Lib.join], Mods.refl _ _⟩
  clear c0 c1
  obtain ⟨i, hin, rfl, rfl, hMr⟩ := hrel
  have c1 := cell_of_heap (HB.out wr hMr) 1
  change wr.cell? _ = some (.slice ei n1 ki) at c1
  by_cases hlt : i < n1
  · have hiq : i < q.items.length := by rw [HNN.out.1]; exact hlt
    obtain ⟨g, rfl, hcs⟩ := HA.out.1 (by omega)
    obtain ⟨c, ⟨b, hcb, hE⟩, hcell⟩ := hcs i hiq
    rw [hcb] at hcell
    have k0 := hMr.cell (hcell 0 _ rfl) (by simp)
    rw [Nat.add_zero] at k0
    have hfi := HK.out.1.items.2 _ (List.getElem_mem hiq)
    have htk := itP_step (st := st) hiq
    have hsm := itP_small (st := st) (l := q.items.take i) (by rw [List.length_take]; omega) (fun x hx => HK.out.1.items.2 x (List.mem_of_mem_take hx))
    have K1 : Hid (∀ W, Mods [] w W → _) := Lib.hid fun W hM => hM.cell (hcell 1 _ rfl) (by simp)
    have hsh := rshow_any _ wr (PtrV b) (hE.mods hMr) hfi.1
    have hts := showT_small hfi.1
    have hns := hfi.2
    unfold itemS at htk
    generalize q.items[i] = it at *
    generalize itP st (q.items.take i) = P at *
    obtain ⟨P2, hP2⟩ : ∃ P2, itP st (q.items.take (i + 1)) = P2 := ⟨_, rfl⟩
    rw [hP2] at htk
    have HP2 := Lib.hid hP2
    clear hP2
    generalize showT it.e = T at *
    obtain ⟨SP, hSP⟩ : ∃ S : ByteArray, (⟨P.toArray⟩ : ByteArray) = S := ⟨_, rfl⟩
    obtain ⟨ST, hSTt⟩ : ∃ S : ByteArray, (⟨T.toArray⟩ : ByteArray) = S := ⟨_, rfl⟩
    obtain ⟨SN, hSN⟩ : ∃ S : ByteArray, (⟨it.name.toArray⟩ : ByteArray) = S := ⟨_, rfl⟩
    have z1 : SP.size ≤ 300000000001 := by rw [← hSP]; exact hsm
    have z2 : ST.size ≤ 20001000 := by rw [← hSTt]; exact hts
    have z3 : SN.size ≤ 300 := by rw [← hSN]; exact hns
    have he : (⟨P2.toArray⟩ : ByteArray) = SP ++ ⟨(if i = 0 then [] else [44, 32] : Bs).toArray⟩ ++ ST ++ ⟨(if it.name = [] then [] else [32, 97, 115, 32] : Bs).toArray⟩ ++ SN := by
      rw [htk, ← hSP, ← hSTt, ← hSN, cat2, cat2, cat2, cat2]
      congr 2
      by_cases h0 : it.name = []
      · rw [if_pos h0, if_pos h0, h0]; simp
      · rw [if_neg h0, if_neg h0]; simp
    obtain ⟨nb, hnb⟩ : ∃ nb, (!SN.toList.isEmpty) = nb := ⟨_, rfl⟩
    have hii := isE hSN hnb
    rw [hSTt] at hsh
    rw [hSP]
    unfold PtrV at *
    have HH := Lib.hid (And.intro he (And.intro hii (And.intro hSN hnb)))
    clear hcs hcell hcb hE htk he hii hSN hnb hSP hSTt hsm hts hns hfi
    by_cases hi0 : i = 0
    · subst hi0
      go_wp2_with fail
      (with_reducible refine hsh.mono ?_)
      rintro e w2 ⟨rfl, hM2⟩
      have hMw2 := hMr.trans hM2 (by simp)
      have k1 := K1.out w2 hMw2
      rw [HH.out.2.2.1] at k1
      have c12 := cell_of_heap (HB.out w2 hMw2) 1
      change w2.cell? _ = some (.slice (some ⟨g, 0, none⟩) n1 ki) at c12
      clear hsh k0 c1 hM2
      go_upto_if 44 with fail
      rw [HH.out.2.2.2]
      cases nb with
      | false =>
        have hres : SP ++ ST = ⟨P2.toArray⟩ := by
          rw [HH.out.1]
          simp only [if_true]
          rw [if_pos (HH.out.2.1.1 rfl), ← HH.out.2.2.1, HH.out.2.1.1 rfl]
          show _ = SP ++ ⟨#[]⟩ ++ ST ++ ⟨#[]⟩ ++ ⟨#[]⟩
          rw [bnil, bnil, bnil]
        have HRES := Lib.hid hres
        clear hres
        go_wp2_with fail
        go_roundg (n1 - (0 + 1))
        case measure => omega
        case rel => exact ⟨0 + 1, by omega, by go_num, by rw [HP2.out, ← HRES.out], hMw2⟩
      | true =>
        have hres : SP ++ ST ++ ⟨#[32, 97, 115, 32]⟩ ++ SN = ⟨P2.toArray⟩ := by
          rw [HH.out.1]
          simp only [if_true]
          rw [if_neg (fun h => by have := HH.out.2.1.2 h; cases this)]
          show _ = SP ++ ⟨#[]⟩ ++ ST ++ ⟨#[32, 97, 115, 32]⟩ ++ SN
          rw [bnil]
        have HRES := Lib.hid hres
        clear hres
        have m1 : ¬ 9223372036854775807 < SP.size + ST.size := by omega
        have m2 : ¬ 9223372036854775807 < SP.size + ST.size + 4 := by omega
        have m3 : ¬ 9223372036854775807 < SP.size + ST.size + 4 + SN.size := by omega
        go_wp2_with fail
        go_roundg (n1 - (0 + 1))
        case measure => omega
        case rel => exact ⟨0 + 1, by omega, by go_num, by rw [HP2.out, ← HRES.out], hMw2⟩
    · have hg0 : (0 : Int) < (i : Int) := by omega
      have m0 : ¬ 9223372036854775807 < SP.size + 2 := by omega
      go_wp2_with fail
      (with_reducible refine hsh.mono ?_)
      rintro e w2 ⟨rfl, hM2⟩
      have hMw2 := hMr.trans hM2 (by simp)
      have k1 := K1.out w2 hMw2
      rw [HH.out.2.2.1] at k1
      have c12 := cell_of_heap (HB.out w2 hMw2) 1
      change w2.cell? _ = some (.slice (some ⟨g, 0, none⟩) n1 ki) at c12
      have m4 : ¬ 9223372036854775807 < SP.size + 2 + ST.size := by omega
      clear hsh k0 c1 hM2
      go_upto_if 44 with fail
      rw [HH.out.2.2.2]
      cases nb with
      | false =>
        have hres : SP ++ ⟨#[44, 32]⟩ ++ ST = ⟨P2.toArray⟩ := by
          rw [HH.out.1, if_neg hi0, if_pos (HH.out.2.1.1 rfl), ← HH.out.2.2.1, HH.out.2.1.1 rfl]
          show _ = SP ++ ⟨#[44, 32]⟩ ++ ST ++ ⟨#[]⟩ ++ ⟨#[]⟩
          rw [bnil, bnil]
        have HRES := Lib.hid hres
        clear hres
        go_wp2_with fail
        go_roundg (n1 - (i + 1))
        case measure => omega
        case rel => exact ⟨i + 1, by omega, by go_num, by rw [HP2.out, ← HRES.out], hMw2⟩
      | true =>
        have hres : SP ++ ⟨#[44, 32]⟩ ++ ST ++ ⟨#[32, 97, 115, 32]⟩ ++ SN = ⟨P2.toArray⟩ := by
          rw [HH.out.1, if_neg hi0, if_neg (fun h => by have := HH.out.2.1.2 h; cases this)]
        have HRES := Lib.hid hres
        clear hres
        have m2 : ¬ 9223372036854775807 < SP.size + 2 + ST.size + 4 := by omega
        have m3 : ¬ 9223372036854775807 < SP.size + 2 + ST.size + 4 + SN.size := by omega
        go_wp2_with fail
        go_roundg (n1 - (i + 1))
        case measure => omega
        case rel => exact ⟨i + 1, by omega, by go_num, by rw [HP2.out, ← HRES.out], hMw2⟩
  obtain rfl : n1 = i := by omega
  have hx : q.items.take n1 = q.items := List.take_of_length_le (by rw [HNN.out.1]; exact Nat.le_refl _)
  have hJ : itP st (q.items.take n1) = Lib.join (itemsL q) [44, 32] := by rw [hx, ← HST.out]; exact itP_all HK.out.2
  rw [hJ]
  have hJs := items_join_small HK.out.1
  -- FROM, JOIN
  have ht1 : (⟨(jn (t1 q)).toArray⟩ : ByteArray) = ⟨(Lib.join (itemsL q) [44, 32]).toArray⟩ ++ ⟨#[32, 102, 114, 111, 109, 32]⟩ ++ ⟨q.src.toArray⟩ := by
    have e : (⟨#[32, 102, 114, 111, 109, 32]⟩ : ByteArray) = ⟨([32, 102, 114, 111, 109, 32] : Bs).toArray⟩ := rfl
    rw [e, cat2, cat2]
    congr 2
    unfold t1 jn
    rw [Lib.join_cons]
    simp [Lib.joinTail]
  generalize Lib.join (itemsL q) [44, 32] = J at *
  obtain ⟨SJ, hSJ⟩ : ∃ S : ByteArray, (⟨J.toArray⟩ : ByteArray) = S := ⟨_, rfl⟩
  obtain ⟨SS, hSS⟩ : ∃ S : ByteArray, (⟨q.src.toArray⟩ : ByteArray) = S := ⟨_, rfl⟩
  obtain ⟨SN, hSN⟩ : ∃ S : ByteArray, (⟨q.join.toArray⟩ : ByteArray) = S := ⟨_, rfl⟩
  have z1 : SJ.size ≤ 300000000001 := by rw [← hSJ]; show J.length ≤ _; omega
  have z2 : SS.size ≤ 300 := by rw [← hSS]; exact HK.out.1.src.1
  have z3 : SN.size ≤ 300 := by rw [← hSN]; exact HK.out.1.src.2
  have c2 := cell_of_heap (HB.out wr hMr) 2
  change wr.cell? _ = some (.string ⟨q.src.toArray⟩) at c2
  have c3 := cell_of_heap (HB.out wr hMr) 3
  change wr.cell? _ = some (.string ⟨q.join.toArray⟩) at c3
  rw [hSS] at c2
  rw [hSN] at c3
  rw [hSJ, hSS] at ht1
  rw [hSJ]
  have HT1 := Lib.hid ht1
  have HSN := Lib.hid hSN
  clear ht1 hSN hSJ hSS hJ hx hJs
  generalize wr = V1 at *
  have m1 : ¬ 9223372036854775807 < SJ.size + 6 := by omega
  have m2 : ¬ 9223372036854775807 < SJ.size + 6 + SS.size := by omega
  go_upto_if 67 with fail
  rw [← HT1.out]
  obtain ⟨nb, hnb⟩ : ∃ nb, (!SN.toList.isEmpty) = nb := ⟨_, rfl⟩
  rw [hnb]
  have HNB := Lib.hid (isE HSN.out hnb)
  clear hnb c1 c2 m1 m2 z1 z2
  obtain ⟨S1, hS1⟩ : ∃ S : ByteArray, (⟨(jn (t1 q)).toArray⟩ : ByteArray) = S := ⟨_, rfl⟩
  have z1 : S1.size ≤ 1000000000000 := by rw [← hS1]; exact HSM.out.1
  rw [hS1]
  have HS1 := Lib.hid hS1
  clear hS1 HT1
  go_cut [3] from 68 to 81 (fun s3 wx => s3 = .string ⟨(jn (t2 q)).toArray⟩ ∧ Mods [] w wx)
  case first =>
    cases nb with
    | false =>
      have h2 : S1 = ⟨(jn (t2 q)).toArray⟩ := by rw [← HS1.out]; unfold t2; rw [if_pos (HNB.out.1 rfl), List.append_nil]
      have H2 := Lib.hid h2
      clear h2
      go_wp2_with fail
      go_meet
      exact ⟨by rw [H2.out], hMr⟩
    | true =>
      have hd := (Mods.refl [] V1).drew
      have hMd := hMr.trans hd (by simp)
      have hsh := rshow_opt HA.out.2.2.2.1 hMd HK.out.1.on
      have hos : (showO q.on).length ≤ 20001000 := by
        cases ho : q.on with
        | none => simp [showO]
        | some t => exact showT_small (HK.out.1.on t ho)
      have d3 := hd.cell c3 (by simp)
      have d6 := cell_of_heap (HB.out V1.drew hMd) 6
      change V1.drew.cell? _ = some don at d6
      have h2 : S1 ++ ⟨#[32, 106, 111, 105, 110, 32]⟩ ++ SN ++ ⟨#[32, 111, 110, 32]⟩ ++ ⟨(showO q.on).toArray⟩ = ⟨(jn (t2 q)).toArray⟩ := by
        have e1 : (⟨#[32, 106, 111, 105, 110, 32]⟩ : ByteArray) = ⟨([32, 106, 111, 105, 110, 32] : Bs).toArray⟩ := rfl
        have e2 : (⟨#[32, 111, 110, 32]⟩ : ByteArray) = ⟨([32, 111, 110, 32] : Bs).toArray⟩ := rfl
        rw [← HS1.out, ← HSN.out, e1, e2, cat2, cat2, cat2, cat2]
        congr 2
        unfold t2
        rw [if_neg (fun h => by have := HNB.out.2 h; cases this), jn_app HNE.out.1]
        simp
      generalize showO q.on = SO at *
      obtain ⟨SB, hSB⟩ : ∃ S : ByteArray, (⟨SO.toArray⟩ : ByteArray) = S := ⟨_, rfl⟩
      have z4 : SB.size ≤ 20001000 := by rw [← hSB]; exact hos
      rw [hSB] at h2 hsh
      have m1 : ¬ 9223372036854775807 < S1.size + 6 := by omega
      have m2 : ¬ 9223372036854775807 < S1.size + 6 + SN.size := by omega
      have m3 : ¬ 9223372036854775807 < S1.size + 6 + SN.size + 4 := by omega
      have m4 : ¬ 9223372036854775807 < S1.size + 6 + SN.size + 4 + SB.size := by omega
      have H2 := Lib.hid h2
      clear h2 hSB hos
      go_upto_region 14 with fail
      go_region_law (go_simp; go_at_call 37; (with_reducible refine hsh.mono ?_); rintro e w2 ⟨rfl, hM2⟩; have e3 := hM2.cell d3 (by simp); have e6 := hM2.cell d6 (by simp))
      all_goals
        go_wp2_with fail
        go_meet
        exact ⟨by rw [← H2.out], hMd.trans hM2 (by simp)⟩
  case rest =>
  obtain ⟨rfl, hMv⟩ := hcut
  generalize wc = V2 at *
  clear HS1 HNB HSN c3 z1 z3 hMr
  -- WHERE
  obtain ⟨S2, hS2⟩ : ∃ S : ByteArray, (⟨(jn (t2 q)).toArray⟩ : ByteArray) = S := ⟨_, rfl⟩
  have z1 : S2.size ≤ 1000000000000 := by rw [← hS2]; exact HSM.out.2.1
  rw [hS2]
  have HS2 := Lib.hid hS2
  clear hS2
  have c7 := cell_of_heap (HB.out V2 hMv) 7
  change V2.cell? _ = some (.pointer wp) at c7
  go_upto_if 86 with fail
  go_cut [3] from 87 to 94 (fun s3 wx => s3 = .string ⟨(jn (t3 q)).toArray⟩ ∧ Mods [] w wx)
  case first =>
    obtain ⟨ow, how⟩ : ∃ o, q.whr = o := ⟨_, rfl⟩
    have hpt := HA.out.2.2.2.2.1
    have hsm := HA.out.2.2.2.2.2
    have hfw := HK.out.1.whr
    have ht3 : t3 q = t2 q ++ (match q.whr with | none => [] | some t => [[119, 104, 101, 114, 101], showT t]) := rfl
    rw [how] at hpt hsm hfw ht3
    cases ow with
    | none =>
      obtain rfl : wp = none := by cases wp with
        | none => rfl
        | some x => cases hsm
      have h3 : S2 = ⟨(jn (t3 q)).toArray⟩ := by rw [← HS2.out, ht3]; show _ = (⟨(jn (t2 q ++ [])).toArray⟩ : ByteArray); rw [List.append_nil]
      have H3 := Lib.hid h3
      clear ht3 hpt hsm hfw how h3
      simp only [Option.isSome_none]
      go_wp2_with fail
      go_meet
      exact ⟨by rw [← H3.out], hMv⟩
    | some tw =>
      obtain ⟨bw, hbw, hEw⟩ := hpt
      have hsh := rshow_any tw V2 (PtrV bw) (hEw.mods hMv) (hfw tw rfl)
      have hts := showT_small (hfw tw rfl)
      unfold PtrV at hbw hsh
      simp only [Value.pointer.injEq] at hbw
      subst hbw
      have ht3' : t3 q = t2 q ++ [[119, 104, 101, 114, 101], showT tw] := ht3
      have h3 : S2 ++ ⟨#[32, 119, 104, 101, 114, 101, 32]⟩ ++ ⟨(showT tw).toArray⟩ = ⟨(jn (t3 q)).toArray⟩ := by
        have e1 : (⟨#[32, 119, 104, 101, 114, 101, 32]⟩ : ByteArray) = ⟨([32, 119, 104, 101, 114, 101, 32] : Bs).toArray⟩ := rfl
        rw [← HS2.out, e1, cat2, cat2, ht3', jn_app HNE.out.2.1]
        congr 2
        simp
      generalize showT tw = TW at *
      obtain ⟨SB, hSB⟩ : ∃ S : ByteArray, (⟨TW.toArray⟩ : ByteArray) = S := ⟨_, rfl⟩
      have z4 : SB.size ≤ 20001000 := by rw [← hSB]; exact hts
      rw [hSB] at h3 hsh
      have m1 : ¬ 9223372036854775807 < S2.size + 7 := by omega
      have m2 : ¬ 9223372036854775807 < S2.size + 7 + SB.size := by omega
      have H3 := Lib.hid h3
      clear ht3 hsm hfw how hEw h3 ht3' hts hSB
      simp only [Option.isSome_some]
      go_wp2_with fail
      (with_reducible refine hsh.mono ?_)
      rintro e w2 ⟨rfl, hM2⟩
      go_wp2_with fail
      go_meet
      exact ⟨by rw [← H3.out], hMv.trans hM2 (by simp)⟩
  case rest =>
  obtain ⟨rfl, hMw⟩ := hcut
  generalize wc = V3 at *
  clear HS2 c7 z1 hMv
  -- GROUP
  have c8 := cell_of_heap (HB.out V3 hMw) 8
  change V3.cell? _ = some (.slice eg n2 kg) at c8
  have hgz : (n2 = 0 ↔ q.group = []) := by rw [← HNN.out.2.1]; exact List.length_eq_zero_iff
  obtain ⟨S3, hS3⟩ : ∃ S : ByteArray, (⟨(jn (t3 q)).toArray⟩ : ByteArray) = S := ⟨_, rfl⟩
  have z1 : S3.size ≤ 1000000000000 := by rw [← hS3]; exact HSM.out.2.2.1
  rw [hS3]
  have HS3 := Lib.hid (And.intro hS3 hgz)
  clear hS3 hgz
  go_upto_if 100 with fail
  obtain ⟨gb, hgb⟩ : ∃ gb, decide (0 < n2) = gb := ⟨_, rfl⟩
  rw [hgb]
  have HGB := Lib.hid hgb
  clear hgb
  go_cut [3] from 101 to 102 (fun s3 wx => s3 = .string ⟨(jn (t3 q ++ hw [103, 114, 111, 117, 112] q.group)).toArray⟩ ∧ V3 = wx)
  case first =>
    cases gb with
    | false =>
      have h0 : n2 = 0 := by have := HGB.out; rw [decide_eq_false_iff_not] at this; omega
      have h3 : S3 = ⟨(jn (t3 q ++ hw [103, 114, 111, 117, 112] q.group)).toArray⟩ := by unfold hw; rw [if_pos (HS3.out.2.1 h0), List.append_nil, HS3.out.1]
      have H3 := Lib.hid h3
      clear h3 h0
      go_wp2_with fail
      go_meet
      exact ⟨by rw [← H3.out], rfl⟩
    | true =>
      have h0 : ¬ n2 = 0 := by have := HGB.out; rw [decide_eq_true_eq] at this; omega
      have h3 : S3 ++ ⟨#[32, 103, 114, 111, 117, 112]⟩ = ⟨(jn (t3 q ++ hw [103, 114, 111, 117, 112] q.group)).toArray⟩ := by
        have e1 : (⟨#[32, 103, 114, 111, 117, 112]⟩ : ByteArray) = ⟨([32, 103, 114, 111, 117, 112] : Bs).toArray⟩ := rfl
        unfold hw
        rw [if_neg (fun h => h0 (HS3.out.2.2 h)), jn_app HNE.out.2.2.1, ← HS3.out.1, e1, cat2]
        congr 2
      have H3 := Lib.hid h3
      have m1 : ¬ 9223372036854775807 < S3.size + 6 := by omega
      clear h3 h0
      go_wp2_with fail
      go_meet
      exact ⟨by rw [← H3.out], rfl⟩
  case rest =>
  obtain ⟨rfl, rfl⟩ := hcut
  clear HS3 z1 HGB
  go_wp2_with fail
  go_loopg [3, 5] n2 (fun gk t3v t5 wr => ∃ i : Nat, i + gk = n2 ∧ t5 = .int .i64 i ∧ t3v = .string ⟨(jn (t3 q ++ hw [103, 114, 111, 117, 112] q.group ++ (q.group.take i).map showT)).toArray⟩ ∧ Mods [] w wr)
  case atStart => exact ⟨0, by omega, rfl, by simp, hMw⟩
  clear c8 hMw
  obtain ⟨i, hin2, rfl, rfl, hMr⟩ := hrel
  have c8 := cell_of_heap (HB.out wr hMr) 8
  change wr.cell? _ = some (.slice eg n2 kg) at c8
  have ht4 : t4 q = t3 q ++ hw [103, 114, 111, 117, 112] q.group ++ q.group.map showT := by unfold t4; rw [headL_hw, List.append_assoc]
  by_cases hlt2 : i < n2
  · have hiq : i < q.group.length := by rw [HNN.out.2.1]; exact hlt2
    obtain ⟨g, rfl, hcs⟩ := HA.out.2.1 (by omega)
    obtain ⟨c, ⟨b, hcb, hE⟩, hcell⟩ := hcs i hiq
    rw [hcb] at hcell
    have k0 := hMr.cell (hcell 0 _ rfl) (by simp)
    rw [Nat.add_zero, Nat.mul_one] at k0
    have hfi := HK.out.1.group.2 _ (List.getElem_mem hiq)
    have hsh := rshow_any _ wr (PtrV b) (hE.mods hMr) hfi
    have hts := showT_small hfi
    have hbn : t3 q ++ hw [103, 114, 111, 117, 112] q.group ≠ [] := by simp [HNE.out.2.2.1]
    have hstep : (⟨(jn (t3 q ++ hw [103, 114, 111, 117, 112] q.group ++ (q.group.take (i + 1)).map showT)).toArray⟩ : ByteArray) = ⟨(jn (t3 q ++ hw [103, 114, 111, 117, 112] q.group ++ (q.group.take i).map showT)).toArray⟩ ++ ⟨#[32]⟩ ++ ⟨(showT q.group[i]).toArray⟩ := by
      have e1 : (⟨#[32]⟩ : ByteArray) = ⟨([32] : Bs).toArray⟩ := rfl
      rw [e1, cat2, cat2, List.take_succ_eq_append_getElem hiq, List.map_append, ← List.append_assoc, jn_app (by simp [HNE.out.2.2.1])]
      congr 2
      simp
    have hjs : (jn (t3 q ++ hw [103, 114, 111, 117, 112] q.group ++ (q.group.take i).map showT)).length ≤ 1000000000000 := by
      have h1 := HSM.out.2.2.2.1
      rw [ht4] at h1
      have h2 : q.group.map showT = (q.group.take i).map showT ++ (q.group.drop i).map showT := by rw [← List.map_append, List.take_append_drop]
      rw [h2, ← List.append_assoc] at h1
      exact Nat.le_trans (jn_le (by simp [HNE.out.2.2.1])) h1
    generalize q.group[i] = tg at *
    generalize jn (t3 q ++ hw [103, 114, 111, 117, 112] q.group ++ (q.group.take i).map showT) = P at *
    obtain ⟨P2, hP2⟩ : ∃ P2, jn (t3 q ++ hw [103, 114, 111, 117, 112] q.group ++ (q.group.take (i + 1)).map showT) = P2 := ⟨_, rfl⟩
    rw [hP2] at hstep
    have HP2 := Lib.hid hP2
    clear hP2
    generalize showT tg = T at *
    obtain ⟨SP, hSP⟩ : ∃ S : ByteArray, (⟨P.toArray⟩ : ByteArray) = S := ⟨_, rfl⟩
    obtain ⟨ST, hSTt⟩ : ∃ S : ByteArray, (⟨T.toArray⟩ : ByteArray) = S := ⟨_, rfl⟩
    have z1 : SP.size ≤ 1000000000000 := by rw [← hSP]; exact hjs
    have z2 : ST.size ≤ 20001000 := by rw [← hSTt]; exact hts
    rw [hSP, hSTt] at hstep
    rw [hSTt] at hsh
    rw [hSP]
    have m1 : ¬ 9223372036854775807 < SP.size + 1 := by omega
    have m2 : ¬ 9223372036854775807 < SP.size + 1 + ST.size := by omega
    have HS := Lib.hid hstep
    unfold PtrV at *
    clear hcs hcell hcb hE hts hstep hSP hSTt hfi hjs hbn ht4
    go_wp2_with fail
    (with_reducible refine hsh.mono ?_)
    rintro e w2 ⟨rfl, hM2⟩
    have hMw2 := hMr.trans hM2 (by simp)
    clear hsh k0 c8 hM2
    go_wp2_with fail
    go_roundg (n2 - (i + 1))
    case measure => omega
    case rel => exact ⟨i + 1, by omega, by go_num, by rw [HP2.out, HS.out], hMw2⟩
  obtain rfl : n2 = i := by omega
  have hx : q.group.take n2 = q.group := List.take_of_length_le (by rw [HNN.out.2.1]; exact Nat.le_refl _)
  rw [hx, ← ht4]
  clear hx ht4
  generalize wr = V4 at *
  -- ORDER
  have c9 := cell_of_heap (HB.out V4 hMr) 9
  change V4.cell? _ = some (.slice eo n3 ko) at c9
  have hgz : (n3 = 0 ↔ q.order = []) := by rw [← HNN.out.2.2]; exact List.length_eq_zero_iff
  obtain ⟨S4, hS4⟩ : ∃ S : ByteArray, (⟨(jn (t4 q)).toArray⟩ : ByteArray) = S := ⟨_, rfl⟩
  have z1 : S4.size ≤ 1000000000000 := by rw [← hS4]; exact HSM.out.2.2.2.1
  rw [hS4]
  have HS4 := Lib.hid (And.intro hS4 hgz)
  clear hS4 hgz
  go_upto_if 128 with fail
  obtain ⟨gb, hgb⟩ : ∃ gb, decide (0 < n3) = gb := ⟨_, rfl⟩
  rw [hgb]
  have HGB := Lib.hid hgb
  clear hgb
  go_cut [3] from 129 to 130 (fun s3 wx => s3 = .string ⟨(jn (t4 q ++ hw [111, 114, 100, 101, 114] q.order)).toArray⟩ ∧ V4 = wx)
  case first =>
    cases gb with
    | false =>
      have h0 : n3 = 0 := by have := HGB.out; rw [decide_eq_false_iff_not] at this; omega
      have h3 : S4 = ⟨(jn (t4 q ++ hw [111, 114, 100, 101, 114] q.order)).toArray⟩ := by unfold hw; rw [if_pos (HS4.out.2.1 h0), List.append_nil, HS4.out.1]
      have H3 := Lib.hid h3
      clear h3 h0
      go_wp2_with fail
      go_meet
      exact ⟨by rw [← H3.out], rfl⟩
    | true =>
      have h0 : ¬ n3 = 0 := by have := HGB.out; rw [decide_eq_true_eq] at this; omega
      have h3 : S4 ++ ⟨#[32, 111, 114, 100, 101, 114]⟩ = ⟨(jn (t4 q ++ hw [111, 114, 100, 101, 114] q.order)).toArray⟩ := by
        have e1 : (⟨#[32, 111, 114, 100, 101, 114]⟩ : ByteArray) = ⟨([32, 111, 114, 100, 101, 114] : Bs).toArray⟩ := rfl
        unfold hw
        rw [if_neg (fun h => h0 (HS4.out.2.2 h)), jn_app HNE.out.2.2.2.1, ← HS4.out.1, e1, cat2]
        congr 2
      have H3 := Lib.hid h3
      have m1 : ¬ 9223372036854775807 < S4.size + 6 := by omega
      clear h3 h0
      go_wp2_with fail
      go_meet
      exact ⟨by rw [← H3.out], rfl⟩
  case rest =>
  obtain ⟨rfl, rfl⟩ := hcut
  clear HS4 z1 HGB
  go_wp2_with fail
  go_loopg [3, 6, 7] n3 (fun gk t3v t6v t7v wr => ∃ i : Nat, i + gk = n3 ∧ t6v = .int .i64 i ∧ t3v = .string ⟨(jn (t4 q ++ hw [111, 114, 100, 101, 114] q.order ++ (q.order.take i).map keyS)).toArray⟩ ∧ Mods [] w wr)
  case atStart => exact ⟨0, by omega, rfl, by simp, hMr⟩
  clear c9 hMr
  obtain ⟨i, hin3, rfl, rfl, hMr⟩ := hrel
  have c9 := cell_of_heap (HB.out wr hMr) 9
  change wr.cell? _ = some (.slice eo n3 ko) at c9
  have ht5 : t5 q = t4 q ++ hw [111, 114, 100, 101, 114] q.order ++ q.order.map keyS := by unfold t5; rw [headL_hw, List.append_assoc]
  by_cases hlt3 : i < n3
  · have hiq : i < q.order.length := by rw [HNN.out.2.2]; exact hlt3
    obtain ⟨g, rfl, hcs⟩ := HA.out.2.2.1 (by omega)
    obtain ⟨c, hcb, hcell⟩ := hcs i hiq
    unfold KeyR at hcb
    rw [hcb] at hcell
    have k0 := hMr.cell (hcell 0 _ rfl) (by simp)
    have k1 := hMr.cell (hcell 1 _ rfl) (by simp)
    have k2 := hMr.cell (hcell 2 _ rfl) (by simp)
    have k3 := hMr.cell (hcell 3 _ rfl) (by simp)
    rw [Nat.add_zero] at k0
    have hfk := HK.out.1.order.2 _ (List.getElem_mem hiq)
    have hfs := HK.out.2.keys _ (List.getElem_mem hiq)
    have hstep : (⟨(jn (t4 q ++ hw [111, 114, 100, 101, 114] q.order ++ (q.order.take (i + 1)).map keyS)).toArray⟩ : ByteArray) = ⟨(jn (t4 q ++ hw [111, 114, 100, 101, 114] q.order ++ (q.order.take i).map keyS)).toArray⟩ ++ ⟨#[32]⟩ ++ ⟨(keyS q.order[i]).toArray⟩ := by
      have e1 : (⟨#[32]⟩ : ByteArray) = ⟨([32] : Bs).toArray⟩ := rfl
      rw [e1, cat2, cat2, List.take_succ_eq_append_getElem hiq, List.map_append, ← List.append_assoc, jn_app (by simp [HNE.out.2.2.2.1])]
      congr 2
      simp
    have hjs : (jn (t4 q ++ hw [111, 114, 100, 101, 114] q.order ++ (q.order.take i).map keyS)).length ≤ 1000000000000 := by
      have h1 := HSM.out.2.2.2.2.1
      rw [ht5] at h1
      have h2 : q.order.map keyS = (q.order.take i).map keyS ++ (q.order.drop i).map keyS := by rw [← List.map_append, List.take_append_drop]
      rw [h2, ← List.append_assoc] at h1
      exact Nat.le_trans (jn_le (by simp [HNE.out.2.2.2.1])) h1
    generalize q.order[i] = kk at *
    generalize jn (t4 q ++ hw [111, 114, 100, 101, 114] q.order ++ (q.order.take i).map keyS) = P at *
    obtain ⟨P2, hP2⟩ : ∃ P2, jn (t4 q ++ hw [111, 114, 100, 101, 114] q.order ++ (q.order.take (i + 1)).map keyS) = P2 := ⟨_, rfl⟩
    rw [hP2] at hstep
    have HP2 := Lib.hid hP2
    clear hP2
    obtain ⟨SP, hSP⟩ : ∃ S : ByteArray, (⟨P.toArray⟩ : ByteArray) = S := ⟨_, rfl⟩
    obtain ⟨SN, hSN⟩ : ∃ S : ByteArray, (⟨kk.name.toArray⟩ : ByteArray) = S := ⟨_, rfl⟩
    obtain ⟨SI, hSI⟩ : ∃ S : ByteArray, (⟨(Lib.itoa kk.item).toArray⟩ : ByteArray) = S := ⟨_, rfl⟩
    have hdg := fun W => digits_key W kk.item hfs hfk.2.2
    rw [hSI] at hdg
    have z1 : SP.size ≤ 1000000000000 := by rw [← hSP]; exact hjs
    have z2 : SN.size ≤ 300 := by rw [← hSN]; exact hfk.1
    have z3 : SI.size ≤ 21 := by rw [← hSI]; exact itoa_small hfs hfk.2.2
    rw [hSN] at k2
    rw [hSP] at hstep
    rw [hSP]
    obtain ⟨ki2, hki⟩ : ∃ x, kk.item = x := ⟨_, rfl⟩
    obtain ⟨kd, hkd⟩ : ∃ x, kk.desc = x := ⟨_, rfl⟩
    have hks : (⟨(keyS kk).toArray⟩ : ByteArray) = (if kk.name = [] then SI else SN) ++ ⟨(if kd = true then [45] else [] : Bs).toArray⟩ := by
      unfold keyS
      rw [← hSI, ← hSN, ← hkd, bcat]
      congr 1
      split <;> rfl
    rw [hki] at k1 hdg
    rw [hkd] at k3
    rw [hks] at hstep
    obtain ⟨nb, hnb⟩ : ∃ nb, (!SN.toList.isEmpty) = nb := ⟨_, rfl⟩
    have HH := Lib.hid (And.intro hstep (And.intro (isE hSN hnb) hnb))
    have m1 : ¬ 9223372036854775807 < SP.size + 1 := by omega
    have m2 : ¬ 9223372036854775807 < SP.size + 1 + SN.size := by omega
    have m3 : ¬ 9223372036854775807 < SP.size + 1 + SI.size := by omega
    have m4 : ¬ 9223372036854775807 < SP.size + 1 + SN.size + 1 := by omega
    have m5 : ¬ 9223372036854775807 < SP.size + 1 + SI.size + 1 := by omega
    clear hcs hcell hcb hstep hSP hfk hfs hjs ht5 hSN hSI hki hkd hks hnb
    go_upto_region 29 with fail
    have hz := (Mods.refl [] wr).alloc (.cells #[.int .i64 kk.pos, .int .i64 ki2, .string SN, .bool kd] 107)
    have hx := heap_alloc_new wr (.cells #[.int .i64 kk.pos, .int .i64 ki2, .string SN, .bool kd] 107)
    have x1 := cell_of_heap hx 1
    have x2 := cell_of_heap hx 2
    have x3 := cell_of_heap hx 3
    have hMz := hMr.trans hz (by simp)
    generalize wr.alloc (.cells #[.int .i64 kk.pos, .int .i64 ki2, .string SN, .bool kd] 107) = w2 at *
    generalize wr.heap.size = kb at *
    change w2.cell? _ = some (.int .i64 ki2) at x1
    change w2.cell? _ = some (.string SN) at x2
    change w2.cell? _ = some (.bool kd) at x3
    clear k0 k1 k2 k3 hx hz hMr c9
    go_upto_if 151 with fail
    rw [HH.out.2.2]
    cases nb with
    | true =>
      have hnm : ¬ kk.name = [] := fun h => by have := HH.out.2.1.2 h; cases this
      cases kd with
      | false =>
        have hres : SP ++ ⟨#[32]⟩ ++ SN = ⟨P2.toArray⟩ := by
          rw [HH.out.1, if_neg hnm]
          show _ = SP ++ ⟨#[32]⟩ ++ (SN ++ ⟨#[]⟩)
          rw [bnil]
        have HRES := Lib.hid hres
        clear hres hnm
        go_wp2_with fail
        go_roundg (n3 - (i + 1))
        case measure => omega
        case rel => exact ⟨i + 1, by omega, by go_num, by rw [HP2.out, ← HRES.out], hMz⟩
      | true =>
        have hres : SP ++ ⟨#[32]⟩ ++ SN ++ ⟨#[45]⟩ = ⟨P2.toArray⟩ := by
          rw [HH.out.1, if_neg hnm]
          show _ = SP ++ ⟨#[32]⟩ ++ (SN ++ ⟨#[45]⟩)
          rw [ByteArray.append_assoc]
        have HRES := Lib.hid hres
        clear hres hnm
        go_wp2_with fail
        go_roundg (n3 - (i + 1))
        case measure => omega
        case rel => exact ⟨i + 1, by omega, by go_num, by rw [HP2.out, ← HRES.out], hMz⟩
    | false =>
      have hnm : kk.name = [] := HH.out.2.1.1 rfl
      have hc := hdg w2
      clear hdg
      cases kd with
      | false =>
        have hres : SP ++ ⟨#[32]⟩ ++ SI = ⟨P2.toArray⟩ := by
          rw [HH.out.1, if_pos hnm]
          show _ = SP ++ ⟨#[32]⟩ ++ (SI ++ ⟨#[]⟩)
          rw [bnil]
        have HRES := Lib.hid hres
        clear hres hnm
        go_wp2_with fail
        (with_reducible refine hc.mono ?_)
        rintro e w3 ⟨rfl, hM3⟩
        have y3 := hM3.cell x3 (by simp)
        have hMy := hMz.trans hM3 (by simp)
        clear hc x1 x2 x3 hM3
        go_wp2_with fail
        go_roundg (n3 - (i + 1))
        case measure => omega
        case rel => exact ⟨i + 1, by omega, by go_num, by rw [HP2.out, ← HRES.out], hMy⟩
      | true =>
        have hres : SP ++ ⟨#[32]⟩ ++ SI ++ ⟨#[45]⟩ = ⟨P2.toArray⟩ := by
          rw [HH.out.1, if_pos hnm]
          show _ = SP ++ ⟨#[32]⟩ ++ (SI ++ ⟨#[45]⟩)
          rw [ByteArray.append_assoc]
        have HRES := Lib.hid hres
        clear hres hnm
        go_wp2_with fail
        (with_reducible refine hc.mono ?_)
        rintro e w3 ⟨rfl, hM3⟩
        have y3 := hM3.cell x3 (by simp)
        have hMy := hMz.trans hM3 (by simp)
        clear hc x1 x2 x3 hM3
        go_wp2_with fail
        go_roundg (n3 - (i + 1))
        case measure => omega
        case rel => exact ⟨i + 1, by omega, by go_num, by rw [HP2.out, ← HRES.out], hMy⟩
  obtain rfl : n3 = i := by omega
  have hx : q.order.take n3 = q.order := List.take_of_length_le (by rw [HNN.out.2.2]; exact Nat.le_refl _)
  rw [hx, ← ht5]
  clear hx ht5 hlt3
  generalize wr = V5 at *
  -- LIMIT
  have c10 := cell_of_heap (HB.out V5 hMr) 10
  change V5.cell? _ = some (.int .i64 q.limit) at c10
  have c11 := cell_of_heap (HB.out V5 hMr) 11
  change V5.cell? _ = some (.int .i64 q.offset) at c11
  obtain ⟨S5, hS5⟩ : ∃ S : ByteArray, (⟨(jn (t5 q)).toArray⟩ : ByteArray) = S := ⟨_, rfl⟩
  have z1 : S5.size ≤ 1000000000000 := by rw [← hS5]; exact HSM.out.2.2.2.2.1
  rw [hS5]
  have HS5 := Lib.hid hS5
  clear hS5
  go_upto_if 169 with fail
  obtain ⟨gb, hgb⟩ : ∃ gb, decide ((0 : Int) ≤ q.limit) = gb := ⟨_, rfl⟩
  rw [hgb]
  have HGB := Lib.hid hgb
  clear hgb
  go_cut [3] from 170 to 177 (fun s3 wx => s3 = .string ⟨(jn (t6 q)).toArray⟩ ∧ Mods [] w wx)
  case first =>
    cases gb with
    | false =>
      have h0 : ¬ 0 ≤ q.limit := by have := HGB.out; rwa [decide_eq_false_iff_not] at this
      have h3 : S5 = ⟨(jn (t6 q)).toArray⟩ := by unfold t6; rw [if_neg h0, List.append_nil, HS5.out]
      have H3 := Lib.hid h3
      clear h3 h0
      go_wp2_with fail
      go_meet
      exact ⟨by rw [← H3.out], hMr⟩
    | true =>
      have h0 : 0 ≤ q.limit := by have := HGB.out; rwa [decide_eq_true_eq] at this
      have hc := digits_key V5 q.limit h0 HK.out.1.limit.2
      have his := itoa_small h0 HK.out.1.limit.2
      have h3 : S5 ++ ⟨#[32, 108, 105, 109, 105, 116, 32]⟩ ++ ⟨(Lib.itoa q.limit).toArray⟩ = ⟨(jn (t6 q)).toArray⟩ := by
        have e1 : (⟨#[32, 108, 105, 109, 105, 116, 32]⟩ : ByteArray) = ⟨([32, 108, 105, 109, 105, 116, 32] : Bs).toArray⟩ := rfl
        unfold t6
        rw [if_pos h0, jn_app HNE.out.2.2.2.2.1, ← HS5.out, e1, cat2, cat2]
        congr 2
        simp
      generalize (⟨(Lib.itoa q.limit).toArray⟩ : ByteArray) = SI at *
      have H3 := Lib.hid h3
      have m1 : ¬ 9223372036854775807 < S5.size + 7 := by omega
      have m2 : ¬ 9223372036854775807 < S5.size + 7 + SI.size := by omega
      clear h3 h0
      go_wp2_with fail
      (with_reducible refine hc.mono ?_)
      rintro e w3 ⟨rfl, hM3⟩
      clear hc
      go_wp2_with fail
      go_meet
      exact ⟨by rw [← H3.out], hMr.trans hM3 (by simp)⟩
  case rest =>
  obtain ⟨rfl, hM6⟩ := hcut
  clear HGB HS5 z1 c10 c11 hMr c9
  generalize wc = V6 at *
  -- OFFSET
  have c11 := cell_of_heap (HB.out V6 hM6) 11
  change V6.cell? _ = some (.int .i64 q.offset) at c11
  obtain ⟨S6, hS6⟩ : ∃ S : ByteArray, (⟨(jn (t6 q)).toArray⟩ : ByteArray) = S := ⟨_, rfl⟩
  have z1 : S6.size ≤ 1000000000000 := by rw [← hS6]; exact HSM.out.2.2.2.2.2
  rw [hS6]
  have HS6 := Lib.hid hS6
  clear hS6
  have hR2 : R = jn (t7 q) := HR.out.symm
  by_cases h0 : 0 ≤ q.offset
  · have hc := digits_key V6 q.offset h0 HK.out.1.offset.2
    have his := itoa_small h0 HK.out.1.offset.2
    have h3 : S6 ++ ⟨#[32, 111, 102, 102, 115, 101, 116, 32]⟩ ++ ⟨(Lib.itoa q.offset).toArray⟩ = ⟨R.toArray⟩ := by
      have e1 : (⟨#[32, 111, 102, 102, 115, 101, 116, 32]⟩ : ByteArray) = ⟨([32, 111, 102, 102, 115, 101, 116, 32] : Bs).toArray⟩ := rfl
      rw [hR2]
      unfold t7
      rw [if_pos h0, jn_app HNE.out.2.2.2.2.2, ← HS6.out, e1, cat2, cat2]
      congr 2
      simp
    generalize (⟨(Lib.itoa q.offset).toArray⟩ : ByteArray) = SI at *
    have H3 := Lib.hid h3
    have m1 : ¬ 9223372036854775807 < S6.size + 8 := by omega
    have m2 : ¬ 9223372036854775807 < S6.size + 8 + SI.size := by omega
    clear h3 hR2
    go_wp2_with fail
    (with_reducible refine hc.mono ?_)
    rintro e w3 ⟨rfl, hM3⟩
    clear hc
    go_wp2_with fail
    go_ret
    exact ⟨congrArg (fun x => Ending.returned (Value.string x)) H3.out, hM6.trans hM3 (by simp)⟩
  · have h3 : S6 = ⟨R.toArray⟩ := by rw [hR2]; unfold t7; rw [if_neg h0, List.append_nil, HS6.out]
    have H3 := Lib.hid h3
    clear h3 hR2
    go_wp2_with fail
    go_ret
    exact ⟨congrArg (fun x => Ending.returned (Value.string x)) H3.out, hM6⟩
end Go.Proofs.YtpokbepenacnpaaGreatDoor
