/-
  The law SchemaNames, walked whole. No condition but that Go's own variables hold what they were laid with.
-/
import Derived.Test.YtijapjnhjioknaaDoorScM
namespace Go.Proofs.YtijapjnhjioknaaDoor
open Go.RowKit
open Go.Maps
set_option linter.unusedVariables false

theorem bytes_ext {a b : ByteArray} (h : a.data.toList = b.data.toList) : a = b := ByteArray.ext (Array.toList_inj.1 h)
theorem toList_ne {a b : ByteArray} (h : a ≠ b) : ¬ a.toList = b.toList := by
  rw [ByteArray.toList_eq, ByteArray.toList_eq]
  exact fun e => h (bytes_ext e)

def xCol : Col := ⟨⟨#[120]⟩, 1, 0, false⟩
def twoR (a b : ByteArray) : Bool := nameL a.data.toList && (nameL b.data.toList && !decide (a = b))
theorem names_t (a b : ByteArray) : tblOK ⟨⟨#[116]⟩, [⟨a, 1, 0, false⟩, ⟨b, 4, 0, false⟩]⟩ = twoR a b := by
  have h1 : nameL [116] = true := by decide +kernel
  have h2 : tyRight 1 0 = true := by decide
  have h3 : tyRight 4 0 = true := by decide
  rw [Bool.eq_iff_iff]
  simp only [tblOK, twoR, Tbl.nm, Col.good, Col.nm, h1, h2, h3, Bool.and_eq_true, decide_eq_true_eq, List.all_cons, List.all_nil, List.map_cons, List.map_nil, List.nodup_cons, List.mem_singleton, List.length_cons, List.length_nil, Bool.not_eq_true', decide_eq_false_iff_not, List.not_mem_nil, List.nodup_nil, not_false_eq_true, and_true, true_and, Bool.and_true]
  constructor
  · rintro ⟨-, -, ⟨p, q⟩, r⟩
    exact ⟨p, q, fun e => r (by rw [e])⟩
  · rintro ⟨p, q, r⟩
    exact ⟨by omega, by omega, ⟨p, q⟩, fun e => r (bytes_ext e)⟩
theorem names_l (a b : ByteArray) : tblsOK [⟨a, [xCol]⟩, ⟨b, [xCol]⟩] = twoR a b := by
  have h2 : [xCol].all Col.good = true := by decide +kernel
  have h3 : ([xCol].map Col.nm).Nodup := by decide +kernel
  rw [Bool.eq_iff_iff]
  simp only [tblsOK, tblOK, twoR, Tbl.nm, h2, Bool.and_eq_true, decide_eq_true_eq, List.all_cons, List.all_nil, List.map_cons, List.map_nil, List.nodup_cons, List.mem_singleton, List.length_cons, List.length_nil, Bool.not_eq_true', decide_eq_false_iff_not, List.not_mem_nil, List.nodup_nil, not_false_eq_true, and_true, Bool.and_true]
  constructor
  · rintro ⟨⟨⟨p, -⟩, q, -⟩, r, -⟩
    exact ⟨p, q, fun e => r (by rw [e])⟩
  · rintro ⟨p, q, r⟩
    refine ⟨⟨⟨p, ?_⟩, q, ?_⟩, fun e => r (bytes_ext e), ?_⟩
    all_goals decide +kernel
theorem find_two (a b : ByteArray) : findV [a, b] b = .tuple #[.int .i64 (if a = b then 0 else 1), .bool true] := by
  by_cases h : a = b
  · rw [if_pos h]
    exact findV_some (i := 0) (by simp) (by simpa using h) (fun j _ h => by omega)
  · rw [if_neg h]
    exact findV_some (i := 1) (by simp) rfl (fun j hj h1 => by obtain rfl : j = 0 := by omega
                                                               exact h)

set_option maxRecDepth 100000 in
set_option maxHeartbeats 2000000 in
theorem schemaNames_walk (w : World) (hT : Tabs w) (a : ByteArray) (ha : a.size ≤ 140737488351232) (b : ByteArray) (hb : b.size ≤ 140737488351232) :
    Calls Tryd.prog 6 #[.string a, .string b] w fun e w' => e = .returned (.bool true) ∧ Mods [] w w' := by
  go_enter Tryd.func6, Tryd.ntmps6
  go_wp2_with fail
  refine (examples12 _ hT).mono ?_
  rintro e w1 ⟨rfl, hM1⟩
  have hT1 := hT.mods hM1
  have hMA := (((Mods.refl [] w1).alloc (.cells #[.string a, .int .i64 1, .int .i64 0, .bool false, .string b, .int .i64 4, .int .i64 0, .bool false] 27)).alloc (.cells #[.string ⟨#[116]⟩, .slice (some ⟨w1.heap.size, 0, none⟩) 2 2] 30)).alloc (.cells #[.string ⟨#[120]⟩, .int .i64 1, .int .i64 0, .bool false] 27)
  obtain ⟨hh1, hh2, hh3⟩ := three_new w1 (.cells #[.string a, .int .i64 1, .int .i64 0, .bool false, .string b, .int .i64 4, .int .i64 0, .bool false] 27) (.cells #[.string ⟨#[116]⟩, .slice (some ⟨w1.heap.size, 0, none⟩) 2 2] 30) (.cells #[.string ⟨#[120]⟩, .int .i64 1, .int .i64 0, .bool false] 27)
  have hs3 : (((w1.alloc (.cells #[.string a, .int .i64 1, .int .i64 0, .bool false, .string b, .int .i64 4, .int .i64 0, .bool false] 27)).alloc (.cells #[.string ⟨#[116]⟩, .slice (some ⟨w1.heap.size, 0, none⟩) 2 2] 30)).alloc (.cells #[.string ⟨#[120]⟩, .int .i64 1, .int .i64 0, .bool false] 27)).heap.size = w1.heap.size + 1 + 1 + 1 := by rw [size_alloc, size_alloc, size_alloc]
  have hMD := (hMA.alloc (.cells #[.string ⟨#[120]⟩, .int .i64 1, .int .i64 0, .bool false] 27)).alloc (.cells #[.string a, .slice (some ⟨w1.heap.size + 1 + 1, 0, none⟩) 1 1, .string b, .slice (some ⟨w1.heap.size + 1 + 1 + 1, 0, none⟩) 1 1] 30)
  go_upto_region 6 with fail
  generalize ((w1.alloc (.cells #[.string a, .int .i64 1, .int .i64 0, .bool false, .string b, .int .i64 4, .int .i64 0, .bool false] 27)).alloc (.cells #[.string ⟨#[116]⟩, .slice (some ⟨w1.heap.size, 0, none⟩) 2 2] 30)).alloc (.cells #[.string ⟨#[120]⟩, .int .i64 1, .int .i64 0, .bool false] 27) = w3 at *
  obtain ⟨hh4, hh5⟩ := two_new w3 (.cells #[.string ⟨#[120]⟩, .int .i64 1, .int .i64 0, .bool false] 27) (.cells #[.string a, .slice (some ⟨w1.heap.size + 1 + 1, 0, none⟩) 1 1, .string b, .slice (some ⟨w1.heap.size + 1 + 1 + 1, 0, none⟩) 1 1] 30)
  have hME := ((Mods.refl [] w3).alloc (.cells #[.string ⟨#[120]⟩, .int .i64 1, .int .i64 0, .bool false] 27)).alloc (.cells #[.string a, .slice (some ⟨w1.heap.size + 1 + 1, 0, none⟩) 1 1, .string b, .slice (some ⟨w1.heap.size + 1 + 1 + 1, 0, none⟩) 1 1] 30)
  rw [hs3] at hh4 hh5
  replace hh1 := hME.heap hh1 (by simp)
  replace hh2 := hME.heap hh2 (by simp)
  replace hh3 := hME.heap hh3 (by simp)
  generalize (w3.alloc (.cells #[.string ⟨#[120]⟩, .int .i64 1, .int .i64 0, .bool false] 27)).alloc (.cells #[.string a, .slice (some ⟨w1.heap.size + 1 + 1, 0, none⟩) 1 1, .string b, .slice (some ⟨w1.heap.size + 1 + 1 + 1, 0, none⟩) 1 1] 30) = w5 at *
  generalize w1.heap.size = wb at *
  have hC := cols_new (cs := [⟨a, 1, 0, false⟩, ⟨b, 4, 0, false⟩]) hh1 rfl
  have hX := cols_new (cs := [xCol]) hh3 rfl
  have hY := cols_new (cs := [xCol]) hh4 rfl
  have hL := tbls_two (t := ⟨a, [xCol]⟩) (u := ⟨b, [xCol]⟩) hh5 rfl hX rfl hY
  have hMw := hM1.trans hMD (by simp)
  clear hh1 hh3 hh4 hh5 hX hY hME hMD hMA hs3 hT1 hM1
  have hT5 := hT.mods hMw
  obtain ⟨R, hR⟩ : ∃ R, twoR a b = R := ⟨_, rfl⟩
  have HR := Lib.hid hR
  clear hR
  go_cut [8] from 36 to 46 (fun s8 wx => s8 = .bool R ∧ Mods [] w5 wx)
  case first =>
    have hna := nameRight_any w5 hT5 a (by omega)
    have hR := HR.out
    unfold twoR at hR
    cases hn1 : nameL a.data.toList with
    | false =>
      rw [hn1] at hna hR
      simp only [Bool.false_and] at hR
      subst hR
      clear hn1
      go_wp2_with fail
      (with_reducible refine hna.mono ?_)
      rintro e w6 ⟨rfl, hM6⟩
      go_wp2_with fail
      go_meet
      exact ⟨rfl, hM6⟩
    | true =>
      rw [hn1] at hna hR
      clear hn1
      go_wp2_with fail
      (with_reducible refine hna.mono ?_)
      rintro e w6 ⟨rfl, hM6⟩
      have hnb := nameRight_any w6 (hT5.mods hM6) b (by omega)
      cases hn2 : nameL b.data.toList with
      | false =>
        rw [hn2] at hnb hR
        simp only [Bool.false_and, Bool.and_false] at hR
        subst hR
        clear hn2
        go_wp2_with fail
        (with_reducible refine hnb.mono ?_)
        rintro e w7 ⟨rfl, hM7⟩
        go_wp2_with fail
        go_meet
        exact ⟨rfl, hM6.trans hM7 (by simp)⟩
      | true =>
        rw [hn2] at hnb hR
        simp only [Bool.true_and] at hR
        clear hn2
        go_wp2_with fail
        (with_reducible refine hnb.mono ?_)
        rintro e w7 ⟨rfl, hM7⟩
        by_cases hab : a = b
        · rw [decide_eq_true hab] at hR
          subst hR hab
          go_wp2_with fail
          go_meet
          exact ⟨rfl, hM6.trans hM7 (by simp)⟩
        · rw [decide_eq_false hab] at hR
          subst hR
          have z1 := toList_ne hab
          have z2 : (a.toList == b.toList) = false := by rw [beq_eq_false_iff_ne]; exact z1
          clear hab
          go_wp2_with fail
          go_meet
          exact ⟨rfl, hM6.trans hM7 (by simp)⟩
  case rest =>
    obtain ⟨rfl, hMc⟩ := hcut
    have hTc := hT5.mods hMc
    have hCc := hC.mods hMc
    have hLc := hL.mods hMc
    have hbc := hMc.heap hh2 (by simp)
    have hMwc := hMw.trans hMc (by simp)
    have htok : Tbl.ok ⟨⟨#[116]⟩, [⟨a, 1, 0, false⟩, ⟨b, 4, 0, false⟩]⟩ := tbl_ok (by decide) (by simp) (fun c hc => by simp at hc; rcases hc with rfl | rfl <;> exact col_ok (by omega) (by omega) (by omega))
    have hxok : ∀ c ∈ [xCol], c.ok := fun c hc => by simp at hc; subst hc; exact col_ok (by decide) (by omega) (by omega)
    have hlok : ∀ t ∈ [(⟨a, [xCol]⟩ : Tbl), ⟨b, [xCol]⟩], t.ok := fun t ht => by simp at ht; rcases ht with rfl | rfl <;> exact tbl_ok (by omega) (by simp) hxok
    have hcol := fun W (h : Mods [] wc W) => column_any W ⟨⟨#[116]⟩, [⟨a, 1, 0, false⟩, ⟨b, 4, 0, false⟩]⟩ 2 rfl (by omega) (some ⟨wb, 0, none⟩) 2 (hCc.mods h) b
    have hfin := fun W (h : Mods [] wc W) => findT_any W [⟨a, [xCol]⟩, ⟨b, [xCol]⟩] 2 rfl (by omega) _ 2 (hLc.mods h) b
    have htr := fun W (h : Mods [] wc W) => tableRight_any W (hTc.mods h) ⟨⟨#[116]⟩, [⟨a, 1, 0, false⟩, ⟨b, 4, 0, false⟩]⟩ htok 2 rfl (some ⟨wb, 0, none⟩) 2 (hCc.mods h)
    have hrg := fun W (h : Mods [] wc W) => rights_any W (hTc.mods h) [⟨a, [xCol]⟩, ⟨b, [xCol]⟩] hlok 2 rfl (by omega) _ 2 (hLc.mods h)
    rw [names_t, HR.out] at htr
    rw [names_l, HR.out] at hrg
    simp only [List.map_cons, List.map_nil, find_two] at hcol hfin
    clear hT5 hC hL hh2 hMw hTc hCc hLc htok hlok hMc HR hT
    obtain ⟨q, hq⟩ : ∃ q : Int, (if a = b then (0 : Int) else 1) = q := ⟨_, rfl⟩
    rw [hq] at hcol hfin
    have a0 := cell_of_heap hbc 0
    have a1 := cell_of_heap hbc 1
    change wc.cell? _ = some (.string ⟨#[116]⟩) at a0
    change wc.cell? _ = some (.slice (some ⟨wb, 0, none⟩) 2 2) at a1
    go_wp2_with fail
    (with_reducible refine (hcol _ (Mods.refl _ _)).mono ?_)
    rintro e w6 ⟨rfl, hM6⟩
    clear hcol
    go_wp2_with fail
    (with_reducible refine (hfin _ hM6).mono ?_)
    rintro e w7 ⟨rfl, hM7⟩
    clear hfin
    have hM67 := hM6.trans hM7 (by simp)
    have hb7 := hM67.heap hbc (by simp)
    clear hM6 hM7 a0 a1 hbc
    have a0 := cell_of_heap hb7 0
    have a1 := cell_of_heap hb7 1
    change w7.cell? _ = some (.string ⟨#[116]⟩) at a0
    change w7.cell? _ = some (.slice (some ⟨wb, 0, none⟩) 2 2) at a1
    have hcall := htr w7 hM67
    clear htr
    by_cases hab : a = b
    · rw [if_pos hab] at hq
      subst hq hab
      go_wp2_with fail
      (with_reducible refine hcall.mono ?_)
      rintro e w8 ⟨rfl, hM8⟩
      have hM78 := hM67.trans hM8 (by simp)
      go_wp2_with fail
      (with_reducible refine (hrg _ hM78).mono ?_)
      rintro e w9 ⟨rfl, hM9⟩
      go_wp2_with fail
      go_ret
      exact ⟨rfl, (hMwc.trans hM78 (by simp)).trans hM9 (by simp)⟩
    · rw [if_neg hab] at hq
      subst hq
      have z1 := toList_ne hab
      have z2 : (a.toList == b.toList) = false := by rw [beq_eq_false_iff_ne]; exact z1
      clear hab
      go_wp2_with fail
      (with_reducible refine hcall.mono ?_)
      rintro e w8 ⟨rfl, hM8⟩
      have hM78 := hM67.trans hM8 (by simp)
      go_wp2_with fail
      (with_reducible refine (hrg _ hM78).mono ?_)
      rintro e w9 ⟨rfl, hM9⟩
      go_wp2_with fail
      go_ret
      exact ⟨rfl, (hMwc.trans hM78 (by simp)).trans hM9 (by simp)⟩
end Go.Proofs.YtijapjnhjioknaaDoor
