/-
  The law LexNumbers, walked whole. No condition but that Go's own variables hold what they were laid with.
-/
import Derived.Test.YtcjijjdoglpjbaaDoorLyT
namespace Go.Proofs.YtcjijjdoglpjbaaDoor
open Go.RowKit
set_option linter.unusedVariables false

/-- The digit before the digits so far. -/
def digOf (m : Nat) : UInt8 := UInt8.ofNat (48 + m % 10)
def strOf : Value → Nat | .string s => s.size | _ => 0
theorem digOf_nat (m : Nat) : (digOf m).toNat = 48 + m % 10 := by
  unfold digOf
  rw [UInt8.toNat_ofNat']
  omega
theorem digOf_dig (m : Nat) : isDig (digOf m) = true := by
  unfold isDig
  rw [digOf_nat]
  simp; omega
def DecRel (n i m : Nat) (D : List UInt8) : Prop := D.length = i ∧ m = n / 10 ^ i ∧ (∀ x ∈ D, isDig x = true) ∧ numVal D = n % 10 ^ i
theorem DecRel.next {n i m : Nat} {D : List UInt8} (h : DecRel n i m D) : DecRel n (i + 1) (m / 10) (digOf m :: D) := by
  obtain ⟨h1, h2, h3, h4⟩ := h
  refine ⟨by simp [h1], by rw [h2, Nat.div_div_eq_div_mul, Nat.pow_succ], ?_, ?_⟩
  · intro x hx
    rcases List.mem_cons.1 hx with rfl | hx
    · exact digOf_dig m
    · exact h3 x hx
  · rw [numVal_cons, digOf_nat, h1, h4, Nat.pow_succ, h2, Nat.mod_mul, Nat.mul_comm (10 ^ i), Nat.add_sub_cancel_left, Nat.add_comm]
theorem DecRel.lt20 {n i m : Nat} {D : List UInt8} (h : DecRel n i m D) (hn : n < 18446744073709551616) (hm : 0 < m) : i < 20 := by
  obtain ⟨h1, h2, h3, h4⟩ := h
  apply Nat.lt_of_not_le
  intro hi
  have h5 : 10 ^ 20 ≤ 10 ^ i := Nat.pow_le_pow_right (by omega) hi
  have h6 : n / 10 ^ i = 0 := Nat.div_eq_of_lt (by omega)
  omega
theorem DecRel.full {n i : Nat} {D : List UInt8} (h : DecRel n i 0 D) : numVal D = n := by
  obtain ⟨h1, h2, h3, h4⟩ := h
  rw [h4]
  have h5 := Nat.div_add_mod n (10 ^ i)
  rw [← h2] at h5
  omega

set_option maxRecDepth 100000 in
set_option maxHeartbeats 2000000 in
theorem lexNumbers_walk (w : World) (hT : Tabs w) (n : Nat) (hn : n < 18446744073709551616) (k : Nat) (hk : k < 256) :
    Calls Tryd.prog 6 #[.int .u64 n, .int .u8 k] w fun e w' => e = .returned (.bool true) ∧ Mods [] w w' := by
  obtain ⟨s, hs, hsz⟩ : ∃ s : Nat, s < 12 ∧ (k : Int) % 12 = (s : Int) := ⟨k % 12, by omega, by omega⟩
  go_enter Tryd.func6, Tryd.ntmps6
  go_wp2_with fail
  refine (examples11 _ hT).mono ?_
  rintro e w1 ⟨rfl, hM1⟩
  have hT1 := hT.mods hM1
  go_wp2_with fail
  clear hT hsz
  go_loopw [7, 8] (fun t7 t8 wr => ∃ (i m : Nat) (D : ByteArray), i ≤ 20 ∧ D.size = i ∧ m < 18446744073709551616 ∧ t7 = .string D ∧ t8 = .int .u64 m ∧ Mods [] w1 wr ∧ Hid (DecRel n i m D.data.toList)) (fun t7 t8 _ => (intOf t8).toNat + (s + 1 - strOf t7))
  case atStart => exact ⟨0, n, ⟨#[]⟩, by omega, rfl, hn, rfl, rfl, Mods.refl [] _, Lib.hid ⟨rfl, by simp, by simp, by simp [numVal]; omega⟩⟩
  case round =>
    obtain ⟨i, m, D, hi, hD, hm, rfl, rfl, hMr, HR⟩ := hrel
    subst hD
    have hnext := HR.out.next
    by_cases hgo : 0 < m ∨ D.size < s + 1
    · have hi20 : D.size < 20 := by
        rcases hgo with h | h
        · exact HR.out.lt20 hn h
        · omega
      have hqz : IntKind.u64.wrap ((m : Int).tdiv 10) = ((m / 10 : Nat) : Int) := by rw [IntWalk.u64_quo _ _ (by omega)]; omega
      have hqz2 : IntKind.u64.wrap ((m : Int) / 10) = ((m / 10 : Nat) : Int) := by rw [IntWalk.u64_in _ (by omega)]; omega
      have hdz : (48 + (m : Int) % 10) = ((digOf m).toNat : Int) := by rw [digOf_nat]; omega
      have hwz : IntKind.u64.wrap (48 + (m : Int) % 10) = ((digOf m).toNat : Int) := by rw [hdz]; exact IntWalk.u64_in _ (by have := (digOf m).toNat_lt; omega)
      have hvz : IntKind.u8.wrap ((digOf m).toNat : Int) = ((digOf m).toNat : Int) := IntWalk.u8_in _ (by have := (digOf m).toNat_lt; omega)
      have hc1 : ¬ 9223372036854775807 < (⟨#[digOf m]⟩ : ByteArray).size + D.size := by show ¬ _ < 1 + D.size; omega
      have hcv : (convert 37 9 (.slice (some ⟨wr.heap.size, 0, none⟩) 1 1)).run Tryd.prog (wr.alloc (.cells #[.int .u8 ((digOf m).toNat : Int)] 5)) = .ok (.string ⟨#[digOf m]⟩) (wr.alloc (.cells #[.int .u8 ((digOf m).toNat : Int)] 5)) := by
        have := run_convert_bytes_back (P := Tryd.prog) (wr.alloc (.cells #[.int .u8 ((digOf m).toNat : Int)] 5)) 37 9 5 ⟨wr.heap.size, 0, none⟩ 1 [digOf m] Tryd.underlying37 Tryd.underlying5 Tryd.underlying9 (by
          intro j hj
          obtain rfl : j = 0 := by simpa using hj
          rw [addr_add, cell_of_heap (heap_alloc_new wr _)]
          rfl)
        simpa using this
      have hsl : (⟨#[digOf m]⟩ ++ D : ByteArray).data.toList = digOf m :: D.data.toList := by rw [app_list]; rfl
      have hss : (⟨#[digOf m]⟩ ++ D : ByteArray).size = D.size + 1 := by rw [size_list, hsl]; rfl
      rw [← hsl] at hnext
      have HN := Lib.hid hnext
      clear hnext hsl HR
      have hgz : (0 : Int) < (m : Int) ∨ ((m : Int) = 0 ∧ (D.size : Int) < (s : Int) + 1) := by omega
      have hmea : m / 10 + (s + 1 - (D.size + 1)) < m + (s + 1 - D.size) := by omega
      clear hgo
      rcases hgz with hgz | ⟨hg0, hgz⟩
      · go_wp2_with fail
        go_round
        case measure => simp only [intOf, strOf, hss]; omega
        case rel => exact ⟨D.size + 1, m / 10, _, by omega, hss, by omega, rfl, by go_num, hMr.alloc _, HN⟩
      · obtain rfl : m = 0 := by omega
        have hcv0 : (convert 37 9 (.slice (some ⟨wr.heap.size, 0, none⟩) 1 1)).run Tryd.prog (wr.alloc (.cells #[.int .u8 48] 5)) = .ok (.string ⟨#[digOf 0]⟩) (wr.alloc (.cells #[.int .u8 48] 5)) := hcv
        clear hg0 hcv hwz hvz hdz hqz hqz2
        go_wp2_with fail
        go_round
        case measure => simp only [intOf, strOf, hss]; omega
        case rel => exact ⟨D.size + 1, 0 / 10, _, by omega, hss, by omega, rfl, by go_num, hMr.alloc _, HN⟩
    · obtain rfl : m = 0 := by omega
      have hval := HR.out.full
      have hdig := HR.out.2.2.1
      have hsD : s + 1 ≤ D.size := by omega
      have hsz1 : ¬ (D.size : Int) < (s : Int) + 1 := by omega
      have hTr := hT1.mods hMr
      have hcv : n ≤ 9223372036854775807 → IntKind.i64.wrap (n : Int) = (n : Int) := fun h => IntWalk.i64_in _ (by omega)
      clear hnext hgo HR
      by_cases hs0 : s = 0
      · subst hs0
        have hl := lex_digits D.data.toList (by intro h; rw [size_list, h] at hsD; simp at hsD) hdig
        rw [hval] at hl
        clear hdig hval
        by_cases hbig : 9223372036854775807 < n
        · rw [if_pos hbig] at hl
          have hall := all_bad wr hTr D (by omega) 0 hl
          have hbz : (9223372036854775808 : Int) ≤ (n : Int) := by omega
          clear hl hbig
          go_wp2_with fail
          (with_reducible refine hall.mono ?_)
          rintro e w3 ⟨rfl, hM3⟩
          clear hall
          go_wp2_with fail
          go_ret
          exact ⟨rfl, (hM1.trans hMr (by simp)).trans hM3 (by simp)⟩
        · rw [if_neg hbig] at hl
          have hall := all_good wr hTr D (by omega) _ hl
          have hbz : decide ((9223372036854775808 : Int) ≤ (n : Int)) = false := decide_eq_false (by omega)
          have hcvz := hcv (by omega)
          clear hl hbig hcv
          go_wp2_with fail
          (with_reducible refine hall.mono ?_)
          rintro e w3 ⟨g, cap, rfl, hM3, hA, hcap⟩
          have c0 : w3.cell? ⟨g, 0, none⟩ = some (.int .i64 3) := hA 0 _ rfl
          have c3 : w3.cell? ⟨g, 3, none⟩ = some (.int .i64 n) := hA 3 _ rfl
          have c4 : w3.cell? ⟨g, 4, none⟩ = some (.int .i64 0) := hA 4 _ rfl
          clear hall hA
          go_wp2_with fail
          go_ret
          exact ⟨rfl, (hM1.trans hMr (by simp)).trans hM3 (by simp)⟩
      · obtain ⟨p, hp⟩ : ∃ p, D.size = p + s := ⟨D.size - s, by omega⟩
        have hp1 : 0 < p := by omega
        have hpl : D.data.toList.length = p + s := hp
        have he1 : (D.extract 0 p).data.toList = D.data.toList.take p := by
          have := ext_list D 0 p
          rwa [Nat.zero_add, List.drop_zero] at this
        have he2 : (D.extract p D.size).data.toList = D.data.toList.drop p := by
          have := ext_list D p s
          rw [← hp] at this
          rw [this, List.take_of_length_le (by rw [List.length_drop]; omega)]
        have hs1 : (D.extract 0 p).size = p := by rw [size_list, he1, List.length_take]; omega
        have hs2 : (D.extract p D.size).size = s := by rw [size_list, he2, List.length_drop]; omega
        have hcat : (D.extract 0 p ++ ⟨#[46]⟩ ++ D.extract p D.size : ByteArray).data.toList = D.data.toList.take p ++ 46 :: D.data.toList.drop p := by
          rw [app_list, app_list, he1, he2, List.append_assoc]; rfl
        have hsz2 : (D.extract 0 p ++ ⟨#[46]⟩ ++ D.extract p D.size : ByteArray).size ≤ 4096 := by
          rw [ByteArray.size_append, ByteArray.size_append, hs1, hs2]; show p + 1 + s ≤ 4096; omega
        have hl := lex_point (D.data.toList.take p) (D.data.toList.drop p) (by intro h; have := congrArg List.length h; rw [List.length_take, hpl, List.length_nil] at this; omega) (by intro h; have := congrArg List.length h; rw [List.length_drop, hpl, List.length_nil] at this; omega) (fun x hx => hdig x (List.mem_of_mem_take hx)) (fun x hx => hdig x (List.mem_of_mem_drop hx))
        have hdl : (D.data.toList.drop p).length = s := by rw [List.length_drop]; omega
        rw [← hcat, List.take_append_drop, hval, hdl] at hl
        have hs0z : (0 : Int) < (s : Int) := by omega
        have hk1 : ¬ 9223372036854775807 < (D.extract 0 p).size + 1 := by omega
        have hk2 : ¬ 9223372036854775807 < (D.extract 0 p ++ ⟨#[46]⟩ : ByteArray).size + (D.extract p D.size).size := by rw [ByteArray.size_append, hs1, hs2]; show ¬ _ < p + 1 + s; omega
        have hpz : (D.size : Int) - (s : Int) = (p : Int) := by omega
        have hwz : IntKind.i64.wrap ((D.size : Int) - (s : Int)) = (p : Int) := by rw [hpz]; exact IntWalk.i64_in _ (by omega)
        have hpD : (p : Int) ≤ (D.size : Int) := by omega
        have hpD2 : p ≤ D.size := by omega
        clear hcat he1 he2 hdig hval hdl hpl hs1 hs2
        rw [hp] at hl hsz2 hk2
        obtain ⟨E, hE⟩ : ∃ E, (D.extract 0 p ++ ⟨#[46]⟩ ++ D.extract p (p + s) : ByteArray) = E := ⟨_, rfl⟩
        rw [hE] at hl hsz2
        have HE := Lib.hid hE
        clear hE
        by_cases hbig : 9223372036854775807 < n ∨ 9 < s
        · rw [if_pos hbig] at hl
          have hall := fun W (h : Tabs W) => all_bad W h E hsz2 0 hl
          have hbz : decide ((9223372036854775808 : Int) ≤ (n : Int)) = true ∨ (decide ((9223372036854775808 : Int) ≤ (n : Int)) = false ∧ (9 : Int) < (s : Int)) := by
            rcases hbig with h | h
            · exact .inl (decide_eq_true (by omega))
            · by_cases h2 : 9223372036854775807 < n
              · exact .inl (decide_eq_true (by omega))
              · exact .inr ⟨decide_eq_false (by omega), by omega⟩
          clear hl hbig hcv hsz2
          go_upto_region 11 with fail
          go_quiet (fail)
          rw [HE.out]
          generalize hwy : wr.drewN nq = wy
          have hMy := hMr.drewN nq
          have hTy := hT1.mods hMy
          rw [hwy] at hMy hTy
          go_wp2_with fail
          (with_reducible refine (hall _ hTy).mono ?_)
          rintro e w3 ⟨rfl, hM3⟩
          clear hall
          rcases hbz with hbz | ⟨hbz, hb9⟩
          · go_wp2_with fail
            go_ret
            exact ⟨rfl, (hM1.trans hMy (by simp)).trans hM3 (by simp)⟩
          · go_wp2_with fail
            go_ret
            exact ⟨rfl, (hM1.trans hMy (by simp)).trans hM3 (by simp)⟩
        · rw [if_neg hbig] at hl
          have hall := fun W (h : Tabs W) => all_good W h E hsz2 _ hl
          have hbz : decide ((9223372036854775808 : Int) ≤ (n : Int)) = false := decide_eq_false (by omega)
          have hb9 : ¬ (9 : Int) < (s : Int) := by omega
          have hcvz := hcv (by omega)
          clear hl hbig hcv hsz2
          go_upto_region 11 with fail
          go_quiet (fail)
          rw [HE.out]
          generalize hwy : wr.drewN nq = wy
          have hMy := hMr.drewN nq
          have hTy := hT1.mods hMy
          rw [hwy] at hMy hTy
          go_wp2_with fail
          (with_reducible refine (hall _ hTy).mono ?_)
          rintro e w3 ⟨g, cap, rfl, hM3, hA, hcap⟩
          have c0 : w3.cell? ⟨g, 0, none⟩ = some (.int .i64 3) := hA 0 _ rfl
          have c3 : w3.cell? ⟨g, 3, none⟩ = some (.int .i64 n) := hA 3 _ rfl
          have c4 : w3.cell? ⟨g, 4, none⟩ = some (.int .i64 s) := hA 4 _ rfl
          clear hall hA
          go_wp2_with fail
          go_ret
          exact ⟨rfl, (hM1.trans hMy (by simp)).trans hM3 (by simp)⟩
end Go.Proofs.YtcjijjdoglpjbaaDoor
