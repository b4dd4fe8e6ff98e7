/-
  schema.Rows, walked. No condition but that Go's own variables hold what they were laid with.
-/
import Derived.Test.YtijapjnhjioknaaGreatDoorScK
import Derived.StillTailTactics
import Derived.Handy
namespace Go.Proofs.YtijapjnhjioknaaGreatDoor
open Go.RowKit
open Go.Maps
set_option linter.unusedVariables false

/-- The first value that does not fit its column. -/
def badAt : List Col → List V → Nat → Option Nat
  | c :: cs, v :: vs, k => if fitsV c.k c.s c.null v.z v.n v.s = true then badAt cs vs (k + 1) else some k
  | _, _, _ => none
/-- What is wrong in a table's rows, from the i-th on. -/
def rowsL (cs : List Col) : Nat → List (List V) → Int × Int × Int
  | _, [] => (0, 0, 0)
  | i, r :: rs => if i = 10000 then (i, 0, 10) else match badAt cs r 0 with
    | some k => (i, k, 10)
    | none => if r.length = cs.length then rowsL cs (i + 1) rs else (i, (min r.length cs.length : Nat), 10)
def rowsR (t : Tbl) (rs : List (List V)) : Int × Int × Int := if tblOK t = true then rowsL t.cols 0 rs else (0, 0, 1)
theorem rowsL_cons (cs : List Col) (i : Nat) (r : List V) (rs : List (List V)) : rowsL cs i (r :: rs) = if i = 10000 then ((i : Int), 0, 10) else match badAt cs r 0 with
    | some k => ((i : Int), (k : Int), 10)
    | none => if r.length = cs.length then rowsL cs (i + 1) rs else ((i : Int), ((min r.length cs.length : Nat) : Int), 10) := rfl
theorem badAt_cons (c : Col) (cs : List Col) (v : V) (vs : List V) (k : Nat) : badAt (c :: cs) (v :: vs) k = if fitsV c.k c.s c.null v.z v.n v.s = true then badAt cs vs (k + 1) else some k := rfl
theorem badAt_end {cs : List Col} {vs : List V} (k : Nat) (h : cs.length = 0 ∨ vs.length = 0) : badAt cs vs k = none := by
  rcases h with h | h
  · obtain rfl := List.length_eq_zero_iff.1 h; rfl
  · obtain rfl := List.length_eq_zero_iff.1 h
    cases cs <;> rfl

def tri (x : Int × Int × Int) : Value := .tuple #[.int .i64 x.1, .int .i64 x.2.1, .int .i64 x.2.2]

theorem run_head {P : Program} {t e : TypeId} (ht : P.underlying t = some (.slice e)) (hs : ∀ w, (sizeOf e).run P w = .ok 3 w) (a : Option Addr) (len cap h : Nat) (hc : h ≤ cap) (w : World) :
    (Instr.sliceAt t (.slice a len cap) none (some (.int .i64 h)) none).run P w = .ok (.slice a h cap) w := by
  have he : P.elem t = e := by unfold Program.elem; rw [ht]
  have ht2 : P.underlying t = some (.slice (P.elem t)) := by rw [he]; exact ht
  rw [run_sliceAt_slice w t _ _ _ _ ht2, run_slice_h w t a len cap ht2 .i64 h (by omega) (by omega), he, hs]
  simp only [Result.andThen, sliced, Int.toNat_natCast, Nat.zero_mul, Nat.sub_zero]
  have : (a.map fun x => x.add 0) = a := by
    cases a with
    | none => rfl
    | some x => simp [Addr.add]
  rw [this]
  split <;> rfl

def RowOk (rs : List (List V)) : Prop := ∀ r ∈ rs, r.length ≤ 9223372036854775807 ∧ ∀ v ∈ r, v.s.size ≤ 9223372036854775807

set_option maxRecDepth 100000 in
set_option maxHeartbeats 4000000 in
theorem rows_any (w : World) (hT : Tabs w) (t : Tbl) (ht : t.ok) (n : Nat) (hn : t.cols.length = n) (co : Option Addr) (cap : Nat) (hC : ColsIn w co t.cols []) (rs : List (List V)) (hrs : RowOk rs) (m : Nat) (hm : rs.length = m) (hm63 : m ≤ 9223372036854775807) (ro : Option Addr) (rcap : Nat) (hR : RowsIn w ro rs []) :
    Calls Tryz.prog 6 #[.agg #[.string t.name, .slice co n cap], .slice ro m rcap] w fun e w' => e = .returned (tri (rowsR t rs)) ∧ Mods [] w w' := by
  have hnc := ht.2.1
  rw [hn] at hnc
  have hMA := (Mods.refl [] w).alloc (.cells #[.string t.name, .slice co n cap] 24)
  have hb2 := heap_alloc_new w (.cells #[.string t.name, .slice co n cap] 24)
  have htr := tableRight_any _ (hT.mods hMA) t ht n hn co cap (hC.mods hMA)
  have HI := Lib.hid (And.intro hC hR)
  have HN := Lib.hid (And.intro hn hm)
  have HO := Lib.hid hrs
  have FIN : Hid (∀ a b c w', rowsR t rs = (a, b, c) → Mods [] w w' → (Ending.returned (.tuple #[.int .i64 a, .int .i64 b, .int .i64 c]) : Ending) = .returned (tri (rowsR t rs)) ∧ Mods [] w w') := Lib.hid (fun a b c w' h1 h2 => ⟨by rw [h1]; rfl, h2⟩)
  have hRR : Hid (rowsR t rs = if tblOK t = true then rowsL t.cols 0 rs else (0, 0, 1)) := Lib.hid rfl
  clear hn hm hC hR hrs ht hT
  go_enter Tryz.func6, Tryz.ntmps6
  go_wp2_with fail
  (with_reducible refine htr.mono ?_)
  rintro e w1 ⟨rfl, hM1⟩
  clear htr
  have hMw := hMA.trans hM1 (by simp)
  have hbt := hM1.heap hb2 (by simp)
  generalize w.heap.size = tb at *
  clear hb2 hM1 hMA
  cases hok : tblOK t with
  | false =>
    have fin := FIN.out 0 0 1 w1 (by rw [hRR.out, hok]; rfl) hMw
    clear hRR FIN hok
    go_wp2_with fail
    go_returns
    exact fin
  | true =>
    have hRL : Hid (rowsR t rs = rowsL t.cols 0 (rs.drop 0)) := Lib.hid (by rw [hRR.out, hok]; rfl)
    clear hRR hok
    go_wp2_with fail
    go_loopg [16] m (fun gk t16 wr => ∃ i : Nat, i + gk = m ∧ t16 = .int .i64 i ∧ Mods [] w1 wr ∧ Hid (rowsR t rs = rowsL t.cols i (rs.drop i)))
    case atStart => exact ⟨0, by omega, rfl, Mods.refl _ _, hRL⟩
    case round =>
      clear hRL
      obtain ⟨i, hi, rfl, hM, HL⟩ := hrel
      have hMx := hMw.trans hM (by simp)
      by_cases hlt : i < m
      · have hil : i < rs.length := by rw [HN.out.2]; exact hlt
        have hne : rs ≠ [] := fun h => by rw [h] at hil; simp at hil
        obtain ⟨rb, roff, rfl, hrb, hcells⟩ := HI.out.2 hne
        obtain ⟨vo, c, hlc, q1, hV⟩ := hcells i hil
        have d1 := hMx.cell q1 (by simp)
        have hVx := hV.mods hMx
        have hvok := HO.out _ (List.getElem_mem hil)
        have hL := HL.out
        rw [drop_get hil, rowsL_cons] at hL
        obtain ⟨r, hr⟩ : ∃ r, rs[i] = r := ⟨_, rfl⟩
        rw [hr] at hlc d1 hVx hvok hL
        obtain ⟨rl, hrl⟩ : ∃ rl, r.length = rl := ⟨_, rfl⟩
        rw [hrl] at hlc d1 hvok hL
        rw [HN.out.1] at hL
        have HLL := Lib.hid hL
        have HV := Lib.hid (And.intro hVx (And.intro hvok.2 hrl))
        have hrl63 := hvok.1
        clear q1 hV hr hcells HL hL hVx hvok hrl hrb
        by_cases h10 : i = 10000
        · have fin := Lib.hid (fun w' h => FIN.out i 0 10 w' (by rw [HLL.out, if_pos h10]) h)
          have z1 : ((i : Int) == 10000) = true := by rw [beq_iff_eq]; omega
          clear HLL FIN h10
          go_wp2_with fail
          go_returns
          exact fin.out _ hMx
        · have z1 : ((i : Int) == 10000) = false := by rw [beq_eq_false_iff_ne]; omega
          have hL2 := HLL.out
          rw [if_neg h10] at hL2
          have HL2 := Lib.hid hL2
          clear hL2 HLL h10
          obtain ⟨mn, hmn⟩ : ∃ mn, min rl n = mn := ⟨_, rfl⟩
          have hmn1 : mn ≤ rl ∧ mn ≤ n ∧ (mn = rl ∨ mn = n) := by omega
          have hmin := fun w => run_min (P := Tryz.prog) w 3 3 3 .i64 rl n mn (by omega)
          have hsl := fun w => run_head (P := Tryz.prog) Tryz.underlying48 (fun w => by kernel_rfl) vo rl c mn (by omega) w
          have e1 := cell_of_heap (hM.heap hbt (by simp)) 1
          change wr.cell? _ = some (.slice co n cap) at e1
          rw [hmn] at HL2
          clear hmn
          go_wp2_with fail
          clear hsl
          rename World => wo
          go_loopg [33] mn (fun gj t33 wx => ∃ k : Nat, k + gj = mn ∧ t33 = .int .i64 k ∧ Mods [] wo wx ∧ Hid (badAt t.cols r 0 = badAt (t.cols.drop k) (r.drop k) k))
          case atStart => exact ⟨0, by omega, rfl, Mods.refl _ _, Lib.hid rfl⟩
          case round =>
            obtain ⟨k, hk, rfl, hMk, HB⟩ := hrel
            have hMy := hMx.trans hMk (by simp)
            by_cases hkl : k < mn
            · have hkc : k < t.cols.length := by rw [HN.out.1]; omega
              have hkr : k < r.length := by rw [HV.out.2.2]; omega
              obtain ⟨cb, coff, rfl, hcb, hcc⟩ := HI.out.1 (fun h => by rw [h] at hkc; simp at hkc)
              obtain ⟨c0, c1, c2, c3⟩ := hcc k hkc
              obtain ⟨vb, voff, rfl, hvb, hvv⟩ := HV.out.1 (fun h => by rw [h] at hkr; simp at hkr)
              obtain ⟨v0, v1, v2⟩ := hvv k hkr
              have x1 := hMy.cell c1 hcb
              have x2 := hMy.cell c2 hcb
              have x3 := hMy.cell c3 hcb
              have y0 := hMk.cell v0 hvb
              have y1 := hMk.cell v1 hvb
              have y2 := hMk.cell v2 hvb
              have hvs := HV.out.2.1 _ (List.getElem_mem hkr)
              have hB := HB.out
              rw [drop_get hkc, drop_get hkr, badAt_cons] at hB
              obtain ⟨cc, hcc2⟩ : ∃ cc, t.cols[k] = cc := ⟨_, rfl⟩
              obtain ⟨v, hv2⟩ : ∃ v, r[k] = v := ⟨_, rfl⟩
              rw [hcc2] at x1 x2 x3 hB
              rw [hv2] at y0 y1 y2 hvs hB
              have HBB := Lib.hid hB
              have e2 := hMk.cell e1 (by simp)
              clear c0 c1 c2 c3 v0 v1 v2 hcc hvv hcc2 hv2 hB HB hmin
              go_wp2_with fail
              have hMa : Mods [] wr (wr.alloc (.cells #[.bool v.z, .int .i64 v.n, .string v.s] 46)) := (Mods.refl [] wr).alloc _
              have a0 := (cell_of_heap (heap_alloc_new wr (.cells #[.bool v.z, .int .i64 v.n, .string v.s] 46)) 0).trans rfl
              have a1 := (cell_of_heap (heap_alloc_new wr (.cells #[.bool v.z, .int .i64 v.n, .string v.s] 46)) 1).trans rfl
              have a2 := (cell_of_heap (heap_alloc_new wr (.cells #[.bool v.z, .int .i64 v.n, .string v.s] 46)) 2).trans rfl
              have t1 := hMa.cell x1 hcb
              have t2 := hMa.cell x2 hcb
              have t3 := hMa.cell x3 hcb
              have t4 := hMa.cell e2 (by simp)
              have hMb := hMk.trans hMa (by simp)
              have hMc := hMy.trans hMa (by simp)
              generalize wr.alloc (.cells #[.bool v.z, .int .i64 v.n, .string v.s] 46) = wa at *
              generalize wr.heap.size = ab at *
              have A0 : wa.drew.cell? ⟨ab, 0, none⟩ = some (.bool v.z) := a0
              have A1 : wa.drew.cell? ⟨ab, 1, none⟩ = some (.int .i64 v.n) := a1
              have A2 : wa.drew.cell? ⟨ab, 2, none⟩ = some (.string v.s) := a2
              have hki : (0 : Int) ≤ (k : Int) ∧ (k : Int) < (n : Int) := by omega
              have hkt : (k : Int).toNat = k := by omega
              have hMd := hMb.trans ((Mods.refl [] wa).drew) (by simp)
              have hMe := hMc.trans ((Mods.refl [] wa).drew) (by simp)
              clear hMa x1 x2 x3 y0 y1 y2 e2 hMb hMc hMy hMk
              go_still_tail 13, (by kernel_rfl)
              change wpList _ _ _ _ _ wa.drew
              generalize wa.drew = wd at *
              clear hki hkt t1 t2 t3 t4 a0 a1 a2
              cases hf : fitsV cc.k cc.s cc.null v.z v.n v.s with
              | false =>
                have hBn : badAt t.cols r 0 = some k := by rw [HBB.out, hf]; rfl
                have fin := Lib.hid (fun w' h => FIN.out i k 10 w' (by rw [HL2.out, hBn]) h)
                clear hBn HBB HL2 FIN
                go_wp2_with fail
                (with_reducible refine (fits_any _ _ _ _ _ _ hvs _).mono ?_)
                rintro e w2 ⟨rfl, hM2⟩
                rw [hf]
                clear hf
                go_wp2_with fail
                go_returns
                exact fin.out _ (hMe.trans hM2 (by simp))
              | true =>
                have hBn : Hid (badAt t.cols r 0 = badAt (t.cols.drop (k + 1)) (r.drop (k + 1)) (k + 1)) := Lib.hid (by rw [HBB.out, hf]; rfl)
                clear HBB
                go_wp2_with fail
                (with_reducible refine (fits_any _ _ _ _ _ _ hvs _).mono ?_)
                rintro e w2 ⟨rfl, hM2⟩
                rw [hf]
                clear hf
                go_wp2_with fail
                go_roundg (mn - (k + 1))
                case measure => omega
                case rel => exact ⟨k + 1, by omega, by go_num, hMd.trans hM2 (by simp), hBn⟩
            · obtain rfl : k = mn := by omega
              have hBn : badAt t.cols r 0 = none := by
                rw [HB.out]
                refine badAt_end _ ?_
                rw [List.length_drop, List.length_drop, HN.out.1, HV.out.2.2]
                omega
              have hL := HL2.out
              rw [hBn] at hL
              have e2 := hMk.cell e1 (by simp)
              simp only at hL
              have HL3 := Lib.hid hL
              clear hL HL2 HB hBn
              by_cases hrn : rl = n
              · have hL := HL3.out
                rw [if_pos hrn] at hL
                have HL4 := Lib.hid hL
                have z3 : ((rl : Int) == (n : Int)) = true := by rw [beq_iff_eq]; omega
                clear hL HL3 hmin
                go_wp2_with fail
                go_roundg (m - (i + 1))
                case measure => omega
                case rel => exact ⟨i + 1, by omega, by go_num, hM.trans hMk (by simp), HL4⟩
              · have z3 : ((rl : Int) == (n : Int)) = false := by rw [beq_eq_false_iff_ne]; omega
                have hL := HL3.out
                rw [if_neg hrn] at hL
                have fin := Lib.hid (fun w' h => FIN.out i k 10 w' hL h)
                clear hL HL3 FIN hrn
                have e3 : wr.drew.cell? ⟨tb, 1, none⟩ = some (.slice co n cap) := e2
                go_wp2_with fail
                go_region
                go_wp2_with fail
                go_returns
                exact fin.out _ hMy.drew
      · obtain rfl : m = i := by omega
        have fin := Lib.hid (fun w' h => FIN.out 0 0 0 w' (by rw [HL.out, List.drop_of_length_le (by have := HN.out.2; omega)]; rfl) h)
        clear HL FIN
        go_wp2_with fail
        go_returns
        exact fin.out _ hMx
end Go.Proofs.YtijapjnhjioknaaGreatDoor
