/-
  The document's Digits, walked; what it computes. No condition but sizes.
-/
import Derived.Test.YtpokbepenacnpaaGreatDoorMPx
import Derived.Test.YtpokbepenacnpaaGreatDoorMPq
import Derived.Test.YtpokbepenacnpaaGreatDoorMPz
import Derived.Test.YtpokbepenacnpaaGreatDoorMQn
import Derived.Deep.RegionLaw
namespace Go.Proofs.YtpokbepenacnpaaGreatDoor
open Go.RowKit
set_option linter.unusedVariables false

def refDF : Nat → Nat → Nat → Bs → Bs
  | 0, _, _, s => s
  | f + 1, n, least, s => if 0 < n ∨ s.length < least then refDF f (n / 10) least (dg n ++ s) else s
def refD (n least : Nat) : Bs := refDF 22 n least []
theorem rep_comm (k : Nat) (s : Bs) : Lib.repeatL [48] k ++ (48 :: s) = 48 :: (Lib.repeatL [48] k ++ s) := by
  induction k with
  | zero => rfl
  | succ k ih => show ([48] ++ Lib.repeatL [48] k) ++ _ = _; simp [Lib.repeatL, ih]
theorem refDF_pad : ∀ (f least : Nat) (s : Bs), least - s.length ≤ f → refDF f 0 least s = Lib.repeatL [48] (least - s.length) ++ s := by
  intro f
  induction f with
  | zero => intro least s h; rw [show least - s.length = 0 by omega]; rfl
  | succ f ih =>
    intro least s h
    unfold refDF
    by_cases hl : s.length < least
    · rw [if_pos (.inr hl)]
      have hd : dg 0 ++ s = 48 :: s := rfl
      rw [hd, show 0 / 10 = 0 from rfl, ih least (48 :: s) (by simp only [List.length_cons]; omega), rep_comm]
      obtain ⟨k, hk⟩ : ∃ k, least - s.length = k + 1 := ⟨least - s.length - 1, by omega⟩
      rw [hk, show least - (48 :: s : Bs).length = k by simp only [List.length_cons]; omega]
      rfl
    · rw [if_neg (by omega), show least - s.length = 0 by omega]; rfl
theorem refDF_num : ∀ (f n least : Nat) (s : Bs), 0 < n → Lib.nDigits n + (least - (s.length + Lib.nDigits n)) ≤ f → refDF f n least s = Lib.repeatL [48] (least - (s.length + Lib.nDigits n)) ++ (Lib.decDigits n ++ s) := by
  intro f
  induction f with
  | zero => intro n least s hn h; have := Lib.nDigits_pos n; omega
  | succ f ih =>
    intro n least s hn h
    unfold refDF
    rw [if_pos (.inl hn)]
    by_cases h10 : n < 10
    · have h1 := Lib.nDigits_small h10
      rw [h1] at h ⊢
      have hz : n / 10 = 0 := by omega
      have hd : dg n = Lib.decDigits n := by rw [Lib.decDigits_one h10]; unfold dg; rw [Nat.mod_eq_of_lt h10]
      rw [hz, hd]
      have hl : (Lib.decDigits n ++ s).length = s.length + 1 := by rw [List.length_append, Lib.decDigits_length, h1]; omega
      rw [refDF_pad f least _ (by rw [hl]; omega), hl]
    · have h1 := Lib.nDigits_big h10
      have hl : (dg n ++ s).length = s.length + 1 := by rw [List.length_append]; simp only [dg, List.length_cons, List.length_nil]; omega
      rw [ih (n / 10) least (dg n ++ s) (by omega) (by rw [hl]; omega), hl, h1]
      have hd : Lib.decDigits n = Lib.decDigits (n / 10) ++ dg n := by rw [Lib.decDigits, dif_neg h10]; rfl
      rw [hd, List.append_assoc, show s.length + 1 + Lib.nDigits (n / 10) = s.length + (Lib.nDigits (n / 10) + 1) by omega]
theorem refD_eq (n sc : Nat) (hn : n ≤ 9223372036854775807) (hs : sc ≤ 9) : refD n (sc + 1) = numD n sc := by
  have h20 := Lib.itoa_length_le (n : Int) (by omega) (by omega)
  rw [Lib.itoa_nonneg, Lib.decDigits_length] at h20
  unfold refD numD
  rw [Lib.itoa_nonneg, Lib.decDigits_length]
  have hp := Lib.nDigits_pos n
  by_cases h0 : n = 0
  · subst h0
    rw [refDF_pad 22 (sc + 1) [] (by simp; omega)]
    have h1 : Lib.nDigits 0 = 1 := Lib.nDigits_small (by decide)
    have h2 : Lib.decDigits 0 = [48] := Lib.decDigits_one (by decide)
    rw [h1, h2]
    by_cases hz : sc = 0
    · subst hz; rfl
    · rw [if_pos (by omega)]
      rw [show ((sc : Int) + 1 - ((1 : Nat) : Int)).toNat = sc by omega, rep_comm]
      show Lib.repeatL [48] (sc + 1) ++ [] = _
      simp [Lib.repeatL]
  · rw [refDF_num 22 n (sc + 1) [] (by omega) (by simp; omega)]
    simp only [List.length_nil, Nat.zero_add, List.append_nil]
    split
    · rw [show ((sc : Int) + 1 - (Lib.nDigits n : Int)).toNat = sc + 1 - Lib.nDigits n by omega]
    · rw [show sc + 1 - Lib.nDigits n = 0 by omega]; rfl
theorem numD_zero (n : Nat) (hn : n ≤ 9223372036854775807) : numD n 0 = Lib.itoa (n : Int) := by
  unfold numD
  rw [Lib.itoa_nonneg, Lib.decDigits_length]
  have hp := Lib.nDigits_pos n
  rw [if_neg (by omega)]
theorem refDF_stop {f n least : Nat} {s : Bs} (h : ¬ (0 < n ∨ s.length < least)) : refDF f n least s = s := by
  cases f with
  | zero => rfl
  | succ f => unfold refDF; rw [if_neg h]

set_option maxRecDepth 100000 in
set_option maxHeartbeats 4000000 in
theorem refDigits_any (w : World) (n least : Nat) (hn : n ≤ 9223372036854775807) (hl : least ≤ 10) : Calls Tryz.prog 38 #[.int .i64 n, .int .i64 least] w fun e w' => e = .returned (.string ⟨(refD n least).toArray⟩) ∧ Mods [] w w' := by
  have hM0 := Mods.refl [] w
  go_enter Tryz.func38, Tryz.ntmps38
  go_wp2_with fail
  go_loopg [0, 5] 22 (fun gk t0 t5 wr => ∃ (m : Nat) (s : Bs), t0 = .int .i64 m ∧ t5 = .string ⟨s.toArray⟩ ∧ m < 10 ^ gk ∧ m ≤ 9223372036854775807 ∧ s.length + gk = 22 ∧ refDF gk m least s = refD n least ∧ Mods [] w wr)
  case atStart => exact ⟨n, [], rfl, rfl, by omega, hn, rfl, rfl, hM0⟩
  obtain ⟨m, s, rfl, rfl, hm10, hm, hsl, hF, hMr⟩ := hrel
  by_cases h9 : 0 < m ∨ s.length < least
  · cases gk with
    | zero => simp at hm10; omega
    | succ gk =>
    have hF2 : refDF gk (m / 10) least (dg m ++ s) = refD n least := by
      rw [← hF]
      show _ = if 0 < m ∨ s.length < least then _ else _
      rw [if_pos h9]
    have hlen : (dg m ++ s).length + gk = 22 := by
      rw [List.length_append]
      show 1 + s.length + gk = 22
      omega
    have hm2 : m / 10 < 10 ^ gk := by
      rw [Nat.pow_succ] at hm10
      exact Nat.div_lt_of_lt_mul (by omega)
    have hqz : (m : Int).tdiv 10 = ((m / 10 : Nat) : Int) := by
      rw [Int.tdiv_eq_ediv_of_nonneg (by omega)]
      omega
    have hrz : (m : Int).tmod 10 = (m : Int) % 10 := Int.tmod_eq_emod_of_nonneg (by omega)
    have hc := convD wr m
    have hv1 : IntKind.u8.wrap (48 + (m : Int) % 10) = 48 + (m : Int) % 10 := IntWalk.u8_in _ (by omega)
    have hcat : (⟨(dg m).toArray⟩ : ByteArray) ++ ⟨s.toArray⟩ = ⟨(dg m ++ s).toArray⟩ := cat2 _ _
    have hs1 : (⟨s.toArray⟩ : ByteArray).size ≤ 22 := by show s.length ≤ 22; omega
    have hs2 : (⟨(dg m).toArray⟩ : ByteArray).size = 1 := rfl
    have hs3 : (⟨s.toArray⟩ : ByteArray).size = s.length := rfl
    have hMn := hMr.alloc (.cells #[.int .u8 (48 + (m : Int) % 10)] 5)
    have hM6 : m / 10 ≤ 9223372036854775807 := by omega
    obtain ⟨D1, hD1⟩ : ∃ D : ByteArray, (⟨(dg m).toArray⟩ : ByteArray) = D := ⟨_, rfl⟩
    obtain ⟨S1, hS1⟩ : ∃ D : ByteArray, (⟨s.toArray⟩ : ByteArray) = D := ⟨_, rfl⟩
    rw [hD1] at hc hcat hs2
    rw [hS1] at hcat hs1 hs3
    rw [hS1]
    have n1 : ¬ 9223372036854775807 < D1.size + S1.size := by omega
    have HC := Lib.hid hcat
    have HF := Lib.hid (And.intro hm2 (And.intro hlen hF2))
    have htest : (0 < m) ∨ (¬ 0 < m ∧ S1.size < least) := by omega
    clear hcat hF hF2 hlen hm2 hm10 h9 hD1 hS1 hsl hs3
    rcases htest with h0 | ⟨h0, h1⟩
    · have t0 : (0 : Int) < (m : Int) := by omega
      clear h0
      go_wp2_with fail
      go_roundg gk
      case measure => omega
      case rel => exact ⟨m / 10, dg m ++ s, by go_num, by rw [HC.out], HF.out.1, hM6, HF.out.2.1, HF.out.2.2, hMn⟩
    · obtain rfl : m = 0 := by omega
      have t1 : (S1.size : Int) < (least : Int) := by omega
      have hc : (convert 119 9 (.slice (some ⟨wr.heap.size, 0, none⟩) 1 1)).run Tryz.prog (wr.alloc (.cells #[.int .u8 48] 5)) = .ok (.string D1) (wr.alloc (.cells #[.int .u8 48] 5)) := hc
      have hMn : Mods [] w (wr.alloc (.cells #[.int .u8 48] 5)) := hMn
      clear h0 h1 hqz hrz hv1 hm hM6
      go_wp2_with fail
      go_roundg gk
      case measure => omega
      case rel => exact ⟨0, dg 0 ++ s, rfl, by rw [HC.out], HF.out.1, by omega, HF.out.2.1, HF.out.2.2, hMn⟩
  · rw [refDF_stop h9] at hF
    obtain rfl : m = 0 := by omega
    have t1 : ¬ ((⟨s.toArray⟩ : ByteArray).size : Int) < (least : Int) := by show ¬ ((s.length : Nat) : Int) < _; omega
    have HF := Lib.hid hF
    obtain ⟨S1, hS1⟩ : ∃ D : ByteArray, (⟨s.toArray⟩ : ByteArray) = D := ⟨_, rfl⟩
    rw [hS1] at t1
    rw [hS1]
    have HS := Lib.hid hS1
    clear hm10 h9 hF hS1
    go_wp2_with fail
    go_ret
    exact ⟨by rw [← HF.out, HS.out]; rfl, hMr⟩
end Go.Proofs.YtpokbepenacnpaaGreatDoor

namespace Go.Proofs.YtpokbepenacnpaaGreatDoor
open Go.RowKit
set_option linter.unusedVariables false

theorem join_snoc (x sep y : Bs) (xs : List Bs) : Lib.join (x :: (xs ++ [y])) sep = Lib.join (x :: xs) sep ++ sep ++ y := by
  rw [Lib.join_cons, Lib.join_cons]
  simp [Lib.joinTail]
theorem upperTrue : (Lib.toUpperA (Lib.formatBool true)) = [84, 82, 85, 69] := by decide +kernel
theorem upperFalse : (Lib.toUpperA (Lib.formatBool false)) = [70, 65, 76, 83, 69] := by decide +kernel

set_option maxRecDepth 100000 in
set_option maxHeartbeats 4000000 in
theorem rshow_text (w : World) (b : Nat) (h : Hd) (va : Value) (hok : HdOk h) (hop : h.op = oText) (hb : w.heap[b]? = some (.cells (hdC h va).toArray 174 (0, 0))) :
    Calls Tryz.prog 37 #[PtrV b] w fun e w' => e = .returned (.string ⟨([39] ++ h.s ++ [39]).toArray⟩) ∧ Mods [] w w' := by
  obtain ⟨-, -, -, hs, -, -⟩ := hok
  have c0 := cell_of_heap hb 0
  have c6 := cell_of_heap hb 6
  change w.cell? _ = some (.string ⟨h.op.toArray⟩) at c0
  rw [hop] at c0
  change w.cell? _ = some (.string ⟨#[116, 101, 120, 116]⟩) at c0
  change w.cell? _ = some (.string ⟨h.s.toArray⟩) at c6
  obtain ⟨S, hS⟩ : ∃ S : ByteArray, (⟨h.s.toArray⟩ : ByteArray) = S := ⟨_, rfl⟩
  have hsz : S.size ≤ 300 := by rw [← hS]; exact hs
  have hr : (⟨#[39]⟩ : ByteArray) ++ S ++ ⟨#[39]⟩ = ⟨([39] ++ h.s ++ [39]).toArray⟩ := by rw [← hS]; exact cat3 [39] h.s [39]
  rw [hS] at c6
  have HR := Lib.hid hr
  unfold PtrV
  generalize ([39] ++ h.s ++ [39] : Bs) = R at *
  clear hb hop hS hr hs
  go_enter Tryz.func37, Tryz.ntmps37
  go_wp2_with fail
  go_ret
  exact ⟨congrArg (fun x => Ending.returned (Value.string x)) HR.out, Mods.refl _ _⟩

set_option maxRecDepth 100000 in
set_option maxHeartbeats 4000000 in
theorem rshow_null (w : World) (b : Nat) (h : Hd) (va : Value) (hop : h.op = oNull) (hb : w.heap[b]? = some (.cells (hdC h va).toArray 174 (0, 0))) :
    Calls Tryz.prog 37 #[PtrV b] w fun e w' => e = .returned (.string ⟨#[78, 85, 76, 76]⟩) ∧ Mods [] w w' := by
  have c0 := cell_of_heap hb 0
  change w.cell? _ = some (.string ⟨h.op.toArray⟩) at c0
  rw [hop] at c0
  change w.cell? _ = some (.string ⟨#[110, 117, 108, 108]⟩) at c0
  unfold PtrV
  clear hb hop
  go_enter Tryz.func37, Tryz.ntmps37
  go_wp2_with fail
  go_ret
  exact ⟨rfl, Mods.refl _ _⟩

set_option maxRecDepth 100000 in
set_option maxHeartbeats 4000000 in
theorem rshow_nil (w : World) : Calls Tryz.prog 37 #[.pointer none] w fun e w' => e = .returned (.string ⟨#[45]⟩) ∧ Mods [] w w' := by
  go_enter Tryz.func37, Tryz.ntmps37
  go_wp2_with fail
  go_ret
  exact ⟨rfl, Mods.refl _ _⟩

set_option maxRecDepth 100000 in
set_option maxHeartbeats 4000000 in
theorem rshow_column (w : World) (b : Nat) (h : Hd) (va : Value) (hok : HdOk h) (hop : h.op = oColumn) (hb : w.heap[b]? = some (.cells (hdC h va).toArray 174 (0, 0))) :
    Calls Tryz.prog 37 #[PtrV b] w fun e w' => e = .returned (.string ⟨(if h.table ≠ [] then h.table ++ [46] ++ h.name else h.name).toArray⟩) ∧ Mods [] w w' := by
  obtain ⟨-, ht, hn, -, -, -⟩ := hok
  have c0 := cell_of_heap hb 0
  have c2 := cell_of_heap hb 2
  have c3 := cell_of_heap hb 3
  change w.cell? _ = some (.string ⟨h.op.toArray⟩) at c0
  rw [hop] at c0
  change w.cell? _ = some (.string ⟨#[99, 111, 108, 117, 109, 110]⟩) at c0
  change w.cell? _ = some (.string ⟨h.table.toArray⟩) at c2
  change w.cell? _ = some (.string ⟨h.name.toArray⟩) at c3
  obtain ⟨X, hX⟩ : ∃ X : ByteArray, (⟨h.table.toArray⟩ : ByteArray) = X := ⟨_, rfl⟩
  obtain ⟨Y, hY⟩ : ∃ Y : ByteArray, (⟨h.name.toArray⟩ : ByteArray) = Y := ⟨_, rfl⟩
  have hxs : X.size ≤ 300 := by rw [← hX]; exact ht
  have hys : Y.size ≤ 300 := by rw [← hY]; exact hn
  rw [hX] at c2
  rw [hY] at c3
  by_cases he : h.table = []
  · have hr : Y = ⟨(if h.table ≠ [] then h.table ++ [46] ++ h.name else h.name).toArray⟩ := by rw [← hY, if_neg (by simpa using he)]
    obtain rfl : X = ⟨#[]⟩ := by rw [← hX, he]
    have HR := Lib.hid hr
    generalize (if h.table ≠ [] then h.table ++ [46] ++ h.name else h.name) = R at *
    unfold PtrV
    clear hb hop hX hY hr he ht hn hxs
    go_enter Tryz.func37, Tryz.ntmps37
    go_wp2_with fail
    go_ret
    exact ⟨congrArg (fun x => Ending.returned (Value.string x)) HR.out, Mods.refl _ _⟩
  · have hr : X ++ ⟨#[46]⟩ ++ Y = ⟨(if h.table ≠ [] then h.table ++ [46] ++ h.name else h.name).toArray⟩ := by rw [← hX, ← hY, if_pos (by simpa using he)]; exact cat3 h.table [46] h.name
    have hx0 : ¬ X.toList = [] := by rw [ByteArray.toList_eq, ← hX]; exact fun h => he (by simpa using h)
    have hx1 : (X.toList == []) = false := by rw [beq_eq_false_iff_ne]; exact hx0
    have hx2 : X.toList.isEmpty = false := by cases hl : X.toList with
      | nil => exact absurd hl hx0
      | cons a l => rfl
    have HR := Lib.hid hr
    generalize (if h.table ≠ [] then h.table ++ [46] ++ h.name else h.name) = R at *
    unfold PtrV
    clear hb hop hX hY hr he ht hn
    go_enter Tryz.func37, Tryz.ntmps37
    go_wp2_with fail
    go_quiet (fail)
    generalize hw : w.drewN nq = wz
    go_wp2_with fail
    go_ret
    exact ⟨congrArg (fun x => Ending.returned (Value.string x)) HR.out, by rw [← hw]; exact (Mods.refl _ _).drewN _⟩
set_option maxRecDepth 100000 in
set_option maxHeartbeats 4000000 in
theorem rshow_bool (w : World) (b : Nat) (h : Hd) (va : Value) (hok : HdOk h) (hop : h.op = oBool) (hb : w.heap[b]? = some (.cells (hdC h va).toArray 174 (0, 0))) :
    Calls Tryz.prog 37 #[PtrV b] w fun e w' => e = .returned (.string ⟨(Lib.toUpperA (Lib.formatBool (decide (h.n = 1)))).toArray⟩) ∧ Mods [] w w' := by
  have c0 := cell_of_heap hb 0
  have c4 := cell_of_heap hb 4
  change w.cell? _ = some (.string ⟨h.op.toArray⟩) at c0
  rw [hop] at c0
  change w.cell? _ = some (.string ⟨#[98, 111, 111, 108]⟩) at c0
  change w.cell? _ = some (.int .i64 h.n) at c4
  unfold PtrV
  by_cases hn : h.n = 1
  · have hz : ((h.n : Int) == 1) = true := by rw [hn]; rfl
    rw [decide_eq_true hn, upperTrue]
    clear hb hop hn
    go_enter Tryz.func37, Tryz.ntmps37
    go_wp2_with fail
    go_ret
    exact ⟨rfl, Mods.refl _ _⟩
  · have hz : ((h.n : Int) == 1) = false := by rw [beq_eq_false_iff_ne]; omega
    rw [decide_eq_false hn, upperFalse]
    clear hb hop hn
    go_enter Tryz.func37, Tryz.ntmps37
    go_wp2_with fail
    go_ret
    exact ⟨rfl, Mods.refl _ _⟩

set_option maxRecDepth 100000 in
set_option maxHeartbeats 4000000 in
theorem rshow_number (w : World) (b : Nat) (h : Hd) (va : Value) (hok : HdOk h) (hop : h.op = oNumber) (hb : w.heap[b]? = some (.cells (hdC h va).toArray 174 (0, 0))) :
    Calls Tryz.prog 37 #[PtrV b] w fun e w' => e = .returned (.string ⟨(numS h.n h.scale).toArray⟩) ∧ Mods [] w w' := by
  obtain ⟨-, -, -, -, hn, hsc⟩ := hok
  have c0 := cell_of_heap hb 0
  have c4 := cell_of_heap hb 4
  have c5 := cell_of_heap hb 5
  change w.cell? _ = some (.string ⟨h.op.toArray⟩) at c0
  rw [hop] at c0
  change w.cell? _ = some (.string ⟨#[110, 117, 109, 98, 101, 114]⟩) at c0
  change w.cell? _ = some (.int .i64 h.n) at c4
  change w.cell? _ = some (.int .i64 h.scale) at c5
  have hdg := refDigits_any w.drew h.n (h.scale + 1) hn (by omega)
  rw [refD_eq h.n h.scale hn hsc] at hdg
  have hdl := numD_len h.n h.scale hn hsc
  have hnum : numS h.n h.scale = (if 0 < h.scale then (numD h.n h.scale).take ((numD h.n h.scale).length - h.scale) ++ [46] ++ (numD h.n h.scale).drop ((numD h.n h.scale).length - h.scale) else numD h.n h.scale) := rfl
  generalize numS h.n h.scale = R at *
  generalize numD h.n h.scale = ND at *
  rw [Int.natCast_add] at hdg
  change Calls _ _ #[.int .i64 (h.n : Int), .int .i64 ((h.scale : Int) + 1)] _ _ at hdg
  obtain ⟨S0, hS0⟩ : ∃ S0 : ByteArray, (⟨ND.toArray⟩ : ByteArray) = S0 := ⟨_, rfl⟩
  have hsz : S0.size = ND.length := by rw [← hS0]; rfl
  have hDD : ND = S0.data.toList := by rw [← hS0]
  rw [hS0] at hdg
  obtain ⟨k, hkk⟩ : ∃ k, S0.size = k := ⟨_, rfl⟩
  have hk1 : h.scale < k := by omega
  have hk2 : k ≤ 31 := by omega
  have hdr := (Mods.refl [] w).drew
  have c4d := hdr.cell c4 (by simp)
  have c5d := hdr.cell c5 (by simp)
  have HN := Lib.hid (And.intro hnum (And.intro hDD (And.intro hkk hS0)))
  generalize h.scale = sc at *
  generalize h.n = nn at *
  have hwr : IntKind.i64.wrap ((sc : Int) + 1) = (sc : Int) + 1 := IntWalk.i64_in _ (by omega)
  unfold PtrV
  clear hb hop hS0 hsz hDD hnum hdl
  go_enter Tryz.func37, Tryz.ntmps37
  go_upto_region 5 with fail
  go_region_law (first | (go_simp; go_at_call 38; (with_reducible refine hdg.mono ?_); rintro e w2 ⟨rfl, hM2⟩))
  all_goals
    have c52 := hM2.cell c5d (by simp)
    have hMw := hdr.trans hM2 (by simp)
    clear hdg c0 c4 c4d c5 c5d hdr hM2
    by_cases hs0 : 0 < sc
    · have fin := Lib.hid (num_eq (B := S0) (l := ND) (R := R) (n := k) (sc := sc) HN.out.2.1 HN.out.2.2.1 (by rw [HN.out.1, if_pos hs0]))
      have hg : (0 : Int) < (sc : Int) := by omega
      go_upto_region 7 with fail
      go_quiet (fail)
      go_wp2_with fail
      go_ret
      exact ⟨congrArg (fun x => Ending.returned (Value.string x)) fin.out, hMw.drewN _⟩
    · have hr : S0 = ⟨R.toArray⟩ := by rw [HN.out.1, if_neg hs0]; exact HN.out.2.2.2.symm
      have hg : ¬ (0 : Int) < (sc : Int) := by omega
      have HR := Lib.hid hr
      clear hr
      go_wp2_with fail
      go_ret
      exact ⟨congrArg (fun x => Ending.returned (Value.string x)) HR.out, hMw⟩

set_option maxRecDepth 100000 in
set_option maxHeartbeats 4000000 in
theorem rshow_other (w : World) (b : Nat) (h : Hd) (us : List Value) (xs : List Bs) (ao : Option Addr) (hok : HdOk h) (h1 : ¬ h.op = oNumber) (h2 : ¬ h.op = oText) (h3 : ¬ h.op = oBool) (h4 : ¬ h.op = oNull) (h5 : ¬ h.op = oColumn)
    (hb : w.heap[b]? = some (.cells (hdC h (.slice ao us.length us.length)).toArray 174 (0, 0))) (hl : xs.length = us.length) (hn : us.length ≤ 2)
    (hao : 0 < us.length → ∃ c, ao = some ⟨c, 0, none⟩ ∧ ∀ i (hi : i < us.length), w.cell? ⟨c, i, none⟩ = some us[i]) (hxs : (xs.map (fun a => 1 + a.length)).sum ≤ 1000000000)
    (hsub : ∀ i (hi : i < us.length) (hx : i < xs.length) W, Mods [] w W → Calls Tryz.prog 37 #[us[i]] W fun e w' => e = .returned (.string ⟨xs[i].toArray⟩) ∧ Mods [] W w') :
    Calls Tryz.prog 37 #[PtrV b] w fun e w' => e = .returned (.string ⟨([40] ++ Lib.join (h.op :: xs) [32] ++ [41]).toArray⟩) ∧ Mods [] w w' := by
  have c0 := cell_of_heap hb 0
  have c7 := cell_of_heap hb 7
  change w.cell? _ = some (.string ⟨h.op.toArray⟩) at c0
  change w.cell? _ = some (.slice ao us.length us.length) at c7
  have o1 : (h.op == [110, 117, 109, 98, 101, 114]) = false := ne_text h1
  have o2 : (h.op == [116, 101, 120, 116]) = false := ne_text h2
  have o3 : (h.op == [98, 111, 111, 108]) = false := ne_text h3
  have o4 : (h.op == [110, 117, 108, 108]) = false := ne_text h4
  have o5 : (h.op == [99, 111, 108, 117, 109, 110]) = false := ne_text h5
  obtain ⟨n, hnn⟩ : ∃ n, us.length = n := ⟨_, rfl⟩
  rw [hnn] at c7
  have hn2 : n ≤ 2 := by omega
  have e32 : ([32] : Bs).length = 1 := rfl
  have hjb : ∀ i, ([40] ++ Lib.join (h.op :: xs.take i) [32] : Bs).length ≤ 1000000301 := fun i => by
    have hjl := join_len h.op [32] (xs.take i)
    rw [e32] at hjl
    have h6 : ((xs.take i).map (fun a => 1 + a.length)).sum ≤ (xs.map (fun a => 1 + a.length)).sum := by
      conv => rhs; rw [← List.take_append_drop i xs]
      rw [List.map_append, List.sum_append]
      omega
    have := hok.1
    rw [List.length_append, hjl]
    show 1 + _ ≤ _
    omega
  have hxl : ∀ i (hi : i < xs.length), xs[i].length ≤ 1000000000 := fun i hi => by
    have h6 := hjb (i + 1)
    rw [List.take_succ_eq_append_getElem hi, join_snoc] at h6
    have : 1 + xs[i].length ≤ (xs.map (fun a => 1 + a.length)).sum := by
      conv => rhs; rw [← List.take_append_drop i xs, List.drop_eq_getElem_cons hi]
      rw [List.map_append, List.sum_append, List.map_cons, List.sum_cons]
      omega
    omega
  have hop3 : h.op.length ≤ 300 := hok.1
  have HA := Lib.hid (And.intro hao (And.intro hsub (And.intro hnn (And.intro hl (And.intro hjb hxl)))))
  unfold PtrV
  clear hb hok h1 h2 h3 h4 h5 hl hao hsub hnn hxs hn e32 hjb hxl
  obtain ⟨R, hR⟩ : ∃ R : Bs, ([40] ++ Lib.join (h.op :: xs) [32] ++ [41] : Bs) = R := ⟨_, rfl⟩
  rw [hR]
  have HR := Lib.hid hR
  clear hR
  obtain ⟨O0, hO0⟩ : ∃ O0 : ByteArray, (⟨h.op.toArray⟩ : ByteArray) = O0 := ⟨_, rfl⟩
  have hOs : O0.size ≤ 300 := by rw [← hO0]; exact hop3
  obtain ⟨S0, hS0⟩ : ∃ S0 : ByteArray, (⟨#[40]⟩ : ByteArray) ++ O0 = S0 := ⟨_, rfl⟩
  have HS0 : Hid (S0 = ⟨([40] ++ Lib.join (h.op :: xs.take 0) [32] : Bs).toArray⟩) := Lib.hid (by rw [← hS0, ← hO0, List.take_zero, Lib.join_one]; exact cat2 [40] h.op)
  have HO0 := Lib.hid hO0
  have HS00 := Lib.hid hS0
  clear hO0 hS0
  go_enter Tryz.func37, Tryz.ntmps37
  go_upto_region 21 with fail
  rw [HO0.out] at c0
  clear o1 o2 o3 o4 o5 hop3
  go_upto_region 22 with fail
  rw [HS00.out]
  clear c0
  go_wp2_with fail
  go_loopg [4, 5] n (fun gk t4 t5 wr => ∃ (i : Nat), i + gk = n ∧ t5 = .int .i64 i ∧ t4 = .string ⟨([40] ++ Lib.join (h.op :: xs.take i) [32] : Bs).toArray⟩ ∧ Mods [] w wr)
  case atStart => exact ⟨0, by omega, rfl, by rw [HS0.out], Mods.refl _ _⟩
  clear HS0
  obtain ⟨i, hin, rfl, rfl, hM⟩ := hrel
  have c7w := hM.cell c7 (by simp)
  have hjb := HA.out.2.2.2.2.1 i
  by_cases hlt : i < n
  · obtain ⟨c, rfl, hcells⟩ := HA.out.1 (by rw [HA.out.2.2.1]; omega)
    have hiu : i < us.length := by rw [HA.out.2.2.1]; exact hlt
    have hix : i < xs.length := by rw [HA.out.2.2.2.1]; exact hiu
    have k0 := hM.cell (hcells i hiu) (by simp)
    have hca := HA.out.2.1 i hiu hix wr hM
    have hxb := HA.out.2.2.2.2.2 i hix
    have htk : (⟨([40] ++ Lib.join (h.op :: xs.take i) [32] : Bs).toArray⟩ : ByteArray) ++ ⟨#[32]⟩ ++ ⟨xs[i].toArray⟩ = ⟨([40] ++ Lib.join (h.op :: xs.take (i + 1)) [32] : Bs).toArray⟩ := by
      rw [List.take_succ_eq_append_getElem hix, join_snoc, ← List.append_assoc, ← List.append_assoc]
      exact cat3 ([40] ++ Lib.join (h.op :: xs.take i) [32]) [32] xs[i]
    generalize us[i] = u at *
    generalize xs[i] = x at *
    obtain ⟨S, hS⟩ : ∃ S : ByteArray, (⟨([40] ++ Lib.join (h.op :: xs.take i) [32] : Bs).toArray⟩ : ByteArray) = S := ⟨_, rfl⟩
    obtain ⟨X, hX⟩ : ∃ X : ByteArray, (⟨x.toArray⟩ : ByteArray) = X := ⟨_, rfl⟩
    have hs1 : S.size ≤ 1000000301 := by rw [← hS]; exact hjb
    have hs2 : X.size ≤ 1000000000 := by rw [← hX]; exact hxb
    rw [hS, hX] at htk
    rw [hX] at hca
    rw [hS]
    have HTK := Lib.hid htk
    have HM := Lib.hid hM
    have h63 : ¬ 9223372036854775807 < S.size + 1 := by omega
    have h64 : ¬ 9223372036854775807 < (S ++ (⟨#[32]⟩ : ByteArray)).size + X.size := by rw [ByteArray.size_append]; show ¬ 9223372036854775807 < S.size + 1 + X.size; omega
    clear hcells htk hS hX hjb hxb c7 hM
    go_wp2_with fail
    (with_reducible refine hca.mono ?_)
    rintro e w2 ⟨rfl, hM2⟩
    have hM3 := HM.out.trans hM2 (by simp)
    clear hca k0 hM2 c7w
    go_wp2_with fail
    go_roundg (n - (i + 1))
    case measure => omega
    case rel => exact ⟨i + 1, by omega, by go_num, by rw [← HTK.out], hM3⟩
  · obtain rfl : n = i := by omega
    have hx : xs.take n = xs := List.take_of_length_le (by rw [HA.out.2.2.2.1, HA.out.2.2.1]; omega)
    rw [hx] at hjb ⊢
    obtain ⟨S, hS⟩ : ∃ S : ByteArray, (⟨([40] ++ Lib.join (h.op :: xs) [32] : Bs).toArray⟩ : ByteArray) = S := ⟨_, rfl⟩
    have hs1 : S.size ≤ 1000000301 := by rw [← hS]; exact hjb
    rw [hS]
    have hf : S ++ (⟨#[41]⟩ : ByteArray) = ⟨R.toArray⟩ := by rw [← hS, ← HR.out]; exact cat2 ([40] ++ Lib.join (h.op :: xs) [32]) [41]
    have HF := Lib.hid hf
    clear hf hS hjb hx
    go_wp2_with fail
    go_ret
    exact ⟨congrArg (fun x => Ending.returned (Value.string x)) HF.out, hM⟩

theorem rshow_node (w : World) (b : Nat) (h : Hd) (us : List Value) (xs : List Bs) (ao : Option Addr) (hok : HdOk h)
    (hb : w.heap[b]? = some (.cells (hdC h (.slice ao us.length us.length)).toArray 174 (0, 0))) (hl : xs.length = us.length) (hn : us.length ≤ 2)
    (hao : 0 < us.length → ∃ c, ao = some ⟨c, 0, none⟩ ∧ ∀ i (hi : i < us.length), w.cell? ⟨c, i, none⟩ = some us[i]) (hxs : (xs.map (fun a => 1 + a.length)).sum ≤ 1000000000)
    (hsub : ∀ i (hi : i < us.length) (hx : i < xs.length) W, Mods [] w W → Calls Tryz.prog 37 #[us[i]] W fun e w' => e = .returned (.string ⟨xs[i].toArray⟩) ∧ Mods [] W w') :
    Calls Tryz.prog 37 #[PtrV b] w fun e w' => e = .returned (.string ⟨(nodeS h xs).toArray⟩) ∧ Mods [] w w' := by
  unfold nodeS
  by_cases h1 : h.op = oNumber
  · rw [if_pos h1]; exact rshow_number w b h _ hok h1 hb
  rw [if_neg h1]
  by_cases h2 : h.op = oText
  · rw [if_pos h2]; exact rshow_text w b h _ hok h2 hb
  rw [if_neg h2]
  by_cases h3 : h.op = oBool
  · rw [if_pos h3]; exact rshow_bool w b h _ hok h3 hb
  rw [if_neg h3]
  by_cases h4 : h.op = oNull
  · rw [if_pos h4]; exact rshow_null w b h _ h4 hb
  rw [if_neg h4]
  by_cases h5 : h.op = oColumn
  · rw [if_pos h5]; exact rshow_column w b h _ hok h5 hb
  rw [if_neg h5]
  exact rshow_other w b h us xs ao hok h1 h2 h3 h4 h5 hb hl hn hao hxs hsub

theorem rshow_any : ∀ (t : Tree) (w : World) (v : Value), ExprAt 174 96 w [] v t → TreeFine t → Calls Tryz.prog 37 #[v] w fun e w' => e = .returned (.string ⟨(showT t).toArray⟩) ∧ Mods [] w w' := by
  intro t
  induction t with
  | leaf h =>
    rintro w v ⟨b, rfl, -, hb⟩ hf
    exact rshow_node w b h [] [] none hf.1 hb rfl (by decide) (by simp) (by simp) (by simp)
  | un h a ih =>
    rintro w v ⟨b, c, u, rfl, -, -, hb, hc, ha⟩ ⟨hf1, hf2⟩
    have hfa : TreeFine a := ⟨hf1.2, by simp only [nodes] at hf2; omega⟩
    have hl := showT_len a hfa.1
    have hn := hfa.2
    exact rshow_node w b h [u] [showT a] (some ⟨c, 0, none⟩) hf1.1 hb rfl (by simp) (fun _ => ⟨c, rfl, fun i hi => by
      obtain rfl : i = 0 := by simp at hi; omega
      exact cell_of_heap hc 0⟩) (by simp; omega) (fun i hi hx W hM => by
      obtain rfl : i = 0 := by simp at hi; omega
      exact ih W u (ha.mods hM) hfa)
  | bin h a d iha ihd =>
    rintro w v ⟨b, c, u, x, rfl, -, -, hb, hc, ha, hd⟩ ⟨hf1, hf2⟩
    have hfa : TreeFine a := ⟨hf1.2.1, by simp only [nodes] at hf2; omega⟩
    have hfd : TreeFine d := ⟨hf1.2.2, by simp only [nodes] at hf2; omega⟩
    have hl := showT_len a hfa.1
    have hn := hfa.2
    have hl2 := showT_len d hfd.1
    have hn2 := hfd.2
    exact rshow_node w b h [u, x] [showT a, showT d] (some ⟨c, 0, none⟩) hf1.1 hb rfl (by simp) (fun _ => ⟨c, rfl, fun i hi => by
      have hi2 : i = 0 ∨ i = 1 := by simp at hi; omega
      rcases hi2 with rfl | rfl
      · exact cell_of_heap hc 0
      · exact cell_of_heap hc 1⟩) (by simp; omega) (fun i hi hx W hM => by
      have hi2 : i = 0 ∨ i = 1 := by simp at hi; omega
      rcases hi2 with rfl | rfl
      · exact iha W u (ha.mods hM) hfa
      · exact ihd W x (hd.mods hM) hfd)
theorem rshow_opt {w W : World} {v : Value} {o : Option Tree} (h : OptD w [] v o) (hM : Mods [] w W) (hf : ∀ t, o = some t → TreeFine t) : Calls Tryz.prog 37 #[v] W fun e w' => e = .returned (.string ⟨(showO o).toArray⟩) ∧ Mods [] W w' := by
  cases o with
  | none => obtain rfl : v = .pointer none := h; exact rshow_nil W
  | some t => obtain ⟨b, rfl, ht⟩ := h; exact rshow_any t W _ (ht.mods hM) (hf t rfl)
end Go.Proofs.YtpokbepenacnpaaGreatDoor
