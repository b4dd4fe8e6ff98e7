/-
  parse.Show, walked: a number, a text, a bool, nothing, a column. No condition but that Go's own table of powers of ten is as it was laid.
-/
import Derived.Test.YtpokbepenacnpaaGreatDoorMPa
import Derived.Test.YtpokbepenacnpaaGreatDoorMPq
import Derived.Test.YtpokbepenacnpaaGreatDoorShelf
import Derived.BigQuiet
import Derived.Lib.AppendIntMem
import Derived.Test.YtpokbepenacnpaaGreatDoorMPt
namespace Go.Proofs.YtpokbepenacnpaaGreatDoor
open Go.RowKit
set_option linter.unusedVariables false

theorem fmt_any (n : Int) (h0 : -9223372036854775808 ≤ n) (h1 : n ≤ 9223372036854775807) (w : World) (hT : Lib.TabIs Tryz.prog w "internal/strconv.uint64pow10" .u64 Lib.pow10Tab) : Calls Tryz.prog 36 #[.int .i64 n, .int .i64 10] w fun e w' => e = .returned (.string ⟨(Lib.itoa n).toArray⟩) ∧ Mods [] w w' :=
  (Tryz.strconv_FormatInt_10 n h0 h1 w hT).mono fun e w' he => by
    obtain ⟨rfl, k, os, rfl⟩ := he
    exact ⟨rfl, Mods.of_below (Lib.below_grow w.heap.size w (Nat.le_refl _) k os) (Nat.le_refl _) []⟩
theorem rep_any (z : Int) (h0 : 0 ≤ z) (h1 : z ≤ 100) (w : World) : Calls Tryz.prog 49 #[.string ⟨#[48]⟩, .int .i64 z] w fun e w' => e = .returned (.string ⟨(Lib.repeatL [48] z.toNat).toArray⟩) ∧ Mods [] w w' := by
  obtain ⟨k, rfl⟩ : ∃ k : Nat, z = k := ⟨z.toNat, by omega⟩
  exact (Tryz.strings_Repeat ⟨#[48]⟩ k w (by omega) (by show 1 * k ≤ _; omega)).mono fun e w' he => ⟨he.1, Mods.of_below he.2 (Nat.le_refl _) []⟩
theorem num_eq {B : ByteArray} {l R : Bs} {n sc : Nat} (hl : l = B.data.toList) (hn : B.size = n) (hR : R = l.take (l.length - sc) ++ [46] ++ l.drop (l.length - sc)) : B.extract 0 (n - sc) ++ (⟨#[46]⟩ : ByteArray) ++ B.extract (n - sc) n = ⟨R.toArray⟩ := by
  have h2 : l.length = n := by rw [hl, ← hn]; rfl
  apply ByteArray.ext
  apply Array.toList_inj.1
  rw [hR, h2, hl]
  have h3 : B.data.toList.length = n := by rw [← hl, h2]
  simp [ByteArray.data_append, ByteArray.data_extract, Array.toList_append, Array.toList_extract, List.extract]
  exact List.take_of_length_le (by rw [List.length_drop, h3]; omega)
def Pow (w : World) : Prop := Lib.TabIs Tryz.prog w "internal/strconv.uint64pow10" .u64 Lib.pow10Tab

set_option maxRecDepth 100000 in
set_option maxHeartbeats 4000000 in
theorem show_number (w : World) (b : Nat) (h : Hd) (va : Value) (hT : Pow w) (hok : HdOk h) (hop : h.op = oNumber) (hb : w.heap[b]? = some (.cells (hdC h va).toArray 138 (0, 0))) :
    Calls Tryz.prog 24 #[PtrV b] w fun e w' => e = .returned (.string ⟨(numS h.n h.scale).toArray⟩) ∧ Mods [] w w' := by
  obtain ⟨-, -, -, -, hn, hsc⟩ := hok
  have c0 := cell_of_heap hb 0
  have c4 := cell_of_heap hb 4
  have c5 := cell_of_heap hb 5
  change w.cell? _ = some (.string ⟨h.op.toArray⟩) at c0
  rw [hop] at c0
  change w.cell? _ = some (.string ⟨#[110, 117, 109, 98, 101, 114]⟩) at c0
  change w.cell? _ = some (.int .i64 h.n) at c4
  change w.cell? _ = some (.int .i64 h.scale) at c5
  have hlen := Lib.itoa_length_le (h.n : Int) (by omega) (by omega)
  have hfmt := fmt_any (h.n : Int) (by omega) (by omega) w hT
  obtain ⟨D, hD⟩ : ∃ D, Lib.itoa (h.n : Int) = D := ⟨_, rfl⟩
  obtain ⟨S0, hS0⟩ : ∃ S0 : ByteArray, (⟨D.toArray⟩ : ByteArray) = S0 := ⟨_, rfl⟩
  have hsz : S0.size = D.length := by rw [← hS0]; rfl
  have hDD : S0.data.toList = D := by rw [← hS0]
  rw [hD] at hfmt hlen
  rw [hS0] at hfmt
  have hnum : numS h.n h.scale = (if 0 < h.scale then (numD h.n h.scale).take ((numD h.n h.scale).length - h.scale) ++ [46] ++ (numD h.n h.scale).drop ((numD h.n h.scale).length - h.scale) else numD h.n h.scale) := rfl
  have hnd : numD h.n h.scale = (if (0 : Int) < (h.scale : Int) + 1 - D.length then Lib.repeatL [48] ((h.scale : Int) + 1 - D.length).toNat ++ D else D) := by unfold numD; rw [hD]
  have hdl := numD_len h.n h.scale hn hsc
  have hk : S0.size ≤ 21 := by omega
  obtain ⟨k, hkk⟩ : ∃ k, S0.size = k := ⟨_, rfl⟩
  rw [hkk] at hk
  have HN := Lib.hid (And.intro hnum (And.intro hnd hdl))
  have HS := Lib.hid (And.intro hsz (And.intro hDD hD))
  have hlk : D.length = k := by omega
  have HK := Lib.hid hlk
  unfold PtrV
  clear hb hop hT hS0 hsz hDD hD hnum hnd hdl hlen hlk
  generalize numS h.n h.scale = R at *
  generalize numD h.n h.scale = ND at *
  go_enter Tryz.func24, Tryz.ntmps24
  go_wp2_with fail
  (with_reducible refine hfmt.mono ?_)
  rintro e w2 ⟨rfl, hM2⟩
  have c52 := hM2.cell c5 (by simp)
  clear hfmt c0 c4
  by_cases hm : (0 : Int) < (h.scale : Int) + 1 - k
  · have hrep := rep_any ((h.scale : Int) + 1 - k) (by omega) (by omega) w2
    obtain ⟨z, hz⟩ : ∃ z : Nat, ((h.scale : Int) + 1 - k).toNat = z := ⟨_, rfl⟩
    rw [hz] at hrep
    obtain ⟨RP, hRP⟩ : ∃ RP : ByteArray, (⟨(Lib.repeatL [48] z).toArray⟩ : ByteArray) = RP := ⟨_, rfl⟩
    have hrs : RP.size = z := by rw [← hRP]; show (Lib.repeatL [48] z).length = z; exact repeatL_one 48 z
    have hrd : RP.data.toList = Lib.repeatL [48] z := by rw [← hRP]
    have hz1 : z + k ≤ h.scale + 1 := by omega
    have hz2 : h.scale + 1 ≤ z + k := by omega
    have HR := Lib.hid (And.intro hrd hz)
    rw [hRP] at hrep
    clear hrd hz hRP
    go_wp2_with fail
    (with_reducible refine hrep.mono ?_)
    rintro e w3 ⟨rfl, hM3⟩
    have c53 := hM3.cell c52 (by simp)
    have hnd : ND = RP.data.toList ++ S0.data.toList := by rw [HN.out.2.1, HK.out, if_pos hm, HR.out.1, HS.out.2.1, ← HR.out.2]
    have HND := Lib.hid hnd
    have hMw := hM2.trans hM3 (by simp)
    clear hrep c5 c52 hnd hm
    by_cases hs0 : 0 < h.scale
    · have fin := Lib.hid (num_eq (B := RP ++ S0) (l := ND) (R := R) (n := z + k) (sc := h.scale) (by rw [HND.out]; simp [ByteArray.data_append]) (by rw [ByteArray.size_append, hrs, hkk]) (by rw [HN.out.1, if_pos hs0]))
      go_wp2_with fail
      go_quiet (fail)
      go_wp2_with fail
      go_ret
      exact ⟨congrArg (fun x => Ending.returned (Value.string x)) fin.out, hMw.drewN _⟩
    · have hr : (RP ++ S0 : ByteArray) = ⟨R.toArray⟩ := by rw [HN.out.1, if_neg hs0, HND.out]; apply ByteArray.ext; simp [ByteArray.data_append]
      have HR2 := Lib.hid hr
      clear hr
      go_wp2_with fail
      go_ret
      exact ⟨congrArg (fun x => Ending.returned (Value.string x)) HR2.out, hMw⟩
  · have hnd : ND = S0.data.toList := by rw [HN.out.2.1, HK.out, if_neg hm, HS.out.2.1]
    have HND := Lib.hid hnd
    have hk9 : h.scale + 1 ≤ k := by omega
    clear hnd
    by_cases hs0 : 0 < h.scale
    · have fin := Lib.hid (num_eq (B := S0) (l := ND) (R := R) (n := k) (sc := h.scale) HND.out hkk (by rw [HN.out.1, if_pos hs0]))
      go_wp2_with fail
      go_quiet (fail)
      go_wp2_with fail
      go_ret
      exact ⟨congrArg (fun x => Ending.returned (Value.string x)) fin.out, hM2.drewN _⟩
    · have hr : S0 = ⟨R.toArray⟩ := by rw [HN.out.1, if_neg hs0, HND.out]
      have HR := Lib.hid hr
      clear hr
      go_wp2_with fail
      go_ret
      exact ⟨congrArg (fun x => Ending.returned (Value.string x)) HR.out, hM2⟩
end Go.Proofs.YtpokbepenacnpaaGreatDoor

namespace Go.Proofs.YtpokbepenacnpaaGreatDoor
open Go.RowKit
set_option linter.unusedVariables false

theorem cat3 (a b c : Bs) : (⟨a.toArray⟩ : ByteArray) ++ ⟨b.toArray⟩ ++ ⟨c.toArray⟩ = ⟨(a ++ b ++ c).toArray⟩ := by
  apply ByteArray.ext; apply Array.toList_inj.1; simp [ByteArray.data_append]

set_option maxRecDepth 100000 in
set_option maxHeartbeats 4000000 in
theorem show_text (w : World) (b : Nat) (h : Hd) (va : Value) (hok : HdOk h) (hop : h.op = oText) (hb : w.heap[b]? = some (.cells (hdC h va).toArray 138 (0, 0))) :
    Calls Tryz.prog 24 #[PtrV b] w fun e w' => e = .returned (.string ⟨([39] ++ h.s ++ [39]).toArray⟩) ∧ Mods [] w w' := by
  obtain ⟨-, -, -, hs, -, -⟩ := hok
  have c0 := cell_of_heap hb 0
  have c6 := cell_of_heap hb 6
  change w.cell? _ = some (.string ⟨h.op.toArray⟩) at c0
  rw [hop] at c0
  change w.cell? _ = some (.string ⟨#[116, 101, 120, 116]⟩) at c0
  change w.cell? _ = some (.string ⟨h.s.toArray⟩) at c6
  obtain ⟨S, hS⟩ : ∃ S : ByteArray, (⟨h.s.toArray⟩ : ByteArray) = S := ⟨_, rfl⟩
  have hsz : S.size ≤ 300 := by rw [← hS]; exact hs
  have hr : (⟨#[39]⟩ : ByteArray) ++ S ++ ⟨#[39]⟩ = ⟨([39] ++ h.s ++ [39]).toArray⟩ := by rw [← hS]; exact cat3 [39] h.s [39]
  rw [hS] at c6
  have HR := Lib.hid hr
  unfold PtrV
  generalize ([39] ++ h.s ++ [39] : Bs) = R at *
  clear hb hop hS hr hs
  go_enter Tryz.func24, Tryz.ntmps24
  go_wp2_with fail
  go_ret
  exact ⟨congrArg (fun x => Ending.returned (Value.string x)) HR.out, Mods.refl _ _⟩

set_option maxRecDepth 100000 in
set_option maxHeartbeats 4000000 in
theorem show_null (w : World) (b : Nat) (h : Hd) (va : Value) (hop : h.op = oNull) (hb : w.heap[b]? = some (.cells (hdC h va).toArray 138 (0, 0))) :
    Calls Tryz.prog 24 #[PtrV b] w fun e w' => e = .returned (.string ⟨#[78, 85, 76, 76]⟩) ∧ Mods [] w w' := by
  have c0 := cell_of_heap hb 0
  change w.cell? _ = some (.string ⟨h.op.toArray⟩) at c0
  rw [hop] at c0
  change w.cell? _ = some (.string ⟨#[110, 117, 108, 108]⟩) at c0
  unfold PtrV
  clear hb hop
  go_enter Tryz.func24, Tryz.ntmps24
  go_wp2_with fail
  go_ret
  exact ⟨rfl, Mods.refl _ _⟩

set_option maxRecDepth 100000 in
set_option maxHeartbeats 4000000 in
theorem show_nil (w : World) : Calls Tryz.prog 24 #[.pointer none] w fun e w' => e = .returned (.string ⟨#[45]⟩) ∧ Mods [] w w' := by
  go_enter Tryz.func24, Tryz.ntmps24
  go_wp2_with fail
  go_ret
  exact ⟨rfl, Mods.refl _ _⟩

set_option maxRecDepth 100000 in
set_option maxHeartbeats 4000000 in
theorem show_bool (w : World) (b : Nat) (h : Hd) (va : Value) (hok : HdOk h) (hop : h.op = oBool) (hb : w.heap[b]? = some (.cells (hdC h va).toArray 138 (0, 0))) :
    Calls Tryz.prog 24 #[PtrV b] w fun e w' => e = .returned (.string ⟨(Lib.toUpperA (Lib.formatBool (decide (h.n = 1)))).toArray⟩) ∧ Mods [] w w' := by
  have c0 := cell_of_heap hb 0
  have c4 := cell_of_heap hb 4
  change w.cell? _ = some (.string ⟨h.op.toArray⟩) at c0
  rw [hop] at c0
  change w.cell? _ = some (.string ⟨#[98, 111, 111, 108]⟩) at c0
  change w.cell? _ = some (.int .i64 h.n) at c4
  obtain ⟨d, hd⟩ : ∃ d, decide (h.n = 1) = d := ⟨_, rfl⟩
  rw [hd]
  have hz : ((h.n : Int) == 1) = d := by
    rw [← hd]
    by_cases hn : h.n = 1
    · rw [hn]; rfl
    · rw [decide_eq_false hn, beq_eq_false_iff_ne]; omega
  have hfb : Calls Tryz.prog 51 #[.bool d] w fun e w' => e = .returned (.string ⟨(Lib.formatBool d).toArray⟩) ∧ Mods [] w w' := (Tryz.strconv_FormatBool d w).mono fun e w' ⟨h1, h2⟩ => ⟨h1, by rw [h2]; exact Mods.refl _ _⟩
  have hup : ∀ W, Calls Tryz.prog 50 #[.string ⟨(Lib.formatBool d).toArray⟩] W fun e w' => e = .returned (.string ⟨(Lib.toUpperA (Lib.formatBool d)).toArray⟩) ∧ Mods [] W w' := fun W =>
    (Tryz.strings_ToUpper_ascii ⟨(Lib.formatBool d).toArray⟩ W (by cases d <;> decide +kernel) (by
      intro j b hj
      have hall : ∀ b ∈ Lib.formatBool d, b.toNat < 128 := by cases d <;> decide +kernel
      exact hall b (List.mem_of_getElem? hj))).mono fun e w' ⟨h1, h2⟩ => ⟨h1, Mods.of_below h2 (Nat.le_refl _) []⟩
  have HU := Lib.hid hup
  unfold PtrV
  clear hb hop hup hd
  go_enter Tryz.func24, Tryz.ntmps24
  go_wp2_with fail
  (with_reducible refine hfb.mono ?_)
  rintro e w2 ⟨rfl, hM2⟩
  have hu := HU.out w2
  clear hfb HU
  go_wp2_with fail
  (with_reducible refine hu.mono ?_)
  rintro e w3 ⟨rfl, hM3⟩
  clear hu
  go_wp2_with fail
  go_ret
  exact ⟨rfl, hM2.trans hM3 (by simp)⟩

set_option maxRecDepth 100000 in
set_option maxHeartbeats 4000000 in
theorem show_column (w : World) (b : Nat) (h : Hd) (va : Value) (hok : HdOk h) (hop : h.op = oColumn) (hb : w.heap[b]? = some (.cells (hdC h va).toArray 138 (0, 0))) :
    Calls Tryz.prog 24 #[PtrV b] w fun e w' => e = .returned (.string ⟨(if h.table ≠ [] then h.table ++ [46] ++ h.name else h.name).toArray⟩) ∧ Mods [] w w' := by
  obtain ⟨-, ht, hn, -, -, -⟩ := hok
  have c0 := cell_of_heap hb 0
  have c2 := cell_of_heap hb 2
  have c3 := cell_of_heap hb 3
  change w.cell? _ = some (.string ⟨h.op.toArray⟩) at c0
  rw [hop] at c0
  change w.cell? _ = some (.string ⟨#[99, 111, 108, 117, 109, 110]⟩) at c0
  change w.cell? _ = some (.string ⟨h.table.toArray⟩) at c2
  change w.cell? _ = some (.string ⟨h.name.toArray⟩) at c3
  obtain ⟨X, hX⟩ : ∃ X : ByteArray, (⟨h.table.toArray⟩ : ByteArray) = X := ⟨_, rfl⟩
  obtain ⟨Y, hY⟩ : ∃ Y : ByteArray, (⟨h.name.toArray⟩ : ByteArray) = Y := ⟨_, rfl⟩
  have hxs : X.size ≤ 300 := by rw [← hX]; exact ht
  have hys : Y.size ≤ 300 := by rw [← hY]; exact hn
  rw [hX] at c2
  rw [hY] at c3
  by_cases he : h.table = []
  · have hr : Y = ⟨(if h.table ≠ [] then h.table ++ [46] ++ h.name else h.name).toArray⟩ := by rw [← hY, if_neg (by simpa using he)]
    obtain rfl : X = ⟨#[]⟩ := by rw [← hX, he]
    have HR := Lib.hid hr
    generalize (if h.table ≠ [] then h.table ++ [46] ++ h.name else h.name) = R at *
    unfold PtrV
    clear hb hop hX hY hr he ht hn hxs
    go_enter Tryz.func24, Tryz.ntmps24
    go_wp2_with fail
    go_ret
    exact ⟨congrArg (fun x => Ending.returned (Value.string x)) HR.out, Mods.refl _ _⟩
  · have hr : X ++ ⟨#[46]⟩ ++ Y = ⟨(if h.table ≠ [] then h.table ++ [46] ++ h.name else h.name).toArray⟩ := by rw [← hX, ← hY, if_pos (by simpa using he)]; exact cat3 h.table [46] h.name
    have hx0 : ¬ X.toList = [] := by rw [ByteArray.toList_eq, ← hX]; exact fun h => he (by simpa using h)
    have hx1 : (X.toList == []) = false := by rw [beq_eq_false_iff_ne]; exact hx0
    have hx2 : X.toList.isEmpty = false := by cases hl : X.toList with
      | nil => exact absurd hl hx0
      | cons a l => rfl
    have HR := Lib.hid hr
    generalize (if h.table ≠ [] then h.table ++ [46] ++ h.name else h.name) = R at *
    unfold PtrV
    clear hb hop hX hY hr he ht hn
    go_enter Tryz.func24, Tryz.ntmps24
    go_wp2_with fail
    go_quiet (fail)
    generalize hw : w.drewN nq = wz
    go_wp2_with fail
    go_ret
    exact ⟨congrArg (fun x => Ending.returned (Value.string x)) HR.out, by rw [← hw]; exact (Mods.refl _ _).drewN _⟩
end Go.Proofs.YtpokbepenacnpaaGreatDoor

namespace Go.Proofs.YtpokbepenacnpaaGreatDoor
open Go.RowKit
set_option linter.unusedVariables false

def strsV (l : List Bs) : List Value := l.map fun x => .string ⟨x.toArray⟩
theorem strsV_snoc (l : List Bs) (x : Bs) : strsV (l ++ [x]) = strsV l ++ [.string ⟨x.toArray⟩] := by simp [strsV]
theorem strsV_len (l : List Bs) : (strsV l).length = l.length := by simp [strsV]
theorem ne_text {x l : Bs} (h : ¬ x = l) : (x == l) = false := by rw [beq_eq_false_iff_ne]; exact h
/-- Join of texts that lie in a slice of the call's own. -/
theorem join_any (w : World) (l : List Bs) (sep : Bs) (g cap n : Nat) (hn : l.length = n) (hl : l.length ≤ 140737488355328) (hlen : (Lib.join l sep).length ≤ 140737488355328) (ho : w.ownsRow 0 9 1 (.slice (some ⟨g, 0, none⟩) n cap) n (strsV l)) :
    Calls Tryz.prog 34 #[.slice (some ⟨g, 0, none⟩) n cap, .string ⟨sep.toArray⟩] w fun e w' => e = .returned (.string ⟨(Lib.join l sep).toArray⟩) ∧ Mods [] w w' := by
  have hoo := own_out ho
  have e1 : (l.map fun x => (⟨x.toArray⟩ : ByteArray)).length = n := by simpa using hn
  have e2 : (l.map fun x => (⟨x.toArray⟩ : ByteArray)).map (·.data.toList) = l := by simp [Function.comp_def]
  have hj := Tryz.strings_Join g 0 cap (l.map fun x => ⟨x.toArray⟩) ⟨sep.toArray⟩ w (by
    intro j x hx
    rw [Nat.zero_add]
    refine hoo.2.2 j _ ?_
    unfold strsV
    rw [List.getElem?_map] at hx ⊢
    cases hl2 : l[j]? with
    | none => rw [hl2] at hx; cases hx
    | some y => rw [hl2] at hx; cases hx; rfl) hoo.1 (by rw [e1]; omega) (by rw [e1]; omega) (by rw [e2]; simpa using hlen)
  rw [e1, e2] at hj
  exact hj.mono fun e w' ⟨h1, h2⟩ => ⟨by simpa using h1, Mods.of_below h2 (Nat.le_refl _) []⟩

set_option maxRecDepth 100000 in
set_option maxHeartbeats 4000000 in
theorem show_other (w : World) (b : Nat) (h : Hd) (us : List Value) (xs : List Bs) (ao : Option Addr) (hok : HdOk h) (h1 : ¬ h.op = oNumber) (h2 : ¬ h.op = oText) (h3 : ¬ h.op = oBool) (h4 : ¬ h.op = oNull) (h5 : ¬ h.op = oColumn)
    (hb : w.heap[b]? = some (.cells (hdC h (.slice ao us.length us.length)).toArray 138 (0, 0))) (hl : xs.length = us.length) (hn : us.length ≤ 2)
    (hao : 0 < us.length → ∃ c, ao = some ⟨c, 0, none⟩ ∧ ∀ i (hi : i < us.length), w.cell? ⟨c, i, none⟩ = some us[i]) (hxs : (xs.map (fun a => 1 + a.length)).sum ≤ 1000000000)
    (hsub : ∀ i (hi : i < us.length) (hx : i < xs.length) W, Mods [] w W → Calls Tryz.prog 24 #[us[i]] W fun e w' => e = .returned (.string ⟨xs[i].toArray⟩) ∧ Mods [] W w') :
    Calls Tryz.prog 24 #[PtrV b] w fun e w' => e = .returned (.string ⟨([40] ++ Lib.join (h.op :: xs) [32] ++ [41]).toArray⟩) ∧ Mods [] w w' := by
  obtain ⟨i0, hi, hz0, hz1, hz2⟩ := info_parts (show (Tryz.prog.info? 9).map (fun i => (i.zero, i.size, i.bytes)) = some (some (.string ⟨#[]⟩), 1, 16) by kernel_rfl)
  have c0 := cell_of_heap hb 0
  have c7 := cell_of_heap hb 7
  change w.cell? _ = some (.string ⟨h.op.toArray⟩) at c0
  change w.cell? _ = some (.slice ao us.length us.length) at c7
  have o1 : (h.op == [110, 117, 109, 98, 101, 114]) = false := ne_text h1
  have o2 : (h.op == [116, 101, 120, 116]) = false := ne_text h2
  have o3 : (h.op == [98, 111, 111, 108]) = false := ne_text h3
  have o4 : (h.op == [110, 117, 108, 108]) = false := ne_text h4
  have o5 : (h.op == [99, 111, 108, 117, 109, 110]) = false := ne_text h5
  obtain ⟨n, hnn⟩ : ∃ n, us.length = n := ⟨_, rfl⟩
  rw [hnn] at c7
  have hn2 : n ≤ 2 := by omega
  have hjl := join_len h.op [32] xs
  have e32 : ([32] : Bs).length = 1 := rfl
  rw [e32] at hjl
  have hjb : (Lib.join (h.op :: xs) [32]).length ≤ 1000000300 := by have := hok.1; omega
  have HA := Lib.hid (And.intro hao (And.intro hsub (And.intro hnn (And.intro hl hjb))))
  unfold PtrV
  clear hb hok h1 h2 h3 h4 h5 hl hao hsub hnn hxs hn hjl e32 hjb
  obtain ⟨R, hR⟩ : ∃ R : Bs, ([40] ++ Lib.join (h.op :: xs) [32] ++ [41] : Bs) = R := ⟨_, rfl⟩
  rw [hR]
  have HR := Lib.hid hR
  clear hR
  have hz := (Mods.refl [] w).alloc (.cells #[.string ⟨h.op.toArray⟩] 9)
  have c7b := hz.cell c7 (by simp)
  have hown1 : (w.alloc (.cells #[.string ⟨h.op.toArray⟩] 9)).ownsRow 0 9 1 (.slice (some ⟨w.heap.size, 0, none⟩) 1 1) 1 (strsV [h.op]) := ⟨rfl, .inr ⟨_, 1, _, rfl, Nat.zero_le _, heap_alloc_new w _, Nat.le_refl _, by unfold maxLen; omega, rfl, rfl⟩⟩
  have HS := Lib.hid (And.intro hz hown1)
  have FIN : Hid (∀ w' S, Mods [] w w' → S = (⟨#[40]⟩ : ByteArray) ++ ⟨(Lib.join (h.op :: xs) [32]).toArray⟩ ++ ⟨#[41]⟩ → (Ending.returned (.string S) = .returned (.string ⟨R.toArray⟩) ∧ Mods [] w w')) := Lib.hid fun w' S h1 h2 => ⟨by rw [h2, ← HR.out, ← cat3], h1⟩
  clear hz hown1
  go_enter Tryz.func24, Tryz.ntmps24
  go_wp2_with fail
  go_loopg [6, 107] n (fun gk t6 t107 wr => ∃ (i g cap : Nat), i + gk = n ∧ t107 = .int .i64 i ∧ t6 = .slice (some ⟨g, 0, none⟩) (i + 1) cap ∧ Mods [] w wr ∧ wr.ownsRow 0 9 1 (.slice (some ⟨g, 0, none⟩) (i + 1) cap) (i + 1) (strsV (h.op :: xs.take i)) ∧ w.heap.size ≤ g)
  case atStart => exact ⟨0, w.heap.size, 1, by omega, rfl, rfl, HS.out.1, by rw [List.take_zero]; exact HS.out.2, Nat.le_refl _⟩
  case round =>
    clear HS
    obtain ⟨i, g, cap, hin, rfl, rfl, hM, ho, hg⟩ := hrel
    by_cases hlt : i < n
    · obtain ⟨c, rfl, hcells⟩ := HA.out.1 (by rw [HA.out.2.2.1]; omega)
      have hiu : i < us.length := by rw [HA.out.2.2.1]; exact hlt
      have hix : i < xs.length := by rw [HA.out.2.2.2.1]; exact hiu
      have k0 := hM.cell (hcells i hiu) (by simp)
      have hca := HA.out.2.1 i hiu hix wr hM
      have htk : h.op :: xs.take (i + 1) = (h.op :: xs.take i) ++ [xs[i]] := by rw [List.take_succ_eq_append_getElem hix]; rfl
      have HTK := Lib.hid htk
      generalize us[i] = u at *
      generalize xs[i] = x at *
      have HO := Lib.hid ho
      clear hcells htk ho FIN
      go_wp2_with fail
      (with_reducible refine hca.mono ?_)
      rintro e w2 ⟨rfl, hM2⟩
      have hown2 := ownsRow_mods HO.out hM2 (by simp)
      clear hca k0
      go_wp2_with (at_builtin; refine wpList_app _ rfl _ _ 57 rfl 9 i0 _ 1 16 Tryz.underlying57 hi hz0 hz1 hz2 rfl (by decide) (.slice (some ⟨g, 0, none⟩) (i + 1) cap) (i + 1) (strsV (h.op :: xs.take i)) rfl (hown2.alloc _) ⟨w2.heap.size, 0, none⟩ 1 1 [.string ⟨x.toArray⟩] rfl rfl ?c1 ?c2 (by decide) ?c3 ?c4 ?_)
      case c1 => exact cells_lit w2 #[.string ⟨x.toArray⟩] _
      case c2 => intro u hu; simp only [List.mem_cons, List.not_mem_nil, or_false] at hu; rcases hu with rfl; rfl
      case c3 => unfold maxLen; omega
      case c4 => omega
      intro g' cap2 w5 hown5 hM5 hg5
      have hz2 := (Mods.refl [] w2).alloc (.cells #[.string ⟨x.toArray⟩] 9)
      have hsz := hM.size
      have hsz2 := hM2.size
      have hM25 : Mods [] w w5 := ((hM.trans hM2 (by simp)).trans hz2 (by simp)).trans hM5 (fun y hy => .inr ((show y = g by simpa [Value.ownBlock] using hy) ▸ hg))
      have hg6 : w.heap.size ≤ g' := by
        rcases hg5 with h | h
        · have : some g = some g' := h
          have := Option.some.inj this
          omega
        · have : w2.heap.size + 1 ≤ g' := by simpa [size_alloc] using h
          omega
      have H5 := Lib.hid (And.intro hown5 (And.intro hM25 hg6))
      clear hown5 hM5 hg5 hown2 HO hM25 hg6 hz2
      go_wp2_with fail
      go_roundg (n - (i + 1))
      case measure => omega
      case rel => exact ⟨i + 1, g', cap2, by omega, by go_num, rfl, H5.out.2.1, by rw [HTK.out, strsV_snoc]; exact H5.out.1, H5.out.2.2⟩
    · obtain rfl : n = i := by omega
      have hx : xs.take n = xs := List.take_of_length_le (by rw [HA.out.2.2.2.1, HA.out.2.2.1]; omega)
      rw [hx] at ho
      have hj := join_any wr (h.op :: xs) [32] g cap (n + 1) (by simp [HA.out.2.2.2.1, HA.out.2.2.1]) (by simp [HA.out.2.2.2.1, HA.out.2.2.1]; omega) (by have := HA.out.2.2.2.2; omega) ho
      have hjb := HA.out.2.2.2.2
      obtain ⟨J, hJ⟩ : ∃ J : ByteArray, (⟨(Lib.join (h.op :: xs) [32]).toArray⟩ : ByteArray) = J := ⟨_, rfl⟩
      have hjs : J.size ≤ 1000000300 := by rw [← hJ]; exact hjb
      have FIN2 := Lib.hid FIN.out
      rw [hJ] at hj
      have HJ := Lib.hid hJ
      clear hx ho hjb hJ
      go_wp2_with fail
      (with_reducible refine hj.mono ?_)
      rintro e w2 ⟨rfl, hM2⟩
      clear hj
      go_wp2_with fail
      go_ret
      exact FIN.out w2 _ (hM.trans hM2 (by simp)) (by rw [HJ.out])
end Go.Proofs.YtpokbepenacnpaaGreatDoor

namespace Go.Proofs.YtpokbepenacnpaaGreatDoor
open Go.RowKit
set_option linter.unusedVariables false

theorem show_node (w : World) (b : Nat) (h : Hd) (us : List Value) (xs : List Bs) (ao : Option Addr) (hT : Pow w) (hok : HdOk h)
    (hb : w.heap[b]? = some (.cells (hdC h (.slice ao us.length us.length)).toArray 138 (0, 0))) (hl : xs.length = us.length) (hn : us.length ≤ 2)
    (hao : 0 < us.length → ∃ c, ao = some ⟨c, 0, none⟩ ∧ ∀ i (hi : i < us.length), w.cell? ⟨c, i, none⟩ = some us[i]) (hxs : (xs.map (fun a => 1 + a.length)).sum ≤ 1000000000)
    (hsub : ∀ i (hi : i < us.length) (hx : i < xs.length) W, Mods [] w W → Calls Tryz.prog 24 #[us[i]] W fun e w' => e = .returned (.string ⟨xs[i].toArray⟩) ∧ Mods [] W w') :
    Calls Tryz.prog 24 #[PtrV b] w fun e w' => e = .returned (.string ⟨(nodeS h xs).toArray⟩) ∧ Mods [] w w' := by
  unfold nodeS
  by_cases h1 : h.op = oNumber
  · rw [if_pos h1]; exact show_number w b h _ hT hok h1 hb
  rw [if_neg h1]
  by_cases h2 : h.op = oText
  · rw [if_pos h2]; exact show_text w b h _ hok h2 hb
  rw [if_neg h2]
  by_cases h3 : h.op = oBool
  · rw [if_pos h3]; exact show_bool w b h _ hok h3 hb
  rw [if_neg h3]
  by_cases h4 : h.op = oNull
  · rw [if_pos h4]; exact show_null w b h _ h4 hb
  rw [if_neg h4]
  by_cases h5 : h.op = oColumn
  · rw [if_pos h5]; exact show_column w b h _ hok h5 hb
  rw [if_neg h5]
  exact show_other w b h us xs ao hok h1 h2 h3 h4 h5 hb hl hn hao hxs hsub

theorem Pow.later {w w' : World} (h : Pow w) (hM : Mods [] w w') : Pow w' :=
  Joins.tab_stays (g := 2) (by kernel_rfl) h (hM.below _ (Nat.le_refl _) (by simp)) (Nat.le_refl _)

theorem show_any : ∀ (t : Tree) (w : World) (v : Value), Pow w → ExprAt 138 89 w [] v t → TreeFine t → Calls Tryz.prog 24 #[v] w fun e w' => e = .returned (.string ⟨(showT t).toArray⟩) ∧ Mods [] w w' := by
  intro t
  induction t with
  | leaf h =>
    rintro w v hT ⟨b, rfl, -, hb⟩ hf
    exact show_node w b h [] [] none hT hf.1 hb rfl (by decide) (by simp) (by simp) (by simp)
  | un h a ih =>
    rintro w v hT ⟨b, c, u, rfl, -, -, hb, hc, ha⟩ ⟨hf1, hf2⟩
    have hfa : TreeFine a := ⟨hf1.2, by simp only [nodes] at hf2; omega⟩
    have hl := showT_len a hfa.1
    have hn := hfa.2
    exact show_node w b h [u] [showT a] (some ⟨c, 0, none⟩) hT hf1.1 hb rfl (by simp) (fun _ => ⟨c, rfl, fun i hi => by
      obtain rfl : i = 0 := by simp at hi; omega
      exact cell_of_heap hc 0⟩) (by simp; omega) (fun i hi hx W hM => by
      obtain rfl : i = 0 := by simp at hi; omega
      exact ih W u (hT.later hM) (ha.mods hM) hfa)
  | bin h a d iha ihd =>
    rintro w v hT ⟨b, c, u, x, rfl, -, -, hb, hc, ha, hd⟩ ⟨hf1, hf2⟩
    have hfa : TreeFine a := ⟨hf1.2.1, by simp only [nodes] at hf2; omega⟩
    have hfd : TreeFine d := ⟨hf1.2.2, by simp only [nodes] at hf2; omega⟩
    have hl := showT_len a hfa.1
    have hn := hfa.2
    have hl2 := showT_len d hfd.1
    have hn2 := hfd.2
    exact show_node w b h [u, x] [showT a, showT d] (some ⟨c, 0, none⟩) hT hf1.1 hb rfl (by simp) (fun _ => ⟨c, rfl, fun i hi => by
      have hi2 : i = 0 ∨ i = 1 := by simp at hi; omega
      rcases hi2 with rfl | rfl
      · exact cell_of_heap hc 0
      · exact cell_of_heap hc 1⟩) (by simp; omega) (fun i hi hx W hM => by
      have hi2 : i = 0 ∨ i = 1 := by simp at hi; omega
      rcases hi2 with rfl | rfl
      · exact iha W u (hT.later hM) (ha.mods hM) hfa
      · exact ihd W x (hT.later hM) (hd.mods hM) hfd)
end Go.Proofs.YtpokbepenacnpaaGreatDoor
