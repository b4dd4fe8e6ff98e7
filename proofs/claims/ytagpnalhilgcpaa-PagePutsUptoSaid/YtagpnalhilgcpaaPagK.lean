/-
  page.Row where there is room for a row.
-/
import Derived.Test.YtagpnalhilgcpaaPagJ
import Derived.Deep.LoopGhost
import Derived.Deep.DeepCutAuto
import Derived.Deep.RegionHeld3
import Derived.Deep.Slices
namespace Go.Proofs.Ytagpnalhilgcpaa
open Go.RowKit
set_option linter.unusedVariables false

theorem pget_any (w : World) (b nP : Nat) (most : Int) (f : Nat → UInt8) (L : List Nat) (h : Mem w b nP most f L) (hnP : nP ≤ 256) (t : Int × Int) (n : Nat) (hn : n < 18446744073709551616) :
    Calls Try.prog 51 #[.pointer (some ⟨b, 0, none⟩), .agg #[.int .i64 t.1, .int .i64 t.2], .int .u64 n] w fun e w' => e = .returned (.tuple #[.agg #[.bool (getP f nP t n).1.z, .int .i64 (getP f nP t n).1.n, .string (getP f nP t n).1.s], .bool (getP f nP t n).2]) ∧ Mods [] w w' := by
  obtain ⟨k, s⟩ := t
  by_cases hk : k = 3
  · subst hk
    refine (get_text w b nP most f L h hnP s n hn).mono ?_
    rintro e w' ⟨rfl, hM⟩
    refine ⟨?_, hM⟩
    unfold getP
    cases h1 : hasB nP ((n / 256 : Nat) : Int) ((n % 256 : Nat) : Int) <;> simp
  · refine (get_num w _ k s hk n hn).mono ?_
    rintro e w' ⟨rfl, hM⟩
    refine ⟨?_, hM⟩
    unfold getP
    rw [if_pos hk]

def cellsV (vs : List V) : List Value := vs.flatMap fun v => [.bool v.z, .int .i64 v.n, .string v.s]
theorem cellsV_snoc (vs : List V) (v : V) : cellsV (vs ++ [v]) = cellsV vs ++ [.bool v.z, .int .i64 v.n, .string v.s] := by simp [cellsV]

/-- The first k values of the row at a: none, if one does not fit. -/
def valsTo (f : Nat → UInt8) (nP a : Nat) (ts : List (Int × Int)) : Nat → Option (List V)
  | 0 => some []
  | k + 1 => match valsTo f nP a ts k, ts[k]? with
    | some vs, some t => (valAt f nP a t k).map (vs ++ [·])
    | _, _ => none
def rowVals (f : Nat → UInt8) (nP a : Nat) (ts : List (Int × Int)) : Option (List V) := valsTo f nP a ts ts.length

theorem valsTo_none {f : Nat → UInt8} {nP a : Nat} {ts : List (Int × Int)} {k : Nat} (h : valsTo f nP a ts k = none) : ∀ m, k ≤ m → valsTo f nP a ts m = none := by
  intro m hm
  induction m with
  | zero => obtain rfl : k = 0 := by omega
            exact h
  | succ m ih =>
    by_cases hk : k = m + 1
    · rw [← hk]; exact h
    · have := ih (by omega)
      simp only [valsTo, this]

def RowRel (w : World) (f : Nat → UInt8) (nP a : Nat) (ts : List (Int × Int)) (k : Nat) (t13 : Value) (wr : World) : Prop :=
  Mods [] w wr ∧ ∃ vs, valsTo f nP a ts k = some vs ∧ vs.length = k ∧ wr.ownsRow 0 77 3 t13 k (cellsV vs) ∧ ∀ g, t13.ownBlock = some g → w.heap.size ≤ g

/-- What page.Row hands back. -/
def GotRow (w : World) (r : Option (List V)) (e : Ending) (w' : World) : Prop :=
  Mods [] w w' ∧ match r with
    | some vs => ∃ ao cap, e = .returned (.tuple #[.slice ao vs.length cap, .bool true]) ∧ ValsIn w' ao vs [] ∧ ∀ g, ao = some g → w.heap.size ≤ g.block
    | none => e = .returned (.tuple #[.slice none 0 0, .bool false])

def CutRow (w0 : World) (v : V) (ok : Bool) (s16 s17 : Value) (wx : World) : Prop :=
  ∃ vb, s16 = .pointer (some ⟨vb, 0, none⟩) ∧ s17 = .bool ok ∧ wx.heap[vb]? = some (.cells #[.bool v.z, .int .i64 v.n, .string v.s] 77 (0, 0)) ∧ w0.heap.size ≤ vb ∧ Mods [] w0 wx

theorem Mods.rules {w w' : World} (h : Mods [] w w') : (∀ b o, b < w.heap.size → w'.cell? ⟨b, o, none⟩ = w.cell? ⟨b, o, none⟩) ∧ (∀ b o, b < w.heap.size → w'.frozen? ⟨b, o, none⟩ = w.frozen? ⟨b, o, none⟩) ∧ w.heap.size ≤ w'.heap.size :=
  ⟨fun b o hb => World.cell?_of_block (h.block b hb (by simp)), fun b o hb => World.frozen?_of_block (h.block b hb (by simp)), h.size⟩

theorem heap_three {w : World} {g : Nat} {x y z : Value} {t : TypeId} (h : w.heap[g]? = some (.cells #[x, y, z] t (0, 0))) (x' y' z' : Value) :
    (((w.setCell ⟨g, 0, none⟩ x').setCell ⟨g, 1, none⟩ y').setCell ⟨g, 2, none⟩ z').heap[g]? = some (.cells #[x', y', z'] t (0, 0)) :=
  heap_setCell_same (heap_setCell_same (heap_setCell_same h 0 x') 1 y') 2 z'
theorem mods_three {W0 w : World} (h : Mods [] W0 w) {g : Nat} (hg : W0.heap.size ≤ g) (x' y' z' : Value) :
    Mods [] W0 (((w.setCell ⟨g, 0, none⟩ x').setCell ⟨g, 1, none⟩ y').setCell ⟨g, 2, none⟩ z') :=
  ((h.setCell (.inr hg) _).setCell (.inr hg) _).setCell (.inr hg) _
theorem cutA {W0 w : World} {v : V} {ok : Bool} (h : Mods [] W0 w) : CutRow W0 v ok (.pointer (some ⟨w.heap.size, 0, none⟩)) (.bool ok) (w.alloc (.cells #[.bool v.z, .int .i64 v.n, .string v.s] 77)) :=
  ⟨w.heap.size, rfl, rfl, heap_alloc_new _ _, h.size, h.alloc _⟩
theorem cutB {W0 w1 w2 : World} {v : V} {ok : Bool} {x y z : Value} (h : Mods [] W0 w1) (h' : Mods [] (w1.alloc (.cells #[x, y, z] 77)) w2) :
    CutRow W0 v ok (.pointer (some ⟨w1.heap.size, 0, none⟩)) (.bool ok) (((w2.setCell ⟨w1.heap.size, 0, none⟩ (.bool v.z)).setCell ⟨w1.heap.size, 1, none⟩ (.int .i64 v.n)).setCell ⟨w1.heap.size, 2, none⟩ (.string v.s)) :=
  ⟨w1.heap.size, rfl, rfl, heap_three (h'.heap (heap_alloc_new _ _) (by simp)) _ _ _, h.size, mods_three ((h.alloc _).trans h' (by simp)) h.size _ _ _⟩
theorem cutC {W0 w2 : World} {v : V} {ok : Bool} {x y z : Value} (h' : Mods [] (W0.alloc (.cells #[x, y, z] 77)).drew w2) :
    CutRow W0 v ok (.pointer (some ⟨W0.heap.size, 0, none⟩)) (.bool ok) (((w2.setCell ⟨W0.heap.size, 0, none⟩ (.bool v.z)).setCell ⟨W0.heap.size, 1, none⟩ (.int .i64 v.n)).setCell ⟨W0.heap.size, 2, none⟩ (.string v.s)) :=
  ⟨W0.heap.size, rfl, rfl, heap_three (h'.heap (heap_alloc_new _ _) (by simp)) _ _ _, Nat.le_refl _, mods_three ((((Mods.refl [] W0).alloc _).drew).trans h' (by simp)) (Nat.le_refl _) _ _ _⟩
theorem bit_at (x k : Nat) (h : x < 18446744073709551616) : bits .and .u64 ((x : Int) / 2 ^ k) 1 = ((x / 2 ^ k % 2 : Nat) : Int) := by
  have e : (x : Int) / 2 ^ k = ((x / 2 ^ k : Nat) : Int) := by simp
  rw [e]
  show bits .and .u64 ((x / 2 ^ k : Nat) : Int) ((1 : Nat) : Int) = _
  rw [(bits_nat .u64 64 (by decide) wraps64 _ 1 (Nat.lt_of_le_of_lt (Nat.div_le_self _ _) h) (by decide)).1]
  rw [show (1 : Nat) = 2 ^ 1 - 1 from rfl, Nat.and_two_pow_sub_one_eq_mod]
theorem getP_size (f : Nat → UInt8) (nP : Nat) (t : Int × Int) (n : Nat) : (getP f nP t n).1.s.size ≤ 255 := by
  unfold getP
  split
  · exact Nat.zero_le _
  · dsimp only
    split
    · rw [strF_size]; omega
    · exact Nat.zero_le _
theorem rawAt_size (f : Nat → UInt8) (nP a : Nat) (t : Int × Int) (k : Nat) : (rawAt f nP a t k).1.s.size ≤ 255 := by
  unfold rawAt
  split
  · exact Nat.zero_le _
  · exact getP_size ..
theorem rawAt_zero {f : Nat → UInt8} {nP a : Nat} {t : Int × Int} {k : Nat} (h : numAt f a / 2 ^ k % 2 = 0) : rawAt f nP a t k = getP f nP t (numAt f (a + 8 * (k + 1))) := by
  unfold rawAt
  rw [if_neg (by omega)]
theorem rawAt_one {f : Nat → UInt8} {nP a : Nat} {t : Int × Int} {k : Nat} (h : numAt f a / 2 ^ k % 2 ≠ 0) : rawAt f nP a t k = (⟨true, 0, ⟨#[]⟩⟩, true) := by
  unfold rawAt
  rw [if_pos h]
theorem valAt_some {f : Nat → UInt8} {nP a : Nat} {t : Int × Int} {k : Nat} {v : V} (hr : rawAt f nP a t k = (v, true)) (hf : fitsV t.1 t.2 true v.z v.n v.s = true) : valAt f nP a t k = some v := by
  unfold valAt
  rw [hr]
  simp [hf]
theorem valAt_none1 {f : Nat → UInt8} {nP a : Nat} {t : Int × Int} {k : Nat} {v : V} (hr : rawAt f nP a t k = (v, false)) : valAt f nP a t k = none := by
  unfold valAt
  rw [hr]
  simp
theorem valAt_none2 {f : Nat → UInt8} {nP a : Nat} {t : Int × Int} {k : Nat} {v : V} {b : Bool} (hr : rawAt f nP a t k = (v, b)) (hf : fitsV t.1 t.2 true v.z v.n v.s = false) : valAt f nP a t k = none := by
  unfold valAt
  rw [hr]
  simp [hf]
theorem rowVals_none {f : Nat → UInt8} {nP a : Nat} {ts : List (Int × Int)} {t : Int × Int} {k : Nat} (hk : k < ts.length) (ht : ts[k]? = some t) (h : valAt f nP a t k = none) : rowVals f nP a ts = none := by
  refine valsTo_none (k := k + 1) ?_ _ (by omega)
  simp only [valsTo, ht]
  cases valsTo f nP a ts k <;> simp [h]
theorem cellsV_len (vs : List V) : (cellsV vs).length = vs.length * 3 := by
  induction vs with
  | nil => rfl
  | cons v vs ih => simp [cellsV] at ih ⊢; omega
theorem cellsV_get (vs : List V) (i : Nat) (h : i < vs.length) : (cellsV vs)[i * 3]? = some (.bool vs[i].z) ∧ (cellsV vs)[i * 3 + 1]? = some (.int .i64 vs[i].n) ∧ (cellsV vs)[i * 3 + 2]? = some (.string vs[i].s) := by
  induction vs generalizing i with
  | nil => simp at h
  | cons v vs ih =>
    cases i with
    | zero => exact ⟨rfl, rfl, rfl⟩
    | succ i =>
      have := ih i (by simpa using h)
      have e : cellsV (v :: vs) = [.bool v.z, .int .i64 v.n, .string v.s] ++ cellsV vs := by simp [cellsV]
      have hl : ([.bool v.z, .int .i64 v.n, .string v.s] : List Value).length = 3 := rfl
      rw [e, List.getElem?_append_right (by rw [hl]; omega), List.getElem?_append_right (by rw [hl]; omega), List.getElem?_append_right (by rw [hl]; omega)]
      rw [hl, show (i + 1) * 3 - 3 = i * 3 by omega, show (i + 1) * 3 + 1 - 3 = i * 3 + 1 by omega, show (i + 1) * 3 + 2 - 3 = i * 3 + 2 by omega]
      exact this
theorem own_vals {w : World} {v : Value} {k : Nat} {vs : List V} (h : w.ownsRow 0 77 3 v k (cellsV vs)) (hl : vs.length = k) : ∃ ao cap, v = .slice ao vs.length cap ∧ ValsIn w ao vs [] ∧ ∀ g, ao = some g → v.ownBlock = some g.block := by
  rcases h.2 with ⟨hv, hn0⟩ | ⟨g, cap, cur, hv, hb, hg, r⟩
  · subst hv
    refine ⟨none, 0, by rw [hl, hn0], fun h0 => ?_, fun g hg => by cases hg⟩
    have : 0 < vs.length := List.length_pos_iff.2 h0
    omega
  · subst hv
    refine ⟨some ⟨g, 0, none⟩, cap, by rw [hl], fun _ => ⟨g, 0, rfl, by simp, fun i hi => ?_⟩, fun g' hg' => by cases hg'; rfl⟩
    have hc := h.cells (g := g) rfl
    obtain ⟨h1, h2, h3⟩ := cellsV_get vs i hi
    refine ⟨?_, ?_, ?_⟩
    · have := hc _ _ h1; rw [addr_add] at this; exact this
    · have := hc _ _ h2; rw [addr_add] at this; exact this
    · have := hc _ _ h3; rw [addr_add] at this; exact this

def CutIf (W0 : World) (vb : Nat) (v : V) (ok : Bool) (s17 : Value) (wx : World) : Prop :=
  s17 = .bool ok ∧ wx.heap[vb]? = some (.cells #[.bool v.z, .int .i64 v.n, .string v.s] 77 (0, 0)) ∧ Mods [] W0 wx
theorem cells_new3 (w : World) (x y z : Value) (t : TypeId) : ∀ j u, ([x, y, z] : List Value)[j]? = some u → (w.alloc (.cells #[x, y, z] t)).cell? ((⟨w.heap.size, 0, none⟩ : Addr).add j) = some u := by
  intro j u hu
  rw [addr_add, cell_of_heap (heap_alloc_new w _), Nat.zero_add]
  simpa using hu
theorem drew_heap (w : World) : w.drew.heap = w.heap := rfl
theorem keepS {W w' : World} {p q r : Addr} {x y z : Value} (h0 : W.cell? p = some x) (h1 : W.cell? q = some y) (h2 : W.cell? r = some z) (h : Mods [] W w') : w'.cell? p = some x ∧ w'.cell? q = some y ∧ w'.cell? r = some z ∧ W.heap.size ≤ w'.heap.size ∧ Mods [] W w' :=
  ⟨h.cell h0 (by simp), h.cell h1 (by simp), h.cell h2 (by simp), h.size, h⟩

set_option maxHeartbeats 2000000 in
set_option maxRecDepth 100000 in
theorem row_yes (w : World) (b nP : Nat) (most : Int) (f : Nat → UInt8) (L : List Nat) (h : Mem w b nP most f L) (hnP : nP ≤ 256) (tao : Option Addr) (ts : List (Int × Int)) (nT ct : Nat) (hts : ts.length = nT) (hT : TysIn w tao ts []) (a : Nat)
    (h64 : nT ≤ 64) (hin : a + 8 * (nT + 1) ≤ 65536 * nP) :
    Calls Try.prog 31 #[.pointer (some ⟨b, 0, none⟩), .slice tao nT ct, .int .u64 a] w (GotRow w (rowVals f nP a ts)) := by
  have hM1 := ((Mods.refl [] w).alloc (.cells #[.pointer (some ⟨b, 0, none⟩)] 24)).alloc (.cells #[.int .u64 a] 30)
  have hmem := h.mods hM1 (by simp)
  have hz : sizeI (nT : Int) = ((8 * (nT + 1) : Nat) : Int) := by unfold sizeI; rw [if_pos (by omega)]; omega
  have hby := bytes_ok _ b nP most f L a (8 * (nT + 1)) hmem hnP hin
  have hpm := two_cell0 w #[.pointer (some ⟨b, 0, none⟩)] #[.int .u64 a] 24 30 0
  have hpa := two_cell1 w #[.pointer (some ⟨b, 0, none⟩)] #[.int .u64 a] 24 30 0
  have hmf : ∀ (fn : Fn) (first cap : Array Value) (w : World), (Instr.makeFunc fn first cap).run Try.prog w = .ok (.func fn first cap) w := fun _ _ _ _ => rfl
  obtain ⟨i0, hi, hz0, hz1, hz2⟩ := info_parts (show (Try.prog.info? 77).map (fun i => (i.zero, i.size, i.bytes)) = some (some (.agg #[.bool false, .int .i64 0, .string ⟨#[]⟩]), 3, 32) by kernel_rfl)
  obtain ⟨S, hS⟩ : ∃ S, S = 8 * (nT + 1) := ⟨_, rfl⟩
  rw [← hS] at hz hby
  have hS0 : ¬ (S : Int) = 0 := by omega
  have HS := Lib.hid hS
  clear hS
  have hT1 := hT.mods hM1
  go_enter Try.func31, Try.ntmps31
  go_wp2_with fail
  refine (size_any nT _).mono ?_
  rintro e w1 ⟨rfl, rfl⟩
  rw [hz]
  go_wp2_with fail
  refine hby.mono ?_
  rintro e w2 ⟨rfl, hM2⟩
  have hMB := hM1.trans hM2 (by simp)
  have cm := hM2.cell (hpm.trans rfl) (by simp)
  have ca := hM2.cell (hpa.trans rfl) (by simp)
  have hm2 := hmem.mods hM2 (by simp)
  have hT2 := hT1.mods hM2
  have hld := rowLoad_any w2 b nP most f L hm2 hnP _ _ cm a ca 0 (by omega) (by omega)
  have hNU : numAt f a < 256 ^ 8 := num_lt _ _
  have hNe : num (fun j => f (a + 8 * 0 + j)) 8 = numAt f a := rfl
  rw [hNe] at hld
  clear hM1 hmem hpm hpa hM2 hby hT1 hNe
  go_wp2_with fail
  refine hld.mono ?_
  rintro e w3 ⟨rfl, hM3⟩
  have hMC := hMB.trans hM3 (by simp)
  have cm3 := hM3.cell cm (by simp)
  have ca3 := hM3.cell ca (by simp)
  have hm3 := hm2.mods hM3 (by simp)
  have hT3 := hT2.mods hM3
  clear hM3 hMB hm2 hT2 hld cm ca
  go_wp2_with (refine wpList_make_own _ rfl _ _ 71 rfl 0 77 i0 _ 3 Try.underlying71 hi hz0 hz1 .i64 .i64 _ nT rfl rfl rfl (by rw [hz2]; omega) (by unfold maxLen; omega) (by omega) ?_; intro w4 hown hgr)
  have hM4 := Mods.of_grown hgr
  have hstart : RowRel w3 f nP a ts 0 (.slice (some ⟨w3.heap.size, 0, none⟩) 0 nT) w4 := by
    refine ⟨hM4, [], rfl, rfl, hown, fun g hg => ?_⟩
    simp [Value.ownBlock] at hg
    omega
  clear hown hgr hM4
  generalize (Value.slice (some ⟨w3.heap.size, 0, none⟩) 0 nT) = s13 at *
  go_loopg [13, 42] nT (fun g t13 t42 wr => ∃ k : Nat, k ≤ nT ∧ g = nT - k ∧ t42 = .int .i64 k ∧ RowRel w3 f nP a ts k t13 wr)
  case atStart => exact ⟨0, by omega, by omega, rfl, hstart⟩
  case round =>
    obtain ⟨k, hk, hgk, rfl, hRel⟩ := hrel
    by_cases hkn : k < nT
    · have hRR := Lib.hid hRel
      have hMr := hRel.1
      have HGK := Lib.hid hgk
      clear hRel hgk hstart
      obtain ⟨tb, toff, rfl, htb, hTc⟩ := (hT3.mods hMr) (by intro h0; rw [h0] at hts; simp at hts; omega)
      obtain ⟨ct0, ct1⟩ := hTc k (by omega)
      have hgt : ts[k]? = some ts[k] := List.getElem?_eq_getElem (by omega)
      have HGT := Lib.hid hgt
      generalize ts[k] = T at *
      clear hTc hgt
      have hM0 : Mods [] wr (wr.alloc (.cells #[.int .i64 T.1, .int .i64 T.2] 60)) := (Mods.refl [] wr).alloc _
      have hb0 := heap_alloc_new wr (.cells #[.int .i64 T.1, .int .i64 T.2] 60)
      have hz0' : wr.heap.size < (wr.alloc (.cells #[.int .i64 T.1, .int .i64 T.2] 60)).heap.size := by rw [size_alloc]; omega
      go_upto_region 11 with (fail)
      clear ct0 ct1
      generalize wr.alloc (.cells #[.int .i64 T.1, .int .i64 T.2] 60) = W0 at *
      generalize wr.heap.size = tv at *
      have HM3 := hMr.trans hM0 (by simp)
      have c0 : W0.cell? ⟨w.heap.size, 0, none⟩ = some (.pointer (some ⟨b, 0, none⟩)) := HM3.cell cm3 (by simp)
      have c1 : W0.cell? ⟨w.heap.size + 1, 0, none⟩ = some (.int .u64 a) := HM3.cell ca3 (by simp)
      have t0 : W0.cell? ⟨tv, 0, none⟩ = some (.int .i64 T.1) := (cell_of_heap hb0 0).trans rfl
      have t1 : W0.cell? ⟨tv, 1, none⟩ = some (.int .i64 T.2) := (cell_of_heap hb0 1).trans rfl
      have hmD := hm3.mods HM3 (by simp)
      have k1 : IntKind.i64.wrap ((k : Int) + 1) = ((k + 1 : Nat) : Int) := by rw [IntKind.wrap_i64]; omega
      have hrl : ∀ w', Mods [] W0 w' → Calls Try.prog 50 #[.int .i64 ((k + 1 : Nat) : Int), .pointer (some ⟨w.heap.size, 0, none⟩), .pointer (some ⟨w.heap.size + 1, 0, none⟩)] w' fun e w'' => e = .returned (.int .u64 ((numAt f (a + 8 * (k + 1)) : Nat) : Int)) ∧ Mods [] W0 w'' ∧ Mods [] w' w'' := fun w' hm => (rowLoad_any w' b nP most f L (hmD.mods hm (by simp)) hnP _ _ (hm.cell c0 (by simp)) a (hm.cell c1 (by simp)) (k + 1) (by omega) (by omega)).mono fun e w'' ⟨h1, h2⟩ => ⟨h1, hm.trans h2 (by simp), h2⟩
      have hNl : numAt f (a + 8 * (k + 1)) < 18446744073709551616 := num_lt _ _
      have hgt : ∀ w', Mods [] W0 w' → Calls Try.prog 51 #[.pointer (some ⟨b, 0, none⟩), .agg #[.int .i64 T.1, .int .i64 T.2], .int .u64 ((numAt f (a + 8 * (k + 1)) : Nat) : Int)] w' fun e w'' => e = .returned (.tuple #[.agg #[.bool (getP f nP T (numAt f (a + 8 * (k + 1)))).1.z, .int .i64 (getP f nP T (numAt f (a + 8 * (k + 1)))).1.n, .string (getP f nP T (numAt f (a + 8 * (k + 1)))).1.s], .bool (getP f nP T (numAt f (a + 8 * (k + 1)))).2]) ∧ Mods [] W0 w'' ∧ Mods [] w' w'' := fun w' hm => (pget_any w' b nP most f L (hmD.mods hm (by simp)) hnP T _ hNl).mono fun e w'' ⟨h1, h2⟩ => ⟨h1, hm.trans h2 (by simp), h2⟩
      generalize hNK : numAt f (a + 8 * (k + 1)) = NK at *
      have HNK := Lib.hid hNK
      clear hNK
      generalize hG : getP f nP T NK = G at *
      have HG := Lib.hid hG
      clear hG hmD hNl
      obtain ⟨gv, gok⟩ := G
      go_cut [16, 17] (fun s16 s17 wx => CutRow W0 gv gok s16 s17 wx)
      case first =>
        go_region_held3 (fun w' => w'.cell? ⟨w.heap.size, 0, none⟩ = some (.pointer (some ⟨b, 0, none⟩)) ∧ w'.cell? ⟨tv, 0, none⟩ = some (.int .i64 T.1) ∧ w'.cell? ⟨tv, 1, none⟩ = some (.int .i64 T.2) ∧ W0.heap.size ≤ w'.heap.size ∧ Mods [] W0 w')
          (((with_reducible refine keepS c0 t0 t1 ?_); (try (with_reducible refine Mods.drew ?_)); first | assumption | exact Mods.refl _ _ | ((with_reducible refine Mods.alloc ?_ _); first | assumption | exact Mods.refl _ _ | simp only [*]) | ((repeat (with_reducible refine Mods.setCell ?_ (.inr (by show _ ≤ (_ : Nat); dsimp only; omega)) _)); first | assumption | exact Mods.refl _ _ | simp only [*])))
          (first | (go_at_call 50; refine (hrl _ ?_).mono ?_; (first | assumption | simp only [*]); rintro e w'' ⟨rfl, hm1, hr1⟩; have hs1 := hm1.size; obtain ⟨ha1, hb1, hc1⟩ := hr1.rules; (try simp only [drew_heap, size_alloc] at ha1 hb1 hc1); (try have hd1 := Nat.lt_of_succ_le hc1)) | (go_at_call 51; refine (hgt _ ?_).mono ?_; (first | assumption | simp only [*]); rintro e w'' ⟨rfl, hm2, hr2⟩; have hs2 := hm2.size; obtain ⟨ha2, hb2, hc2⟩ := hr2.rules; (try simp only [size_alloc] at ha2 hb2 hc2); (try have hd2 := Nat.lt_of_succ_le hc2)))
        all_goals (go_wp2_with fail; go_meet)
        · exact cutA hm2
        · exact cutB hm1 hr2
        · exact cutC (hr1.trans hr2 (by simp))
      case rest =>
        obtain ⟨vb, rfl, rfl, hvb, hvs, hMx⟩ := hcut
        clear c0 c1 hrl hgt k1 HM3 cm3 ca3
        have t0 := hMx.cell t0 (by simp)
        have t1 := hMx.cell t1 (by simp)
        have hbit := bit_at (numAt f a) k (by omega)
        obtain ⟨m, hm⟩ : ∃ m, numAt f a / 2 ^ k % 2 = m := ⟨_, rfl⟩
        rw [hm] at hbit
        have HM := Lib.hid hm
        have hM3' := hMr.trans hM0 (by simp)
        have hM0' := hM0
        clear hm hM0 hb0 hz0'
        go_upto_if 61 with (fail)
        have hR0 := fun h => (rawAt_zero (f := f) (nP := nP) (a := a) (t := T) (k := k) h).trans ((congrArg (getP f nP T) HNK.out).trans HG.out)
        have hR1 := rawAt_one (f := f) (nP := nP) (a := a) (t := T) (k := k)
        rw [HM.out] at hR0 hR1
        have hRs := rawAt_size f nP a T k
        obtain ⟨R, hR⟩ : ∃ R, rawAt f nP a T k = R := ⟨_, rfl⟩
        rw [hR] at hR0 hR1 hRs
        obtain ⟨rv, rok⟩ := R
        have HR := Lib.hid hR
        have H0 := Lib.hid hR0
        have H1 := Lib.hid hR1
        clear hR hR0 hR1
        go_cut [17] (fun s17 wx => CutIf W0 vb rv rok s17 wx)
        case first =>
          by_cases hm0 : m = 0
          · have h := H0.out hm0
            simp only [Prod.mk.injEq] at h
            have H2 := Lib.hid h
            have hm1 : (m : Int) = 0 := by omega
            clear h
            go_wp2_with fail
            go_meet
            obtain ⟨rfl, rfl⟩ := H2.out
            exact ⟨rfl, hvb, hMx⟩
          · have h := H1.out hm0
            simp only [Prod.mk.injEq] at h
            have H2 := Lib.hid h
            have hm1 : ¬ (m : Int) = 0 := by omega
            have g0 := (cell_of_heap hvb 0).trans rfl
            have g1 := (cell_of_heap hvb 1).trans rfl
            have g2 := (cell_of_heap hvb 2).trans rfl
            have f0 := frozen_of_heap hvb 0
            have f1 := frozen_of_heap hvb 1
            have f2 := frozen_of_heap hvb 2
            clear h
            go_wp2_with fail
            go_meet
            obtain ⟨rfl, rfl⟩ := H2.out
            exact ⟨rfl, heap_three hvb _ _ _, mods_three hMx hvs _ _ _⟩
        case rest =>
          clear hbit hvb hMx t0 t1
          obtain ⟨rfl, hvb, hMx⟩ := hcut
          have g0 := (cell_of_heap hvb 0).trans rfl
          have g1 := (cell_of_heap hvb 1).trans rfl
          have g2 := (cell_of_heap hvb 2).trans rfl
          have f0 := frozen_of_heap hvb 0
          have f1 := frozen_of_heap hvb 1
          have f2 := frozen_of_heap hvb 2
          have t0 := hMx.cell t0 (by simp)
          have t1 := hMx.cell t1 (by simp)
          have hMw := (hMC.trans hM3' (by simp)).trans hMx (by simp)
          cases rok with
          | false =>
            have hn := rowVals_none (by omega) HGT.out (valAt_none1 HR.out)
            have fin : ∀ wf, Mods [] wc wf → GotRow w (rowVals f nP a ts) (.returned (.tuple #[.slice none 0 0, .bool false])) wf := fun wf h => by
              rw [hn]
              exact ⟨hMw.trans h (by simp), rfl⟩
            clear hn
            go_wp2_with fail
            go_ret2
            exact fin _ (Mods.refl _ _)
          | true =>
            have hfits := fun w' => fits_any T.1 T.2 true rv.z rv.n rv.s (Nat.le_trans hRs (by decide)) w'
            cases hf : fitsV T.1 T.2 true rv.z rv.n rv.s with
            | false =>
              rw [hf] at hfits
              have hn := rowVals_none (by omega) HGT.out (valAt_none2 HR.out hf)
              have fin : ∀ wf, Mods [] wc wf → GotRow w (rowVals f nP a ts) (.returned (.tuple #[.slice none 0 0, .bool false])) wf := fun wf h => by
                rw [hn]
                exact ⟨hMw.trans h (by simp), rfl⟩
              clear hn hf
              go_wp2_with fail
              refine (hfits _).mono ?_
              rintro e w5 ⟨rfl, hM5⟩
              go_wp2_with fail
              go_ret2
              exact fin _ hM5
            | true =>
              rw [hf] at hfits
              have hv := Lib.hid (valAt_some HR.out hf)
              clear hf
              go_wp2_with fail
              refine (hfits _).mono ?_
              rintro e w5 ⟨rfl, hM5⟩
              have hM6 := (hM3'.trans hMx (by simp)).trans hM5 (by simp)
              obtain ⟨hRa, vs, hva, hvl, hown, hblk⟩ := hRR.out
              have hva := Lib.hid hva
              have hvl := Lib.hid hvl
              have hblk := Lib.hid hblk
              have hown5 := ownsRow_mods hown ((hM0'.trans hMx (by simp)).trans hM5 (by simp)) (fun _ _ h => by cases h)
              obtain ⟨vn, hvn⟩ : ∃ vn, cellsV vs = vn := ⟨_, rfl⟩
              rw [hvn] at hown5
              have hvn := Lib.hid hvn
              have e0 : w5.cell? ⟨vb, 0, none⟩ = some (.bool rv.z) := hM5.cell g0 (by simp)
              have e1 : w5.cell? ⟨vb, 1, none⟩ = some (.int .i64 rv.n) := hM5.cell g1 (by simp)
              have e2 : w5.cell? ⟨vb, 2, none⟩ = some (.string rv.s) := hM5.cell g2 (by simp)
              clear g0 g1 g2 f0 f1 f2 t0 t1 hM5 hMx hvb hM3' hM0' hown hfits
              go_wp2_with (at_builtin; refine wpList_app _ rfl _ _ 71 rfl 77 i0 _ 3 32 Try.underlying71 hi hz0 hz1 hz2 rfl (by decide) _ k vn rfl (hown5.alloc _) ⟨w5.heap.size, 0, none⟩ 1 1 [.bool rv.z, .int .i64 rv.n, .string rv.s] rfl rfl ?c1 ?c2 (by decide) ?c3 ?c4 ?_)
              case c1 => exact cells_new3 _ _ _ _ _
              case c2 => intro u hu; simp at hu; rcases hu with rfl | rfl | rfl <;> rfl
              case c3 => unfold maxLen; omega
              case c4 => omega
              intro g cap w7 hown7 hM7 hg7
              have hM8 : Mods [] w3 w7 := (hM6.trans ((Mods.refl [] w5).alloc _) (by simp)).trans hM7 (fun x hx => .inr (hblk.out x (by simpa using hx)))
              have hsz6 := hM6.size
              have hrel : RowRel w3 f nP a ts (k + 1) (.slice (some ⟨g, 0, none⟩) (k + 1) cap) w7 := by
                refine ⟨hM8, vs ++ [rv], ?_, by simp [hvl.out], ?_, fun g' hg' => ?_⟩
                · simp only [valsTo, hva.out, HGT.out, hv.out]
                  rfl
                · rw [cellsV_snoc, hvn.out]; exact hown7
                · obtain rfl : g = g' := by simpa [Value.ownBlock] using hg'
                  rcases hg7 with h1 | h1
                  · exact hblk.out g h1
                  · have h2 : w5.heap.size + 1 ≤ g := by simpa using h1
                    omega
              clear hown7 hM7 hg7 hM6 hM8
              go_wp2_with fail
              go_roundg (nT - (k + 1))
              case measure => have := HGK.out; omega
              case rel => exact ⟨k + 1, by omega, rfl, by go_num, hrel⟩
    · obtain rfl : nT = k := by omega
      obtain ⟨hMr, vs, hva, hvl, hown, hblk⟩ := hRel
      obtain ⟨ao, cap, rfl, hV, hB⟩ := own_vals hown hvl
      have hva := Lib.hid hva
      have hvl := Lib.hid hvl
      have hMw := hMC.trans hMr (by simp)
      clear hown hstart hgk
      have fin : ∀ x, x = rowVals f nP a ts → GotRow w x (.returned (.tuple #[.slice ao vs.length cap, .bool true])) wr := by
        intro x hx
        have e : rowVals f nP a ts = some vs := by unfold rowVals; rw [hts]; exact hva.out
        rw [hx, e]
        refine ⟨hMw, ao, cap, rfl, hV, fun g hg => ?_⟩
        have h1 := hblk g.block (hB g hg)
        have h2 := hMC.size
        omega
      clear hV hB hblk
      go_wp2_with fail
      go_ret2
      exact fin _ rfl

/-- page.Row, whole: the row that stands at a place, or none. -/
def rowAns (f : Nat → UInt8) (nP a : Nat) (ts : List (Int × Int)) : Option (List V) :=
  if ts.length ≤ 64 ∧ a + 8 * (ts.length + 1) ≤ 65536 * nP then rowVals f nP a ts else none

theorem pgrow_any (w : World) (b nP : Nat) (most : Int) (f : Nat → UInt8) (L : List Nat) (h : Mem w b nP most f L) (hnP : nP ≤ 256) (tao : Option Addr) (ts : List (Int × Int)) (nT ct : Nat) (hts : ts.length = nT) (hnT : nT ≤ 9223372036854775807) (hT : TysIn w tao ts []) (a : Nat) (ha : a < 18446744073709551616) :
    Calls Try.prog 31 #[.pointer (some ⟨b, 0, none⟩), .slice tao nT ct, .int .u64 a] w (GotRow w (rowAns f nP a ts)) := by
  unfold rowAns
  by_cases hc : ts.length ≤ 64 ∧ a + 8 * (ts.length + 1) ≤ 65536 * nP
  · rw [if_pos hc]
    exact row_yes w b nP most f L h hnP tao ts nT ct hts hT a (by omega) (by omega)
  · rw [if_neg hc]
    refine (row_none w b nP most f L h hnP tao nT ct hnT a ha (by omega)).mono ?_
    rintro e w' ⟨rfl, hM⟩
    exact ⟨hM, rfl⟩
end Go.Proofs.Ytagpnalhilgcpaa

