/-
  The law SchemaMany, walked whole. No condition but that Go's own variables hold what they were laid with.
-/
import Derived.Test.YtijapjnhjioknaaDoorScO
namespace Go.Proofs.YtijapjnhjioknaaDoor
open Go.RowKit
open Go.Maps
set_option linter.unusedVariables false

theorem conv1 (w : World) (x : Nat) (hx : x < 256) : (convert 40 9 (.slice (some ⟨w.heap.size, 0, none⟩) 1 1)).run Tryd.prog (w.alloc (.cells #[.int .u8 x] 5)) = .ok (.string ⟨#[UInt8.ofNat x]⟩) (w.alloc (.cells #[.int .u8 x] 5)) := by
  have := run_convert_bytes_back (P := Tryd.prog) (w.alloc (.cells #[.int .u8 x] 5)) 40 9 5 ⟨w.heap.size, 0, none⟩ 1 [UInt8.ofNat x] Tryd.underlying40 Tryd.underlying5 Tryd.underlying9 (by
    intro j hj
    obtain rfl : j = 0 := by simp at hj; omega
    rw [addr_add, cell_of_heap (heap_alloc_new w _)]
    simp
    omega)
  simpa using this

/-- The first n columns c.., of truths. -/
def manyCols (n : Nat) : List Col := (List.range n).map fun i => ⟨⟨#[99, UInt8.ofNat (97 + i)]⟩, 4, 0, false⟩
/-- The first n tables t.., of one number each. -/
def manyTbl (i : Nat) : Tbl := ⟨⟨#[116, UInt8.ofNat (97 + i)]⟩, [⟨⟨#[120]⟩, 2, 1 + (i % 9 : Nat), false⟩]⟩
def manyTbls (n : Nat) : List Tbl := (List.range n).map manyTbl
theorem many_cols (n : Nat) (h : n < 21) : tblOK ⟨⟨#[116]⟩, manyCols n⟩ = (decide (1 ≤ n) && decide (n ≤ 16)) := by
  have : ∀ n, n < 21 → tblOK ⟨⟨#[116]⟩, manyCols n⟩ = (decide (1 ≤ n) && decide (n ≤ 16)) := by decide +kernel
  exact this n h
theorem many_tbls (n : Nat) (h : n < 21) : tblsOK (manyTbls n) = decide (n ≤ 16) := by
  have : ∀ n, n < 21 → tblsOK (manyTbls n) = decide (n ≤ 16) := by decide +kernel
  exact this n h

theorem ColsIn.later {w w' : World} {ao : Option Addr} {vs : List Col} {L L' : List Nat} (h : ColsIn w' ao vs L) (h0 : ColsIn w ao vs L) (hL : ∀ k ∈ L', k ∈ L ∨ w.heap.size ≤ k) : ColsIn w' ao vs L' := by
  intro hn
  obtain ⟨tb, off, h1, h2, h3⟩ := h hn
  obtain ⟨tb', off', h1', h2', h3'⟩ := h0 hn
  rw [h1] at h1'
  cases h1'
  refine ⟨tb, off, h1, fun hm => ?_, h3⟩
  have h4 : tb < w.heap.size := lt_of_cell (h3' 0 (List.length_pos_iff.2 hn)).1
  rcases hL tb hm with h5 | h5
  · exact h2 h5
  · omega
theorem own_cols {w : World} {v : Value} {k : Nat} {cs : List Col} (h : w.ownsRow 0 27 4 v k (cs.flatMap colC)) (hl : cs.length = k) : ∃ ao cap, v = .slice ao k cap ∧ ColsIn w ao cs [] := by
  rcases h.2 with ⟨hv, hn0⟩ | ⟨g, cap, cur, hv, hb, hg, r⟩
  · subst hv
    refine ⟨none, 0, by rw [hn0], fun h0 => ?_⟩
    have : 0 < cs.length := List.length_pos_iff.2 h0
    omega
  · subst hv
    refine ⟨some ⟨g, 0, none⟩, cap, rfl, fun _ => ⟨g, 0, rfl, by simp, fun i hi => ?_⟩⟩
    have hc := h.cells (g := g) rfl
    have q := fun j (hj : j < 4) => flat_get colC 4 (fun _ => rfl) cs i hi j hj
    refine ⟨?_, ?_, ?_, ?_⟩
    · have := hc _ _ (q 0 (by omega)); rw [addr_add] at this; exact this
    · have := hc _ _ (q 1 (by omega)); rw [addr_add] at this; exact this
    · have := hc _ _ (q 2 (by omega)); rw [addr_add] at this; exact this
    · have := hc _ _ (q 3 (by omega)); rw [addr_add] at this; exact this

/-- The tables that are collected, in a slice of the call's own. -/
def TblsOwn (w wr : World) (t : Value) (ts : List Tbl) : Prop :=
  Mods [] w wr ∧ (∃ cells : List Value, wr.ownsRow 0 30 2 t ts.length cells ∧ cells.length = ts.length * 2 ∧ ∀ i (h : i < ts.length), cells[i * 2]? = some (.string ts[i].name) ∧ ∃ co c, cells[i * 2 + 1]? = some (.slice co ts[i].cols.length c) ∧ ColsIn wr co ts[i].cols t.ownBlock.toList) ∧ ∀ g, t.ownBlock = some g → w.heap.size ≤ g
theorem TblsOwn.start (w : World) : TblsOwn w w (.slice none 0 0) [] :=
  ⟨Mods.refl _ _, ⟨[], World.ownsRow_nil _ _ _ _, rfl, fun i hi => by simp at hi⟩, fun g hg => by cases hg⟩
theorem TblsOwn.quiet {w wr w' : World} {t : Value} {ts : List Tbl} (h : TblsOwn w wr t ts) (hM : Mods [] wr w') : TblsOwn w w' t ts := by
  obtain ⟨h1, ⟨cells, h2, h3, h4⟩, h5⟩ := h
  refine ⟨h1.trans hM (by simp), ⟨cells, ownsRow_mods h2 hM (by simp), h3, fun i hi => ?_⟩, h5⟩
  obtain ⟨q0, co, c, q1, q2⟩ := h4 i hi
  exact ⟨q0, co, c, q1, q2.mods (hM.mono (by simp))⟩
theorem TblsOwn.slice {w wr : World} {t : Value} {ts : List Tbl} (h : TblsOwn w wr t ts) : ∃ ao cap, t = .slice ao ts.length cap := by
  obtain ⟨h1, ⟨cells, h2, h3, h4⟩, h5⟩ := h
  rcases h2.2 with ⟨hv, h0⟩ | ⟨g, cap, cur, hv, _⟩
  · exact ⟨none, 0, by rw [hv, h0]⟩
  · exact ⟨_, _, hv⟩
theorem TblsOwn.push {w wr w' : World} {t : Value} {ts : List Tbl} (h : TblsOwn w wr t ts) {r : Tbl} {co : Option Addr} {c : Nat} (hV : ColsIn wr co r.cols t.ownBlock.toList) {cells : List Value} (hc : wr.ownsRow 0 30 2 t ts.length cells)
    (hcl : cells.length = ts.length * 2) (hcs : ∀ i (h : i < ts.length), cells[i * 2]? = some (.string ts[i].name) ∧ ∃ co c, cells[i * 2 + 1]? = some (.slice co ts[i].cols.length c) ∧ ColsIn wr co ts[i].cols t.ownBlock.toList) {g cap : Nat} (hown : w'.ownsRow 0 30 2 (.slice (some ⟨g, 0, none⟩) (ts.length + 1) cap) (ts.length + 1) (cells ++ [.string r.name, .slice co r.cols.length c]))
    (hM : Mods t.ownBlock.toList wr w') (hg : t.ownBlock = some g ∨ wr.heap.size ≤ g) : TblsOwn w w' (.slice (some ⟨g, 0, none⟩) (ts.length + 1) cap) (ts ++ [r]) := by
  obtain ⟨h1, -, h5⟩ := h
  have hL : ∀ k ∈ (Value.slice (some ⟨g, 0, none⟩) (ts.length + 1) cap).ownBlock.toList, k ∈ t.ownBlock.toList ∨ wr.heap.size ≤ k := by
    intro k hk
    obtain rfl : k = g := by simpa [Value.ownBlock] using hk
    rcases hg with h | h
    · exact .inl (by simp [h])
    · exact .inr h
  refine ⟨h1.trans hM (fun x hx => .inr (h5 x (by simpa using hx))), ⟨_, by simpa using hown, by simp [hcl]; omega, fun i hi => ?_⟩, fun g' hg' => ?_⟩
  · by_cases hi2 : i < ts.length
    · obtain ⟨q0, co', c', q1, q2⟩ := hcs i hi2
      refine ⟨?_, co', c', ?_, ?_⟩
      · rw [List.getElem?_append_left (by omega), List.getElem_append_left hi2]; exact q0
      · rw [List.getElem?_append_left (by omega), List.getElem_append_left hi2]; exact q1
      · rw [List.getElem_append_left hi2]; exact (q2.mods hM).later q2 hL
    · obtain rfl : i = ts.length := by simp at hi; omega
      refine ⟨?_, co, c, ?_, ?_⟩
      · rw [List.getElem?_append_right (by omega), hcl]; simp
      · rw [List.getElem?_append_right (by omega), hcl, show ts.length * 2 + 1 - ts.length * 2 = 1 by omega]; simp
      · simp only [List.getElem_append_right (Nat.le_refl _), Nat.sub_self, List.getElem_cons_zero]; exact (hV.mods hM).later hV hL
  · obtain rfl : g = g' := by simpa [Value.ownBlock] using hg'
    rcases hg with h | h
    · exact h5 g h
    · have := h1.size; omega
theorem TblsOwn.tbls {w wr : World} {t : Value} {ts : List Tbl} (h : TblsOwn w wr t ts) : ∃ ao cap, t = .slice ao ts.length cap ∧ TblsIn wr ao ts [] := by
  obtain ⟨h1, ⟨cells, h2, h3, h4⟩, h5⟩ := h
  rcases h2.2 with ⟨hv, hn0⟩ | ⟨g, cap, cur, hv, hb, hg, r⟩
  · subst hv
    refine ⟨none, 0, by rw [hn0], fun h0 => ?_⟩
    exact absurd (List.length_eq_zero_iff.1 hn0) h0
  · subst hv
    refine ⟨some ⟨g, 0, none⟩, cap, rfl, fun h0 => ⟨g, 0, rfl, by simp, fun i hi => ?_⟩⟩
    obtain ⟨q0, co, c, q1, q2⟩ := h4 i hi
    have hc := h2.cells (g := g) rfl _ _ q0
    have hd := h2.cells (g := g) rfl _ _ q1
    rw [addr_add] at hc hd
    exact ⟨hc, co, c, hd, q2.drop⟩

/-- What a table's columns are while they are appended, in a field of block tb. -/
def ManyC (w wr : World) (tb i : Nat) : Prop :=
  Mods [tb] w wr ∧ ∃ v, wr.heap[tb]? = some (.cells #[.string ⟨#[116]⟩, v] 30 (0, 0)) ∧ wr.ownsRow 0 27 4 v i ((manyCols i).flatMap colC) ∧ ∀ g, v.ownBlock = some g → w.heap.size ≤ g
theorem manyCols_succ (i : Nat) : (manyCols (i + 1)).flatMap colC = (manyCols i).flatMap colC ++ [.string ⟨#[99, UInt8.ofNat (97 + i)]⟩, .int .i64 4, .int .i64 0, .bool false] := by
  simp [manyCols, List.range_succ, colC]
theorem manyCols_len (i : Nat) : (manyCols i).length = i := by simp [manyCols]
theorem manyTbls_succ (i : Nat) : manyTbls (i + 1) = manyTbls i ++ [manyTbl i] := by simp [manyTbls, List.range_succ]
theorem manyTbls_len (i : Nat) : (manyTbls i).length = i := by simp [manyTbls]
theorem cells_new4b (w : World) (A : Obj) (x y z u : Value) (t : TypeId) : ∀ j q, ([x, y, z, u] : List Value)[j]? = some q → ((w.alloc A).alloc (.cells #[x, y, z, u] t)).cell? ((⟨w.heap.size + 1, 0, none⟩ : Addr).add j) = some q := by
  intro j q hq
  rw [addr_add, cell_of_heap (two_new w _ _).2, Nat.zero_add]
  simpa using hq
theorem cells_new2c (w : World) (A B : Obj) (x y : Value) (t : TypeId) : ∀ j q, ([x, y] : List Value)[j]? = some q → (((w.alloc A).alloc B).alloc (.cells #[x, y] t)).cell? ((⟨w.heap.size + 1 + 1, 0, none⟩ : Addr).add j) = some q := by
  intro j q hq
  rw [addr_add, cell_of_heap (three_new w _ _ _).2.2, Nat.zero_add]
  simpa using hq

set_option maxRecDepth 100000 in
set_option maxHeartbeats 2000000 in
theorem schemaMany_walk (w : World) (hT : Tabs w) (c0 : Nat) (hc0 : c0 < 256) (m0 : Nat) (hm0 : m0 < 256) :
    Calls Tryd.prog 4 #[.int .u8 c0, .int .u8 m0] w fun e w' => e = .returned (.bool true) ∧ Mods [] w w' := by
  obtain ⟨i0, hi0, hz0, hz1, hz2⟩ := info_parts (show (Tryd.prog.info? 27).map (fun i => (i.zero, i.size, i.bytes)) = some (some (.agg #[.string ⟨#[]⟩, .int .i64 0, .int .i64 0, .bool false]), 4, 40) by kernel_rfl)
  obtain ⟨j0, hj0, hy0, hy1, hy2⟩ := info_parts (show (Tryd.prog.info? 30).map (fun i => (i.zero, i.size, i.bytes)) = some (some (.agg #[.string ⟨#[]⟩, .slice none 0 0]), 2, 40) by kernel_rfl)
  obtain ⟨n, hn⟩ : ∃ n, c0 % 21 = n := ⟨_, rfl⟩
  obtain ⟨k, hk⟩ : ∃ k, m0 % 21 = k := ⟨_, rfl⟩
  have hn21 : n < 21 := by omega
  have hk21 : k < 21 := by omega
  have hni : (c0 : Int) % 21 = (n : Int) := by omega
  have hki : (m0 : Int) % 21 = (k : Int) := by omega
  go_enter Tryd.func4, Tryd.ntmps4
  go_wp2_with fail
  refine (examples12 _ hT).mono ?_
  rintro e w1 ⟨rfl, hM1⟩
  go_wp2_with fail
  have hMA := (Mods.refl [] w1).alloc (.cells #[.string ⟨#[116]⟩, .slice none 0 0] 30)
  have hb := heap_alloc_new w1 (.cells #[.string ⟨#[116]⟩, .slice none 0 0] 30)
  have hsz := size_alloc w1 (.cells #[.string ⟨#[116]⟩, .slice none 0 0] 30)
  have hge := hM1.size
  have hM2 := hM1.trans hMA (by simp)
  generalize w1.alloc (.cells #[.string ⟨#[116]⟩, .slice none 0 0] 30) = w2 at *
  generalize w1.heap.size = tb at *
  have hC0 : ManyC w2 w2 tb 0 := ⟨Mods.refl _ _, _, hb, World.ownsRow_nil _ _ _ _, fun g hg => by cases hg⟩
  clear hM1 hMA hb hni hki hn hk
  go_loopg [9] n (fun gk t9 wr => ∃ i : Nat, i + gk = n ∧ t9 = .int .i64 i ∧ ManyC w2 wr tb i)
  case atStart => exact ⟨0, by omega, rfl, hC0⟩
  case round =>
    clear hC0
    obtain ⟨i, hi, rfl, hM, v, hb, hown, hblk⟩ := hrel
    by_cases hlt : i < n
    · have hiz : (i : Int) < (n : Int) := by omega
      obtain ⟨ao, cap, rfl, -⟩ := own_cols hown (manyCols_len i)
      obtain ⟨x, hx⟩ : ∃ x, 97 + i = x := ⟨_, rfl⟩
      have hx1 : x < 256 := by omega
      have hxi : (97 : Int) + (i : Int) = (x : Int) := by omega
      have hwr : IntKind.u8.wrap (x : Int) = (x : Int) := by rw [IntKind.wrap_u8]; omega
      have hcv := conv1 wr x hx1
      have happ : ((⟨#[99]⟩ : ByteArray) ++ ⟨#[UInt8.ofNat x]⟩) = ⟨#[99, UInt8.ofNat x]⟩ := by apply ByteArray.ext; simp
      have e1 := cell_of_heap hb 1
      change wr.cell? _ = some (.slice ao i cap) at e1
      have hsx : (⟨#[UInt8.ofNat x]⟩ : ByteArray).size = 1 := rfl
      go_wp2_with (at_builtin; refine wpList_app _ rfl _ _ 28 rfl 27 i0 _ 4 40 Tryd.underlying28 hi0 hz0 hz1 hz2 rfl (by decide) (.slice ao i cap) i ((manyCols i).flatMap colC) rfl ((hown.alloc _).alloc _) ⟨wr.heap.size + 1, 0, none⟩ 1 1 [.string ⟨#[99, UInt8.ofNat x]⟩, .int .i64 4, .int .i64 0, .bool false] rfl rfl (cells_new4b _ _ _ _ _ _ _) (by intro u hu; simp at hu; rcases hu with rfl | rfl | rfl | rfl <;> rfl) (by decide) (by unfold maxLen; omega) (by omega) ?_)
      intro g cap2 w7 hown7 hM7 hg7
      have hMAA := ((Mods.refl [] wr).alloc (.cells #[.int .u8 x] 5)).alloc (.cells #[.string ⟨#[99, UInt8.ofNat x]⟩, .int .i64 4, .int .i64 0, .bool false] 27)
      have hgt : ∀ y ∈ (Value.slice ao i cap).ownBlock.toList, w2.heap.size ≤ y := fun y hy => hblk y (by simpa using hy)
      have hb7 := hM7.heap (hMAA.heap hb (by simp)) (fun h => by have := hgt _ h; omega)
      have hwr2 := hM.size
      have hgg : w2.heap.size ≤ g := by
        rcases hg7 with h | h
        · exact hblk g h
        · omega
      have hM8 : Mods [tb] w2 (w7.setCell ⟨tb, 1, none⟩ (.slice (some ⟨g, 0, none⟩) (i + 1) cap2)) := ((hM.trans (hMAA.mono (L' := [tb]) (by simp)) (by simp)).trans hM7 (fun y hy => .inr (hgt y hy))).setCell (.inl (by simp)) _
      have hown8 := ownsRow_mods hown7 ((Mods.refl [tb] w7).setCell (p := ⟨tb, 1, none⟩) (.inl (by simp)) (.slice (some ⟨g, 0, none⟩) (i + 1) cap2)) (fun g' hg' => (show g = g' by simpa [Value.ownBlock] using hg') ▸ (show g ∉ [tb] by simp; omega))
      have hb8 := heap_setCell_same hb7 1 (.slice (some ⟨g, 0, none⟩) (i + 1) cap2)
      have f7 := frozen_of_heap hb7 1
      have e7 := cell_of_heap hb7 1
      change w7.cell? _ = some (.slice ao i cap) at e7
      have hms := manyCols_succ i
      rw [hx] at hms
      rw [← hms] at hown8
      have HC8 := Lib.hid (show ManyC w2 (w7.setCell ⟨tb, 1, none⟩ (.slice (some ⟨g, 0, none⟩) (i + 1) cap2)) tb (i + 1) from ⟨hM8, _, hb8, hown8, fun g' hg' => (show g = g' by simpa [Value.ownBlock] using hg') ▸ hgg⟩)
      clear hown8 hb8 hM8 hms hown7 hb7 hM7 hg7 hown hb hM hMAA hgt hblk hcv
      go_wp2_with fail
      go_roundg (n - (i + 1))
      case measure => omega
      case rel => exact ⟨i + 1, by omega, by go_num, HC8.out⟩
    · obtain rfl : n = i := by omega
      have hMw := hM2.trans hM (fun y hy => .inr (by simp at hy; omega))
      obtain ⟨ao, cap, rfl, hC⟩ := own_cols hown (manyCols_len n)
      clear hown hblk hM hM2
      rename World => w3
      go_wp2_with fail
      go_loopg [10, 11] k (fun gk t10 t11 wr => ∃ i : Nat, i + gk = k ∧ t11 = .int .i64 i ∧ TblsOwn w3 wr t10 (manyTbls i))
      case atStart => exact ⟨0, by omega, rfl, TblsOwn.start _⟩
      case round =>
        obtain ⟨i, hi, rfl, hO⟩ := hrel
        obtain ⟨bo, bcap, rfl⟩ := hO.slice
        rw [manyTbls_len] at *
        by_cases hlt : i < k
        · have hiz : (i : Int) < (k : Int) := by omega
          obtain ⟨x, hx⟩ : ∃ x, 97 + i = x := ⟨_, rfl⟩
          obtain ⟨q, hq⟩ : ∃ q, i % 9 = q := ⟨_, rfl⟩
          have hx1 : x < 256 := by omega
          have hxi : (97 : Int) + (i : Int) = (x : Int) := by omega
          have hwr : IntKind.u8.wrap (x : Int) = (x : Int) := by rw [IntKind.wrap_u8]; omega
          have hcv := conv1 wr x hx1
          have happ : ((⟨#[116]⟩ : ByteArray) ++ ⟨#[UInt8.ofNat x]⟩) = ⟨#[116, UInt8.ofNat x]⟩ := by apply ByteArray.ext; simp
          have hq1 : (i : Int).tmod 9 = (q : Int) := by rw [Int.tmod_eq_emod_of_nonneg (by omega)]; omega
          have hq2 : (i : Int) % 9 = (q : Int) := by omega
          have hsx : (⟨#[UInt8.ofNat x]⟩ : ByteArray).size = 1 := rfl
          obtain ⟨r, hr⟩ : ∃ r, 1 + q = r := ⟨_, rfl⟩
          have hri : (1 : Int) + (q : Int) = (r : Int) := by omega
          have htt : manyTbl i = ⟨⟨#[116, UInt8.ofNat x]⟩, [⟨⟨#[120]⟩, 2, r, false⟩]⟩ := by
            unfold manyTbl
            rw [hx, hq, hri]
          have hMAA := (((Mods.refl [] wr).alloc (.cells #[.int .u8 x] 5)).alloc (.cells #[.string ⟨#[120]⟩, .int .i64 2, .int .i64 r, .bool false] 27)).alloc (.cells #[.string ⟨#[116, UInt8.ofNat x]⟩, .slice (some ⟨wr.heap.size + 1, 0, none⟩) 1 1] 30)
          have hOA := hO.quiet hMAA
          obtain ⟨-, hh2, -⟩ := three_new wr (.cells #[.int .u8 x] 5) (.cells #[.string ⟨#[120]⟩, .int .i64 2, .int .i64 r, .bool false] 27) (.cells #[.string ⟨#[116, UInt8.ofNat x]⟩, .slice (some ⟨wr.heap.size + 1, 0, none⟩) 1 1] 30)
          have hCn := cols_new (cs := [⟨⟨#[120]⟩, 2, r, false⟩]) hh2 rfl
          have HOA := Lib.hid hOA
          have hwr0 := hO.1.size
          obtain ⟨hMo, ⟨cells, hown, hcl, hcs⟩, hblk⟩ := hOA
          have hCn2 := hCn.apart' (L := (Value.slice bo i bcap).ownBlock.toList) (fun hm => by
            have h1 : (Value.slice bo i bcap).ownBlock = some (wr.heap.size + 1) := by simpa using hm
            have h2 := (ownsRow_lt (hO.2.1.choose_spec.1)) (wr.heap.size + 1) (by simpa using hm)
            omega)
          have HCS := Lib.hid (And.intro hcl (And.intro hcs hCn2))
          have HTT := Lib.hid htt
          rw [manyTbls_len] at hown
          clear hcl hcs hCn2 hCn hh2 hO htt hMo
          go_wp2_with (at_builtin; refine wpList_app _ rfl _ _ 41 rfl 30 j0 _ 2 40 Tryd.underlying41 hj0 hy0 hy1 hy2 rfl (by decide) (.slice bo i bcap) i cells rfl hown ⟨wr.heap.size + 1 + 1, 0, none⟩ 1 1 [.string ⟨#[116, UInt8.ofNat x]⟩, .slice (some ⟨wr.heap.size + 1, 0, none⟩) 1 1] rfl rfl (cells_new2c _ _ _ _ _ _) (by intro u hu; simp at hu; rcases hu with rfl | rfl <;> rfl) (by decide) (by unfold maxLen; omega) (by omega) ?_)
          intro g cap2 w7 hown7 hM7 hg7
          have hcall : TblsOwn w3 w7 (.slice (some ⟨g, 0, none⟩) (i + 1) cap2) (manyTbls (i + 1)) := by
            have hp := HOA.out.push (r := manyTbl i) (co := some ⟨wr.heap.size + 1, 0, none⟩) (c := 1) (cells := cells) (g := g) (cap := cap2) (w' := w7) (by rw [HTT.out]; exact HCS.out.2.2) (by rw [manyTbls_len]; exact hown) HCS.out.1 HCS.out.2.1 (by rw [manyTbls_len, HTT.out]; exact hown7) hM7 (by rw [size_alloc, size_alloc, size_alloc]; exact hg7)
            rw [manyTbls_len, ← manyTbls_succ] at hp
            exact hp
          have HP := Lib.hid hcall
          clear hown7 hM7 hg7 hown hcall hMAA hcv
          go_wp2_with fail
          go_roundg (k - (i + 1))
          case measure => omega
          case rel => exact ⟨i + 1, by omega, by go_num, HP.out⟩
        · obtain rfl : k = i := by omega
          obtain ⟨ao2, cap2, hsl, hTb⟩ := hO.tbls
          rw [manyTbls_len] at hsl
          simp only [Value.slice.injEq, true_and] at hsl
          obtain ⟨rfl, rfl⟩ := hsl
          have hMr := hMw.trans hO.1 (by simp)
          have hCr := hC.mods hO.1
          have hbr := hO.1.heap hb (by simp)
          have htr := tableRight_any wr (hT.mods hMr) ⟨⟨#[116]⟩, manyCols n⟩ (tbl_ok (by decide) (by rw [manyCols_len]; omega) (fun c hc => by
            obtain ⟨j, -, rfl⟩ := List.mem_map.1 hc
            exact col_ok (by show 2 ≤ _; omega) (by omega) (by omega))) n (manyCols_len n) ao cap hCr
          have hrg := fun W (h : Mods [] wr W) => rights_any W ((hT.mods hMr).mods h) (manyTbls k) (fun t ht => by
            obtain ⟨j, -, rfl⟩ := List.mem_map.1 ht
            exact tbl_ok (by show 2 ≤ _; omega) (by show 1 ≤ _; omega) (fun c hc => by simp at hc; subst hc; exact col_ok (by decide) (by omega) (by omega))) k (manyTbls_len k) (by omega) bo bcap (hTb.mods h)
          rw [many_cols n hn21] at htr
          simp only [many_tbls k hk21] at hrg
          have a0 := cell_of_heap hbr 0
          have a1 := cell_of_heap hbr 1
          change wr.cell? _ = some (.string ⟨#[116]⟩) at a0
          change wr.cell? _ = some (.slice ao n cap) at a1
          clear hbr hCr hTb hO hC hb hT hMw
          by_cases hn1 : 1 ≤ n
          · by_cases hn16 : n ≤ 16
            · rw [decide_eq_true hn1, decide_eq_true hn16, Bool.true_and] at htr
              have z1 : (1 : Int) ≤ (n : Int) := by omega
              have z2 : (n : Int) ≤ 16 := by omega
              go_wp2_with fail
              (with_reducible refine htr.mono ?_)
              rintro e w8 ⟨rfl, hM8⟩
              clear htr
              go_wp2_with fail
              (with_reducible refine (hrg _ hM8).mono ?_)
              rintro e w9 ⟨rfl, hM9⟩
              clear hrg
              by_cases hk16 : k ≤ 16
              · have z3 : (k : Int) ≤ 16 := by omega
                rw [decide_eq_true hk16]
                go_wp2_with fail
                go_ret
                exact ⟨rfl, (hMr.trans hM8 (by simp)).trans hM9 (by simp)⟩
              · have z3 := decide_eq_false (show ¬ (k : Int) ≤ 16 by omega)
                rw [decide_eq_false hk16]
                go_wp2_with fail
                go_ret
                exact ⟨rfl, (hMr.trans hM8 (by simp)).trans hM9 (by simp)⟩
            · rw [decide_eq_true hn1, decide_eq_false hn16, Bool.true_and] at htr
              have z1 : (1 : Int) ≤ (n : Int) := by omega
              have z2 := decide_eq_false (show ¬ (n : Int) ≤ 16 by omega)
              go_wp2_with fail
              (with_reducible refine htr.mono ?_)
              rintro e w8 ⟨rfl, hM8⟩
              clear htr
              go_wp2_with fail
              (with_reducible refine (hrg _ hM8).mono ?_)
              rintro e w9 ⟨rfl, hM9⟩
              clear hrg
              by_cases hk16 : k ≤ 16
              · have z3 : (k : Int) ≤ 16 := by omega
                rw [decide_eq_true hk16]
                go_wp2_with fail
                go_ret
                exact ⟨rfl, (hMr.trans hM8 (by simp)).trans hM9 (by simp)⟩
              · have z3 := decide_eq_false (show ¬ (k : Int) ≤ 16 by omega)
                rw [decide_eq_false hk16]
                go_wp2_with fail
                go_ret
                exact ⟨rfl, (hMr.trans hM8 (by simp)).trans hM9 (by simp)⟩
          · rw [decide_eq_false hn1, Bool.false_and] at htr
            have z1 := decide_eq_false (show ¬ (1 : Int) ≤ (n : Int) by omega)
            go_wp2_with fail
            (with_reducible refine htr.mono ?_)
            rintro e w8 ⟨rfl, hM8⟩
            clear htr
            go_wp2_with fail
            (with_reducible refine (hrg _ hM8).mono ?_)
            rintro e w9 ⟨rfl, hM9⟩
            clear hrg
            by_cases hk16 : k ≤ 16
            · have z3 : (k : Int) ≤ 16 := by omega
              rw [decide_eq_true hk16]
              go_wp2_with fail
              go_ret
              exact ⟨rfl, (hMr.trans hM8 (by simp)).trans hM9 (by simp)⟩
            · have z3 := decide_eq_false (show ¬ (k : Int) ≤ 16 by omega)
              rw [decide_eq_false hk16]
              go_wp2_with fail
              go_ret
              exact ⟨rfl, (hMr.trans hM8 (by simp)).trans hM9 (by simp)⟩
end Go.Proofs.YtijapjnhjioknaaDoor
