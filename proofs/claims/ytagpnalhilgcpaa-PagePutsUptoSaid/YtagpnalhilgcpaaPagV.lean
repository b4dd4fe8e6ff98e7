/-
  The law's own helper rows, walked: rows of the first table out of cells, four a row, at most so many.
-/
import Derived.Test.YtagpnalhilgcpaaPagU
import Derived.Test.YtagpnalhilgcpaaPagR
import Derived.Deep.RegionHeld3
import Derived.Deep.AppendLies
namespace Go.Proofs.Ytagpnalhilgcpaa
open Go.RowKit
set_option linter.unusedVariables false

/-- A slice of cells, read. -/
def CellsIn (w : World) (ao : Option Addr) (n : Nat) (C : Nat → Int × ByteArray × Bool) : Prop :=
  0 < n → ∃ b off, ao = some ⟨b, off, none⟩ ∧ ∀ i, i < n → (w.cell? ⟨b, off + i * 3, none⟩ = some (.int .i64 (C i).1) ∧ w.cell? ⟨b, off + i * 3 + 1, none⟩ = some (.string (C i).2.1) ∧ w.cell? ⟨b, off + i * 3 + 2, none⟩ = some (.bool (C i).2.2)) ∧ (-9223372036854775808 ≤ (C i).1 ∧ (C i).1 ≤ 9223372036854775807) ∧ (C i).2.1.size ≤ 9223372036854775807

def colName (k : Nat) : ByteArray := ⟨#[UInt8.ofNat (97 + k)]⟩
def colKind (k : Nat) : Int := (k : Int) + 1
def colScale (k : Nat) : Int := if k = 1 then 2 else 0
def colNull (k : Nat) : Bool := decide (k ≠ 0)
theorem cols_at (k : Nat) (hk : k < 4) : colsT[k * 4]? = some (.string (colName k)) ∧ colsT[k * 4 + 1]? = some (.int .i64 (colKind k)) ∧ colsT[k * 4 + 2]? = some (.int .i64 (colScale k)) ∧ colsT[k * 4 + 3]? = some (.bool (colNull k)) := by
  have h : k = 0 ∨ k = 1 ∨ k = 2 ∨ k = 3 := by omega
  rcases h with rfl | rfl | rfl | rfl <;> exact ⟨rfl, rfl, rfl, rfl⟩

def rowVal (C : Nat → Int × ByteArray × Bool) (i k : Nat) : V := cellV (colKind k) (colNull k) (C (4 * i + k)).1 (C (4 * i + k)).2.1 (C (4 * i + k)).2.2
def rowI (C : Nat → Int × ByteArray × Bool) (i : Nat) : List V := (List.range 4).map (rowVal C i)
def rowsV (C : Nat → Int × ByteArray × Bool) (n : Nat) : List (List V) := (List.range n).map (rowI C)
theorem rowsV_len (C : Nat → Int × ByteArray × Bool) (n : Nat) : (rowsV C n).length = n := by simp [rowsV]
theorem rowsV_succ (C : Nat → Int × ByteArray × Bool) (n : Nat) : rowsV C (n + 1) = rowsV C n ++ [rowI C n] := by simp [rowsV, List.range_succ]
/-- How many rows. -/
def rowsN (n most : Nat) : Nat := if n / 4 ≤ most then n / 4 else most

def rowTo (C : Nat → Int × ByteArray × Bool) (i k : Nat) : List V := (List.range k).map (rowVal C i)
theorem rowTo_succ (C : Nat → Int × ByteArray × Bool) (i k : Nat) : rowTo C i (k + 1) = rowTo C i k ++ [rowVal C i k] := by simp [rowTo, List.range_succ]
theorem rowTo_len (C : Nat → Int × ByteArray × Bool) (i k : Nat) : (rowTo C i k).length = k := by simp [rowTo]

/-- The values of one row that are collected, in a slice of the call's own. -/
def ValsOwn (w wr : World) (t : Value) (vs : List V) : Prop :=
  Mods [] w wr ∧ wr.ownsRow 0 77 3 t vs.length (cellsV vs) ∧ ∀ g, t.ownBlock = some g → w.heap.size ≤ g
theorem ValsOwn.start (w : World) : ValsOwn w w (.slice none 0 0) [] := ⟨Mods.refl _ _, World.ownsRow_nil _ _ _ _, fun g hg => by cases hg⟩
theorem ValsOwn.quiet {w wr w' : World} {t : Value} {vs : List V} (h : ValsOwn w wr t vs) (hM : Mods [] wr w') : ValsOwn w w' t vs :=
  ⟨h.1.trans hM (by simp), ownsRow_mods h.2.1 hM (by simp), h.2.2⟩
theorem ValsOwn.push {w wr w' : World} {t : Value} {vs : List V} (h : ValsOwn w wr t vs) {v : V} {g cap : Nat} (hown : w'.ownsRow 0 77 3 (.slice (some ⟨g, 0, none⟩) (vs.length + 1) cap) (vs.length + 1) (cellsV vs ++ [.bool v.z, .int .i64 v.n, .string v.s]))
    (hM : Mods t.ownBlock.toList wr w') (hg : t.ownBlock = some g ∨ wr.heap.size ≤ g) : ValsOwn w w' (.slice (some ⟨g, 0, none⟩) (vs.length + 1) cap) (vs ++ [v]) := by
  obtain ⟨h1, -, h5⟩ := h
  refine ⟨h1.trans hM (fun x hx => .inr (h5 x (by simpa using hx))), ?_, fun g' hg' => ?_⟩
  · rw [cellsV_snoc]; simpa using hown
  · obtain rfl : g = g' := by simpa [Value.ownBlock] using hg'
    rcases hg with h | h
    · exact h5 g h
    · have := h1.size; omega

/-- 'append' to a slice of the call's own, as one step of a region that draws its order. -/
theorem step_app {P : Program} {ops : Array Oper} {o : Oper} {a : Act} {w : World} {K : Act → World → Prop} {Q : Exit → Act → World → Prop} {E : Prop} (hgd : o.guard = none) (s x : Operand) (t : TypeId)
    (ho : o.op = .call { callee := .builtin .append, args := #[s, x], argTypes := #[t, t] })
    (e : TypeId) (i : TypeInfo) (z : Value) (size bytes : Nat) (ht : P.underlying t = some (.slice e)) (hi : P.info? e = some i) (hz : i.zero = some z)
    (hsize : i.size = size) (hby : i.bytes = bytes) (hzs : z.cells.size = size) (hsz : 0 < size)
    (v : Value) (n : Nat) (xs : List Value) (hs : a.eval s = v) (hown : w.ownsRow 0 e size v n xs)
    (ad : Addr) (m c : Nat) (news : List Value) (hx : a.eval x = .slice (some ad) m c) (hl : news.length = m * size) (hnews : ∀ j u, news[j]? = some u → w.cell? (ad.add j) = some u) (h1 : ∀ u ∈ news, u.oneCell' = true)
    (hm : 0 < m) (h63 : n + m ≤ maxLen) (hbytes : (n + m) * bytes ≤ 140737488355328)
    (h : ∀ g cap w', w'.ownsRow 0 e size (.slice (some ⟨g, 0, none⟩) (n + m) cap) (n + m) (xs ++ news) → Mods v.ownBlock.toList w w' → (v.ownBlock = some g ∨ w.heap.size ≤ g) → K (a.put o.dst (.slice (some ⟨g, 0, none⟩) (n + m) cap)) w') :
    if Region.wanted o (yielded ops a.tmps) = true then Oper.wp P o a w K Q else E :=
  step_append_lies w hgd s x t ho 0 e i z size bytes ht hi hz hsize hby hzs hsz v n xs hs hown ad m c news hx hl hnews h1 hm h63 hbytes (Nat.zero_le _) w.heap.size rfl
    (fun g cap w' h1 h2 h3 _ => h g cap w' h1 (Mods.of_grown h2) (h3.imp id (fun e => by omega)))

theorem RowsOwn.base {w wa wr : World} {t : Value} {rs : List (List V)} (h : RowsOwn wa wr t rs) (hM : Mods [] w wa) : RowsOwn w wr t rs :=
  ⟨hM.trans h.1 (by simp), h.2.1, fun g hg => Nat.le_trans hM.size (h.2.2 g hg)⟩
theorem three_one (z : Bool) (n : Int) (s : ByteArray) : ∀ u ∈ ([.bool z, .int .i64 n, .string s] : List Value), u.oneCell' = true := by
  intro u hu; simp at hu; rcases hu with rfl | rfl | rfl <;> rfl
theorem keep8 {W w' : World} {L : List Nat} {p0 p1 p2 p3 p4 p5 p6 p7 : Addr} {x0 x1 x2 x3 x4 x5 x6 x7 : Value} (h0 : W.cell? p0 = some x0) (h1 : W.cell? p1 = some x1) (h2 : W.cell? p2 = some x2) (h3 : W.cell? p3 = some x3) (h4 : W.cell? p4 = some x4) (h5 : W.cell? p5 = some x5) (h6 : W.cell? p6 = some x6) (h7 : W.cell? p7 = some x7)
    (k0 : p0.block ∉ L) (k1 : p1.block ∉ L) (k2 : p2.block ∉ L) (k3 : p3.block ∉ L) (k4 : p4.block ∉ L) (k5 : p5.block ∉ L) (k6 : p6.block ∉ L) (k7 : p7.block ∉ L) (h : Mods L W w') :
    w'.cell? p0 = some x0 ∧ w'.cell? p1 = some x1 ∧ w'.cell? p2 = some x2 ∧ w'.cell? p3 = some x3 ∧ w'.cell? p4 = some x4 ∧ w'.cell? p5 = some x5 ∧ w'.cell? p6 = some x6 ∧ w'.cell? p7 = some x7 ∧ Mods L W w' :=
  ⟨h.cell h0 k0, h.cell h1 k1, h.cell h2 k2, h.cell h3 k3, h.cell h4 k4, h.cell h5 k5, h.cell h6 k6, h.cell h7 k7, h⟩

set_option maxHeartbeats 2000000 in
set_option maxRecDepth 100000 in
theorem rows_any (w : World) (name : ByteArray) (g : Nat) (hg : w.heap[g]? = some (.cells colsT 62 (0, 0))) (lao : Option Addr) (n cl : Nat) (hn : n ≤ 9223372036854775807) (C : Nat → Int × ByteArray × Bool) (hC : CellsIn w lao n C) (most : Nat) (hmost : most ≤ 1000) :
    Calls Try.prog 26 #[.agg #[.string name, .slice (some ⟨g, 0, none⟩) 4 4], .slice lao n cl, .int .i64 most] w fun e w' => ∃ t, e = .returned t ∧ RowsOwn w w' t (rowsV C (rowsN n most)) := by
  obtain ⟨i0, hi, hz0, hz1, hz2⟩ := info_parts (show (Try.prog.info? 71).map (fun i => (i.zero, i.size, i.bytes)) = some (some (.slice none 0 0), 1, 24) by kernel_rfl)
  obtain ⟨i1, hi', hy0, hy1, hy2⟩ := info_parts (show (Try.prog.info? 77).map (fun i => (i.zero, i.size, i.bytes)) = some (some (.agg #[.bool false, .int .i64 0, .string ⟨#[]⟩]), 3, 32) by kernel_rfl)
  have hMA := (Mods.refl [] w).alloc (.cells #[.string name, .slice (some ⟨g, 0, none⟩) 4 4] 56)
  have hb := heap_alloc_new w (.cells #[.string name, .slice (some ⟨g, 0, none⟩) 4 4] 56)
  obtain ⟨R, hR⟩ : ∃ R, rowsN n most = R := ⟨_, rfl⟩
  have hR1 : R ≤ n / 4 ∧ R ≤ most ∧ (R = n / 4 ∨ R = most) := by rw [← hR]; unfold rowsN; split <;> omega
  rw [hR]
  clear hR
  go_enter Try.func26, Try.ntmps26
  go_wp2_with fail
  generalize hwa : w.alloc (.cells #[.string name, .slice (some ⟨g, 0, none⟩) 4 4] 56) = wa at *
  have hbx : wa.heap.size = w.heap.size + 1 := by rw [← hwa]; exact size_alloc _ _
  have hst : RowsOwn wa wa (.slice none 0 0) (rowsV C 0) := RowsOwn.start wa
  clear hwa
  generalize w.heap.size = bx at *
  have HBX := Lib.hid hbx
  clear hbx
  go_loopw [7, 8] (fun t7 t8 wr => ∃ q : Nat, q ≤ R ∧ t8 = .int .i64 ((4 * q : Nat) : Int) ∧ RowsOwn wa wr t7 (rowsV C q)) (fun _ t8 _ => 4 * R - (intOf t8).toNat)
  case atStart => exact ⟨0, by omega, rfl, hst⟩
  case round =>
    clear hst
    obtain ⟨q, hq, rfl, hRO⟩ := hrel
    have hMw := hRO.1
    obtain ⟨ao, cap, rfl, -⟩ := hRO.rows
    rw [rowsV_len] at hRO ⊢
    have hbr := hMw.heap hb (by simp)
    have b1 : wr.cell? ⟨bx, 1, none⟩ = some (.slice (some ⟨g, 0, none⟩) 4 4) := (cell_of_heap hbr 1).trans rfl
    have e4 : ((4 * q : Nat) : Int) = 4 * (q : Int) := by omega
    rw [e4]
    by_cases hqR : q < R
    · have c1 : 4 * (q : Int) + 4 ≤ (n : Int) := by omega
      have c2 : (q : Int) < (most : Int) := by omega
      have HRO := Lib.hid hRO
      clear hRO hbr
      go_wp2_with fail
      obtain ⟨wo, hwo⟩ : ∃ wo : World, wo = wr := ⟨_, rfl⟩
      have hvs : ValsOwn wr wr (.slice none 0 0) (rowTo C q 0) := ValsOwn.start wr
      rw [← hwo] at hvs HRO hMw b1
      obtain ⟨lb, lo, rfl, hCc⟩ := hC (by omega)
      have hMo : Mods [] w wo := hMA.trans HRO.out.1 (by simp)
      have hgo := hMo.heap hg (by simp)
      have hCo := fun i hi => hCc i hi
      have hCl := fun i hi => (hCc i hi).1.1
      clear hC hg
      go_loopw [9, 10] (fun t9 t10 wx => ∃ k : Nat, k ≤ 4 ∧ t10 = .int .i64 k ∧ ValsOwn wo wx t9 (rowTo C q k)) (fun _ t10 _ => 4 - (intOf t10).toNat)
      case atStart => rw [← hwo]; exact ⟨0, by omega, rfl, hvs⟩
      case round =>
        clear hvs hwo
        obtain ⟨k, hk, rfl, hVO⟩ := hrel
        have b2 := hVO.1.cell b1 (by simp)
        by_cases hk4 : k < 4
        · obtain ⟨P, hP⟩ : ∃ P, 4 * q + k = P := ⟨_, rfl⟩
          have hPi : 4 * (q : Int) + (k : Int) = (P : Int) := by omega
          have hPn : P < n := by omega
          obtain ⟨⟨x0, x1, x2⟩, hxn, hxs⟩ := hCo P hPn
          have hMx := hMo.trans hVO.1 (by simp)
          have x0 := hMx.cell x0 (by simp)
          have x1 := hMx.cell x1 (by simp)
          have x2 := hMx.cell x2 (by simp)
          obtain ⟨k0, k1, k2, k3⟩ := cols_at k hk4
          have hgx := hVO.1.heap hgo (by simp)
          have y0 := (cell_of_heap hgx (k * 4)).trans k0
          have y1 := (cell_of_heap hgx (k * 4 + 1)).trans k1
          have y2 := (cell_of_heap hgx (k * 4 + 2)).trans k2
          have y3 := (cell_of_heap hgx (k * 4 + 3)).trans k3
          have hval := fun w' => value_any w' (colName k) (colKind k) (colScale k) (colNull k) (C P).1 hxn (C P).2.1 hxs (C P).2.2
          have hrv : rowVal C q k = cellV (colKind k) (colNull k) (C P).1 (C P).2.1 (C P).2.2 := by unfold rowVal; rw [hP]
          have hki : (0 : Int) ≤ (k : Int) ∧ (k : Int) < 4 := by omega
          have hpi : (0 : Int) ≤ (P : Int) ∧ (P : Int) < (n : Int) := by omega
          have hpt : (P : Int).toNat = P := by omega
          have hkt : (k : Int).toNat = k := by omega
          have hPw : IntKind.i64.wrap (P : Int) = (P : Int) := by rw [IntKind.wrap_i64]; omega
          have HRV := Lib.hid hrv
          have HP := Lib.hid hP
          have HV := Lib.hid hVO
          generalize cellV (colKind k) (colNull k) (C P).1 (C P).2.1 (C P).2.2 = cv at *
          generalize colName k = cname at *
          generalize colKind k = ckind at *
          generalize colScale k = csc at *
          generalize colNull k = cnl at *
          generalize (C P).1 = xn at *
          generalize (C P).2.1 = xs at *
          generalize (C P).2.2 = xz at *
          clear hrv hP hVO hgx k0 k1 k2 k3 hCo hCc
          have hvd := hval wr.drew
          obtain ⟨-, q2, q5⟩ := HV.out
          obtain ⟨vn, hvn⟩ : ∃ vn, cellsV (rowTo C q k) = vn := ⟨_, rfl⟩
          rw [hvn, rowTo_len] at q2
          have HVN := Lib.hid hvn
          have lo_x : bx < wo.heap.size := lt_of_cell b1
          have lo_g : g < wo.heap.size := lt_size_of_heap hgo
          have lo_l : lb < wo.heap.size := by
            have : lb < w.heap.size := lt_of_cell (hCl P hPn)
            have := hMo.size
            omega
          generalize u9 = t9 at *
          have nx : bx ∉ t9.ownBlock.toList := fun hm => by have := q5 bx (by simpa using hm); omega
          have ng : g ∉ t9.ownBlock.toList := fun hm => by have := q5 g (by simpa using hm); omega
          have nl : lb ∉ t9.ownBlock.toList := fun hm => by have := q5 lb (by simpa using hm); omega
          clear hval hvn q5 lo_x lo_g lo_l
          go_wp2_with fail
          go_region_held3 (fun w' => w'.cell? ⟨bx, 1, none⟩ = some (.slice (some ⟨g, 0, none⟩) 4 4) ∧ w'.cell? ⟨g, k * 4, none⟩ = some (.string cname) ∧ w'.cell? ⟨g, k * 4 + 1, none⟩ = some (.int .i64 ckind) ∧ w'.cell? ⟨g, k * 4 + 2, none⟩ = some (.int .i64 csc) ∧ w'.cell? ⟨g, k * 4 + 3, none⟩ = some (.bool cnl) ∧ w'.cell? ⟨lb, lo + P * 3, none⟩ = some (.int .i64 xn) ∧ w'.cell? ⟨lb, lo + P * 3 + 1, none⟩ = some (.string xs) ∧ w'.cell? ⟨lb, lo + P * 3 + 2, none⟩ = some (.bool xz) ∧ Mods t9.ownBlock.toList wr w')
            (((with_reducible refine keep8 b2 y0 y1 y2 y3 x0 x1 x2 nx ng ng ng ng nl nl nl ?_); first | assumption | exact (Mods.refl _ _).drew | ((with_reducible refine Mods.alloc ?_ _); first | assumption | exact Mods.refl _ _)))
            (first | (go_at_call 45; (with_reducible refine hvd.mono ?_); rintro e w3 ⟨rfl, hM3⟩; have q3 := ownsRow_mods q2 (((Mods.refl [] wr).drew).trans hM3 (by simp)) (by simp); have hK3 : Mods t9.ownBlock.toList wr w3 := (((Mods.refl [] wr).drew).trans hM3 (by simp)).mono (by simp)) | ((refine step_app rfl (.tmp 37) (.tmp 50) 71 rfl 77 i1 _ 3 32 Try.underlying71 hi' hy0 hy1 hy2 rfl (by decide) t9 k vn (by rfl) (q3.alloc _) ⟨w3.heap.size, 0, none⟩ 1 1 [.bool cv.z, .int .i64 cv.n, .string cv.s] (by rfl) rfl (cells_new3 _ _ _ _ _) (three_one _ _ _) (by decide) (by unfold maxLen; omega) (by omega) ?_); intro g9 cap9 w7 hown7 hM7 hg7; have hK7 : Mods t9.ownBlock.toList wr w7 := (hK3.alloc _).trans hM7 (fun x hx => .inl hx)))
          have hrel : ValsOwn wo w7 (.slice (some ⟨g9, 0, none⟩) (k + 1) cap9) (rowTo C q (k + 1)) := by
            have hMA := (Mods.refl [] w3).alloc (.cells #[.bool cv.z, .int .i64 cv.n, .string cv.s] 77)
            have hV3 := HV.out.quiet ((((Mods.refl [] wr).drew).trans hM3 (by simp)).trans hMA (by simp))
            have := hV3.push (v := cv) (w' := w7) (g := g9) (cap := cap9) (by rw [rowTo_len, HVN.out]; exact hown7) hM7 hg7
            rw [rowTo_len] at this
            rw [rowTo_succ, HRV.out]
            exact this
          clear hown7 hM7 hg7 q2 q3 hK3 hK7 hvd hM3
          go_wp2_with fail
          go_roundw
          case measure => simp [intOf]; omega
          case rel => exact ⟨k + 1, by omega, by go_num, hrel⟩
        · obtain rfl : k = 4 := by omega
          have hrow : rowTo C q 4 = rowI C q := rfl
          obtain ⟨v0, v1, v2⟩ := hVO
          obtain ⟨vo, vc, rfl, hV, hB⟩ := own_vals v1 rfl
          have hRr := HRO.out.quiet v0
          obtain ⟨-, ⟨cells, p2, p3, p4⟩, -⟩ := id hRr
          have hsz := v0.size
          have p0 := HRO.out
          obtain ⟨-, ⟨cells0, o2, -, -⟩, -⟩ := p0
          have hVL : ValsIn wr vo (rowI C q) (Value.slice ao q cap).ownBlock.toList := by
            intro hn
            obtain ⟨tb, off, z1, z2, z3⟩ := hV hn
            refine ⟨tb, off, z1, fun hm => ?_, z3⟩
            have h5 := v2 tb (hB _ z1)
            have h6 := ownsRow_lt o2 tb hm
            omega
          rw [rowsV_len] at p2 p3
          rw [rowTo_len]
          have HP := Lib.hid (And.intro p3 p4)
          have HRr := Lib.hid hRr
          have HVL := Lib.hid hVL
          have hMwr := hMw.trans v0 (by simp)
          have hl4 : (rowI C q).length = 4 := rowTo_len C q 4
          clear p3 p4 hRr hVL hV hB v1 v2 o2 hCc hCo hCl hrow
          go_wp2_with (at_builtin; refine wpList_app _ rfl _ _ 52 rfl 71 i0 (.slice none 0 0) 1 24 Try.underlying52 hi hz0 hz1 hz2 rfl (by decide) (.slice ao q cap) q cells rfl (p2.alloc _) ⟨wr.heap.size, 0, none⟩ 1 1 [.slice vo 4 vc] rfl rfl (cell_one_new _ _ _) ?c2 (by decide) ?c3 ?c4 ?_)
          case c2 => intro u hu; simp at hu; subst hu; rfl
          case c3 => unfold maxLen; omega
          case c4 => omega
          intro g9 cap9 w7 hown7 hM7 hg7
          have hrel : RowsOwn wa w7 (.slice (some ⟨g9, 0, none⟩) (q + 1) cap9) (rowsV C (q + 1)) := by
            have hMA := (Mods.refl [] wr).alloc (.cells #[.slice vo 4 vc] 71)
            have hRA := HRr.out.quiet hMA
            have := hRA.push (r := rowI C q) (c := vc) (HVL.out.mods (hMA.mono (by simp))) (by rw [rowsV_len]; exact p2.alloc _) (by rw [rowsV_len]; exact HP.out.1) (fun i hi => by
              obtain ⟨vo', c', z1, z2⟩ := HP.out.2 i hi
              exact ⟨vo', c', z1, z2.mods (hMA.mono (by simp))⟩) (g := g9) (cap := cap9) (w' := w7) (by rw [rowsV_len, hl4]; exact hown7) hM7 (by rw [size_alloc]; exact hg7)
            rw [rowsV_len] at this
            rw [rowsV_succ]
            exact this
          have hb7 : w7.cell? ⟨bx, 1, none⟩ = some (.slice (some ⟨g, 0, none⟩) 4 4) := hM7.cell (((Mods.refl [] wr).alloc _).cell b2 (by simp)) (fun hm => by
            have h1 := HRO.out.2.2 bx (by simpa using hm)
            have h2 := HBX.out
            omega)
          clear hown7 hM7 hg7 p2
          go_wp2_with fail
          go_roundw
          case measure => simp [intOf]; omega
          case rel => exact ⟨q + 1, by omega, by go_num, hrel⟩
    · obtain rfl : R = q := by omega
      have hno : ¬ (4 * (R : Int) + 4 ≤ (n : Int)) ∨ ¬ ((R : Int) < (most : Int)) := by omega
      have fin := hRO.base hMA
      clear hRO hbr
      by_cases hc : 4 * (R : Int) + 4 ≤ (n : Int)
      · have hc2 : ¬ ((R : Int) < (most : Int)) := by omega
        go_wp2_with fail
        go_ret
        exact ⟨_, rfl, fin⟩
      · go_wp2_with fail
        go_ret
        exact ⟨_, rfl, fin⟩
end Go.Proofs.Ytagpnalhilgcpaa
