/-
  The law PageBack, walked whole.
-/
import Derived.Test.YtagpnalhilgcpaaPagX
namespace Go.Proofs.Ytagpnalhilgcpaa
open Go.RowKit
set_option linter.unusedVariables false

/-- The types that are collected, in a slice of the call's own. -/
def TysOwn (w wr : World) (t : Value) (ts : List (Int × Int)) : Prop :=
  Mods [] w wr ∧ wr.ownsRow 0 60 2 t ts.length (cellsT ts) ∧ ∀ g, t.ownBlock = some g → w.heap.size ≤ g
theorem TysOwn.start (w : World) : TysOwn w w (.slice none 0 0) [] := ⟨Mods.refl _ _, World.ownsRow_nil _ _ _ _, fun g hg => by cases hg⟩
theorem TysOwn.quiet {w wr w' : World} {t : Value} {ts : List (Int × Int)} (h : TysOwn w wr t ts) (hM : Mods [] wr w') : TysOwn w w' t ts :=
  ⟨h.1.trans hM (by simp), ownsRow_mods h.2.1 hM (by simp), h.2.2⟩
theorem cellsT_snoc (ts : List (Int × Int)) (t : Int × Int) : cellsT (ts ++ [t]) = cellsT ts ++ [.int .i64 t.1, .int .i64 t.2] := by simp [cellsT]
theorem TysOwn.push {w wr w' : World} {t : Value} {ts : List (Int × Int)} (h : TysOwn w wr t ts) {v : Int × Int} {g cap : Nat} (hown : w'.ownsRow 0 60 2 (.slice (some ⟨g, 0, none⟩) (ts.length + 1) cap) (ts.length + 1) (cellsT ts ++ [.int .i64 v.1, .int .i64 v.2]))
    (hM : Mods t.ownBlock.toList wr w') (hg : t.ownBlock = some g ∨ wr.heap.size ≤ g) : TysOwn w w' (.slice (some ⟨g, 0, none⟩) (ts.length + 1) cap) (ts ++ [v]) := by
  obtain ⟨h1, -, h5⟩ := h
  refine ⟨h1.trans hM (fun x hx => .inr (h5 x (by simpa using hx))), ?_, fun g' hg' => ?_⟩
  · rw [cellsT_snoc]; simpa using hown
  · obtain rfl : g = g' := by simpa [Value.ownBlock] using hg'
    rcases hg with h | h
    · exact h5 g h
    · have := h1.size; omega
theorem own_tys {w : World} {v : Value} {ts : List (Int × Int)} (h : w.ownsRow 0 60 2 v ts.length (cellsT ts)) : ∃ ao cap, v = .slice ao ts.length cap ∧ TysIn w ao ts [] := by
  rcases h.2 with ⟨hv, hn0⟩ | ⟨g, cap, cur, hv, hb, hg, r⟩
  · subst hv
    exact ⟨none, 0, by rw [hn0], fun h0 => absurd (List.length_eq_zero_iff.1 hn0) h0⟩
  · subst hv
    refine ⟨some ⟨g, 0, none⟩, cap, rfl, fun _ => ⟨g, 0, rfl, by simp, fun i hi => ?_⟩⟩
    have hc := h.cells (g := g) rfl
    obtain ⟨h1, h2⟩ := cellsT_get ts i hi
    refine ⟨?_, ?_⟩
    · have := hc _ _ h1; rw [addr_add] at this; exact this
    · have := hc _ _ h2; rw [addr_add] at this; exact this
theorem cells_new2 (w : World) (x y : Value) (t : TypeId) : ∀ j u, ([x, y] : List Value)[j]? = some u → (w.alloc (.cells #[x, y] t)).cell? ((⟨w.heap.size, 0, none⟩ : Addr).add j) = some u := by
  intro j u hu
  rw [addr_add, cell_of_heap (heap_alloc_new w _), Nat.zero_add]
  simpa using hu
def tysTo (k : Nat) : List (Int × Int) := (List.range k).map fun k => (colKind k, colScale k)
theorem tysTo_succ (k : Nat) : tysTo (k + 1) = tysTo k ++ [(colKind k, colScale k)] := by simp [tysTo, List.range_succ]
theorem tysTo_len (k : Nat) : (tysTo k).length = k := by simp [tysTo]

theorem RowsOwn.rows2 {w wr : World} {t : Value} {rs : List (List V)} (h : RowsOwn w wr t rs) : ∃ ao cap, t = .slice ao rs.length cap ∧ RowsIn wr ao rs [] ∧ rs.length ≤ cap := by
  obtain ⟨ao, cap, rfl, hR⟩ := h.rows
  refine ⟨ao, cap, rfl, hR, ?_⟩
  obtain ⟨h1, ⟨cells, h2, h3, h4⟩, h5⟩ := h
  rcases h2.2 with ⟨hv, hn0⟩ | ⟨g, cap', cur, hv, hb, hg, hc, r⟩
  · omega
  · simp only [Value.slice.injEq] at hv
    obtain ⟨-, -, rfl⟩ := hv
    exact hc

theorem RowsIn.mods {w w' : World} {ao : Option Addr} {rs : List (List V)} {L : List Nat} (h : RowsIn w ao rs L) (hM : Mods L w w') : RowsIn w' ao rs L := by
  intro h0
  obtain ⟨rb, off, h1, h2, h3⟩ := h h0
  refine ⟨rb, off, h1, h2, fun i hi => ?_⟩
  obtain ⟨vo, c, q1, q2⟩ := h3 i hi
  exact ⟨vo, c, hM.cell q1 h2, q2.mods hM⟩
theorem rowsV_row {C : Nat → Int × ByteArray × Bool} {n : Nat} (hC : ∀ i, i < 4 * n → -9223372036854775808 ≤ (C i).1 ∧ (C i).1 ≤ 9223372036854775807) : ∀ vs ∈ rowsV C n, vs.length ≤ 9223372036854775807 ∧ ∀ v ∈ vs, v.ok := by
  intro vs h
  obtain ⟨i, hi, rfl⟩ := rowsV_mem h
  refine ⟨by rw [show (rowI C i).length = 4 from rowTo_len C i 4]; decide, fun v hv => ?_⟩
  obtain ⟨k, hk, rfl⟩ := rowI_mem hv
  exact rowVal_ok C i k (hC _ (by omega)) hk

set_option maxHeartbeats 2000000 in
set_option maxRecDepth 100000 in
theorem pageBack_walk (lao : Option Addr) (n cl : Nat) (C : Nat → Int × ByteArray × Bool) (hn : n ≤ 9223372036854775807) {w : World} (hC : CellsIn w lao n C) (at_ : Nat) (hat : at_ < 4294967296) :
    Calls Try.prog 9 #[.slice lao n cl, .int .u32 at_] w fun e w' => e = .returned (.bool true) ∧ Mods [] w w' := by
  obtain ⟨i1, hi', hy0, hy1, hy2⟩ := info_parts (show (Try.prog.info? 60).map (fun i => (i.zero, i.size, i.bytes)) = some (some (.agg #[.int .i64 0, .int .i64 0]), 2, 16) by kernel_rfl)
  go_enter Try.func9, Try.ntmps9
  go_wp2_with fail
  refine (examples16 _).mono ?_
  rintro e w1 ⟨rfl, hM1⟩
  go_wp2_with fail
  refine (tables_any w1).mono ?_
  rintro e w2 ⟨hM2, g, tb, d1, d2, rfl, ht, hg⟩
  have c0 := (cell_of_heap ht 0).trans rfl
  have c1 := (cell_of_heap ht 1).trans rfl
  have hMA := (Mods.refl [] w2).alloc (.cells #[.string ⟨#[116]⟩, .slice (some ⟨g, 0, none⟩) 4 4] 56)
  have hb := heap_alloc_new w2 (.cells #[.string ⟨#[116]⟩, .slice (some ⟨g, 0, none⟩) 4 4] 56)
  have hg3 := hMA.heap hg (by simp)
  have hM3 := (hM1.trans hM2 (by simp)).trans hMA (by simp)
  go_wp2_with fail
  clear hg hMA c0 c1 ht hM1 hM2
  generalize w2.alloc (.cells #[.string ⟨#[116]⟩, .slice (some ⟨g, 0, none⟩) 4 4] 56) = w3 at *
  generalize w2.heap.size = bx at *
  have hlt : bx < w3.heap.size := lt_size_of_heap hb
  have hltg : g < w3.heap.size := lt_size_of_heap hg3
  go_loopw [7, 8] (fun t7 t8 wr => ∃ k : Nat, k ≤ 4 ∧ t8 = .int .i64 k ∧ TysOwn w3 wr t7 (tysTo k)) (fun _ t8 _ => 4 - (intOf t8).toNat)
  case atStart => exact ⟨0, by omega, rfl, TysOwn.start w3⟩
  case round =>
    obtain ⟨k, hk, rfl, hTO⟩ := hrel
    have hbr := hTO.1.heap hb (by simp)
    have hgr := hTO.1.heap hg3 (by simp)
    have b0 : wr.cell? ⟨bx, 0, none⟩ = some (.string ⟨#[116]⟩) := (cell_of_heap hbr 0).trans rfl
    have b1 : wr.cell? ⟨bx, 1, none⟩ = some (.slice (some ⟨g, 0, none⟩) 4 4) := (cell_of_heap hbr 1).trans rfl
    by_cases hk4 : k < 4
    · obtain ⟨-, k1, k2, -⟩ := cols_at k hk4
      have y1 := (cell_of_heap hgr (k * 4 + 1)).trans k1
      have y2 := (cell_of_heap hgr (k * 4 + 1 + 1)).trans k2
      have hki : (0 : Int) ≤ (k : Int) ∧ (k : Int) < 4 := by omega
      have hsucc := tysTo_succ k
      have HS := Lib.hid hsucc
      have HTO := Lib.hid hTO
      obtain ⟨-, q2, -⟩ := hTO
      obtain ⟨vn, hvn⟩ : ∃ vn, cellsT (tysTo k) = vn := ⟨_, rfl⟩
      rw [hvn, tysTo_len] at q2
      have HVN := Lib.hid hvn
      generalize colKind k = ck at *
      generalize colScale k = cs at *
      clear hsucc hvn k1 k2 hgr hbr
      go_wp2_with (at_builtin; refine wpList_app _ rfl _ _ 51 rfl 60 i1 _ 2 16 Try.underlying51 hi' hy0 hy1 hy2 rfl (by decide) _ k vn rfl (q2.alloc _) ⟨wr.heap.size, 0, none⟩ 1 1 [.int .i64 ck, .int .i64 cs] rfl rfl ?c1 ?c2 (by decide) ?c3 ?c4 ?_)
      case c1 => exact cells_new2 _ _ _ _
      case c2 => intro u hu; simp at hu; rcases hu with rfl | rfl <;> rfl
      case c3 => unfold maxLen; omega
      case c4 => omega
      intro g9 cap9 w7 hown7 hM7 hg7
      have hrel : TysOwn w3 w7 (.slice (some ⟨g9, 0, none⟩) (k + 1) cap9) (tysTo (k + 1)) := by
        have hMA := (Mods.refl [] wr).alloc (.cells #[.int .i64 ck, .int .i64 cs] 60)
        have := (HTO.out.quiet hMA).push (v := (ck, cs)) (w' := w7) (g := g9) (cap := cap9) (by rw [tysTo_len, HVN.out]; exact hown7) hM7 (by rw [size_alloc]; exact hg7)
        rw [tysTo_len] at this
        rw [HS.out]
        exact this
      clear hown7 hM7 hg7 q2
      go_wp2_with fail
      go_roundw
      case measure => simp [intOf]; omega
      case rel => exact ⟨k + 1, by omega, by go_num, hrel⟩
    · obtain rfl : k = 4 := by omega
      obtain ⟨q1, q2, q3⟩ := hTO
      obtain ⟨tao, tcap, rfl, hT⟩ := own_tys q2
      rw [tysTo_len] 
      change TysIn wr tao tbTs [] at hT
      have hMw := hM3.trans q1 (by simp)
      have hCr : CellsIn wr lao n C := fun h0 => by
        obtain ⟨b, off, h1, h2⟩ := hC h0
        exact ⟨b, off, h1, fun i hi => ⟨⟨hMw.cell (h2 i hi).1.1 (by simp), hMw.cell (h2 i hi).1.2.1 (by simp), hMw.cell (h2 i hi).1.2.2 (by simp)⟩, (h2 i hi).2⟩⟩
      have hrows := rows_any wr ⟨#[116]⟩ g hgr lao n cl hn C hCr 20 (by omega)
      have hCb : ∀ i, i < n → -9223372036854775808 ≤ (C i).1 ∧ (C i).1 ≤ 9223372036854775807 := fun i hi => by
        obtain ⟨b, off, h1, h2⟩ := hC (by omega)
        exact (h2 i hi).2.1
      have HCB := Lib.hid hCb
      obtain ⟨R, hR⟩ : ∃ R, rowsN n 20 = R := ⟨_, rfl⟩
      have hR1 : R ≤ 20 ∧ 4 * R ≤ n := by rw [← hR]; unfold rowsN; split <;> omega
      rw [hR] at hrows
      clear hR hC hCr q2 q3 hgr hbr hCb
      go_wp2_with fail
      refine hrows.mono ?_
      rintro e w4 ⟨t, rfl, hRO⟩
      obtain ⟨rao, rcap, rfl, hRI, hcap⟩ := hRO.rows2
      rw [rowsV_len] at hcap ⊢
      have hT4 := hT.mods hRO.1
      have hMw4 := hMw.trans hRO.1 (by simp)
      obtain ⟨p, hp0⟩ : ∃ p, at_ % 131072 = p := ⟨_, rfl⟩
      have hp1 : p < 131072 := by omega
      have hp2 : (at_ : Int) % 131072 = (p : Int) := by omega
      obtain ⟨hb1, hb2⟩ := bk_le C R
      have hok := rowsV_row (C := C) (n := R) (fun i hi => HCB.out i (by omega))
      have hputs := fun (W : World) (hm : Mods [] w4 W) (a : Int) (ha0 : 0 ≤ a) (ha1 : a ≤ 16777217) => pgput_any W tbTs (rowsV C R) tao rao tcap rcap (hT4.mods hm) (hRI.mods hm) hok a (by omega) (by omega) (by decide) (by rw [rowsV_len]; omega)
      have hput0 := hputs w4 (Mods.refl _ _) (p : Int) (by omega) (by omega)
      unfold PgPost at hput0
      have hE0 : putE (p : Int) tbTs (rowsV C R) = 0 := by rw [bk_putE C R p (by omega), if_neg (by omega), if_neg (by omega)]
      rw [hE0, if_pos rfl, rowsV_len, Int.toNat_natCast] at hput0
      clear hE0
      change Calls _ _ #[.slice tao 4 tcap, _, _] _ (fun e w' => e = Ending.returned (Value.tuple #[Value.string ⟨(putB p 4 (rowsV C R)).toArray⟩, _]) ∧ _) at hput0
      have hsz : (⟨(putB p 4 (rowsV C R)).toArray⟩ : ByteArray).size = bkLen C R := by
        show (putB p 4 (rowsV C R)).toArray.size = _
        rw [List.size_toArray]; exact bk_len C R p
      have hrd : ∀ i, i < R → rowAns (putF (fun _ => 0) p (⟨(putB p 4 (rowsV C R)).toArray⟩ : ByteArray).size (sAt ⟨(putB p 4 (rowsV C R)).toArray⟩)) 4 (p + 40 * i) tbTs = some (rowI C i) := by
        intro i hi
        have := rows_read (f := putF (fun _ => 0) p (⟨(putB p 4 (rowsV C R)).toArray⟩ : ByteArray).size (sAt ⟨(putB p 4 (rowsV C R)).toArray⟩)) (nP := 4) (at_ := p) (ts := tbTs) (rs := rowsV C R) (i := i) (by decide) (fun vs h => (hok vs h).2) (fun vs h => by obtain ⟨j, -, rfl⟩ := rowsV_mem h; exact rowI_OK C j) (bys_put _ _ _) (by
          rw [show tbTs.length = 4 from rfl, bk_len]; omega) (by decide) (by rw [rowsV_len]; exact hi)
        rw [rowsV_get C R i hi] at this
        exact this
      have hE := bk_putE C R
      generalize (⟨(putB p 4 (rowsV C R)).toArray⟩ : ByteArray) = S at *
      generalize bkLen C R = LEN at *
      have HRD := Lib.hid hrd
      have HE := Lib.hid hE
      have HSZ := Lib.hid hsz
      have HOK := Lib.hid hok
      have HPU := Lib.hid hputs
      clear hp0 hrd hE hok hputs hrows hT q1 hRO hb hg3 hlt hltg b0 b1 hMw hM3
      go_wp2_with fail
      refine hput0.mono ?_
      rintro e w5 ⟨rfl, hM5⟩
      have hMw5 := hMw4.trans hM5 (by simp)
      clear hput0
      go_wp2_with fail
      refine (new_is _ 4 4 (by omega) (by omega) (by omega) (by omega)).mono ?_
      rintro e w6 ⟨b, L, rfl, hm6, hM6, hL6⟩
      have hMw6 := hMw5.trans hM6 (by simp)
      have h46 := hM5.trans hM6 (by simp)
      have hLw : ∀ k ∈ L, w.heap.size ≤ k := fun k hk => by have := hL6 k hk; have := hMw5.size; omega
      have hL4 : ∀ k ∈ L, w4.heap.size ≤ k := fun k hk => by have := hL6 k hk; have := hM5.size; omega
      clear hsz hM5 hL6
      go_wp2_with fail
      refine (write_ok w6 b 4 _ _ L p S hm6 (by omega) (by have := HSZ.out; omega)).mono ?_
      rintro e w7 ⟨rfl, hN⟩
      obtain ⟨hM7, L7, hm7, hL7, -, -⟩ := hN.go h46 hL4
      have hMw7 := hMw4.trans hM7 (by simp)
      clear hN hm6 hMw6 hLw hM6 hL4
      generalize hf : putF (fun _ => 0) p S.size (sAt S) = f at *
      have HRF : Hid (∀ i, i < R → rowAns f 4 (p + 40 * i) tbTs = some (rowI C i)) := Lib.hid HRD.out
      clear hf HRD
      go_wp2_with fail
      go_loopw [15] (fun t15 wx => ∃ i : Nat, i ≤ R ∧ t15 = .int .i64 i ∧ Mods [] w7 wx) (fun t15 _ => R - (intOf t15).toNat)
      case atStart => exact ⟨0, by omega, rfl, Mods.refl _ _⟩
      case round =>
        obtain ⟨i, hi, rfl, hMi⟩ := hrel
        by_cases hiR : i < R
        · have hmi := hm7.mods hMi (by simp)
          have h4i := hM7.trans hMi (by simp)
          have hTi := hT4.mods h4i
          have hRi := hRI.mods h4i
          have hrow := pgrow_any wr b 4 4 f L7 hmi (by omega) tao tbTs 4 tcap rfl (by omega) hTi (p + 40 * i) (by omega)
          rw [HRF.out i hiR] at hrow
          obtain ⟨rb, ro, hrao, -, hRc⟩ := hRi (by intro h; have := rowsV_len C R; rw [h] at this; simp at this; omega)
          have hcells := hRc i (by rw [rowsV_len]; exact hiR)
          rw [rowsV_get C R i hiR] at hcells
          subst hrao
          have hki : (0 : Int) ≤ (i : Int) ∧ (i : Int) + 1 ≤ (R : Int) := by omega
          have e40 : ((p + 40 * i : Nat) : Int) = (p : Int) + 40 * (i : Int) := by omega
          rw [e40] at hrow
          clear hRc hTi hmi e40
          go_wp2_with fail
          refine (size_any 4 _).mono ?_
          rintro e w8 ⟨rfl, rfl⟩
          rw [show sizeI 4 = 40 from rfl]
          go_wp2_with fail
          refine hrow.mono ?_
          rintro e w9 ⟨hM9, hans⟩
          obtain ⟨ao9, cap9, rfl, hV9, -⟩ := hans
          have hl4 : (rowI C i).length = 4 := rowTo_len C i 4
          rw [hl4]
          obtain ⟨vo, c, hc, hVo⟩ := hcells
          have hMA := (Mods.refl [] w9).alloc (.cells #[.slice ao9 4 cap9] 71)
          have h9A := hM9.trans hMA (by simp)
          have hR1' := rows_one (vs := rowI C i) (heap_alloc_new w9 (.cells #[.slice ao9 4 cap9] 71)) hl4 (hV9.mods hMA)
          have hR2' : RowsIn (w9.alloc (.cells #[.slice ao9 4 cap9] 71)) (some ⟨rb, ro + i, none⟩) [rowI C i] [] := fun _ => ⟨rb, ro + i, rfl, by simp, fun j hj => by
            obtain rfl : j = 0 := by simp at hj; omega
            exact ⟨vo, c, h9A.cell hc (by simp), hVo.mods h9A⟩⟩
          have hsame := same_true _ _ _ [rowI C i] 1 1 (rcap - i) rfl (by omega) (by intro r hr; simp at hr; subst hr; rw [hl4]; decide) hR1' hR2'
          have hMi9 := (hMi.trans hM9 (by simp)).trans hMA (by simp)
          have hkc : (i : Int) + 1 ≤ (rcap : Int) := by omega
          have hkcn : i ≠ rcap := by omega
          clear hrow hM9 hMA hR1' hR2' hc hVo hV9 hl4 h9A
          go_wp2_with fail
          refine hsame.mono ?_
          rintro e w10 ⟨rfl, hM10⟩
          have hM11 := hMi9.trans hM10 (by simp)
          clear hsame hM10 hMi9
          go_wp2_with fail
          go_roundw
          case measure => simp [intOf]; omega
          case rel => exact ⟨i + 1, by omega, by go_num, hM11⟩
        · obtain rfl : R = i := by omega
          have h4i := hM7.trans hMi (by simp)
          have hln : (S.size : Int) = (LEN : Int) := by have := HSZ.out; omega
          have hl0 : (16777216 : Int) - (LEN : Int) = ((16777216 - LEN : Nat) : Int) := by omega
          have hp1' := HPU.out wr h4i ((16777216 : Int) - (LEN : Int)) (by omega) (by omega)
          unfold PgPost at hp1'
          rw [HE.out ((16777216 : Int) - (LEN : Int)) (by omega), if_neg (show ¬ (16777216 : Int) < (16777216 : Int) - (LEN : Int) by omega), if_neg (show ¬ (16777216 : Int) - ((16777216 : Int) - (LEN : Int)) < LEN by omega), if_pos rfl, rowsV_len] at hp1'
          change Calls _ _ #[.slice tao 4 tcap, _, _] _ _ at hp1'
          generalize (⟨(putB ((16777216 : Int) - (LEN : Int)).toNat tbTs.length (rowsV C R)).toArray⟩ : ByteArray) = S1 at *
          have hMwi := hMw7.trans hMi (by simp)
          clear hl0
          go_wp2_with fail
          (with_reducible refine hp1'.mono ?_)
          rintro e w9 ⟨rfl, hM9⟩
          have h49 := h4i.trans hM9 (by simp)
          have hMw9 := hMwi.trans hM9 (by simp)
          clear hp1' hM9
          have hp2' := HPU.out w9 h49 ((16777216 : Int) - (LEN : Int) + 1) (by omega) (by omega)
          unfold PgPost at hp2'
          by_cases hz : LEN = 0
          · rw [HE.out ((16777216 : Int) - (LEN : Int) + 1) (by omega), if_pos (show (16777216 : Int) < (16777216 : Int) - (LEN : Int) + 1 by omega), if_neg (by decide), rowsV_len] at hp2'
            have e17 : (16777216 : Int) - (LEN : Int) + 1 = 16777217 := by omega
            rw [e17] at hp2'
            change Calls _ _ #[.slice tao 4 tcap, _, _] _ _ at hp2'
            go_wp2_with fail
            (with_reducible refine hp2'.mono ?_)
            rintro e w10 ⟨rfl, hM10⟩
            go_wp2_with fail
            go_ret
            exact ⟨rfl, hMw9.trans hM10 (by simp)⟩
          · rw [HE.out ((16777216 : Int) - (LEN : Int) + 1) (by omega), if_neg (show ¬ (16777216 : Int) < (16777216 : Int) - (LEN : Int) + 1 by omega), if_pos (show (16777216 : Int) - ((16777216 : Int) - (LEN : Int) + 1) < LEN by omega), if_neg (by decide), rowsV_len] at hp2'
            change Calls _ _ #[.slice tao 4 tcap, _, _] _ _ at hp2'
            go_wp2_with fail
            (with_reducible refine hp2'.mono ?_)
            rintro e w10 ⟨rfl, hM10⟩
            go_wp2_with fail
            go_ret
            exact ⟨rfl, hMw9.trans hM10 (by simp)⟩
end Go.Proofs.Ytagpnalhilgcpaa
