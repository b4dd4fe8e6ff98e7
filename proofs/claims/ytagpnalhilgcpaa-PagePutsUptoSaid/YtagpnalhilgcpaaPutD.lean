/-
  The law PagePuts, walked.
-/
import Derived.Test.YtagpnalhilgcpaaPutC
import Derived.Test.YtagpnalhilgcpaaPagY
namespace Go.Proofs.Ytagpnalhilgcpaa
open Go.RowKit
set_option linter.unusedVariables false

set_option maxHeartbeats 2000000 in
set_option maxRecDepth 100000 in
theorem pagePuts_given (tao rao : Option Addr) (ts : List (Int × Int)) (rs : List (List V)) (nT nR ct cr : Nat) (hts : ts.length = nT) (hrs : rs.length = nR) (hnT : nT ≤ 9223372036854775807) (hnR : nR ≤ 1100000) {w : World} (hT : TysIn w tao ts []) (hR : RowsIn w rao rs []) (hok : ∀ vs ∈ rs, vs.length ≤ 9223372036854775807 ∧ ∀ v ∈ vs, v.ok)
    (at_ : Int) (hat : -9223372036854775808 ≤ at_ ∧ at_ ≤ 9223372036854775807) (lao : Option Addr) (n cl : Nat) (cols : Int) (hcols : -9223372036854775808 ≤ cols ∧ cols ≤ 9223372036854775807) :
    Calls Try.prog 8 #[.slice tao nT ct, .slice rao nR cr, .int .i64 at_, .bool false, .slice lao n cl, .int .i64 cols] w fun e w' => e = .returned (.bool true) ∧ Mods [] w w' := by
  have hput := fun (W : World) (hm : Mods [] w W) => pgput_big W ts rs tao rao ct cr (hT.mods hm) (hR.mods hm) hok at_ hat.1 hat.2 (by omega) (by omega)
  have href := fun (W : World) (hm : Mods [] w W) => refput_any W ts rs tao rao ct cr (hT.mods hm) (hR.mods hm) hok at_ hat.1 hat.2 (by omega) (by omega)
  unfold PgPost at hput href
  rw [hts, hrs] at hput href
  generalize (if putE at_ ts rs = 0 then (⟨(putB at_.toNat nT rs).toArray⟩ : ByteArray) else ⟨#[]⟩) = S at *
  generalize putE at_ ts rs = E at *
  obtain ⟨hc0, hc1⟩ := hcols
  go_enter Try.func8, Try.ntmps8
  go_wp2_with fail
  refine (examples16 _).mono ?_
  rintro e w1 ⟨rfl, hM1⟩
  go_wp2_with fail
  refine (hput _ hM1).mono ?_
  rintro e w2 ⟨rfl, hM2⟩
  have hM3 := hM1.trans hM2 (by simp)
  go_wp2_with fail
  refine (href _ hM3).mono ?_
  rintro e w3 ⟨rfl, hM4⟩
  have hM5 := hM3.trans hM4 (by simp)
  clear hput href
  go_wp2_with fail
  refine (size_any cols _).mono ?_
  rintro e w4 ⟨rfl, rfl⟩
  go_wp2_with fail
  refine (ref_size cols _).mono ?_
  rintro e w5 ⟨rfl, rfl⟩
  go_wp2_with fail
  go_ret
  exact ⟨rfl, hM5⟩

set_option maxHeartbeats 2000000 in
set_option maxRecDepth 100000 in
theorem pagePuts_own (tao0 rao0 : Option Addr) (nT nR ct cr : Nat) (at_ : Int) (hat : -9223372036854775808 ≤ at_ ∧ at_ ≤ 9223372036854775807) (lao : Option Addr) (n cl : Nat) (C : Nat → Int × ByteArray × Bool) (hn : n ≤ 9223372036854775807) {w : World} (hC : CellsIn w lao n C) (cols : Int) (hcols : -9223372036854775808 ≤ cols ∧ cols ≤ 9223372036854775807) :
    Calls Try.prog 8 #[.slice tao0 nT ct, .slice rao0 nR cr, .int .i64 at_, .bool true, .slice lao n cl, .int .i64 cols] w fun e w' => e = .returned (.bool true) ∧ Mods [] w w' := by
  obtain ⟨i1, hi', hy0, hy1, hy2⟩ := info_parts (show (Try.prog.info? 60).map (fun i => (i.zero, i.size, i.bytes)) = some (some (.agg #[.int .i64 0, .int .i64 0]), 2, 16) by kernel_rfl)
  obtain ⟨hc0, hc1⟩ := hcols
  go_enter Try.func8, Try.ntmps8
  go_wp2_with fail
  refine (examples16 _).mono ?_
  rintro e w1 ⟨rfl, hM1⟩
  go_wp2_with fail
  refine (tables_any w1).mono ?_
  rintro e w2 ⟨hM2, g, tb, d1, d2, rfl, ht, hg⟩
  have c0 := (cell_of_heap ht 0).trans rfl
  have c1 := (cell_of_heap ht 1).trans rfl
  have hMA := (Mods.refl [] w2).alloc (.cells #[.string ⟨#[116]⟩, .slice (some ⟨g, 0, none⟩) 4 4] 56)
  have hb := heap_alloc_new w2 (.cells #[.string ⟨#[116]⟩, .slice (some ⟨g, 0, none⟩) 4 4] 56)
  have hg3 := hMA.heap hg (by simp)
  have hM3 := (hM1.trans hM2 (by simp)).trans hMA (by simp)
  go_wp2_with fail
  clear hg hMA c0 c1 ht hM1 hM2
  generalize w2.alloc (.cells #[.string ⟨#[116]⟩, .slice (some ⟨g, 0, none⟩) 4 4] 56) = w3 at *
  generalize w2.heap.size = bx at *
  have hlt : bx < w3.heap.size := lt_size_of_heap hb
  have hltg : g < w3.heap.size := lt_size_of_heap hg3
  go_loopw [0, 15] (fun t7 t8 wr => ∃ k : Nat, k ≤ 4 ∧ t8 = .int .i64 k ∧ TysOwn w3 wr t7 (tysTo k)) (fun _ t8 _ => 4 - (intOf t8).toNat)
  case atStart => exact ⟨0, by omega, rfl, TysOwn.start w3⟩
  case round =>
    obtain ⟨k, hk, rfl, hTO⟩ := hrel
    have hbr := hTO.1.heap hb (by simp)
    have hgr := hTO.1.heap hg3 (by simp)
    have b0 : wr.cell? ⟨bx, 0, none⟩ = some (.string ⟨#[116]⟩) := (cell_of_heap hbr 0).trans rfl
    have b1 : wr.cell? ⟨bx, 1, none⟩ = some (.slice (some ⟨g, 0, none⟩) 4 4) := (cell_of_heap hbr 1).trans rfl
    by_cases hk4 : k < 4
    · obtain ⟨-, k1, k2, -⟩ := cols_at k hk4
      have y1 := (cell_of_heap hgr (k * 4 + 1)).trans k1
      have y2 := (cell_of_heap hgr (k * 4 + 1 + 1)).trans k2
      have hki : (0 : Int) ≤ (k : Int) ∧ (k : Int) < 4 := by omega
      have hsucc := tysTo_succ k
      have HS := Lib.hid hsucc
      have HTO := Lib.hid hTO
      obtain ⟨-, q2, -⟩ := hTO
      obtain ⟨vn, hvn⟩ : ∃ vn, cellsT (tysTo k) = vn := ⟨_, rfl⟩
      rw [hvn, tysTo_len] at q2
      have HVN := Lib.hid hvn
      generalize colKind k = ck at *
      generalize colScale k = cs at *
      clear hsucc hvn k1 k2 hgr hbr
      go_wp2_with (at_builtin; refine wpList_app _ rfl _ _ 51 rfl 60 i1 _ 2 16 Try.underlying51 hi' hy0 hy1 hy2 rfl (by decide) _ k vn rfl (q2.alloc _) ⟨wr.heap.size, 0, none⟩ 1 1 [.int .i64 ck, .int .i64 cs] rfl rfl ?c1 ?c2 (by decide) ?c3 ?c4 ?_)
      case c1 => exact cells_new2 _ _ _ _
      case c2 => intro u hu; simp at hu; rcases hu with rfl | rfl <;> rfl
      case c3 => unfold maxLen; omega
      case c4 => omega
      intro g9 cap9 w7 hown7 hM7 hg7
      have hrel : TysOwn w3 w7 (.slice (some ⟨g9, 0, none⟩) (k + 1) cap9) (tysTo (k + 1)) := by
        have hMA := (Mods.refl [] wr).alloc (.cells #[.int .i64 ck, .int .i64 cs] 60)
        have := (HTO.out.quiet hMA).push (v := (ck, cs)) (w' := w7) (g := g9) (cap := cap9) (by rw [tysTo_len, HVN.out]; exact hown7) hM7 (by rw [size_alloc]; exact hg7)
        rw [tysTo_len] at this
        rw [HS.out]
        exact this
      clear hown7 hM7 hg7 q2
      go_wp2_with fail
      go_roundw
      case measure => simp [intOf]; omega
      case rel => exact ⟨k + 1, by omega, by go_num, hrel⟩
    · obtain rfl : k = 4 := by omega
      obtain ⟨q1, q2, q3⟩ := hTO
      obtain ⟨tao, tcap, rfl, hT⟩ := own_tys q2
      rw [tysTo_len] 
      change TysIn wr tao tbTs [] at hT
      have hMw := hM3.trans q1 (by simp)
      have hCr : CellsIn wr lao n C := fun h0 => by
        obtain ⟨b, off, h1, h2⟩ := hC h0
        exact ⟨b, off, h1, fun i hi => ⟨⟨hMw.cell (h2 i hi).1.1 (by simp), hMw.cell (h2 i hi).1.2.1 (by simp), hMw.cell (h2 i hi).1.2.2 (by simp)⟩, (h2 i hi).2⟩⟩
      have hrows := rows_any wr ⟨#[116]⟩ g hgr lao n cl hn C hCr 8 (by omega)
      have hCb : ∀ i, i < n → -9223372036854775808 ≤ (C i).1 ∧ (C i).1 ≤ 9223372036854775807 := fun i hi => by
        obtain ⟨b, off, h1, h2⟩ := hC (by omega)
        exact (h2 i hi).2.1
      have HCB := Lib.hid hCb
      obtain ⟨R, hR⟩ : ∃ R, rowsN n 8 = R := ⟨_, rfl⟩
      have hR1 : R ≤ 8 ∧ 4 * R ≤ n := by rw [← hR]; unfold rowsN; split <;> omega
      rw [hR] at hrows
      clear hR hC hCr q2 q3 hgr hbr hCb
      go_wp2_with fail
      refine hrows.mono ?_
      rintro e w4 ⟨t, rfl, hRO⟩
      obtain ⟨rao, rcap, rfl, hRI, hcap⟩ := hRO.rows2
      rw [rowsV_len] at hcap ⊢
      have hT4 := hT.mods hRO.1
      have hMw4 := hMw.trans hRO.1 (by simp)
      have hok := rowsV_row (C := C) (n := R) (fun i hi => HCB.out i (by omega))
      have hput := fun (W : World) (hm : Mods [] w4 W) => pgput_big W tbTs (rowsV C R) tao rao tcap rcap (hT4.mods hm) (hRI.mods hm) hok at_ hat.1 hat.2 (by decide) (by rw [rowsV_len]; omega)
      have href := fun (W : World) (hm : Mods [] w4 W) => refput_any W tbTs (rowsV C R) tao rao tcap rcap (hT4.mods hm) (hRI.mods hm) hok at_ hat.1 hat.2 (by decide) (by rw [rowsV_len]; omega)
      unfold PgPost at hput href
      rw [rowsV_len, show tbTs.length = 4 from rfl] at hput href
      generalize (if putE at_ tbTs (rowsV C R) = 0 then (⟨(putB at_.toNat 4 (rowsV C R)).toArray⟩ : ByteArray) else ⟨#[]⟩) = S at *
      generalize putE at_ tbTs (rowsV C R) = E at *
      clear hrows hT q1 hRO hb hg3 hlt hltg b0 b1 hMw hM3 hok
      go_wp2_with fail
      refine (hput _ (Mods.refl _ _)).mono ?_
      rintro e w5 ⟨rfl, hM5⟩
      go_wp2_with fail
      refine (href _ hM5).mono ?_
      rintro e w6 ⟨rfl, hM6⟩
      have hM7 := (hMw4.trans hM5 (by simp)).trans hM6 (by simp)
      clear hput href
      go_wp2_with fail
      refine (size_any cols _).mono ?_
      rintro e w7 ⟨rfl, rfl⟩
      go_wp2_with fail
      refine (ref_size cols _).mono ?_
      rintro e w8 ⟨rfl, rfl⟩
      go_wp2_with fail
      go_ret
      exact ⟨rfl, hM7⟩
end Go.Proofs.Ytagpnalhilgcpaa
