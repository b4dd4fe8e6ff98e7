/-
  parse's column, inside, walked. No condition.
-/
import Derived.Test.YtpokbepenacnpaaGreatDoorMPc
import Derived.Deep.RegionWith
namespace Go.Proofs.YtpokbepenacnpaaGreatDoor
open Go.RowKit
set_option linter.unusedVariables false

theorem PSt.f64 {w : World} {pb tg : Nat} {s : PS} {f : Nat} (h : PSt w pb tg s f) : f ≤ 64 := by obtain ⟨l, -, -, -, h4, -⟩ := h; exact h4

set_option maxRecDepth 100000 in
set_option maxHeartbeats 1000000 in
theorem column_any (w : World) (pb tg : Nat) (s : PS) (f : Nat) (h : PSt w pb tg s f) :
    Calls Tryz.prog 66 #[PtrV pb] w (PRes pb tg f columnF s w) := by
  have hnow := now_any w pb tg s f h
  have hfd := tok_field1 s.now
  have hname := fun W s1 (hP : PSt W pb tg s1 f) => name_any W pb tg s1 f hP
  have htk := fun W s1 (hP : PSt W pb tg s1 f) => takes_any W pb tg s1 f hP wPoint
  have hpw := h.lt
  have HP := Lib.hid h
  have HF : Hid (columnF s = if (s.name.2.takes wPoint).1 = true then (.leaf { op := oColumn, pos := s.now.pos, table := s.name.1, name := (s.name.2.takes wPoint).2.name.1 }, (s.name.2.takes wPoint).2.name.2) else (.leaf { op := oColumn, pos := s.now.pos, name := s.name.1 }, (s.name.2.takes wPoint).2)) := Lib.hid rfl
  have FIN : Hid (∀ b w', Mods [pb] w w' → PSt w' pb tg (columnF s).2 f → (∀ L : List Nat, (∀ x ∈ L, x < w.heap.size) → ExprAt 138 89 w' L (PtrV b) (columnF s).1) → PRes pb tg f columnF s w (.returned (PtrV b)) w') := Lib.hid (fun b w' h1 h2 h3 => ⟨b, rfl, h1, h2, fun _ => h3⟩)
  unfold PtrV at *
  clear h
  go_enter Tryz.func66, Tryz.ntmps66
  go_wp2_with fail
  (with_reducible refine hnow.mono ?_)
  rintro e w2 ⟨rfl, hM2⟩
  have hn1 := hname w2 s (HP.out.later hM2)
  clear hnow
  go_wp2_with fail
  (with_reducible refine hn1.mono ?_)
  rintro e w3 ⟨rfl, hM3, hP3⟩
  have hMA := (Mods.refl [] w3).alloc (.cells #[.string ⟨#[99, 111, 108, 117, 109, 110]⟩, .int .i64 s.now.pos, .string ⟨#[]⟩, .string ⟨s.name.1.toArray⟩, .int .i64 0, .int .i64 0, .string ⟨#[]⟩, .slice none 0 0] 138)
  have hxb := heap_alloc_new w3 (.cells #[.string ⟨#[99, 111, 108, 117, 109, 110]⟩, .int .i64 s.now.pos, .string ⟨#[]⟩, .string ⟨s.name.1.toArray⟩, .int .i64 0, .int .i64 0, .string ⟨#[]⟩, .slice none 0 0] 138)
  have ht := htk _ _ (hP3.later hMA)
  have hs2 := hM2.size
  have hs3 := hM3.size
  have hMw := ((hM2.mono (L' := [pb]) (by simp)).trans hM3 (by simp)).trans (hMA.mono (L' := [pb]) (by simp)) (by simp)
  unfold wPoint at ht
  clear hn1 htk hP3
  go_wp2_with fail
  (with_reducible refine ht.mono ?_)
  rintro e w4 ⟨rfl, hM4, hP4⟩
  clear ht
  have hx4 := hM4.heap hxb (by simp; omega)
  have hMw4 := hMw.trans hM4 (by simp)
  have hlt : w3.heap.size < w4.heap.size := lt_size_of_heap hx4
  generalize hxe : w3.heap.size = xb at *
  have hpx : pb < xb := by omega
  have htx : tg < xb := by omega
  have hwx : w.heap.size ≤ xb := by omega
  clear hM4 hMw hxb hMA hM2 hM3 hs2 hs3
  change PSt w4 pb tg (s.name.2.takes wPoint).2 f at hP4
  obtain ⟨b, hb⟩ : ∃ b, (s.name.2.takes wPoint).1 = b := ⟨_, rfl⟩
  have hb' : (s.name.2.takes [46]).1 = b := hb
  rw [hb']
  cases b with
  | false =>
    have hF2 : columnF s = (.leaf { op := oColumn, pos := s.now.pos, name := s.name.1 }, (s.name.2.takes wPoint).2) := by rw [HF.out, if_neg (by rw [hb]; decide)]
    have hfin := FIN.out xb w4 hMw4 (by rw [hF2]; exact hP4) (by rw [hF2]; exact fun L hL => ⟨xb, rfl, fun hm => by have := hL _ hm; omega, hx4⟩)
    clear FIN HF hname hP4 hb hb' hF2
    go_wp2_with fail
    go_ret
    exact hfin
  | true =>
    have hF2 : columnF s = (.leaf { op := oColumn, pos := s.now.pos, table := s.name.1, name := (s.name.2.takes wPoint).2.name.1 }, (s.name.2.takes wPoint).2.name.2) := by rw [HF.out, if_pos hb]
    have hn2 := hname w4.drew _ (hP4.later ((Mods.refl [] w4).drew))
    have HF2 := Lib.hid hF2
    clear hname hb hb' hF2 HF
    generalize (s.name.2.takes wPoint).2 = s2 at *
    have x3 : w4.drew.cell? ⟨xb, 3, none⟩ = some (.string ⟨s.name.1.toArray⟩) := (cell_of_heap hx4 3).trans rfl
    go_wp2_with fail
    go_region_with ((with_reducible refine hn2.mono ?_); rintro e w5 ⟨rfl, hM5, hP5⟩; have hx5 := hM5.heap (show w4.drew.heap[xb]? = _ from hx4) (by simp; omega); have y2 := (cell_of_heap hx5 2).trans rfl; have y3 := (cell_of_heap hx5 3).trans rfl; have g2 := frozen_of_heap hx5 2; have g3 := frozen_of_heap hx5 3)
    all_goals
      have hM6 : Mods [xb] w5 ((w5.setCell ⟨xb, 2, none⟩ (.string ⟨s.name.1.toArray⟩)).setCell ⟨xb, 3, none⟩ (.string ⟨s2.name.1.toArray⟩)) := ((Mods.refl _ _).setCell (.inl (by simp)) _).setCell (.inl (by simp)) _
      have hx6 := heap_setCell_same (heap_setCell_same hx5 2 (.string ⟨s.name.1.toArray⟩)) 3 (.string ⟨s2.name.1.toArray⟩)
      have hMw6 := ((hMw4.trans ((Mods.refl [] w4).drew) (by simp)).trans hM5 (by simp)).trans hM6 (fun x hx => .inr (by simp at hx; omega))
      have hfin := FIN.out xb _ hMw6 (by rw [HF2.out]; exact hP5.mods hM6 (by simp; omega) (by simp; omega)) (by rw [HF2.out]; exact fun L hL => ⟨xb, rfl, fun hm => by have := hL _ hm; omega, hx6⟩)
      have HFIN := Lib.hid hfin
      clear hfin hx6 hM6 hMw6 hP5 hM5 hn2 FIN
      go_wp2_with fail
      go_ret
      exact HFIN.out

set_option maxRecDepth 100000 in
set_option maxHeartbeats 1000000 in
/-- 'inside' where it is as deep as may be. -/
theorem inside_deep (w : World) (pb tg : Nat) (s : PS) (h : PSt w pb tg s 0) (v : Value) :
    Calls Tryz.prog 211 #[PtrV pb, v] w fun e w' => e = .returned (.tuple #[]) ∧ Mods [pb] w w' ∧ PSt w' pb tg (s.fail 9) 0 := by
  obtain ⟨off, cap, hb, -⟩ := h.tok
  have hf1 := fail9_any w pb tg s 0 h
  have a1 := (cell_of_heap hb 1).trans rfl
  change w.cell? _ = some (.int .i64 (64 - ((0 : Nat) : Int))) at a1
  rw [show (64 - ((0 : Nat) : Int)) = 64 from rfl] at a1
  unfold PtrV at *
  clear h
  go_enter Tryz.func211, Tryz.ntmps211
  go_wp2_with fail
  (with_reducible refine hf1.mono ?_)
  rintro e w2 ⟨rfl, hM2, hP2⟩
  obtain ⟨off2, cap2, hb2, -⟩ := hP2.tok
  have he : (s.fail 9).e ≠ 0 := by
    unfold PS.fail
    split
    · simp
    · assumption
  have a3 := (cell_of_heap hb2 3).trans rfl
  change w2.cell? _ = some (.int .i64 (s.fail 9).e) at a3
  have z : (((s.fail 9).e : Int) != 0) = true := bne_iff_ne.2 (by omega)
  have HP := Lib.hid hP2
  obtain ⟨s2, hs2⟩ : ∃ s2, s.fail 9 = s2 := ⟨_, rfl⟩
  rw [hs2] at a3 z
  clear hf1 hb2 hP2 a1 he hs2
  go_wp2_with fail
  exact bodyPost_ret (results_none rfl _ _ _) rfl ⟨rfl, hM2, HP.out⟩

set_option maxRecDepth 100000 in
set_option maxHeartbeats 1000000 in
/-- 'inside' that goes one deeper. -/
theorem inside_go (w : World) (pb tg : Nat) (s : PS) (f : Nat) (h : PSt w pb tg s (f + 1)) (he : s.e = 0) (hk : s.now.kind ≠ 0) (c : FuncId) (hc : c = 212 ∨ c = 236 ∨ c = 237) (x y : Value) (s2 : PS) (B : World → Prop)
    (hB : ∀ W, Mods [pb] w W → PSt W pb tg s.next f → Calls Tryz.prog c #[x, y] W fun e W' => e = .returned (.tuple #[]) ∧ PSt W' pb tg s2 f ∧ B W') :
    Calls Tryz.prog 211 #[PtrV pb, .func (.func c) #[] #[x, y]] w fun e w' => e = .returned (.tuple #[]) ∧ PSt w' pb tg s2 (f + 1) ∧ ∃ W1, B W1 ∧ Mods [pb] W1 w' := by
  obtain ⟨off, cap, hb, -⟩ := h.tok
  have hf := h.f64
  have a1 := (cell_of_heap hb 1).trans rfl
  change w.cell? _ = some (.int .i64 (64 - ((f + 1 : Nat) : Int))) at a1
  have a3 := (cell_of_heap hb 3).trans rfl
  change w.cell? _ = some (.int .i64 s.e) at a3
  have z0 : ((64 - ((f + 1 : Nat) : Int)) == 64) = false := by rw [beq_eq_false_iff_ne]; omega
  have z : ((s.e : Int) != 0) = false := bne_eq_false_iff_eq.2 (by omega)
  obtain ⟨d, hd⟩ : ∃ d : Int, (64 - ((f + 1 : Nat) : Int)) = d := ⟨_, rfl⟩
  obtain ⟨d1, hd1⟩ : ∃ d1 : Int, (64 - (f : Int)) = d1 := ⟨_, rfl⟩
  have hdd : d + 1 = d1 := by omega
  rw [hd] at a1 z0
  have g1 := frozen_of_heap hb 1
  have hM1 : Mods [pb] w (w.setCell ⟨pb, 1, none⟩ (.int .i64 d1)) := (Mods.refl _ _).setCell (.inl (by simp)) _
  have hP1 := h.turn (s' := s) (f' := f) hM1 hb rfl (by omega) (by rw [hd1]; exact heap_setCell_same hb 1 (.int .i64 d1))
  have hn := next_any _ pb tg s f hP1 (h.wfTail hk)
  have HD := Lib.hid (And.intro hd hd1)
  have hbd : (-9223372036854775808 ≤ d ∧ d ≤ 9223372036854775807) ∧ (0 ≤ d1 ∧ d1 ≤ 64) := by omega
  have HB := Lib.hid hB
  unfold PtrV at *
  clear h hb he hd hd1 hP1 hB
  rcases hc with rfl | rfl | rfl
  all_goals
    go_enter Tryz.func211, Tryz.ntmps211
    go_wp2_with fail
    (with_reducible refine hn.mono ?_)
    rintro e w2 ⟨rfl, hM2, hP2⟩
    have hb2 := HB.out w2 (hM1.trans hM2 (by simp)) hP2
    clear hn hP2 hM2 hM1 a1 a3 g1
    go_wp2_with fail
    (with_reducible refine hb2.mono ?_)
    rintro e w3 ⟨rfl, hP3, hB3⟩
    obtain ⟨off3, cap3, hb3, -⟩ := hP3.tok
    rw [HD.out.2] at hb3
    have b1 := (cell_of_heap hb3 1).trans rfl
    change w3.cell? _ = some (.int .i64 d1) at b1
    have g1 := frozen_of_heap hb3 1
    have hdd2 : d1 - 1 = d := by omega
    have hM4 : Mods [pb] w3 (w3.setCell ⟨pb, 1, none⟩ (.int .i64 d)) := (Mods.refl _ _).setCell (.inl (by simp)) _
    have hP4 := hP3.turn (s' := s2) (f' := f + 1) hM4 (by rw [HD.out.2]; exact hb3) rfl (by omega) (by rw [HD.out.1]; exact heap_setCell_same hb3 1 (.int .i64 d))
    have HP4 := Lib.hid hP4
    clear hb2 hb3 hP3 hP4 hdd
    go_wp2_with fail
    go_end0
    exact ⟨rfl, HP4.out, w3, hB3, hM4⟩
end Go.Proofs.YtpokbepenacnpaaGreatDoor
