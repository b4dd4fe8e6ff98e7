/-
  parse's aggregate, walked. No condition.
-/
import Derived.Test.YtpokbepenacnpaaGreatDoorMPl
import Derived.Deep.RegionHeld3
namespace Go.Proofs.YtpokbepenacnpaaGreatDoor
open Go.RowKit
set_option linter.unusedVariables false

theorem Mods.rules0 {w w' : World} (h : Mods [] w w') : (∀ b o, b < w.heap.size → w'.cell? ⟨b, o, none⟩ = w.cell? ⟨b, o, none⟩) ∧ (∀ b o, b < w.heap.size → w'.frozen? ⟨b, o, none⟩ = w.frozen? ⟨b, o, none⟩) ∧ w.heap.size ≤ w'.heap.size :=
  ⟨fun b o hb => World.cell?_of_block (h.block b hb (by simp)), fun b o hb => World.frozen?_of_block (h.block b hb (by simp)), h.size⟩
theorem keepS1 {W w' : World} {p : Addr} {x : Value} (h0 : W.cell? p = some x) (h : Mods [] W w') : w'.cell? p = some x ∧ W.heap.size ≤ w'.heap.size ∧ Mods [] W w' := ⟨h.cell h0 (by simp), h.size, h⟩
theorem drew_heap0 (w : World) : w.drew.heap = w.heap := rfl
/-- What the first region leaves: the node and the cell that holds its pointer. -/
def CutAgg (W0 : World) (op : Bs) (pos : Nat) (s3 : Value) (wx : World) : Prop :=
  ∃ xb xc, s3 = .pointer (some ⟨xc, 0, none⟩) ∧ W0.heap.size ≤ xb ∧ W0.heap.size ≤ xc ∧ xb ≠ xc ∧ Mods [] W0 wx ∧ wx.heap[xc]? = some (.cells #[PtrV xb] 89 (0, 0)) ∧ wx.heap[xb]? = some (.cells (hdC { op := op, pos := pos } (.slice none 0 0)).toArray 138 (0, 0))
theorem cutAggA {W0 W w1 : World} {op : Bs} {pos : Nat} (h : Mods [] W0 W) (h' : Mods [] (W.alloc (.cells #[.pointer none] 89)) w1) :
    CutAgg W0 op pos (.pointer (some ⟨W.heap.size, 0, none⟩)) ((w1.setCell ⟨W.heap.size, 0, none⟩ (.pointer (some ⟨w1.heap.size, 0, none⟩))).alloc (.cells #[.string ⟨op.toArray⟩, .int .i64 pos, .string ⟨#[]⟩, .string ⟨#[]⟩, .int .i64 0, .int .i64 0, .string ⟨#[]⟩, .slice none 0 0] 138)) := by
  have hs := h'.size
  rw [size_alloc] at hs
  have hm := h.size
  have hx := h'.heap (heap_alloc_new W (.cells #[.pointer none] 89)) (by simp)
  have hx2 := heap_setCell_same hx 0 (.pointer (some ⟨w1.heap.size, 0, none⟩))
  have hw := ((h.alloc (.cells #[.pointer none] 89)).trans h' (by simp)).setCell (p := ⟨W.heap.size, 0, none⟩) (.inr (by show W0.heap.size ≤ W.heap.size; omega)) (.pointer (some ⟨w1.heap.size, 0, none⟩))
  have hz : (w1.setCell ⟨W.heap.size, 0, none⟩ (.pointer (some ⟨w1.heap.size, 0, none⟩))).heap.size = w1.heap.size := by simp [World.setCell]
  generalize w1.setCell ⟨W.heap.size, 0, none⟩ (.pointer (some ⟨w1.heap.size, 0, none⟩)) = w2 at *
  rw [← hz] at hx2
  exact ⟨w2.heap.size, W.heap.size, rfl, by omega, by omega, by omega, hw.alloc _, ((Mods.refl [] w2).alloc _).heap hx2 (by simp), heap_alloc_new w2 _⟩
theorem cutAggD {W0 W w1 : World} {op : Bs} {pos : Nat} (h : Mods [] W0 W) (h' : Mods [] (W.alloc (.cells #[.pointer none] 89)).drew w1) :
    CutAgg W0 op pos (.pointer (some ⟨W.heap.size, 0, none⟩)) ((w1.setCell ⟨W.heap.size, 0, none⟩ (.pointer (some ⟨w1.heap.size, 0, none⟩))).alloc (.cells #[.string ⟨op.toArray⟩, .int .i64 pos, .string ⟨#[]⟩, .string ⟨#[]⟩, .int .i64 0, .int .i64 0, .string ⟨#[]⟩, .slice none 0 0] 138)) :=
  cutAggA h ((Mods.refl [] _).drew.trans h' (by simp))
theorem cutAggC {W0 w1 : World} {op : Bs} {pos : Nat} (h : Mods [] W0 w1) :
    CutAgg W0 op pos (.pointer (some ⟨w1.heap.size, 0, none⟩)) ((w1.alloc (.cells #[.pointer (some ⟨w1.heap.size + 1, 0, none⟩)] 89)).alloc (.cells #[.string ⟨op.toArray⟩, .int .i64 pos, .string ⟨#[]⟩, .string ⟨#[]⟩, .int .i64 0, .int .i64 0, .string ⟨#[]⟩, .slice none 0 0] 138)) := by
  have hm := h.size
  obtain ⟨h1, h2⟩ := pair_new w1 (.cells #[.pointer (some ⟨w1.heap.size + 1, 0, none⟩)] 89) (.cells #[.string ⟨op.toArray⟩, .int .i64 pos, .string ⟨#[]⟩, .string ⟨#[]⟩, .int .i64 0, .int .i64 0, .string ⟨#[]⟩, .slice none 0 0] 138)
  exact ⟨w1.heap.size + 1, w1.heap.size, rfl, by omega, by omega, by omega, (h.alloc _).alloc _, h1, h2⟩
theorem cutAggB {W0 w1 : World} {op : Bs} {pos : Nat} (h : Mods [] W0 w1) :
    CutAgg W0 op pos (.pointer (some ⟨w1.heap.size + 1, 0, none⟩)) ((w1.alloc (.cells #[.string ⟨op.toArray⟩, .int .i64 pos, .string ⟨#[]⟩, .string ⟨#[]⟩, .int .i64 0, .int .i64 0, .string ⟨#[]⟩, .slice none 0 0] 138)).alloc (.cells #[.pointer (some ⟨w1.heap.size, 0, none⟩)] 89)) := by
  have hm := h.size
  obtain ⟨h1, h2⟩ := pair_new w1 (.cells #[.string ⟨op.toArray⟩, .int .i64 pos, .string ⟨#[]⟩, .string ⟨#[]⟩, .int .i64 0, .int .i64 0, .string ⟨#[]⟩, .slice none 0 0] 138) (.cells #[.pointer (some ⟨w1.heap.size, 0, none⟩)] 89)
  exact ⟨w1.heap.size, w1.heap.size + 1, rfl, by omega, by omega, by omega, (h.alloc _).alloc _, h2, h1⟩

set_option maxRecDepth 100000 in
set_option maxHeartbeats 4000000 in
theorem aggregate_any (w : World) (pb tg : Nat) (f : Nat) (s : PS) (h : PSt w pb tg s f) (he : s.e = 0) (hk : s.now.kind ≠ 0) (hlen : s.now.s.length ≤ 1000) (hasc : ∀ b ∈ s.now.s, b.toNat < 128)
    (hexpr : ∀ f', f = f' + 1 → ∀ W s1, PSt W pb tg s1 f' → Calls Tryz.prog 64 #[PtrV pb] W (PRes pb tg f' (lvl f').expr s1 W)) :
    Calls Tryz.prog 233 #[PtrV pb] w (PRes pb tg f (aggregateF (subOf f)) s w) := by
  have hpw := h.lt
  have hlow := fun W => lower_any s.now.s hlen hasc W
  have hMa := (Mods.refl [] w).alloc (.cells #[.pointer (some ⟨pb, 0, none⟩)] 76)
  have hb0 := heap_alloc_new w (.cells #[.pointer (some ⟨pb, 0, none⟩)] 76)
  have hP0 := h.later hMa
  have hfd1 := tok_field1 s.now
  have hfd2 := tok_field2 s.now
  have c0 : (w.alloc (.cells #[.pointer (some ⟨pb, 0, none⟩)] 76)).cell? ⟨w.heap.size, 0, none⟩ = some (.pointer (some ⟨pb, 0, none⟩)) := cell_of_heap hb0 0
  have HO := Lib.hid hexpr
  have hnowG : ∀ W, Mods [] (w.alloc (.cells #[.pointer (some ⟨pb, 0, none⟩)] 76)) W → Calls Tryz.prog 62 #[.pointer (some ⟨pb, 0, none⟩)] W fun e w' => e = .returned (.agg #[.int .i64 s.now.kind, .int .i64 s.now.pos, .string ⟨s.now.s.toArray⟩, .int .i64 s.now.n, .int .i64 s.now.scale]) ∧ Mods [] (w.alloc (.cells #[.pointer (some ⟨pb, 0, none⟩)] 76)) w' ∧ Mods [] W w' :=
    fun W hM => (now_any W pb tg s f (hP0.later hM)).mono fun e w' h => ⟨h.1, hM.trans h.2 (by simp), h.2⟩
  have hlowG : ∀ W, Mods [] (w.alloc (.cells #[.pointer (some ⟨pb, 0, none⟩)] 76)) W → Calls Tryz.prog 159 #[.string ⟨s.now.s.toArray⟩] W fun e w' => e = .returned (.string ⟨(s.now.s.map lowc).toArray⟩) ∧ Mods [] (w.alloc (.cells #[.pointer (some ⟨pb, 0, none⟩)] 76)) w' ∧ Mods [] W w' :=
    fun W hM => (hlow W).mono fun e w' h => ⟨h.1, hM.trans h.2 (by simp), h.2⟩
  have HM0 := Lib.hid hMa
  have HP0 := Lib.hid (And.intro hP0 hb0)
  have hsz : (w.alloc (.cells #[.pointer (some ⟨pb, 0, none⟩)] 76)).heap.size = w.heap.size + 1 := size_alloc _ _
  have HSZ := Lib.hid hsz
  clear hsz
  unfold PtrV at *
  clear h hexpr hMa hb0 hP0 hlow
  go_enter Tryz.func233, Tryz.ntmps233
  go_upto_region 1 with fail
  generalize w.alloc (.cells #[.pointer (some ⟨pb, 0, none⟩)] 76) = W0 at *
  obtain ⟨op, hop⟩ : ∃ op, s.now.s.map lowc = op := ⟨_, rfl⟩
  obtain ⟨t, ht⟩ : ∃ t, s.now = t := ⟨_, rfl⟩
  rw [hop] at hlowG
  rw [ht] at hlowG hnowG hfd1 hfd2
  have HOP := Lib.hid (And.intro hop ht)
  clear hop ht
  go_cut [3] (fun s3 wx => CutAgg W0 op t.pos s3 wx)
  case first =>
    go_region_held3 (fun w' => w'.cell? ⟨w.heap.size, 0, none⟩ = some (.pointer (some ⟨pb, 0, none⟩)) ∧ W0.heap.size ≤ w'.heap.size ∧ Mods [] W0 w')
      (((with_reducible refine keepS1 c0 ?_); (repeat (first | (with_reducible refine Mods.drew ?_) | (with_reducible refine Mods.alloc ?_ _) | (with_reducible refine Mods.setCell ?_ (.inr (by show _ ≤ (_ : Nat); dsimp only; omega)) _))); first | assumption | exact Mods.refl _ _ | simp only [*]))
      (first | (go_at_call 62; refine (hnowG _ ?_).mono ?_; (first | assumption | simp only [*]); rintro e w'' ⟨rfl, hm1, hr1⟩; have hs1 := hm1.size; obtain ⟨ha1, hb1, hc1⟩ := hr1.rules0; (try simp only [drew_heap0] at ha1 hb1 hc1); (try simp only [size_alloc] at ha1 hb1 hc1); (first | (have hd1 := Nat.lt_of_succ_le hc1; skip) | (have hd1 := Nat.lt_of_lt_of_le hd2 hc1; skip) | skip)) | (go_at_call 159; refine (hlowG _ ?_).mono ?_; (first | assumption | simp only [*]); rintro e w'' ⟨rfl, hm2, hr2⟩; have hs2 := hm2.size; obtain ⟨ha2, hb2, hc2⟩ := hr2.rules0; (try simp only [drew_heap0] at ha2 hb2 hc2); (try simp only [size_alloc] at ha2 hb2 hc2); (first | (have hd2 := Nat.lt_of_succ_le hc2; skip) | (have hd2 := Nat.lt_of_lt_of_le hd1 hc2; skip) | skip)))
    all_goals
      go_wp2_with fail
      go_meet
      first
        | exact cutAggB (by assumption)
        | exact cutAggC (by assumption)
        | exact cutAggA (Mods.refl _ _) (by assumption)
        | exact cutAggA (by assumption) (by assumption)
        | (refine cutAggA (by first | assumption | exact Mods.refl _ _) ?_; apply Mods.trans (L' := []); assumption; (first | assumption | (apply Mods.trans (L' := []); assumption; assumption; simp)); simp)
        | (refine cutAggD (by first | assumption | exact Mods.refl _ _) ?_; apply Mods.trans (L' := []); assumption; (first | assumption | (apply Mods.trans (L' := []); assumption; assumption; simp)); simp)
  case rest =>
    obtain ⟨xb, xc, rfl, hxb, hxc, hne, hMx, hcx, hbx⟩ := hcut
    have c0x : wc.cell? ⟨w.heap.size, 0, none⟩ = some (.pointer (some ⟨pb, 0, none⟩)) := hMx.cell c0 (by simp)
    have hPx := HP0.out.1.later hMx
    have hsz := HSZ.out
    have hMw : Mods [pb] w wc := ((HM0.out.trans hMx (by simp)).mono (by simp))
    obtain ⟨hop, ht⟩ := HOP.out
    have ccx : wc.cell? ⟨xc, 0, none⟩ = some (PtrV xb) := cell_of_heap hcx 0
    clear hnowG hlowG hfd1 hfd2 c0
    cases f with
    | zero =>
      have hin := inside_deep wc pb tg s hPx (.func (.func 237) #[] #[.pointer (some ⟨w.heap.size, 0, none⟩), .pointer (some ⟨xc, 0, none⟩)])
      have HF : Hid (aggregateF (subOf 0) s = (.leaf { op := op, pos := t.pos }, s.fail 9)) := Lib.hid (by rw [← hop, ← ht]; rfl)
      have he9 : (s.fail 9).e ≠ 0 := by unfold PS.fail; rw [if_pos he]; simp
      unfold PtrV at hin
      clear HO hPx hop ht
      go_wp2_with fail
      (with_reducible refine hin.mono ?_)
      rintro e w5 ⟨rfl, hM5, hP5⟩
      have c5 := hM5.cell ccx (by simp; omega)
      unfold PtrV at c5
      clear hin
      go_wp2_with fail
      go_ret
      exact ⟨xb, rfl, hMw.trans hM5 (by simp), by rw [HF.out]; exact hP5, by rw [HF.out]; exact fun h => absurd h he9⟩
    | succ f =>
      have HF : Hid (aggregateF (subOf (f + 1)) s = aggB (lvl f).expr op t.pos s.next) := Lib.hid (by
        rw [← hop, ← ht]
        show (if s.e = 0 then _ else _) = _
        rw [if_pos he]
        rfl)
      have hin := inside_go wc pb tg s f hPx he hk 237 (.inr (.inr rfl)) (.pointer (some ⟨w.heap.size, 0, none⟩)) (.pointer (some ⟨xc, 0, none⟩)) (aggB (lvl f).expr op t.pos s.next).2
        (fun W' => ∃ W, Mods [pb] wc W ∧ Mods [pb, xb] W W' ∧ AggAt xb (lvl f).expr op t.pos s.next W W')
        (fun W hM hP => (aggregate1 W pb tg f (lvl f).expr s.next w.heap.size xc xb op t.pos hP (hM.cell c0x (by simp; omega)) (hM.cell ccx (by simp; omega)) (hM.heap hbx (by simp; omega)) (by omega) (by omega) (by omega) (by omega) (by omega) (fun W2 s2 hP2 => HO.out f rfl W2 s2 hP2)).mono fun e W' h => ⟨h.1, h.2.1, W, hM, h.2.2.1, h.2.2.2⟩)
      unfold PtrV at hin
      clear HO hPx hop ht
      go_wp2_with fail
      (with_reducible refine hin.mono ?_)
      rintro e w5 ⟨rfl, hP5, W1, ⟨W, hMa, hMb, hfe⟩, hMc⟩
      clear hin
      have hsa := hMa.size
      have hsx := hMx.size
      have c5 := hMc.cell (hMb.cell (hMa.cell ccx (by simp; omega)) (by simp; omega)) (by simp; omega)
      unfold PtrV at c5
      have hMw5 : Mods [pb] w w5 := ((hMw.trans hMa (by simp)).trans hMb (fun y hy => by simp at hy; rcases hy with rfl | rfl; exact .inl (by simp); exact .inr (by omega))).trans hMc (by simp)
      have hfin : PRes pb tg (f + 1) (aggregateF (subOf (f + 1))) s w (.returned (.pointer (some ⟨xb, 0, none⟩))) w5 := by
        refine ⟨xb, rfl, hMw5, by rw [HF.out]; exact hP5, ?_⟩
        rw [HF.out]
        intro he L hL
        exact ((hfe he (pb :: L) (fun y hy => by
          rcases List.mem_cons.1 hy with rfl | hy
          · exact ⟨by omega, by omega⟩
          · have := hL _ hy; exact ⟨by omega, by omega⟩)).mods (hMc.mono (by simp))).weaken (fun y hy => List.mem_cons_of_mem _ hy)
      have HFIN := Lib.hid hfin
      clear hfin hfe hP5 hMa hMb hMc hMw hMw5 hMx
      go_wp2_with fail
      go_ret
      exact HFIN.out
end Go.Proofs.YtpokbepenacnpaaGreatDoor
