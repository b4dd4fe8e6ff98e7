/-
  parse's before and its inner function, walked. No condition.
-/
import Derived.Test.YtpokbepenacnpaaGreatDoorPsF
import Derived.Deep.RegionHeld
namespace Go.Proofs.YtpokbepenacnpaaGreatDoor
open Go.RowKit
set_option linter.unusedVariables false

/-- What 'before$1' leaves: the node's Args are what was read. -/
def Filled (W0 : World) (xb : Nat) (h : Hd) (F : PF) (s1 : PS) (W W' : World) : Prop :=
  ∃ ab yb, W'.heap[xb]? = some (.cells (hdC h (.slice (some ⟨ab, 0, none⟩) 1 1)).toArray 138 (0, 0)) ∧ W'.heap[ab]? = some (.cells #[PtrV yb] 89 (0, 0)) ∧ W.heap.size ≤ ab ∧ ((F s1).2.e = 0 → ∀ L : List Nat, (∀ x ∈ L, x < W.heap.size) → ExprAt 138 89 W' L (PtrV yb) (F s1).1)

theorem filled_of {W w5 : World} {pb tg f xb yb : Nat} {h : Hd} {F : PF} {s1 : PS} (hxp : xb ≠ pb) (hxt : xb ≠ tg) (hxw : xb < W.heap.size) (hx5 : w5.heap[xb]? = some (.cells (hdC h (.slice none 0 0)).toArray 138 (0, 0))) (hM5 : Mods [pb] W.drew w5) (hP5 : PSt w5 pb tg (F s1).2 f)
    (hE5 : (F s1).2.e = 0 → ∀ L : List Nat, (∀ x ∈ L, x < W.drew.heap.size) → ExprAt 138 89 w5 L (PtrV yb) (F s1).1) :
    PSt ((w5.alloc (.cells #[.pointer (some ⟨yb, 0, none⟩)] 89)).setCell ⟨xb, 7, none⟩ (.slice (some ⟨w5.heap.size, 0, none⟩) 1 1)) pb tg (F s1).2 f ∧ Mods [pb, xb] W ((w5.alloc (.cells #[.pointer (some ⟨yb, 0, none⟩)] 89)).setCell ⟨xb, 7, none⟩ (.slice (some ⟨w5.heap.size, 0, none⟩) 1 1)) ∧ Filled W xb h F s1 W ((w5.alloc (.cells #[.pointer (some ⟨yb, 0, none⟩)] 89)).setCell ⟨xb, 7, none⟩ (.slice (some ⟨w5.heap.size, 0, none⟩) 1 1)) := by
  have z6 := (Mods.refl [] w5).alloc (.cells #[.pointer (some ⟨yb, 0, none⟩)] 89)
  have z7 : ∀ L, xb ∈ L → Mods L w5 ((w5.alloc (.cells #[.pointer (some ⟨yb, 0, none⟩)] 89)).setCell ⟨xb, 7, none⟩ (.slice (some ⟨w5.heap.size, 0, none⟩) 1 1)) := fun L hL => (z6.mono (by simp)).setCell (.inl hL) _
  have hs5 := hM5.size
  have hs5' : W.heap.size ≤ w5.heap.size := hs5
  have hM5w : Mods [pb] W w5 := ((Mods.refl [pb] W).drew).trans hM5 (by simp)
  refine ⟨hP5.mods (z7 [xb] (by simp)) (by simpa using hxp.symm) (by simpa using hxt.symm), (hM5w.mono (by simp)).trans (z7 [pb, xb] (by simp)) (by simp), w5.heap.size, yb, heap_setCell_same (z6.heap hx5 (by simp)) 7 _, ?_, hs5', fun he L hL => ?_⟩
  · exact ((Mods.refl [xb] _).setCell (p := ⟨xb, 7, none⟩) (.inl (by simp)) _).heap (heap_alloc_new w5 _) (by simp; omega)
  · have h1 := hE5 he (xb :: L) (fun x hx => by
      rcases List.mem_cons.1 hx with rfl | hx
      · exact hxw
      · exact hL x hx)
    exact (h1.mods (z7 (xb :: L) (by simp))).weaken (fun x hx => List.mem_cons_of_mem _ hx)
set_option maxRecDepth 100000 in
set_option maxHeartbeats 1000000 in
theorem before1_minus (W : World) (pb tg : Nat) (f : Nat) (F : PF) (s1 : PS) (ob xc xb : Nat) (h : Hd)
    (ho : W.cell? ⟨ob, 0, none⟩ = some (.func (.func 227) #[PtrV pb] #[])) (hx : W.cell? ⟨xc, 0, none⟩ = some (PtrV xb)) (hxb : W.heap[xb]? = some (.cells (hdC h (.slice none 0 0)).toArray 138 (0, 0))) (hxp : xb ≠ pb) (hxt : xb ≠ tg) (hcp : xc ≠ pb) (hop : ob ≠ pb)
    (hown : ∀ W2, Mods [] W W2 → Calls Tryz.prog 227 #[PtrV pb] W2 (PRes pb tg f F s1 W2)) :
    Calls Tryz.prog 212 #[.pointer (some ⟨ob, 0, none⟩), .pointer (some ⟨xc, 0, none⟩)] W fun e W' => e = .returned (.tuple #[]) ∧ PSt W' pb tg (F s1).2 f ∧ Mods [pb, xb] W W' ∧ Filled W xb h F s1 W W' := by
  have hcall := hown W.drew ((Mods.refl [] W).drew)
  have hxw : xb < W.heap.size := lt_size_of_heap hxb
  have n1 : xc ∉ [pb] := by simpa using hcp
  have n2 : ob ∉ [pb] := by simpa using hop
  have n3 : xb ∉ [pb] := by simpa using hxp
  unfold PtrV at *
  have xd : W.drew.cell? ⟨xc, 0, none⟩ = some (.pointer (some ⟨xb, 0, none⟩)) := hx
  have od : W.drew.cell? ⟨ob, 0, none⟩ = _ := ho
  clear hown
  go_enter Tryz.func212, Tryz.ntmps212
  go_wp2_with fail
  go_region_with ((with_reducible refine hcall.mono ?_); rintro e w5 ⟨yb, rfl, hM5, hP5, hE5⟩; dsimp only [PtrV]; have hx5 := hM5.heap (show W.drew.heap[xb]? = _ from hxb) (by simpa using hxp); have c5 : w5.cell? ⟨xc, 0, none⟩ = some (.pointer (some ⟨xb, 0, none⟩)) := hM5.cell xd n1; have y5 : w5.cell? ⟨xb, 7, none⟩ = some (.slice none 0 0) := cell_of_heap hx5 7; have f5 := frozen_of_heap hx5 7; have z6 := ((Mods.refl [] w5).alloc (.cells #[.pointer (some ⟨yb, 0, none⟩)] 89)); have c6 := z6.cell c5 (by simp); have y6 := z6.cell y5 (by simp); have f6 := frozen_of_heap (z6.heap hx5 (by simp)) 7)
  all_goals
    have hfin := filled_of hxp hxt hxw hx5 hM5 hP5 hE5
    have HFIN := Lib.hid hfin
    clear hfin hP5 hE5 hM5 hx5 z6 hcall
    go_wp2_with fail
    go_end0
    exact ⟨rfl, HFIN.out.1, HFIN.out.2.1, HFIN.out.2.2⟩
set_option maxRecDepth 100000 in
set_option maxHeartbeats 1000000 in
theorem before1_not (W : World) (pb tg : Nat) (f : Nat) (F : PF) (s1 : PS) (ob xc xb : Nat) (h : Hd)
    (ho : W.cell? ⟨ob, 0, none⟩ = some (.func (.func 160) #[PtrV pb] #[])) (hx : W.cell? ⟨xc, 0, none⟩ = some (PtrV xb)) (hxb : W.heap[xb]? = some (.cells (hdC h (.slice none 0 0)).toArray 138 (0, 0))) (hxp : xb ≠ pb) (hxt : xb ≠ tg) (hcp : xc ≠ pb) (hop : ob ≠ pb)
    (hown : ∀ W2, Mods [] W W2 → Calls Tryz.prog 160 #[PtrV pb] W2 (PRes pb tg f F s1 W2)) :
    Calls Tryz.prog 212 #[.pointer (some ⟨ob, 0, none⟩), .pointer (some ⟨xc, 0, none⟩)] W fun e W' => e = .returned (.tuple #[]) ∧ PSt W' pb tg (F s1).2 f ∧ Mods [pb, xb] W W' ∧ Filled W xb h F s1 W W' := by
  have hcall := hown W.drew ((Mods.refl [] W).drew)
  have hxw : xb < W.heap.size := lt_size_of_heap hxb
  have n1 : xc ∉ [pb] := by simpa using hcp
  have n2 : ob ∉ [pb] := by simpa using hop
  have n3 : xb ∉ [pb] := by simpa using hxp
  unfold PtrV at *
  have xd : W.drew.cell? ⟨xc, 0, none⟩ = some (.pointer (some ⟨xb, 0, none⟩)) := hx
  have od : W.drew.cell? ⟨ob, 0, none⟩ = _ := ho
  clear hown
  go_enter Tryz.func212, Tryz.ntmps212
  go_wp2_with fail
  go_region_with ((with_reducible refine hcall.mono ?_); rintro e w5 ⟨yb, rfl, hM5, hP5, hE5⟩; dsimp only [PtrV]; have hx5 := hM5.heap (show W.drew.heap[xb]? = _ from hxb) (by simpa using hxp); have c5 : w5.cell? ⟨xc, 0, none⟩ = some (.pointer (some ⟨xb, 0, none⟩)) := hM5.cell xd n1; have y5 : w5.cell? ⟨xb, 7, none⟩ = some (.slice none 0 0) := cell_of_heap hx5 7; have f5 := frozen_of_heap hx5 7; have z6 := ((Mods.refl [] w5).alloc (.cells #[.pointer (some ⟨yb, 0, none⟩)] 89)); have c6 := z6.cell c5 (by simp); have y6 := z6.cell y5 (by simp); have f6 := frozen_of_heap (z6.heap hx5 (by simp)) 7)
  all_goals
    have hfin := filled_of hxp hxt hxw hx5 hM5 hP5 hE5
    have HFIN := Lib.hid hfin
    clear hfin hP5 hE5 hM5 hx5 z6 hcall
    go_wp2_with fail
    go_end0
    exact ⟨rfl, HFIN.out.1, HFIN.out.2.1, HFIN.out.2.2⟩
end Go.Proofs.YtpokbepenacnpaaGreatDoor

namespace Go.Proofs.YtpokbepenacnpaaGreatDoor
open Go.RowKit
set_option linter.unusedVariables false

theorem pair_new (w : World) (A B : Obj) : ((w.alloc A).alloc B).heap[w.heap.size]? = some A ∧ ((w.alloc A).alloc B).heap[w.heap.size + 1]? = some B := by
  refine ⟨?_, ?_⟩
  · rw [Below.heap_alloc _ _ _ (by rw [size_alloc]; omega)]; exact heap_alloc_new _ _
  · have := heap_alloc_new (w.alloc A) B
    rw [size_alloc] at this
    exact this

set_option maxRecDepth 100000 in
set_option maxHeartbeats 2000000 in
theorem before_minus (w : World) (pb tg : Nat) (f : Nat) (s : PS) (h : PSt w pb tg s f) (x op : Bs) (own : Lvl → PF) (RF : PF)
    (hrest : ∀ W, PSt W pb tg s f → Calls Tryz.prog 229 #[PtrV pb] W (PRes pb tg f RF s W))
    (hown : ∀ f', f = f' + 1 → ∀ W s1, PSt W pb tg s1 f' → Calls Tryz.prog 227 #[PtrV pb] W (PRes pb tg f' (own (lvl f')) s1 W)) :
    Calls Tryz.prog 191 #[PtrV pb, .string ⟨x.toArray⟩, .string ⟨op.toArray⟩, .func (.func 227) #[PtrV pb] #[], .func (.func 229) #[PtrV pb] #[]] w (PRes pb tg f (beforeF (subOf f) x op own RF) s w) := by
  have hpw := h.lt
  have hM1 := (Mods.refl [] w).alloc (.cells #[.func (.func 227) #[PtrV pb] #[]] 158)
  have hob := heap_alloc_new w (.cells #[.func (.func 227) #[PtrV pb] #[]] 158)
  have hM2 := hM1.alloc (.cells #[.string ⟨x.toArray⟩] 9)
  have his := is_any _ pb tg s f (h.later hM2) _ [x] (strs_one _ x) (by simp)
  have hob2 := ((Mods.refl [] _).alloc (.cells #[.string ⟨x.toArray⟩] 9)).heap hob (by simp)
  have HP := Lib.hid h
  have HF : Hid (∀ z, beforeF (subOf f) x op own RF s = z → z = beforeF (subOf f) x op own RF s) := Lib.hid (fun z h => h.symm)
  have HO := Lib.hid hown
  have hsz := size_alloc w (.cells #[.func (.func 227) #[PtrV pb] #[]] 158)
  rw [hsz] at his
  unfold PtrV at *
  clear h hown
  go_enter Tryz.func191, Tryz.ntmps191
  go_wp2_with fail
  (with_reducible refine his.mono ?_)
  rintro e w2 ⟨rfl, hM3⟩
  have hM02 := hM2.trans hM3 (by simp)
  have hb2 := hM3.heap hob2 (by simp)
  have hP2 := HP.out.later hM02
  clear his hob hob2 hM1 hM2 hM3 hsz
  generalize hoe : w.heap.size = ob at *
  cases hi : s.is [x] with
  | false =>
    have hF : beforeF (subOf f) x op own RF s = RF s := by unfold beforeF; rw [hi]; rfl
    have hr := hrest w2 hP2
    have HF2 := Lib.hid hF
    clear hF hrest HF hi hP2
    go_wp2_with fail
    (with_reducible refine hr.mono ?_)
    rintro e w3 ⟨b, rfl, hM4, hP4, hE4⟩
    dsimp only [PtrV]
    go_wp2_with fail
    go_ret
    exact ⟨b, rfl, (hM02.mono (by simp)).trans hM4 (by simp), by rw [HF2.out]; exact hP4, by rw [HF2.out]; exact fun he L hL => hE4 he L (fun y hy => Nat.lt_of_lt_of_le (hL y hy) hM02.size)⟩
  | true =>
    have hk := is_kind hi
    have hnow := now_any w2 pb tg s f hP2
    have hfd := tok_field1 s.now
    have hF : beforeF (subOf f) x op own RF s = inF (subOf f) (fun L s1 => (.un { op := op, pos := s.now.pos } (own L s1).1, (own L s1).2)) (.leaf { op := op, pos := s.now.pos }) s := by unfold beforeF; rw [if_pos hi]
    have HF2 := Lib.hid hF
    have HK := Lib.hid hk
    unfold PtrV at hnow
    clear hF hk hi HF hrest
    go_wp2_with fail
    (with_reducible refine hnow.mono ?_)
    rintro e w3 ⟨rfl, hM4⟩
    clear hnow
    have hMX := ((Mods.refl [] w3).alloc (.cells #[.string ⟨op.toArray⟩, .int .i64 s.now.pos, .string ⟨#[]⟩, .string ⟨#[]⟩, .int .i64 0, .int .i64 0, .string ⟨#[]⟩, .slice none 0 0] 138)).alloc (.cells #[.pointer (some ⟨w3.heap.size, 0, none⟩)] 89)
    obtain ⟨hx4, hc4⟩ := pair_new w3 (.cells #[.string ⟨op.toArray⟩, .int .i64 s.now.pos, .string ⟨#[]⟩, .string ⟨#[]⟩, .int .i64 0, .int .i64 0, .string ⟨#[]⟩, .slice none 0 0] 138) (.cells #[.pointer (some ⟨w3.heap.size, 0, none⟩)] 89)
    have hM04 := (hM02.trans hM4 (by simp)).trans hMX (by simp)
    have hP4 := HP.out.later hM04
    have hb4 := hMX.heap (hM4.heap hb2 (by simp)) (by simp)
    have hs04 := (hM02.trans hM4 (by simp)).size
    have hobl : ob < w3.heap.size := lt_size_of_heap (hM4.heap hb2 (by simp))
    cases f with
    | zero =>
      have hin := inside_deep _ pb tg s hP4 (.func (.func 212) #[] #[.pointer (some ⟨ob, 0, none⟩), .pointer (some ⟨w3.heap.size + 1, 0, none⟩)])
      have hF3 : beforeF (subOf 0) x op own RF s = (.leaf { op := op, pos := s.now.pos }, s.fail 9) := HF2.out
      have HF3 := Lib.hid hF3
      have he9 : (s.fail 9).e ≠ 0 := by unfold PS.fail; rw [if_pos HK.out.1]; simp
      unfold PtrV at hin
      clear hF3 HF2 HO hP4 hP2
      go_wp2_with fail
      (with_reducible refine hin.mono ?_)
      rintro e w5 ⟨rfl, hM5, hP5⟩
      have c5 := hM5.cell ((cell_of_heap hc4 0).trans rfl) (by simp; omega)
      change w5.cell? _ = some (.pointer (some ⟨w3.heap.size, 0, none⟩)) at c5
      clear hin
      go_wp2_with fail
      go_ret
      exact ⟨w3.heap.size, rfl, (hM04.mono (by simp)).trans hM5 (by simp), by rw [HF3.out]; exact hP5, by rw [HF3.out]; exact fun h => absurd h he9⟩
    | succ f =>
      have hF3 : beforeF (subOf (f + 1)) x op own RF s = (.un { op := op, pos := s.now.pos } (own (lvl f) s.next).1, (own (lvl f) s.next).2) := by
        rw [HF2.out]
        show (if s.e = 0 then _ else _) = _
        rw [if_pos HK.out.1]
      have HF3 := Lib.hid hF3
      obtain ⟨h1, hh1⟩ : ∃ h1 : Hd, h1 = { op := op, pos := s.now.pos } := ⟨_, rfl⟩
      have hin := inside_go _ pb tg s f hP4 HK.out.1 HK.out.2 212 (.inl rfl) (.pointer (some ⟨ob, 0, none⟩)) (.pointer (some ⟨w3.heap.size + 1, 0, none⟩)) (own (lvl f) s.next).2
        (fun W' => ∃ W, Mods [pb] ((w3.alloc (.cells #[.string ⟨op.toArray⟩, .int .i64 s.now.pos, .string ⟨#[]⟩, .string ⟨#[]⟩, .int .i64 0, .int .i64 0, .string ⟨#[]⟩, .slice none 0 0] 138)).alloc (.cells #[.pointer (some ⟨w3.heap.size, 0, none⟩)] 89)) W ∧ Mods [pb, w3.heap.size] W W' ∧ Filled W w3.heap.size h1 (own (lvl f)) s.next W W')
        (fun W hM hP => (before1_minus W pb tg f (own (lvl f)) s.next ob (w3.heap.size + 1) w3.heap.size h1 (hM.cell ((cell_of_heap hb4 0).trans rfl) (by simp; omega)) (hM.cell ((cell_of_heap hc4 0).trans rfl) (by simp; omega)) (by rw [hh1]; exact hM.heap hx4 (by simp; omega)) (by omega) (by omega) (by omega) (by omega) (fun W2 h2 => HO.out f rfl W2 s.next (hP.later h2))).mono fun e W' h => ⟨h.1, h.2.1, W, hM, h.2.2.1, h.2.2.2⟩)
      have HH1 := Lib.hid hh1
      unfold PtrV at hin
      clear hF3 HF2 HO hP4 hP2 hh1
      go_wp2_with fail
      (with_reducible refine hin.mono ?_)
      rintro e w5 ⟨rfl, hP5, W1, ⟨W, hMa, hMb, ab, yb, hfx, hfa, hfs, hfe⟩, hMc⟩
      clear hin
      have hMW1 : Mods [pb, w3.heap.size] _ W1 := (hMa.mono (by simp)).trans hMb (by simp)
      have hM5 : Mods [pb, w3.heap.size] _ w5 := hMW1.trans hMc (by simp)
      have c5 := hM5.cell ((cell_of_heap hc4 0).trans rfl) (by simp; omega)
      change w5.cell? _ = some (.pointer (some ⟨w3.heap.size, 0, none⟩)) at c5
      have hMw : Mods [pb] w w5 := (hM04.mono (by simp)).trans hM5 (fun y hy => by simp at hy; rcases hy with rfl | rfl; exact .inl (by simp); exact .inr (by omega))
      have hsa := hMa.size
      rw [size_alloc, size_alloc] at hsa
      have hfin : PRes pb tg (f + 1) (beforeF (subOf (f + 1)) x op own RF) s w (.returned (.pointer (some ⟨w3.heap.size, 0, none⟩))) w5 := by
        refine ⟨w3.heap.size, rfl, hMw, by rw [HF3.out]; exact hP5, ?_⟩
        rw [HF3.out]
        intro he L hL
        refine ⟨w3.heap.size, ab, PtrV yb, rfl, fun hm => by have := hL _ hm; omega, fun hm => by have := hL _ hm; omega, ?_, hMc.heap hfa (by simp; omega), ?_⟩
        · rw [← HH1.out]
          exact hMc.heap hfx (by simp; omega)
        · exact (((hfe he (pb :: L) (fun y hy => by
            rcases List.mem_cons.1 hy with rfl | hy
            · omega
            · have := hL _ hy; omega))).mods (hMc.mono (by simp))).weaken (fun y hy => List.mem_cons_of_mem _ hy)
      have HFIN := Lib.hid hfin
      clear hfin hfx hfa hfe hP5 hMa hMb hMc hMW1 hM5 hMw
      go_wp2_with fail
      go_ret
      exact HFIN.out

set_option maxRecDepth 100000 in
set_option maxHeartbeats 2000000 in
theorem before_not (w : World) (pb tg : Nat) (f : Nat) (s : PS) (h : PSt w pb tg s f) (x op : Bs) (own : Lvl → PF) (RF : PF)
    (hrest : ∀ W, PSt W pb tg s f → Calls Tryz.prog 192 #[PtrV pb] W (PRes pb tg f RF s W))
    (hown : ∀ f', f = f' + 1 → ∀ W s1, PSt W pb tg s1 f' → Calls Tryz.prog 160 #[PtrV pb] W (PRes pb tg f' (own (lvl f')) s1 W)) :
    Calls Tryz.prog 191 #[PtrV pb, .string ⟨x.toArray⟩, .string ⟨op.toArray⟩, .func (.func 160) #[PtrV pb] #[], .func (.func 192) #[PtrV pb] #[]] w (PRes pb tg f (beforeF (subOf f) x op own RF) s w) := by
  have hpw := h.lt
  have hM1 := (Mods.refl [] w).alloc (.cells #[.func (.func 160) #[PtrV pb] #[]] 158)
  have hob := heap_alloc_new w (.cells #[.func (.func 160) #[PtrV pb] #[]] 158)
  have hM2 := hM1.alloc (.cells #[.string ⟨x.toArray⟩] 9)
  have his := is_any _ pb tg s f (h.later hM2) _ [x] (strs_one _ x) (by simp)
  have hob2 := ((Mods.refl [] _).alloc (.cells #[.string ⟨x.toArray⟩] 9)).heap hob (by simp)
  have HP := Lib.hid h
  have HF : Hid (∀ z, beforeF (subOf f) x op own RF s = z → z = beforeF (subOf f) x op own RF s) := Lib.hid (fun z h => h.symm)
  have HO := Lib.hid hown
  have hsz := size_alloc w (.cells #[.func (.func 160) #[PtrV pb] #[]] 158)
  rw [hsz] at his
  unfold PtrV at *
  clear h hown
  go_enter Tryz.func191, Tryz.ntmps191
  go_wp2_with fail
  (with_reducible refine his.mono ?_)
  rintro e w2 ⟨rfl, hM3⟩
  have hM02 := hM2.trans hM3 (by simp)
  have hb2 := hM3.heap hob2 (by simp)
  have hP2 := HP.out.later hM02
  clear his hob hob2 hM1 hM2 hM3 hsz
  generalize hoe : w.heap.size = ob at *
  cases hi : s.is [x] with
  | false =>
    have hF : beforeF (subOf f) x op own RF s = RF s := by unfold beforeF; rw [hi]; rfl
    have hr := hrest w2 hP2
    have HF2 := Lib.hid hF
    clear hF hrest HF hi hP2
    go_wp2_with fail
    (with_reducible refine hr.mono ?_)
    rintro e w3 ⟨b, rfl, hM4, hP4, hE4⟩
    dsimp only [PtrV]
    go_wp2_with fail
    go_ret
    exact ⟨b, rfl, (hM02.mono (by simp)).trans hM4 (by simp), by rw [HF2.out]; exact hP4, by rw [HF2.out]; exact fun he L hL => hE4 he L (fun y hy => Nat.lt_of_lt_of_le (hL y hy) hM02.size)⟩
  | true =>
    have hk := is_kind hi
    have hnow := now_any w2 pb tg s f hP2
    have hfd := tok_field1 s.now
    have hF : beforeF (subOf f) x op own RF s = inF (subOf f) (fun L s1 => (.un { op := op, pos := s.now.pos } (own L s1).1, (own L s1).2)) (.leaf { op := op, pos := s.now.pos }) s := by unfold beforeF; rw [if_pos hi]
    have HF2 := Lib.hid hF
    have HK := Lib.hid hk
    unfold PtrV at hnow
    clear hF hk hi HF hrest
    go_wp2_with fail
    (with_reducible refine hnow.mono ?_)
    rintro e w3 ⟨rfl, hM4⟩
    clear hnow
    have hMX := ((Mods.refl [] w3).alloc (.cells #[.string ⟨op.toArray⟩, .int .i64 s.now.pos, .string ⟨#[]⟩, .string ⟨#[]⟩, .int .i64 0, .int .i64 0, .string ⟨#[]⟩, .slice none 0 0] 138)).alloc (.cells #[.pointer (some ⟨w3.heap.size, 0, none⟩)] 89)
    obtain ⟨hx4, hc4⟩ := pair_new w3 (.cells #[.string ⟨op.toArray⟩, .int .i64 s.now.pos, .string ⟨#[]⟩, .string ⟨#[]⟩, .int .i64 0, .int .i64 0, .string ⟨#[]⟩, .slice none 0 0] 138) (.cells #[.pointer (some ⟨w3.heap.size, 0, none⟩)] 89)
    have hM04 := (hM02.trans hM4 (by simp)).trans hMX (by simp)
    have hP4 := HP.out.later hM04
    have hb4 := hMX.heap (hM4.heap hb2 (by simp)) (by simp)
    have hs04 := (hM02.trans hM4 (by simp)).size
    have hobl : ob < w3.heap.size := lt_size_of_heap (hM4.heap hb2 (by simp))
    cases f with
    | zero =>
      have hin := inside_deep _ pb tg s hP4 (.func (.func 212) #[] #[.pointer (some ⟨ob, 0, none⟩), .pointer (some ⟨w3.heap.size + 1, 0, none⟩)])
      have hF3 : beforeF (subOf 0) x op own RF s = (.leaf { op := op, pos := s.now.pos }, s.fail 9) := HF2.out
      have HF3 := Lib.hid hF3
      have he9 : (s.fail 9).e ≠ 0 := by unfold PS.fail; rw [if_pos HK.out.1]; simp
      unfold PtrV at hin
      clear hF3 HF2 HO hP4 hP2
      go_wp2_with fail
      (with_reducible refine hin.mono ?_)
      rintro e w5 ⟨rfl, hM5, hP5⟩
      have c5 := hM5.cell ((cell_of_heap hc4 0).trans rfl) (by simp; omega)
      change w5.cell? _ = some (.pointer (some ⟨w3.heap.size, 0, none⟩)) at c5
      clear hin
      go_wp2_with fail
      go_ret
      exact ⟨w3.heap.size, rfl, (hM04.mono (by simp)).trans hM5 (by simp), by rw [HF3.out]; exact hP5, by rw [HF3.out]; exact fun h => absurd h he9⟩
    | succ f =>
      have hF3 : beforeF (subOf (f + 1)) x op own RF s = (.un { op := op, pos := s.now.pos } (own (lvl f) s.next).1, (own (lvl f) s.next).2) := by
        rw [HF2.out]
        show (if s.e = 0 then _ else _) = _
        rw [if_pos HK.out.1]
      have HF3 := Lib.hid hF3
      obtain ⟨h1, hh1⟩ : ∃ h1 : Hd, h1 = { op := op, pos := s.now.pos } := ⟨_, rfl⟩
      have hin := inside_go _ pb tg s f hP4 HK.out.1 HK.out.2 212 (.inl rfl) (.pointer (some ⟨ob, 0, none⟩)) (.pointer (some ⟨w3.heap.size + 1, 0, none⟩)) (own (lvl f) s.next).2
        (fun W' => ∃ W, Mods [pb] ((w3.alloc (.cells #[.string ⟨op.toArray⟩, .int .i64 s.now.pos, .string ⟨#[]⟩, .string ⟨#[]⟩, .int .i64 0, .int .i64 0, .string ⟨#[]⟩, .slice none 0 0] 138)).alloc (.cells #[.pointer (some ⟨w3.heap.size, 0, none⟩)] 89)) W ∧ Mods [pb, w3.heap.size] W W' ∧ Filled W w3.heap.size h1 (own (lvl f)) s.next W W')
        (fun W hM hP => (before1_not W pb tg f (own (lvl f)) s.next ob (w3.heap.size + 1) w3.heap.size h1 (hM.cell ((cell_of_heap hb4 0).trans rfl) (by simp; omega)) (hM.cell ((cell_of_heap hc4 0).trans rfl) (by simp; omega)) (by rw [hh1]; exact hM.heap hx4 (by simp; omega)) (by omega) (by omega) (by omega) (by omega) (fun W2 h2 => HO.out f rfl W2 s.next (hP.later h2))).mono fun e W' h => ⟨h.1, h.2.1, W, hM, h.2.2.1, h.2.2.2⟩)
      have HH1 := Lib.hid hh1
      unfold PtrV at hin
      clear hF3 HF2 HO hP4 hP2 hh1
      go_wp2_with fail
      (with_reducible refine hin.mono ?_)
      rintro e w5 ⟨rfl, hP5, W1, ⟨W, hMa, hMb, ab, yb, hfx, hfa, hfs, hfe⟩, hMc⟩
      clear hin
      have hMW1 : Mods [pb, w3.heap.size] _ W1 := (hMa.mono (by simp)).trans hMb (by simp)
      have hM5 : Mods [pb, w3.heap.size] _ w5 := hMW1.trans hMc (by simp)
      have c5 := hM5.cell ((cell_of_heap hc4 0).trans rfl) (by simp; omega)
      change w5.cell? _ = some (.pointer (some ⟨w3.heap.size, 0, none⟩)) at c5
      have hMw : Mods [pb] w w5 := (hM04.mono (by simp)).trans hM5 (fun y hy => by simp at hy; rcases hy with rfl | rfl; exact .inl (by simp); exact .inr (by omega))
      have hsa := hMa.size
      rw [size_alloc, size_alloc] at hsa
      have hfin : PRes pb tg (f + 1) (beforeF (subOf (f + 1)) x op own RF) s w (.returned (.pointer (some ⟨w3.heap.size, 0, none⟩))) w5 := by
        refine ⟨w3.heap.size, rfl, hMw, by rw [HF3.out]; exact hP5, ?_⟩
        rw [HF3.out]
        intro he L hL
        refine ⟨w3.heap.size, ab, PtrV yb, rfl, fun hm => by have := hL _ hm; omega, fun hm => by have := hL _ hm; omega, ?_, hMc.heap hfa (by simp; omega), ?_⟩
        · rw [← HH1.out]
          exact hMc.heap hfx (by simp; omega)
        · exact (((hfe he (pb :: L) (fun y hy => by
            rcases List.mem_cons.1 hy with rfl | hy
            · omega
            · have := hL _ hy; omega))).mods (hMc.mono (by simp))).weaken (fun y hy => List.mem_cons_of_mem _ hy)
      have HFIN := Lib.hid hfin
      clear hfin hfx hfa hfe hP5 hMa hMb hMc hMW1 hM5 hMw
      go_wp2_with fail
      go_ret
      exact HFIN.out
end Go.Proofs.YtpokbepenacnpaaGreatDoor

namespace Go.Proofs.YtpokbepenacnpaaGreatDoor
open Go.RowKit
set_option linter.unusedVariables false

theorem ExprAt.mods' {T T2 : TypeId} {w w' : World} {L : List Nat} {t : Tree} {v : Value} (h : ExprAt T T2 w L v t) (hM : Mods [] w w') : ExprAt T T2 w' L v t := h.mods (hM.mono (by simp))

theorem lowerB_lowc (c : UInt8) : Lib.lowerB c = lowc c := by
  have h : Lib.isUpperB c = decide (65 ≤ c.toNat ∧ c.toNat ≤ 90) := by
    rw [Bool.eq_iff_iff]
    simp [Lib.isUpperB, UInt8.le_iff_toNat_le]
  unfold Lib.lowerB lowc
  rw [h]
  by_cases h1 : 65 ≤ c.toNat ∧ c.toNat ≤ 90 <;> simp [h1]
theorem toLowerA_lowc (l : List UInt8) : Lib.toLowerA l = l.map lowc := by
  unfold Lib.toLowerA
  exact List.map_congr_left fun x _ => lowerB_lowc x
theorem is_mem {s : PS} {l : List Bs} (h : s.is l = true) : s.now.s ∈ l := by
  unfold PS.is isTok at h
  simp only [Bool.and_eq_true] at h
  exact List.contains_iff_mem.1 h.2.2
/-- strings.ToLower of an ASCII word, whatever the world. -/
theorem lower_any (t : Bs) (hn : t.length ≤ 1000) (ha : ∀ b ∈ t, b.toNat < 128) (W : World) : Calls Tryz.prog 159 #[.string ⟨t.toArray⟩] W fun e w' => e = .returned (.string ⟨(t.map lowc).toArray⟩) ∧ Mods [] W w' :=
  (Tryz.strings_ToLower_ascii ⟨t.toArray⟩ W (by show t.toArray.size ≤ _; simp; omega) (fun j x hx => ha x (List.mem_of_getElem? hx))).mono (fun e w' h => ⟨h.1.trans (by show Ending.returned (.string ⟨(Lib.toLowerA t).toArray⟩) = _; rw [toLowerA_lowc]), Mods.of_below h.2 (Nat.le_refl _) []⟩)

theorem bin_new {T T2 : TypeId} {w6 : World} {L : List Nat} {h : Hd} {b yb : Nat} {x y : Tree} (hL : ∀ z ∈ L, z < w6.heap.size) (hx : ExprAt T T2 w6 L (PtrV b) x) (hy : ExprAt T T2 w6 L (PtrV yb) y) :
    ExprAt T T2 ((w6.alloc (.cells #[PtrV b, PtrV yb] T2)).alloc (.cells (hdC h (.slice (some ⟨w6.heap.size, 0, none⟩) 2 2)).toArray T)) L (PtrV (w6.heap.size + 1)) (.bin h x y) := by
  have hM := ((Mods.refl [] w6).alloc (.cells #[PtrV b, PtrV yb] T2)).alloc (.cells (hdC h (.slice (some ⟨w6.heap.size, 0, none⟩) 2 2)).toArray T)
  obtain ⟨h1, h2⟩ := pair_new w6 (.cells #[PtrV b, PtrV yb] T2) (.cells (hdC h (.slice (some ⟨w6.heap.size, 0, none⟩) 2 2)).toArray T)
  exact ⟨w6.heap.size + 1, w6.heap.size, PtrV b, PtrV yb, rfl, fun hm => by have := hL _ hm; omega, fun hm => by have := hL _ hm; omega, h2, h1, hx.mods' hM, hy.mods' hM⟩

/-- One round of joined. -/
theorem joined_step {w wr w4 w5 w6 : World} {pb tg f : Nat} {F : PF} {ws : List Bs} {s s1 : PS} {b yb : Nat} {x : Tree} (hgo : Goes F) (hpb : pb < w.heap.size) (hM : Mods [pb] w wr) (h4 : Mods [pb] wr w4) (h5 : Mods [] w4.drew w5) (h6 : Mods [pb] w5 w6) (hP6 : PSt w6 pb tg (F s1.next).2 f)
    (hE : s1.e = 0 → ∀ L : List Nat, (∀ z ∈ L, z < w.heap.size) → ExprAt 138 89 wr L (PtrV b) x) (hE6 : (F s1.next).2.e = 0 → ∀ L : List Nat, (∀ z ∈ L, z < w5.heap.size) → ExprAt 138 89 w6 L (PtrV yb) (F s1.next).1) (he : s1.e = 0)
    (hJ : ∀ m, s1.rest.length = m + 1 → joinF F ws s = joinG F ws m (.bin { op := s1.now.s.map lowc, pos := s1.now.pos } x (F s1.next).1) (F s1.next).2) (hnl : s1.next.rest.length + 1 = s1.rest.length) :
    (F s1.next).2.rest.length < s1.rest.length ∧ ∃ (b' : Nat) (x' : Tree) (s' : PS), s'.rest.length = (F s1.next).2.rest.length ∧ Value.pointer (some ⟨w6.heap.size + 1, 0, none⟩) = .pointer (some ⟨b', 0, none⟩) ∧
      Mods [pb] w ((w6.alloc (.cells #[.pointer (some ⟨b, 0, none⟩), .pointer (some ⟨yb, 0, none⟩)] 89)).alloc (.cells #[.string ⟨(s1.now.s.map lowc).toArray⟩, .int .i64 s1.now.pos, .string ⟨#[]⟩, .string ⟨#[]⟩, .int .i64 0, .int .i64 0, .string ⟨#[]⟩, .slice (some ⟨w6.heap.size, 0, none⟩) 2 2] 138)) ∧
      PSt ((w6.alloc (.cells #[.pointer (some ⟨b, 0, none⟩), .pointer (some ⟨yb, 0, none⟩)] 89)).alloc (.cells #[.string ⟨(s1.now.s.map lowc).toArray⟩, .int .i64 s1.now.pos, .string ⟨#[]⟩, .string ⟨#[]⟩, .int .i64 0, .int .i64 0, .string ⟨#[]⟩, .slice (some ⟨w6.heap.size, 0, none⟩) 2 2] 138)) pb tg s' f ∧
      Hid (joinF F ws s = joinG F ws s'.rest.length x' s') ∧
      Hid (s'.e = 0 → ∀ L : List Nat, (∀ z ∈ L, z < w.heap.size) → ExprAt 138 89 ((w6.alloc (.cells #[.pointer (some ⟨b, 0, none⟩), .pointer (some ⟨yb, 0, none⟩)] 89)).alloc (.cells #[.string ⟨(s1.now.s.map lowc).toArray⟩, .int .i64 s1.now.pos, .string ⟨#[]⟩, .string ⟨#[]⟩, .int .i64 0, .int .i64 0, .string ⟨#[]⟩, .slice (some ⟨w6.heap.size, 0, none⟩) 2 2] 138)) L (PtrV b') x') := by
  have hlen := (hgo s1.next).len
  have hwf : WfT (F s1.next).2.rest := by obtain ⟨l, -, -, h3, -⟩ := hP6; exact h3
  have h45 : Mods [] w4 w5 := (Mods.refl [] w4).drew.trans h5 (by simp)
  have hr6 : Mods [pb] wr w6 := (h4.trans (h45.mono (L' := [pb]) (by simp)) (by simp)).trans h6 (by simp)
  have hz := ((Mods.refl [] w6).alloc (.cells #[.pointer (some ⟨b, 0, none⟩), .pointer (some ⟨yb, 0, none⟩)] 89)).alloc (.cells #[.string ⟨(s1.now.s.map lowc).toArray⟩, .int .i64 s1.now.pos, .string ⟨#[]⟩, .string ⟨#[]⟩, .int .i64 0, .int .i64 0, .string ⟨#[]⟩, .slice (some ⟨w6.heap.size, 0, none⟩) 2 2] 138)
  have hsz1 := hM.size
  have hsz2 := hr6.size
  have hsz3 := h4.size
  have hsz4 := h45.size
  refine ⟨by omega, w6.heap.size + 1, .bin { op := s1.now.s.map lowc, pos := s1.now.pos } x (F s1.next).1, (F s1.next).2, rfl, rfl, (hM.trans hr6 (by simp)).trans (hz.mono (L' := [pb]) (by simp)) (by simp), hP6.later hz, Lib.hid ?_, Lib.hid fun he2 L hL => ?_⟩
  · rw [hJ s1.next.rest.length hnl.symm]
    exact joinG_more hgo ws _ _ _ _ hwf hlen (Nat.le_refl _)
  · refine (bin_new (h := { op := s1.now.s.map lowc, pos := s1.now.pos }) (L := pb :: L) (fun z hm => ?_) ((hE he (pb :: L) fun z hm => ?_).mods (hr6.mono (by simp))) (hE6 he2 (pb :: L) fun z hm => ?_)).weaken (fun z hm => List.mem_cons_of_mem _ hm)
    all_goals
      rcases List.mem_cons.1 hm with rfl | hm
      · omega
      · have := hL _ hm; omega

set_option maxRecDepth 100000 in
set_option maxHeartbeats 4000000 in
theorem joined_minus (w : World) (pb tg : Nat) (f : Nat) (s : PS) (h : PSt w pb tg s f) (F : PF) (hgo : Goes F) (ws : List Bs) (hasc : ∀ x ∈ ws, ∀ b ∈ x, b.toNat < 128) (hwl : ws.length ≤ 1000) (hwx : ∀ x ∈ ws, x.length ≤ 1000) (g off n cap : Nat) (hws : StrsIn w (.slice (some ⟨g, off, none⟩) n cap) ws) (hgp : g ≠ pb)
    (hpart : ∀ W s1, PSt W pb tg s1 f → Calls Tryz.prog 227 #[PtrV pb] W (PRes pb tg f F s1 W)) :
    Calls Tryz.prog 119 #[PtrV pb, .func (.func 227) #[PtrV pb] #[], .slice (some ⟨g, off, none⟩) n cap] w (PRes pb tg f (joinF F ws) s w) := by
  have hpw := h.lt
  have h1 := hpart w s h
  have HW := Lib.hid (And.intro hws (And.intro hasc hwx))
  have HPT := Lib.hid hpart
  have FIN : Hid (∀ b w', Mods [pb] w w' → PSt w' pb tg (joinF F ws s).2 f → ((joinF F ws s).2.e = 0 → ∀ L : List Nat, (∀ x ∈ L, x < w.heap.size) → ExprAt 138 89 w' L (PtrV b) (joinF F ws s).1) → PRes pb tg f (joinF F ws) s w (.returned (PtrV b)) w') := Lib.hid (fun b w' h1 h2 h3 => ⟨b, rfl, h1, h2, h3⟩)
  unfold PtrV at *
  clear h hpart hws hasc hwx
  go_enter Tryz.func119, Tryz.ntmps119
  go_wp2_with fail
  (with_reducible refine h1.mono ?_)
  rintro e w1 ⟨b1, rfl, hM1, hP1, hE1⟩
  dsimp only [PtrV]
  clear h1
  have HJ : Hid (joinF F ws s = joinG F ws (F s).2.rest.length (F s).1 (F s).2) := Lib.hid rfl
  go_wp2_with fail
  go_loopg [7] (F s).2.rest.length (fun gk t7 wr => ∃ (b : Nat) (x : Tree) (s1 : PS), s1.rest.length = gk ∧ t7 = .pointer (some ⟨b, 0, none⟩) ∧ Mods [pb] w wr ∧ PSt wr pb tg s1 f ∧ Hid (joinF F ws s = joinG F ws s1.rest.length x s1) ∧ Hid (s1.e = 0 → ∀ L : List Nat, (∀ x ∈ L, x < w.heap.size) → ExprAt 138 89 wr L (PtrV b) x))
  case atStart => exact ⟨b1, (F s).1, (F s).2, rfl, rfl, hM1, hP1, HJ, Lib.hid hE1⟩
  case round =>
    clear hE1 hP1 hM1 HJ
    obtain ⟨b, x, s1, hgk, rfl, hM, hP, HJ, HE⟩ := hrel
    have hws2 : StrsIn wr (.slice (some ⟨g, off, none⟩) n cap) ws := by
      obtain ⟨g', off', cap', he, hc⟩ := HW.out.1
      simp only [Value.slice.injEq, Option.some.injEq, Addr.mk.injEq, and_true] at he
      obtain ⟨⟨rfl, rfl⟩, rfl, rfl⟩ := he
      exact ⟨g, off, cap, rfl, fun j hj => hM.cell (hc j hj) (by simpa using hgp)⟩
    have his := is_any wr pb tg s1 f hP _ ws hws2 hwl
    unfold PtrV at his
    go_wp2_with fail
    (with_reducible refine his.mono ?_)
    rintro e w2 ⟨rfl, hM2⟩
    have hP2 := hP.later hM2
    have hMw2 := hM.trans (hM2.mono (L' := [pb]) (by simp)) (by simp)
    have hwf : WfT s1.rest := by obtain ⟨l, -, -, h3, -⟩ := hP; exact h3
    have hpos : 0 < s1.rest.length := List.length_pos_iff.2 hwf.ne
    clear his hws2 hP
    cases hi : s1.is ws with
    | false =>
      have hJ2 : joinF F ws s = (x, s1) := by
        rw [HJ.out]
        obtain ⟨m, hm⟩ : ∃ m, s1.rest.length = m + 1 := ⟨s1.rest.length - 1, by omega⟩
        rw [hm]
        unfold joinG
        rw [hi]
        rfl
      have hfin := FIN.out b w2 hMw2 (by rw [hJ2]; exact hP2) (by rw [hJ2]; exact fun he L hL => ((HE.out he (L) hL).mods' hM2))
      have HFIN := Lib.hid hfin
      clear hfin hi hJ2 FIN HJ HE
      go_wp2_with fail
      go_ret
      exact HFIN.out
    | true =>
      have hmem := is_mem hi
      have hlow := fun W => lower_any s1.now.s (HW.out.2.2 _ hmem) (HW.out.2.1 _ hmem) W
      have hk := (is_kind hi).2
      have HSE := Lib.hid (is_kind hi).1
      have HNL : Hid (s1.next.rest.length + 1 = s1.rest.length) := Lib.hid (by unfold PS.next; rw [List.length_tail]; omega)
      have hnx := next_any w2 pb tg s1 f hP2 (hP2.wfTail hk)
      have hJ2 : ∀ m, s1.rest.length = m + 1 → joinF F ws s = joinG F ws m (.bin { op := s1.now.s.map lowc, pos := s1.now.pos } x (F s1.next).1) (F s1.next).2 := by
        intro m hm
        rw [HJ.out, hm]
        conv => lhs; unfold joinG
        rw [if_pos hi]
      have HJ2 := Lib.hid hJ2
      unfold PtrV at hnx
      clear hJ2 hi hmem hk
      go_wp2_with fail
      (with_reducible refine hnx.mono ?_)
      rintro e w3 ⟨rfl, hM3, hP3⟩
      clear hnx
      go_wp2_with fail
      have hMt := (Mods.refl [] w3).alloc (.cells #[.int .i64 s1.now.kind, .int .i64 s1.now.pos, .string ⟨s1.now.s.toArray⟩, .int .i64 s1.now.n, .int .i64 s1.now.scale] 75)
      have ht4 := heap_alloc_new w3 (.cells #[.int .i64 s1.now.kind, .int .i64 s1.now.pos, .string ⟨s1.now.s.toArray⟩, .int .i64 s1.now.n, .int .i64 s1.now.scale] 75)
      have hpl := hP3.lt
      have hP4 := hP3.later hMt.drew
      have hM34 := hM3.trans (hMt.mono (L' := [pb]) (by simp)) (by simp)
      generalize w3.alloc (.cells #[.int .i64 s1.now.kind, .int .i64 s1.now.pos, .string ⟨s1.now.s.toArray⟩, .int .i64 s1.now.n, .int .i64 s1.now.scale] 75) = w4 at *
      generalize w3.heap.size = tb at *
      have hMw4 := hMw2.trans hM34 (by simp)
      have ht4d : w4.drew.heap[tb]? = _ := ht4
      have t41 : w4.drew.cell? ⟨tb, 1, none⟩ = some (.int .i64 s1.now.pos) := cell_of_heap ht4d 1
      have t42 : w4.drew.cell? ⟨tb, 2, none⟩ = some (.string ⟨s1.now.s.toArray⟩) := cell_of_heap ht4d 2
      have hM2' : Mods [pb] wr w2 := hM2.mono (by simp)
      clear ht4 hM3 hP3 hP2 hMt
      go_region_with (first | ((with_reducible refine (hlow _).mono ?_); rintro e w5 ⟨rfl, hM5⟩; have ht5 := hM5.heap ht4d (by simp); have t51 : w5.cell? ⟨tb, 1, none⟩ = some (.int .i64 s1.now.pos) := cell_of_heap ht5 1; have t52 : w5.cell? ⟨tb, 2, none⟩ = some (.string ⟨s1.now.s.toArray⟩) := cell_of_heap ht5 2; have hp5 := HPT.out w5 s1.next (hP4.later hM5)) | ((with_reducible refine hp5.mono ?_); rintro e w6 ⟨yb, rfl, hM6, hP6, hE6⟩; dsimp only [PtrV]; have ht6 := hM6.heap ht5 (by simp; omega); have t61 : w6.cell? ⟨tb, 1, none⟩ = some (.int .i64 s1.now.pos) := cell_of_heap ht6 1; have z7 := ((Mods.refl [] w6).alloc (.cells #[.pointer (some ⟨b, 0, none⟩), .pointer (some ⟨yb, 0, none⟩)] 89)); have t71 := z7.cell t61 (by simp)))
      all_goals
        have hst := joined_step hgo hpw.1 hM (hM2'.trans hM34 (by simp)) hM5 hM6 hP6 HE.out hE6 HSE.out HJ2.out HNL.out
        have HST := Lib.hid hst
        clear hst hp5 hE6 hP6 hM5 hM6 HJ HE HJ2 hlow
        go_wp2_with fail
        go_roundg (F s1.next).2.rest.length
        case measure => rw [← hgk]; exact HST.out.1
        case rel => exact HST.out.2
end Go.Proofs.YtpokbepenacnpaaGreatDoor
