/-
  parse's primary, walked whole; then all levels of the expressions' parser, by induction on how deep may yet be nested. No condition.
-/
import Derived.Test.YtgbpoaimbjlamaaGreatDoorPsP
import Derived.Test.YtgbpoaimbjlamaaGreatDoorPsR
namespace Go.Proofs.YtgbpoaimbjlamaaGreatDoor
open Go.RowKit
set_option linter.unusedVariables false

theorem prim_err {sub : Option Lvl} {s : PS} (h : s.e ≠ 0) : primaryF sub s = (emp, s) := by unfold primaryF; rw [if_pos h]
theorem prim_num {sub : Option Lvl} {s : PS} (h : s.e = 0) (k : s.now.kind = 3) : primaryF sub s = (.leaf { op := oNumber, pos := s.now.pos, n := s.now.n, scale := s.now.scale }, s.next) := by unfold primaryF; rw [if_neg (by simpa using h), if_pos k]
theorem prim_text {sub : Option Lvl} {s : PS} (h : s.e = 0) (k : s.now.kind = 4) : primaryF sub s = (.leaf { op := oText, pos := s.now.pos, s := s.now.s }, s.next) := by unfold primaryF; rw [if_neg (by simpa using h), if_neg (by omega), if_pos k]
theorem prim_name {sub : Option Lvl} {s : PS} (h : s.e = 0) (k : s.now.kind = 2) : primaryF sub s = columnF s := by unfold primaryF; rw [if_neg (by simpa using h), if_neg (by omega), if_neg (by omega), if_pos k]

set_option maxRecDepth 100000 in
set_option maxHeartbeats 4000000 in
theorem primary_any (w : World) (pb tg : Nat) (f : Nat) (s : PS) (h : PSt w pb tg s f)
    (hexpr : ∀ f', f = f' + 1 → ∀ W s1, PSt W pb tg s1 f' → Calls Tryz.prog 37 #[PtrV pb] W (PRes pb tg f' (lvl f').expr s1 W)) :
    Calls Tryz.prog 132 #[PtrV pb] w (PRes pb tg f (primaryF (subOf f)) s w) := by
  by_cases hmap : s.e = 0 ∧ s.now.kind ≠ 3 ∧ s.now.kind ≠ 4 ∧ s.now.kind ≠ 2
  · obtain ⟨he, k1, k2, k3⟩ := hmap
    exact primary_map w pb tg f s h he k1 k2 k3 (fun hk W hP => brackets_any W pb tg f s hP he hk hexpr) (fun hk hl ha W hP => aggregate_any W pb tg f s hP he hk hl ha hexpr)
  · have hpw := h.lt
    have hnow := now_any w pb tg s f h
    obtain ⟨off, cap, hb, -⟩ := h.tok
    have e3 : w.cell? ⟨pb, 3, none⟩ = some (.int .i64 s.e) := cell_of_heap hb 3
    have HP := Lib.hid h
    unfold PtrV at *
    clear h hb hexpr
    go_enter Tryz.func132, Tryz.ntmps132
    go_wp2_with fail
    (with_reducible refine hnow.mono ?_)
    rintro e w1 ⟨rfl, hM1⟩
    clear hnow
    obtain ⟨t, ht⟩ : ∃ t, s.now = t := ⟨_, rfl⟩
    rw [ht] at hmap ⊢
    have HT := Lib.hid ht
    clear ht
    have ht1 := heap_alloc_new w1 (.cells #[.int .i64 t.kind, .int .i64 t.pos, .string ⟨t.s.toArray⟩, .int .i64 t.n, .int .i64 t.scale] 56)
    have hMt := (Mods.refl [] w1).alloc (.cells #[.int .i64 t.kind, .int .i64 t.pos, .string ⟨t.s.toArray⟩, .int .i64 t.n, .int .i64 t.scale] 56)
    have hMw := hM1.trans hMt (by simp)
    have e3' := hMw.cell e3 (by simp)
    go_upto_region 2 with fail
    generalize w1.alloc (.cells #[.int .i64 t.kind, .int .i64 t.pos, .string ⟨t.s.toArray⟩, .int .i64 t.n, .int .i64 t.scale] 56) = w2 at *
    have htw := hM1.size
    generalize w1.heap.size = tb at *
    have hP2 := HP.out.later hMw
    have x0 : w2.cell? ⟨tb, 0, none⟩ = some (.int .i64 t.kind) := cell_of_heap ht1 0
    clear hMt hM1
    by_cases he : s.e = 0
    · have z0 : ((s.e : Int) != 0) = false := by rw [bne_eq_false_iff_eq]; omega
      by_cases h3 : t.kind = 3
      · have hF := prim_num (sub := subOf f) he (by rw [HT.out]; exact h3)
        have hnx := next_any w2 pb tg s f hP2 (hP2.wfTail (by rw [HT.out]; omega))
        have z3 : ((t.kind : Int) == 3) = true := by rw [beq_iff_eq]; omega
        have HF := Lib.hid hF
        unfold PtrV at hnx
        clear hF hP2 hmap h3 e3
        go_wp2_with fail
        (with_reducible refine hnx.mono ?_)
        rintro e w5 ⟨rfl, hM5, hP5⟩
        clear hnx
        have ht5 := hM5.heap ht1 (by simp; omega)
        have x1 : w5.cell? ⟨tb, 1, none⟩ = some (.int .i64 t.pos) := cell_of_heap ht5 1
        have x3 : w5.cell? ⟨tb, 3, none⟩ = some (.int .i64 t.n) := cell_of_heap ht5 3
        have x4 : w5.cell? ⟨tb, 4, none⟩ = some (.int .i64 t.scale) := cell_of_heap ht5 4
        have hz := (Mods.refl [] w5).alloc (.cells #[.string ⟨#[110, 117, 109, 98, 101, 114]⟩, .int .i64 t.pos, .string ⟨#[]⟩, .string ⟨#[]⟩, .int .i64 t.n, .int .i64 t.scale, .string ⟨#[]⟩, .slice none 0 0] 67)
        have hn := heap_alloc_new w5 (.cells #[.string ⟨#[110, 117, 109, 98, 101, 114]⟩, .int .i64 t.pos, .string ⟨#[]⟩, .string ⟨#[]⟩, .int .i64 t.n, .int .i64 t.scale, .string ⟨#[]⟩, .slice none 0 0] 67)
        have hM9 : Mods [pb] w w5 := (hMw.mono (L' := [pb]) (by simp)).trans hM5 (by simp)
        have hs9 := hM9.size
        have hfin : PRes pb tg f (primaryF (subOf f)) s w (.returned (.pointer (some ⟨w5.heap.size, 0, none⟩))) _ := ⟨w5.heap.size, rfl, hM9.trans (hz.mono (L' := [pb]) (by simp)) (by simp), by rw [HF.out]; exact hP5.later hz, by rw [HF.out, HT.out]; exact fun _ L hL => ⟨w5.heap.size, rfl, fun hm => by have := hL _ hm; omega, hn⟩⟩
        have HFIN := Lib.hid hfin
        clear hfin hz hP5 hM5 hn hM9 ht5
        go_wp2_with fail
        go_ret
        exact HFIN.out
      have z3 : ((t.kind : Int) == 3) = false := by rw [beq_eq_false_iff_ne]; omega
      by_cases h4 : t.kind = 4
      · have hF := prim_text (sub := subOf f) he (by rw [HT.out]; exact h4)
        have hnx := next_any w2 pb tg s f hP2 (hP2.wfTail (by rw [HT.out]; omega))
        have z4 : ((t.kind : Int) == 4) = true := by rw [beq_iff_eq]; omega
        have HF := Lib.hid hF
        unfold PtrV at hnx
        clear hF hP2 hmap h3 h4 e3
        go_wp2_with fail
        (with_reducible refine hnx.mono ?_)
        rintro e w5 ⟨rfl, hM5, hP5⟩
        clear hnx
        have ht5 := hM5.heap ht1 (by simp; omega)
        have x1 : w5.cell? ⟨tb, 1, none⟩ = some (.int .i64 t.pos) := cell_of_heap ht5 1
        have x3 : w5.cell? ⟨tb, 2, none⟩ = some (.string ⟨t.s.toArray⟩) := cell_of_heap ht5 2
        have hz := (Mods.refl [] w5).alloc (.cells #[.string ⟨#[116, 101, 120, 116]⟩, .int .i64 t.pos, .string ⟨#[]⟩, .string ⟨#[]⟩, .int .i64 0, .int .i64 0, .string ⟨t.s.toArray⟩, .slice none 0 0] 67)
        have hn := heap_alloc_new w5 (.cells #[.string ⟨#[116, 101, 120, 116]⟩, .int .i64 t.pos, .string ⟨#[]⟩, .string ⟨#[]⟩, .int .i64 0, .int .i64 0, .string ⟨t.s.toArray⟩, .slice none 0 0] 67)
        have hM9 : Mods [pb] w w5 := (hMw.mono (L' := [pb]) (by simp)).trans hM5 (by simp)
        have hs9 := hM9.size
        have hfin : PRes pb tg f (primaryF (subOf f)) s w (.returned (.pointer (some ⟨w5.heap.size, 0, none⟩))) _ := ⟨w5.heap.size, rfl, hM9.trans (hz.mono (L' := [pb]) (by simp)) (by simp), by rw [HF.out]; exact hP5.later hz, by rw [HF.out, HT.out]; exact fun _ L hL => ⟨w5.heap.size, rfl, fun hm => by have := hL _ hm; omega, hn⟩⟩
        have HFIN := Lib.hid hfin
        clear hfin hz hP5 hM5 hn hM9 ht5
        go_wp2_with fail
        go_ret
        exact HFIN.out
      have z4 : ((t.kind : Int) == 4) = false := by rw [beq_eq_false_iff_ne]; omega
      by_cases h2 : t.kind = 2
      · have hF : columnF s = primaryF (subOf f) s := (prim_name (sub := subOf f) he (by rw [HT.out]; exact h2)).symm
        have hcl := column_any w2 pb tg s f hP2
        have z2 : ((t.kind : Int) == 2) = true := by rw [beq_iff_eq]; omega
        have HF := Lib.hid (And.intro hF hMw)
        unfold PtrV at hcl
        clear hF hP2 hmap h3 h4 h2 e3 hMw
        go_wp2_with fail
        (with_reducible refine hcl.mono ?_)
        rintro e w5 ⟨b, rfl, hr⟩
        unfold PtrV
        go_wp2_with fail
        go_ret
        exact (PRes.congr HF.out.1 ⟨b, rfl, hr⟩).earlier HF.out.2
      · exact absurd ⟨he, h3, h4, h2⟩ hmap
    · have hF := prim_err (sub := subOf f) he
      have z0 : ((s.e : Int) != 0) = true := by rw [bne_iff_ne]; omega
      have hz := (Mods.refl [] w2).alloc (.cells #[.string ⟨#[]⟩, .int .i64 0, .string ⟨#[]⟩, .string ⟨#[]⟩, .int .i64 0, .int .i64 0, .string ⟨#[]⟩, .slice none 0 0] 67)
      have hfin : PRes pb tg f (primaryF (subOf f)) s w (.returned (.pointer (some ⟨w2.heap.size, 0, none⟩))) _ := ⟨w2.heap.size, rfl, (hMw.trans hz (by simp)).mono (L' := [pb]) (by simp), by rw [hF]; exact hP2.later hz, by rw [hF]; exact fun h => absurd h he⟩
      have HFIN := Lib.hid hfin
      clear hfin hz hF hP2 hmap
      go_wp2_with fail
      go_ret
      exact HFIN.out

/-- What is known of the functions that are called one deeper. -/
structure LvlC (f : Nat) : Prop where
  minus : ∀ (W : World) (pb tg : Nat) (s : PS), PSt W pb tg s f → Calls Tryz.prog 131 #[PtrV pb] W (PRes pb tg f (lvl f).minus s W)
  not : ∀ (W : World) (pb tg : Nat) (s : PS), PSt W pb tg s f → Calls Tryz.prog 86 #[PtrV pb] W (PRes pb tg f (lvl f).not s W)
  expr : ∀ (W : World) (pb tg : Nat) (s : PS), PSt W pb tg s f → Calls Tryz.prog 37 #[PtrV pb] W (PRes pb tg f (lvl f).expr s W)
theorem lvlC_of {f : Nat} (h : ∀ f', f = f' + 1 → LvlC f') : LvlC f := by
  have hs := goes_sub f
  have hprim : ∀ (W : World) (pb tg : Nat) (s : PS), PSt W pb tg s f → Calls Tryz.prog 132 #[PtrV pb] W (PRes pb tg f (primaryF (subOf f)) s W) :=
    fun W pb tg s hP => primary_any W pb tg f s hP (fun f' hf W2 s2 hP2 => (h f' hf).expr W2 pb tg s2 hP2)
  have hminus : ∀ (W : World) (pb tg : Nat) (s : PS), PSt W pb tg s f → Calls Tryz.prog 131 #[PtrV pb] W (PRes pb tg f (minusF (subOf f)) s W) :=
    fun W pb tg s hP => minus_any W pb tg f s hP (fun W2 hP2 => hprim W2 pb tg s hP2) (fun f' hf W2 s2 hP2 => (h f' hf).minus W2 pb tg s2 hP2)
  have hterm : ∀ (W : World) (pb tg : Nat) (s : PS), PSt W pb tg s f → Calls Tryz.prog 129 #[PtrV pb] W (PRes pb tg f (termF (subOf f)) s W) :=
    fun W pb tg s hP => term_any W pb tg f s hP (goes_minus hs) (fun W2 s2 hP2 => hminus W2 pb tg s2 hP2)
  have hsum : ∀ (W : World) (pb tg : Nat) (s : PS), PSt W pb tg s f → Calls Tryz.prog 121 #[PtrV pb] W (PRes pb tg f (sumF (subOf f)) s W) :=
    fun W pb tg s hP => sum_any W pb tg f s hP (goes_term hs) (fun W2 s2 hP2 => hterm W2 pb tg s2 hP2)
  have htest : ∀ (W : World) (pb tg : Nat) (s : PS), PSt W pb tg s f → Calls Tryz.prog 104 #[PtrV pb] W (PRes pb tg f (testF (subOf f)) s W) :=
    fun W pb tg s hP => test_any W pb tg f s hP (goes_sum hs) (fun W2 s2 hP2 => hsum W2 pb tg s2 hP2)
  have hnot : ∀ (W : World) (pb tg : Nat) (s : PS), PSt W pb tg s f → Calls Tryz.prog 86 #[PtrV pb] W (PRes pb tg f (notF (subOf f)) s W) :=
    fun W pb tg s hP => not_any W pb tg f s hP (fun W2 hP2 => htest W2 pb tg s hP2) (fun f' hf W2 s2 hP2 => (h f' hf).not W2 pb tg s2 hP2)
  have hand : ∀ (W : World) (pb tg : Nat) (s : PS), PSt W pb tg s f → Calls Tryz.prog 65 #[PtrV pb] W (PRes pb tg f (andF (subOf f)) s W) :=
    fun W pb tg s hP => and_any W pb tg f s hP (goes_not hs) (fun W2 s2 hP2 => hnot W2 pb tg s2 hP2)
  have hexpr : ∀ (W : World) (pb tg : Nat) (s : PS), PSt W pb tg s f → Calls Tryz.prog 37 #[PtrV pb] W (PRes pb tg f (exprF (subOf f)) s W) :=
    fun W pb tg s hP => expr_any W pb tg f s hP (goes_and hs) (fun W2 s2 hP2 => hand W2 pb tg s2 hP2)
  have e := lvl_eq f
  exact ⟨by rw [e]; exact hminus, by rw [e]; exact hnot, by rw [e]; exact hexpr⟩
theorem lvlC : ∀ f, LvlC f := by
  intro f
  induction f with
  | zero => exact lvlC_of fun f' hf => by omega
  | succ f ih => exact lvlC_of fun f' hf => by obtain rfl : f = f' := by omega
                                               exact ih
/-- parse's expr. -/
theorem expr_all (w : World) (pb tg f : Nat) (s : PS) (h : PSt w pb tg s f) : Calls Tryz.prog 37 #[PtrV pb] w (PRes pb tg f (lvl f).expr s w) := (lvlC f).expr w pb tg s h
end Go.Proofs.YtgbpoaimbjlamaaGreatDoor
