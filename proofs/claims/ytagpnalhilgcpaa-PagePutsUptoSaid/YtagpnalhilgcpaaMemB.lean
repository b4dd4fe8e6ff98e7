/-
  mem's function 'more', and New and Grow over it: what they return and what memory holds behind them, for every argument.
-/
import Derived.Test.YtagpnalhilgcpaaMemA
import Derived.Test.YtagpnalhilgcpaaMemS
import Derived.Lib.Hide
namespace Go.Proofs.Ytagpnalhilgcpaa
open Go.RowKit
set_option linter.unusedVariables false

theorem info_bs : (Try.prog.info? 47).map (fun i => (i.zero, i.size, i.bytes)) = some (some (.slice none 0 0), 1, 24) := by kernel_rfl

set_option maxRecDepth 100000 in
theorem more_any (w : World) (b : Nat) (most : Int) (sv : Value) (ps : List (Option Nat)) (f : Nat → UInt8) (n : Int) (h : IsMem w b most sv ps f) (h0 : 0 ≤ n) (hn : ps.length + n ≤ 256) :
    Calls Try.prog 35 #[.pointer (some ⟨b, 0, none⟩), .int .i64 n] w fun e w' => e = .returned (.tuple #[]) ∧ Mods (foot b sv ps) w w' ∧
      ∃ sv', IsMem w' b most sv' (ps ++ List.replicate n.toNat none) f ∧ ∀ k ∈ foot b sv' (ps ++ List.replicate n.toNat none), k ∈ foot b sv ps ∨ w.heap.size ≤ k := by
  obtain ⟨i0, hi, hz0, hz1, hz2⟩ := info_parts info_bs
  go_enter Try.func35, Try.ntmps35
  go_wp2_with fail
  go_loopw [5] (fun i wr => ∃ k : Nat, (k : Int) ≤ n ∧ i = .int .i64 k ∧ Mods (foot b sv ps) w wr ∧
      ∃ sv', IsMem wr b most sv' (ps ++ List.replicate k none) f ∧ ∀ k' ∈ foot b sv' (ps ++ List.replicate k none), k' ∈ foot b sv ps ∨ w.heap.size ≤ k') (fun i _ => (n - intOf i).toNat)
  case atStart => exact ⟨0, by omega, rfl, Mods.refl _ _, sv, by simpa using h, by simp; exact fun k hk => .inl hk⟩
  case round =>
    obtain ⟨k, hk, rfl, hm, sv', hmem, hft⟩ := hrel
    have hlt := hmem.lt
    have hbn : b ∉ sv'.ownBlock.toList := fun hc => (List.nodup_cons.1 hmem.nd).1 (List.mem_append_left _ hc)
    have hb1 : (wr.alloc (.cells #[.slice none 0 0] 47)).heap[b]? = some (.cells #[sv', .int .i64 most] 87 (0, 0)) := by
      rw [Below.heap_alloc _ _ _ (lt_size_of_heap hmem.hb)]; exact hmem.hb
    have hc0 : wr.cell? ⟨b, 0, none⟩ = some sv' := by rw [cell_of_heap hmem.hb]; rfl
    by_cases hkn : (k : Int) < n
    · have hnl : (ps ++ List.replicate k none).length + 1 ≤ 256 := by simp; omega
      generalize hps : ps ++ List.replicate k none = ps' at *
      have HP := Lib.hid hps
      clear hps
      go_wp2_with (at_builtin; refine wpList_app _ rfl _ _ 85 rfl 47 i0 (.slice none 0 0) 1 24 Try.underlying85 hi hz0 hz1 hz2 rfl (by decide) sv' ps'.length (ps'.map pv) rfl (hmem.own.alloc _) ⟨wr.heap.size, 0, none⟩ 1 1 [.slice none 0 0] rfl rfl (cell_one_new _ _ _) ?c2 (by decide) ?c3 ?c4 ?_)
      case c2 => intro u hu; simp at hu; subst hu; rfl
      case c3 => unfold maxLen; omega
      case c4 => omega
      intro g cap w1 hown1 hm1 hg1
      have hb2 := hm1.heap hb1 hbn
      have hc2 : w1.cell? ⟨b, 0, none⟩ = some sv' := by rw [cell_of_heap hb2]; rfl
      have hf2 := frozen_of_heap hb2 0
      have HG := Lib.hid hg1
      clear hg1
      go_wp2_with fail
      have hg1 := HG.out
      have hgb : g ≠ b := by
        intro e
        rcases hg1 with h1 | h1
        · exact hbn (by rw [← e]; simpa using h1)
        · have := lt_size_of_heap hmem.hb
          have h2 : wr.heap.size + 1 ≤ g := by simpa using h1
          omega
      have hb3 : (w1.setCell ⟨b, 0, none⟩ (.slice (some ⟨g, 0, none⟩) (ps'.length + 1) cap)).heap[b]? = some (.cells #[.slice (some ⟨g, 0, none⟩) (ps'.length + 1) cap, .int .i64 most] 87 (0, 0)) := by
        rw [heap_setCell_same hb2]; rfl
      have hM : Mods (b :: sv'.ownBlock.toList) wr (w1.setCell ⟨b, 0, none⟩ (.slice (some ⟨g, 0, none⟩) (ps'.length + 1) cap)) :=
        ((((Mods.refl _ wr).alloc _).trans hm1 (fun x hx => .inl (List.mem_cons_of_mem _ hx))).setCell (p := ⟨b, 0, none⟩) (.inl (List.mem_cons_self ..)) _)
      obtain ⟨R1, R2⟩ := hmem.push hb3 (ownsRow_mods (L := [b]) hown1 ((Mods.refl _ _).setCell (.inl (by simp)) _) (by simp [Value.ownBlock]; exact hgb)) hM
        (by
          intro x hx
          obtain rfl : x = g := by simpa [Value.ownBlock] using hx
          rcases hg1 with h1 | h1
          · exact .inl (by simpa using h1)
          · have h2 : wr.heap.size + 1 ≤ x := by simpa using h1
            exact .inr (by omega))
      have HE : ps' ++ [none] = ps ++ List.replicate (k + 1) none := by rw [← HP.out, List.replicate_succ', List.append_assoc]
      rw [HE] at R1 R2
      have hsz := hm.size
      refine ⟨⟨k + 1, by omega, by go_num, hm.trans hM (fun x hx => ?_), _, R1, fun x hx => ?_⟩, by simp [intOf]; omega⟩
      · refine hft x ?_
        rcases List.mem_cons.1 hx with rfl | hx
        · exact List.mem_cons_self ..
        · exact List.mem_cons_of_mem _ (List.mem_append_left _ hx)
      · rcases R2 x hx with h1 | h1
        · exact hft x h1
        · exact .inr (by omega)
    · have hkn : (k : Int) = n := by omega
      have HN := Lib.hid hkn
      clear hkn
      go_wp2_with fail
      go_end0
      have : n.toNat = k := by have := HN.out; omega
      rw [this]
      exact ⟨rfl, hm, sv', hmem, hft⟩
/-- The error that New tells. -/
def newErr (least most : Int) : Int := if least < 0 ∨ most < -1 ∨ (0 ≤ most ∧ most < least) then 1 else if 256 < least then 12 else 0
def newMost (most : Int) : Int := if most < 0 then 256 else if most ≤ 256 then most else 256

theorem new_err (w : World) (least most : Int) (hl0 : -9223372036854775808 ≤ least) (hl1 : least ≤ 9223372036854775807) (hm0 : -9223372036854775808 ≤ most) (hm1 : most ≤ 9223372036854775807) (h : newErr least most ≠ 0) :
    Calls Try.prog 14 #[.int .i64 least, .int .i64 most] w fun e w' => e = .returned (.tuple #[.pointer none, .int .i64 (newErr least most)]) ∧ w = w' := by
  rcases (show least < 0 ∨ (0 ≤ least ∧ most < -1) ∨ (0 ≤ least ∧ 0 ≤ most ∧ most < least) ∨ (0 ≤ least ∧ most = -1 ∧ 256 < least) ∨ (0 ≤ least ∧ 0 ≤ most ∧ least ≤ most ∧ 256 < least) from by unfold newErr at h; (repeat' split at h) <;> omega) with c | ⟨c1, c⟩ | ⟨c1, c2, c⟩ | ⟨c1, rfl, c⟩ | ⟨c1, c2, c3, c⟩
  · rw [show newErr least most = 1 from by unfold newErr; rw [if_pos (by omega)]]
    clear h
    go_enter Try.func14, Try.ntmps14
    go_wp2
    go_ret2
    exact ⟨rfl, rfl⟩
  · rw [show newErr least most = 1 from by unfold newErr; rw [if_pos (by omega)]]
    clear h
    go_enter Try.func14, Try.ntmps14
    go_wp2
    go_ret2
    exact ⟨rfl, rfl⟩
  · rw [show newErr least most = 1 from by unfold newErr; rw [if_pos (by omega)]]
    clear h
    go_enter Try.func14, Try.ntmps14
    go_wp2
    go_ret2
    exact ⟨rfl, rfl⟩
  · rw [show newErr least (-1) = 12 from by unfold newErr; rw [if_neg (by omega), if_pos (by omega)]]
    clear h
    go_enter Try.func14, Try.ntmps14
    go_wp2
    go_ret2
    exact ⟨rfl, rfl⟩
  · rw [show newErr least most = 12 from by unfold newErr; rw [if_neg (by omega), if_pos (by omega)]]
    clear h
    go_enter Try.func14, Try.ntmps14
    go_wp2
    go_ret2
    exact ⟨rfl, rfl⟩

theorem mem_start (w : World) (most : Int) : IsMem (w.alloc (.cells #[.slice none 0 0, .int .i64 most] 87)) w.heap.size most (.slice none 0 0) [] (fun _ => 0) :=
  ⟨heap_alloc_new w _, World.ownsRow_nil _ _ _ _, by simp, by simp, by simp, by simp [foot, Value.ownBlock]⟩

def NewPost (w : World) (least most : Int) (e : Ending) (w' : World) : Prop :=
  ∃ b L, e = .returned (.tuple #[.pointer (some ⟨b, 0, none⟩), .int .i64 0]) ∧ Mem w' b least.toNat (newMost most) (fun _ => 0) L ∧ Mods [] w w' ∧ ∀ k ∈ L, w.heap.size ≤ k

set_option maxRecDepth 100000 in
theorem new_ok (w : World) (least most : Int) (hl0 : -9223372036854775808 ≤ least) (hl1 : least ≤ 9223372036854775807) (hm0 : -9223372036854775808 ≤ most) (hm1 : most ≤ 9223372036854775807) (h : newErr least most = 0) :
    Calls Try.prog 14 #[.int .i64 least, .int .i64 most] w (NewPost w least most) := by
  have hl : 0 ≤ least ∧ least ≤ 256 := by unfold newErr at h; (repeat' split at h) <;> omega
  have fin : ∀ (m : Int) (e : Ending) (w' : World), m = newMost most → (e = .returned (.tuple #[]) ∧ Mods (foot w.heap.size (.slice none 0 0) []) (w.alloc (.cells #[.slice none 0 0, .int .i64 m] 87)) w' ∧
      ∃ sv', IsMem w' w.heap.size m sv' ([] ++ List.replicate least.toNat none) (fun _ => 0) ∧ ∀ k ∈ foot w.heap.size sv' ([] ++ List.replicate least.toNat none), k ∈ foot w.heap.size (.slice none 0 0) [] ∨ (w.alloc (.cells #[.slice none 0 0, .int .i64 m] 87)).heap.size ≤ k) →
      NewPost w least most (.returned (.tuple #[.pointer (some ⟨w.heap.size, 0, none⟩), .int .i64 0])) w' := by
    rintro m e w' hm ⟨-, hM, sv', h1, h2⟩
    refine ⟨w.heap.size, _, rfl, ⟨sv', _, hm ▸ h1, by simp, rfl⟩, (((Mods.refl [] w).alloc _).trans hM (fun x hx => .inr ?_)), fun k hk => ?_⟩
    · simp [foot, Value.ownBlock] at hx; omega
    · rcases h2 k hk with h3 | h3
      · simp [foot, Value.ownBlock] at h3; omega
      · simp at h3; omega
  have M := fun (m : Int) => mem_start w m
  rcases (show most = -1 ∨ (0 ≤ most ∧ most ≤ 256 ∧ least ≤ most) ∨ (0 ≤ most ∧ 256 < most ∧ least ≤ most) from by unfold newErr at h; (repeat' split at h) <;> omega) with rfl | ⟨c1, c2, c3⟩ | ⟨c1, c2, c3⟩
  · have f0 := fun e w' => fin 256 e w' (by simp [newMost])
    clear fin h
    obtain ⟨hl2, hl3⟩ := hl
    go_enter Try.func14, Try.ntmps14
    go_wp2_with fail
    refine (more_any _ w.heap.size 256 (.slice none 0 0) [] (fun _ => 0) least (M 256) hl2 (by simp; omega)).mono ?_
    intro e w1 hp
    have hq := f0 _ _ hp
    obtain ⟨rfl, -⟩ := hp
    go_wp2_with fail
    go_ret2
    exact hq
  · have f0 := fun e w' => fin most e w' (by unfold newMost; rw [if_neg (by omega), if_pos c2])
    clear fin h
    obtain ⟨hl2, hl3⟩ := hl
    go_enter Try.func14, Try.ntmps14
    go_wp2_with fail
    refine (more_any _ w.heap.size most (.slice none 0 0) [] (fun _ => 0) least (M most) hl2 (by simp; omega)).mono ?_
    intro e w1 hp
    have hq := f0 _ _ hp
    obtain ⟨rfl, -⟩ := hp
    go_wp2_with fail
    go_ret2
    exact hq
  · have f0 := fun e w' => fin 256 e w' (by unfold newMost; rw [if_neg (by omega), if_neg (by omega)])
    clear fin h
    obtain ⟨hl2, hl3⟩ := hl
    go_enter Try.func14, Try.ntmps14
    go_wp2_with fail
    refine (more_any _ w.heap.size 256 (.slice none 0 0) [] (fun _ => 0) least (M 256) hl2 (by simp; omega)).mono ?_
    intro e w1 hp
    have hq := f0 _ _ hp
    obtain ⟨rfl, -⟩ := hp
    go_wp2_with fail
    go_ret2
    exact hq

/-- What Grow answers. -/
def growTo (n : Nat) (most x : Int) : Int := if most - n < x then -1 else n

def GrowPost (w : World) (b n : Nat) (most x : Int) (f : Nat → UInt8) (L : List Nat) (e : Ending) (w' : World) : Prop :=
  e = .returned (.int .i32 (growTo n most x)) ∧ Mods L w w' ∧ ∃ L', Mem w' b (if most - n < x then n else n + x.toNat) most f L' ∧ ∀ k ∈ L', k ∈ L ∨ w.heap.size ≤ k

set_option maxRecDepth 100000 in
theorem grow_any (w : World) (b n : Nat) (most x : Int) (f : Nat → UInt8) (L : List Nat) (h : Mem w b n most f L) (hx0 : 0 ≤ x) (hx1 : x ≤ 4294967295) (hn : (n : Int) ≤ most) (hm : most ≤ 256) :
    Calls Try.prog 15 #[.pointer (some ⟨b, 0, none⟩), .int .u32 x] w (GrowPost w b n most x f L) := by
  obtain ⟨⟨ad, c, hc0⟩, hc1⟩ := h.cells
  by_cases hg : most - n < x
  · have fin : GrowPost w b n most x f L (.returned (.int .i32 (-1))) w :=
      ⟨by unfold growTo; rw [if_pos hg], Mods.refl _ _, L, by rw [if_pos hg]; exact h, fun k hk => .inl hk⟩
    go_enter Try.func15, Try.ntmps15
    go_wp2
    go_ret
    exact fin
  · obtain ⟨sv, ps, h1, h2, h3⟩ := h
    have fin : ∀ w' sv', Mods (foot b sv ps) w w' → IsMem w' b most sv' (ps ++ List.replicate x.toNat none) f → (∀ k ∈ foot b sv' (ps ++ List.replicate x.toNat none), k ∈ foot b sv ps ∨ w.heap.size ≤ k) →
        GrowPost w b n most x f L (.returned (.int .i32 n)) w' := by
      intro w' sv' q1 q2 q3
      exact ⟨by unfold growTo; rw [if_neg hg], h3 ▸ q1, _, ⟨sv', _, q2, by rw [if_neg hg]; simp [h2], rfl⟩, h3 ▸ q3⟩
    have H2 := Lib.hid h2
    have hl : (ps.length : Int) + x ≤ 256 := by omega
    clear h2 h3
    go_enter Try.func15, Try.ntmps15
    go_wp2_with fail
    refine (more_any _ b most sv ps f x h1 hx0 hl).mono ?_
    rintro e w1 ⟨rfl, q1, sv', q2, q3⟩
    have hq := fin _ _ q1 q2 q3
    go_wp2_with fail
    go_ret
    exact hq

end Go.Proofs.Ytagpnalhilgcpaa
