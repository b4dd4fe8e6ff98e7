/-
  mem's functions page, get and put: which bytes are copied out, and in, for every argument.
-/
import Derived.Test.YtagpnalhilgcpaaMemB
namespace Go.Proofs.Ytagpnalhilgcpaa
open Go.RowKit
set_option linter.unusedVariables false

theorem pages_cell {w : World} {b : Nat} {most : Int} {sv : Value} {ps : List (Option Nat)} {f : Nat → UInt8} (h : IsMem w b most sv ps f) {k : Nat} {x : Option Nat} (hk : ps[k]? = some x) :
    ∃ gp cap, sv = .slice (some ⟨gp, 0, none⟩) ps.length cap ∧ k < ps.length ∧ gp ∈ sv.ownBlock.toList ∧ w.cell? ⟨b, 0, none⟩ = some (.slice (some ⟨gp, 0, none⟩) ps.length cap) ∧ w.cell? ⟨gp, k, none⟩ = some (pv x) ∧ w.frozen? ⟨gp, k, none⟩ = false := by
  have hlt : k < ps.length := (List.getElem?_eq_some_iff.1 hk).1
  rcases h.own.2 with ⟨_, h0⟩ | ⟨g, cap, cur, hv, _, hg, h1, h2, h3, h4⟩
  · omega
  · refine ⟨g, cap, hv, hlt, by rw [hv]; simp [Value.ownBlock], by rw [cell_of_heap h.hb, ← hv]; rfl, ?_, frozen_of_heap hg k⟩
    have hown := h.own
    rw [hv] at hown
    rw [hown.cellAt k (by omega), List.getElem?_map, hk]; rfl

theorem eql_bs (w : World) (a : Option Addr) (n c : Nat) : (binOp .eql 47 (.slice a n c) (.slice none 0 0)).run Try.prog w = .ok (.bool a.isNone) w := Lib.run_eql_slice_nil w _ _ a n c 0 0 Try.underlying47
theorem neq_bs (w : World) (a : Option Addr) (n c : Nat) : (binOp .neq 47 (.slice a n c) (.slice none 0 0)).run Try.prog w = .ok (.bool (!a.isNone)) w := run_neq_slice_nil_any w _ _ a n c 0 0 Try.underlying47

set_option maxRecDepth 100000 in
theorem page_read (w : World) (b : Nat) (most : Int) (sv : Value) (ps : List (Option Nat)) (f : Nat → UInt8) (at_ : Nat) (x : Option Nat) (h : IsMem w b most sv ps f) (hk : ps[at_ / 65536]? = some x) (ha : at_ < 18446744073709551616) :
    Calls Try.prog 53 #[.pointer (some ⟨b, 0, none⟩), .int .u64 at_, .bool false] w fun e w' => e = .returned (pv x) ∧ w = w' := by
  obtain ⟨gp, cap, -, hlt, -, hc0, hck, hfk⟩ := pages_cell h hk
  have hE := eql_bs
  cases x with
  | none =>
    simp only [pv] at hck
    go_enter Try.func53, Try.ntmps53
    go_wp2
    go_ret
    exact ⟨rfl, rfl⟩
  | some g =>
    simp only [pv] at hck
    go_enter Try.func53, Try.ntmps53
    go_wp2
    go_ret
    exact ⟨rfl, rfl⟩

set_option maxRecDepth 100000 in
theorem page_there (w : World) (b : Nat) (most : Int) (sv : Value) (ps : List (Option Nat)) (f : Nat → UInt8) (at_ : Nat) (g : Nat) (h : IsMem w b most sv ps f) (hk : ps[at_ / 65536]? = some (some g)) (ha : at_ < 18446744073709551616) :
    Calls Try.prog 53 #[.pointer (some ⟨b, 0, none⟩), .int .u64 at_, .bool true] w fun e w' => e = .returned (pv (some g)) ∧ w = w' := by
  obtain ⟨gp, cap, -, hlt, -, hc0, hck, hfk⟩ := pages_cell h hk
  have hE := eql_bs
  simp only [pv] at hck
  go_enter Try.func53, Try.ntmps53
  go_wp2
  go_ret
  exact ⟨rfl, rfl⟩

/-- n bytes 0. -/
def zeros (n : Nat) : Array Value := Array.replicate n (.int .u8 0)
theorem size_zeros (n : Nat) : (zeros n).size = n := by simp [zeros]
theorem zeros_get {n o : Nat} (h : o < n) : (zeros n)[o]? = some (bv 0) := by simp [zeros, h, bv]
def zeroPage : Array Value := zeros 65536

theorem info_u8 : (Try.prog.info? 5).map (fun i => (i.zero, i.size, i.bytes)) = some (some (.int .u8 0), 1, 1) := by kernel_rfl

theorem run_mkbytes (w : World) (kl kc : IntKind) (n : Nat) (h : n ≤ 281474976710656) :
    (Instr.makeSlice 47 (.int kl n) (.int kc n)).run Try.prog w = .ok (.slice (some ⟨w.heap.size, 0, none⟩) n n) (w.alloc (.cells (zeros n) 5)) := by
  obtain ⟨i0, hi, hz0, hz1, hz2⟩ := info_parts info_u8
  have := run_make (P := Try.prog) w 47 5 i0 (.int .u8 0) Try.underlying47 hi hz0 kl kc n n (by omega) (by omega) (by rw [hz2]; omega) (by omega)
  rw [this, hz1]
  have e : madeCells (Value.int .u8 0).cells (n * 1) = zeros n := by
    apply Array.toList_inj.1
    rw [Nat.mul_one]
    exact (toList_madeCells_one _ n).trans (by simp [zeros])
  simp only [Int.toNat_natCast]
  rw [e]

theorem run_zeroPage (w : World) : (Instr.makeSlice 47 (.int .i64 65536) (.int .i64 65536)).run Try.prog w = .ok (.slice (some ⟨w.heap.size, 0, none⟩) 65536 65536) (w.alloc (.cells zeroPage 5)) :=
  run_mkbytes w .i64 .i64 65536 (by omega)

set_option maxRecDepth 100000 in
theorem page_made (w : World) (b : Nat) (most : Int) (sv : Value) (ps : List (Option Nat)) (f : Nat → UInt8) (at_ : Nat) (h : IsMem w b most sv ps f) (hk : ps[at_ / 65536]? = some none) (ha : at_ < 18446744073709551616) :
    Calls Try.prog 53 #[.pointer (some ⟨b, 0, none⟩), .int .u64 at_, .bool true] w fun e w' => e = .returned (pv (some w.heap.size)) ∧
      ∃ gp, gp ∈ sv.ownBlock.toList ∧ w' = ((w.setCell ⟨gp, at_ / 65536, none⟩ (.slice (some ⟨w.heap.size, 0, none⟩) 65536 65536)).alloc (.cells zeroPage 5)).drew := by
  obtain ⟨gp, cap, -, hlt, hgm, hc0, hck, hfk⟩ := pages_cell h hk
  have hE := eql_bs
  have hZ := run_zeroPage
  simp only [pv] at hck
  have hb0 : b < w.heap.size := lt_size_of_heap h.hb
  have hgp : gp < w.heap.size := ownsRow_lt h.own gp hgm
  have c0 : ∀ o, (w.alloc o).cell? ⟨b, 0, none⟩ = some (.slice (some ⟨gp, 0, none⟩) ps.length cap) := fun o => ((Mods.refl [] w).alloc o).cell hc0 (by simp)
  have ck : ∀ o, (w.alloc o).cell? ⟨gp, at_ / 65536, none⟩ = some (.slice none 0 0) := fun o => ((Mods.refl [] w).alloc o).cell hck (by simp)
  have fk : ∀ o, (w.alloc o).frozen? ⟨gp, at_ / 65536, none⟩ = false := fun o => by rw [World.frozen?_of_block (Below.heap_alloc w o gp hgp)]; exact hfk
  have i1 : (at_ : Int) / 65536 < ps.length := by omega
  have i0 : (0 : Int) ≤ (at_ : Int) / 65536 := by omega
  have hbg : b ≠ gp := fun e => (List.nodup_cons.1 h.nd).1 (List.mem_append_left _ (e ▸ hgm))
  have c0' : ((w.setCell ⟨gp, at_ / 65536, none⟩ (.slice (some ⟨w.heap.size, 0, none⟩) 65536 65536)).alloc (.cells zeroPage 5)).cell? ⟨b, 0, none⟩ = some (.slice (some ⟨gp, 0, none⟩) ps.length cap) :=
    (((Mods.refl [gp] w).setCell (p := ⟨gp, at_ / 65536, none⟩) (.inl (by simp)) _).alloc _).cell hc0 (by simpa using hbg)
  have ck' : ((w.setCell ⟨gp, at_ / 65536, none⟩ (.slice (some ⟨w.heap.size, 0, none⟩) 65536 65536)).alloc (.cells zeroPage 5)).cell? ⟨gp, at_ / 65536, none⟩ = some (.slice (some ⟨w.heap.size, 0, none⟩) 65536 65536) :=
    ((Mods.refl [] _).alloc _).cell (cell_setCell_same hck) (by simp)
  go_enter Try.func53, Try.ntmps53
  go_wp2
  go_region
  all_goals go_wp2
  all_goals go_ret
  all_goals exact ⟨rfl, gp, hgm, rfl⟩

theorem perm_set {ps : List (Option Nat)} {k g : Nat} (h : ps[k]? = some none) : ((ps.set k (some g)).filterMap id).Perm (g :: ps.filterMap id) := by
  induction ps generalizing k with
  | nil => simp at h
  | cons x xs ih =>
    cases k with
    | zero => simp at h; subst h; simp
    | succ k =>
      simp at h
      have := ih h
      cases x with
      | none => simpa using this
      | some y => simp only [List.set_cons_succ, List.filterMap_cons, id]; exact (this.cons y).trans (List.Perm.swap ..)

/-- A page is made: nothing can be told of it. -/
theorem IsMem.made {w : World} {b : Nat} {most : Int} {sv : Value} {ps : List (Option Nat)} {f : Nat → UInt8} (h : IsMem w b most sv ps f) {k gp : Nat} (hk : ps[k]? = some none) (hg : gp ∈ sv.ownBlock.toList) :
    IsMem ((w.setCell ⟨gp, k, none⟩ (.slice (some ⟨w.heap.size, 0, none⟩) 65536 65536)).alloc (.cells zeroPage 5)).drew b most sv (ps.set k (some w.heap.size)) f ∧
      Mods sv.ownBlock.toList w ((w.setCell ⟨gp, k, none⟩ (.slice (some ⟨w.heap.size, 0, none⟩) 65536 65536)).alloc (.cells zeroPage 5)).drew := by
  have hM : Mods sv.ownBlock.toList w ((w.setCell ⟨gp, k, none⟩ (.slice (some ⟨w.heap.size, 0, none⟩) 65536 65536)).alloc (.cells zeroPage 5)).drew :=
    (((Mods.refl _ w).setCell (p := ⟨gp, k, none⟩) (.inl hg) _).alloc _).drew
  have hnd := h.nd
  have hlt := h.lt
  unfold foot at hnd hlt
  obtain ⟨n1, n2⟩ := List.nodup_cons.1 hnd
  obtain ⟨m1, m2, m3⟩ := List.nodup_append.1 n2
  refine ⟨⟨hM.heap h.hb (fun hc => n1 (List.mem_append_left _ hc)), ?_, ?_, ?_, ?_, ?_⟩, hM⟩
  · obtain ⟨gp', cap, hv, hl, -⟩ := pages_cell h hk
    obtain rfl : gp = gp' := by rw [hv] at hg; simpa [Value.ownBlock] using hg
    have hown := h.own
    rw [hv] at hown ⊢
    have := (hown.stored k (.slice (some ⟨w.heap.size, 0, none⟩) 65536 65536)).1
    simpa [List.map_set, pv] using (this.alloc (.cells zeroPage 5)).drew
  · intro i g hi
    by_cases hik : i = k
    · subst hik
      have hl : i < ps.length := (List.getElem?_eq_some_iff.1 hk).1
      rw [List.getElem?_set_self hl] at hi
      obtain rfl : w.heap.size = g := by simpa using hi
      refine ⟨zeroPage, ?_, size_zeros _, fun o ho => ?_⟩
      · have : (w.setCell ⟨gp, i, none⟩ (.slice (some ⟨w.heap.size, 0, none⟩) 65536 65536)).heap.size = w.heap.size := by simp [World.setCell]
        have h2 := heap_alloc_new (w.setCell ⟨gp, i, none⟩ (.slice (some ⟨w.heap.size, 0, none⟩) 65536 65536)) (.cells zeroPage 5)
        rw [this] at h2
        exact h2
      · show zeroPage[o]? = some (bv (f (65536 * i + o)))
        rw [h.zero i o hk ho]; exact zeros_get ho
    · rw [List.getElem?_set_ne (fun e => hik e.symm)] at hi
      refine (h.page i g hi).mods hM (fun hc => ?_)
      exact m3 g hc g (List.mem_filterMap.2 ⟨some g, List.mem_of_getElem? hi, rfl⟩) rfl
  · intro i o hi ho
    by_cases hik : i = k
    · subst hik
      rw [List.getElem?_set_self (List.getElem?_eq_some_iff.1 hk).1] at hi
      simp at hi
    · rw [List.getElem?_set_ne (fun e => hik e.symm)] at hi
      exact h.zero i o hi ho
  · intro a ha; exact h.past a (by simpa using ha)
  · have hp := perm_set (g := w.heap.size) hk
    have hb : b < w.heap.size := lt_size_of_heap h.hb
    have hnew : w.heap.size ∉ b :: (sv.ownBlock.toList ++ ps.filterMap id) := fun hc => Nat.lt_irrefl _ (hlt _ hc)
    have hp2 : (foot b sv (ps.set k (some w.heap.size))).Perm (w.heap.size :: (b :: (sv.ownBlock.toList ++ ps.filterMap id))) := by
      unfold foot
      refine ((hp.append_left sv.ownBlock.toList).cons b).trans ?_
      refine (List.Perm.cons b List.perm_middle).trans (List.Perm.swap ..)
    exact hp2.nodup_iff.2 (List.nodup_cons.2 ⟨hnew, hnd⟩)

theorem foot_made {b : Nat} {sv : Value} {ps : List (Option Nat)} {k g : Nat} (hk : ps[k]? = some none) : ∀ x ∈ foot b sv (ps.set k (some g)), x ∈ foot b sv ps ∨ x = g := by
  intro x hx
  unfold foot at *
  rcases List.mem_cons.1 hx with h | h
  · exact .inl (h ▸ List.mem_cons_self ..)
  rcases List.mem_append.1 h with h | h
  · exact .inl (List.mem_cons_of_mem _ (List.mem_append_left _ h))
  · rcases List.mem_cons.1 ((perm_set hk).mem_iff.1 h) with h | h
    · exact .inr h
    · exact .inl (List.mem_cons_of_mem _ (List.mem_append_right _ h))

def PagePost (w : World) (b : Nat) (most : Int) (sv : Value) (ps : List (Option Nat)) (f : Nat → UInt8) (i : Nat) (e : Ending) (w' : World) : Prop :=
  ∃ g ps', e = .returned (.slice (some ⟨g, 0, none⟩) 65536 65536) ∧ IsMem w' b most sv ps' f ∧ ps'[i]? = some (some g) ∧ ps'.length = ps.length ∧ Mods (foot b sv ps) w w' ∧ ∀ x ∈ foot b sv ps', x ∈ foot b sv ps ∨ w.heap.size ≤ x

theorem page_write (w : World) (b : Nat) (most : Int) (sv : Value) (ps : List (Option Nat)) (f : Nat → UInt8) (at_ : Nat) (h : IsMem w b most sv ps f) (hk : at_ / 65536 < ps.length) (ha : at_ < 18446744073709551616) :
    Calls Try.prog 53 #[.pointer (some ⟨b, 0, none⟩), .int .u64 at_, .bool true] w (PagePost w b most sv ps f (at_ / 65536)) := by
  obtain ⟨x, hx⟩ : ∃ x, ps[at_ / 65536]? = some x := ⟨_, List.getElem?_eq_getElem hk⟩
  cases x with
  | some g =>
    refine (page_there w b most sv ps f at_ g h hx ha).mono ?_
    rintro e w' ⟨rfl, rfl⟩
    exact ⟨g, ps, rfl, h, hx, rfl, Mods.refl _ _, fun x hx => .inl hx⟩
  | none =>
    refine (page_made w b most sv ps f at_ h hx ha).mono ?_
    rintro e w' ⟨rfl, gp, hg, rfl⟩
    obtain ⟨q1, q2⟩ := h.made hx hg
    refine ⟨w.heap.size, _, rfl, q1, List.getElem?_set_self hk, by simp, q2.mono (fun x hx => .inl (List.mem_cons_of_mem _ (List.mem_append_left _ hx))), fun x hx' => ?_⟩
    rcases foot_made hx x hx' with h1 | h1
    · exact .inl h1
    · exact .inr (by omega)

theorem page_unique {ps : List (Option Nat)} (h : (ps.filterMap id).Nodup) {i j g : Nat} (hi : ps[i]? = some (some g)) (hj : ps[j]? = some (some g)) : i = j := by
  have hp : List.Pairwise (fun a b : Option Nat => ∀ x, a = some x → b = some x → False) ps := by
    rw [List.nodup_iff_pairwise_ne, List.pairwise_filterMap] at h
    exact h.imp fun hab x e1 e2 => hab x e1 x e2 rfl
  obtain ⟨l1, e1⟩ := List.getElem?_eq_some_iff.1 hi
  obtain ⟨l2, e2⟩ := List.getElem?_eq_some_iff.1 hj
  rcases Nat.lt_trichotomy i j with h1 | h1 | h1
  · exact (List.pairwise_iff_getElem.1 hp i j l1 l2 h1 g e1 e2).elim
  · exact h1
  · exact (List.pairwise_iff_getElem.1 hp j i l2 l1 h1 g e2 e1).elim

/-- Bytes are copied into a page. -/
theorem IsMem.write {w : World} {b : Nat} {most : Int} {sv : Value} {ps : List (Option Nat)} {f : Nat → UInt8} (h : IsMem w b most sv ps f) {i g : Nat} (hi : ps[i]? = some (some g)) {arr : Array Value}
    (q1 : w.heap[g]? = some (.cells arr 5 (0, 0))) (q2 : arr.size = 65536) (q3 : ∀ o, o < 65536 → arr[o]? = some (bv (f (65536 * i + o)))) (s : Nat → UInt8) (o k c : Nat) (hoc : o + c ≤ 65536) :
    IsMem (w.setRow g (splice arr.toList o (rowOf s k c)).toArray) b most sv ps (fun a => if 65536 * i + o ≤ a ∧ a < 65536 * i + o + c then s (k + (a - (65536 * i + o))) else f a) := by
  have hnd := h.nd
  unfold foot at hnd
  obtain ⟨n1, n2⟩ := List.nodup_cons.1 hnd
  obtain ⟨m1, m2, m3⟩ := List.nodup_append.1 n2
  have hgm : g ∈ ps.filterMap id := List.mem_filterMap.2 ⟨some g, List.mem_of_getElem? hi, rfl⟩
  have hM : Mods [g] w (w.setRow g (splice arr.toList o (rowOf s k c)).toArray) := (Mods.refl [g] w).setRow (.inl (by simp)) _
  have hl : o + (rowOf s k c).length ≤ arr.toList.length := by rw [rowOf_len]; simpa [q2] using hoc
  have hil : i < ps.length := (List.getElem?_eq_some_iff.1 hi).1
  have uniq : ∀ j, ps[j]? = some (some g) → j = i := fun j hj => page_unique m2 hj hi
  refine ⟨hM.heap h.hb (fun hc => n1 (List.mem_append_right _ (by simp at hc; exact hc ▸ hgm))), ownsRow_mods h.own hM (fun x hx hc => m3 x (by simp [hx]) g hgm (by simpa using hc)), ?_, ?_, ?_, h.nd⟩
  · intro j g' hj
    by_cases hji : j = i
    · subst hji
      rw [hi] at hj
      obtain rfl : g = g' := by simpa using hj
      refine ⟨_, setRow_heap _ _ _ _ _ _ q1, by simp only [List.size_toArray]; rw [length_splice _ _ _ hl]; simpa using q2, fun o' ho' => ?_⟩
      rw [List.getElem?_toArray, splice_get _ _ _ hl]
      simp only [rowOf_len]
      by_cases h1 : o ≤ o' ∧ o' < o + c
      · rw [if_pos h1, if_pos (by omega), rowOf_get _ _ _ (by omega)]
        exact congrArg some (congrArg bv (congrArg s (by omega)))
      · rw [if_neg h1, if_neg (by omega), Array.getElem?_toList]
        exact q3 o' ho'
    · have hne : g' ≠ g := fun e => hji (uniq j (e ▸ hj))
      obtain ⟨arr', p1, p2, p3⟩ := (h.page j g' hj).mods hM (by simpa using hne)
      refine ⟨arr', p1, p2, fun o' ho' => ?_⟩
      rw [p3 o' ho']
      refine congrArg some (congrArg bv ?_)
      show f (65536 * j + o') = if 65536 * i + o ≤ 65536 * j + o' ∧ 65536 * j + o' < 65536 * i + o + c then s (k + (65536 * j + o' - (65536 * i + o))) else f (65536 * j + o')
      rw [if_neg (by omega)]
  · intro j o' hj ho'
    have hji : j ≠ i := fun e => by rw [e, hi] at hj; simp at hj
    show (if 65536 * i + o ≤ 65536 * j + o' ∧ 65536 * j + o' < 65536 * i + o + c then s (k + (65536 * j + o' - (65536 * i + o))) else f (65536 * j + o')) = 0
    rw [if_neg (by omega)]
    exact h.zero j o' hj ho'
  · intro a ha
    show (if 65536 * i + o ≤ a ∧ a < 65536 * i + o + c then s (k + (a - (65536 * i + o))) else f a) = 0
    rw [if_neg (by omega)]
    exact h.past a ha

def putF (f : Nat → UInt8) (at_ n : Nat) (s : Nat → UInt8) (a : Nat) : UInt8 := if at_ ≤ a ∧ a < at_ + n then s (a - at_) else f a

theorem putF_zero (f : Nat → UInt8) (at_ : Nat) (s : Nat → UInt8) : putF f at_ 0 s = f := by
  funext a; unfold putF; rw [if_neg (by omega)]

theorem putF_step (f : Nat → UInt8) (at_ k c : Nat) (s : Nat → UInt8) : (fun a => if at_ + k ≤ a ∧ a < at_ + k + c then s (k + (a - (at_ + k))) else putF f at_ k s a) = putF f at_ (k + c) s := by
  funext a
  unfold putF
  by_cases h1 : at_ + k ≤ a ∧ a < at_ + k + c
  · rw [if_pos h1, if_pos (by omega)]
    exact congrArg s (by omega)
  · rw [if_neg h1]
    by_cases h2 : at_ ≤ a ∧ a < at_ + k
    · rw [if_pos h2, if_pos (by omega)]
    · rw [if_neg h2, if_neg (by omega)]

end Go.Proofs.Ytagpnalhilgcpaa
