/-
  The law SchemaFits, walked whole. No condition but that Go's own variables hold what they were laid with.
-/
import Derived.Test.YtijapjnhjioknaaDoorScQ
import Derived.Deep.RegionLaw
import Derived.Deep.CutBlock
import Derived.Deep.AppendLies
namespace Go.Proofs.YtijapjnhjioknaaDoor
open Go.RowKit
open Go.Maps
set_option linter.unusedVariables false

/-- 'append' to a slice of the call's own, as one step of a region that draws its order. -/
theorem step_app {P : Program} {ops : Array Oper} {o : Oper} {a : Act} {w : World} {K : Act → World → Prop} {Q : Exit → Act → World → Prop} {E : Prop} (hgd : o.guard = none) (s x : Operand) (t : TypeId)
    (ho : o.op = .call { callee := .builtin .append, args := #[s, x], argTypes := #[t, t] })
    (e : TypeId) (i : TypeInfo) (z : Value) (size bytes : Nat) (ht : P.underlying t = some (.slice e)) (hi : P.info? e = some i) (hz : i.zero = some z)
    (hsize : i.size = size) (hby : i.bytes = bytes) (hzs : z.cells.size = size) (hsz : 0 < size)
    (v : Value) (n : Nat) (xs : List Value) (hs : a.eval s = v) (hown : w.ownsRow 0 e size v n xs)
    (ad : Addr) (m c : Nat) (news : List Value) (hx : a.eval x = .slice (some ad) m c) (hl : news.length = m * size) (hnews : ∀ j u, news[j]? = some u → w.cell? (ad.add j) = some u) (h1 : ∀ u ∈ news, u.oneCell' = true)
    (hm : 0 < m) (h63 : n + m ≤ maxLen) (hbytes : (n + m) * bytes ≤ 140737488355328)
    (h : ∀ g cap w', w'.ownsRow 0 e size (.slice (some ⟨g, 0, none⟩) (n + m) cap) (n + m) (xs ++ news) → Mods v.ownBlock.toList w w' → (v.ownBlock = some g ∨ w.heap.size ≤ g) → K (a.put o.dst (.slice (some ⟨g, 0, none⟩) (n + m) cap)) w') :
    if Region.wanted o (yielded ops a.tmps) = true then Oper.wp P o a w K Q else E :=
  step_append_lies w hgd s x t ho 0 e i z size bytes ht hi hz hsize hby hzs hsz v n xs hs hown ad m c news hx hl hnews h1 hm h63 hbytes (Nat.zero_le _) w.heap.size rfl
    (fun g cap w' h1 h2 h3 _ => h g cap w' h1 (Mods.of_grown h2) (h3.imp id (fun e => by omega)))


theorem cell_one_new2 (w : World) (A : Obj) (x : Value) (t : TypeId) : ∀ j u, ([x] : List Value)[j]? = some u → ((w.alloc A).alloc (.cells #[x] t)).cell? ((⟨w.heap.size + 1, 0, none⟩ : Addr).add j) = some u := by
  intro j u hu
  rw [addr_add, cell_of_heap (two_new w _ _).2, Nat.zero_add]
  simpa using hu
theorem drew_heap (w : World) : w.drew.heap = w.heap := rfl
def zV : Value := .agg #[.bool false, .int .i64 0, .string ⟨#[]⟩]
theorem info_V : (Tryd.prog.info? 33).map (fun i => (i.zero, i.size, i.bytes)) = some (some zV, 3, 32) := by kernel_rfl
theorem vrow_cells {w : World} {g : Nat} {F : Nat → V} (h : VRow w g 4 4 F) {j : Nat} {u : Value} (hu : (((List.range 4).map F).flatMap valC)[j]? = some u) : w.cell? ⟨g, j, none⟩ = some u := by
  obtain ⟨arr, h1, h2, h3⟩ := h
  have hl : (((List.range 4).map F).flatMap valC).length = 12 := rfl
  have hj : j < 12 := by
    have := (List.getElem?_eq_some_iff.1 hu).1
    omega
  have hq := flat_get valC 3 (fun _ => rfl) ((List.range 4).map F) (j / 3) (by simp; omega) (j % 3) (by omega)
  rw [show j / 3 * 3 + j % 3 = j by omega, hu] at hq
  simp only [List.getElem_map, List.getElem_range] at hq
  obtain ⟨q0, q1, q2⟩ := h3 (j / 3) (by omega)
  rw [cell_of_heap h1]
  have hm : j % 3 = 0 ∨ j % 3 = 1 ∨ j % 3 = 2 := by omega
  rcases hm with hm | hm | hm
  · rw [hm] at hq
    rw [show j = j / 3 * 3 by omega, q0]
    exact hq.symm
  · rw [hm] at hq
    rw [show j = j / 3 * 3 + 1 by omega, q1]
    exact hq.symm
  · rw [hm] at hq
    rw [show j = j / 3 * 3 + 2 by omega, q2]
    exact hq.symm
def rowCell (g : Nat) : Value := .slice (some ⟨g, 0, none⟩) 4 4
/-- The rows that are collected: each in a block of its own. -/
def FitSt (S : ByteArray) (X : Nat → Int) (w wr : World) (v : Value) (i : Nat) (gs : List Nat) : Prop :=
  Mods [] w wr ∧ gs.length = i ∧ gs.Nodup ∧ wr.ownsRow 0 35 1 v i (gs.map rowCell) ∧ (∀ j (h : j < gs.length), VRow wr gs[j] 4 4 (fitF S (X j))) ∧ (∀ g ∈ gs, w.heap.size ≤ g ∧ g ∉ v.ownBlock.toList) ∧ ∀ g, v.ownBlock = some g → w.heap.size ≤ g
theorem FitSt.start (S : ByteArray) (X : Nat → Int) (w : World) : FitSt S X w w (.slice none 0 0) 0 [] :=
  ⟨Mods.refl _ _, rfl, List.nodup_nil, World.ownsRow_nil _ _ _ _, fun j h => by simp at h, fun g hg => by simp at hg, fun g hg => by cases hg⟩
theorem FitSt.slice {S : ByteArray} {X : Nat → Int} {w wr : World} {v : Value} {i : Nat} {gs : List Nat} (h : FitSt S X w wr v i gs) : ∃ ao cap, v = .slice ao i cap := by
  rcases h.2.2.2.1.2 with ⟨hv, h0⟩ | ⟨g, cap, cur, hv, _⟩
  · exact ⟨none, 0, by rw [hv, h0]⟩
  · exact ⟨_, _, hv⟩
def rowArr (S : ByteArray) (x : Int) : Array Value := #[.bool false, .int .i64 x, .string ⟨#[]⟩, .bool false, .int .i64 (IntKind.i64.wrap (-x)), .string ⟨#[]⟩, .bool false, .int .i64 0, .string S, .bool false, .int .i64 (x % 2), .string ⟨#[]⟩]
theorem rowArr_row {w : World} {g : Nat} {S : ByteArray} {x : Int} (h : w.heap[g]? = some (.cells (rowArr S x) 33 (0, 0))) : VRow w g 4 4 (fitF S x) := by
  refine ⟨_, h, rfl, fun i hi => ?_⟩
  have h : i = 0 ∨ i = 1 ∨ i = 2 ∨ i = 3 := by omega
  rcases h with rfl | rfl | rfl | rfl <;> exact ⟨rfl, rfl, rfl⟩
theorem FitSt.push {S : ByteArray} {X : Nat → Int} {w wr wd w' : World} {v : Value} {i : Nat} {gs : List Nat} (h : FitSt S X w wr v i gs) (hd : Mods [] wr wd) {g cap : Nat}
    (hown : w'.ownsRow 0 35 1 (.slice (some ⟨g, 0, none⟩) (i + 1) cap) (i + 1) (gs.map rowCell ++ [rowCell wd.heap.size]))
    (hM : Mods v.ownBlock.toList ((wd.alloc (.cells (rowArr S (X i)) 33)).alloc (.cells #[rowCell wd.heap.size] 35)) w') (hg : v.ownBlock = some g ∨ wd.heap.size + 1 + 1 ≤ g) :
    FitSt S X w w' (.slice (some ⟨g, 0, none⟩) (i + 1) cap) (i + 1) (gs ++ [wd.heap.size]) := by
  obtain ⟨h1, h2, h3, h4, h5, h6, h7⟩ := h
  have hA := ((Mods.refl [] wd).alloc (.cells (rowArr S (X i)) 33)).alloc (.cells #[rowCell wd.heap.size] 35)
  have hr := (two_new wd (.cells (rowArr S (X i)) 33) (.cells #[rowCell wd.heap.size] 35)).1
  have hlt := ownsRow_lt h4
  have hs1 := h1.size
  have hs2 := hd.size
  have hnew : wd.heap.size ∉ v.ownBlock.toList := fun hm => by have := hlt _ hm; omega
  have hgs : ∀ x ∈ gs, x < wr.heap.size := fun x hx => by
    obtain ⟨j, hj, rfl⟩ := List.getElem_of_mem hx
    obtain ⟨arr, ha, -⟩ := h5 j hj
    exact lt_size_of_heap ha
  refine ⟨((h1.trans hd (by simp)).trans hA (by simp)).trans hM (fun x hx => .inr (h7 x (by simpa using hx))), by simp [h2], ?_, by simpa using hown, fun j hj => ?_, fun x hx => ?_, fun g' hg' => ?_⟩
  · rw [List.nodup_append]
    refine ⟨h3, by simp, fun a ha b hb => ?_⟩
    obtain rfl : b = wd.heap.size := by simpa using hb
    have := hgs a ha
    omega
  · by_cases hj2 : j < gs.length
    · rw [List.getElem_append_left hj2]
      exact (((h5 j hj2).mods hd (by simp)).mods hA (by simp)).mods hM (h6 _ (List.getElem_mem hj2)).2
    · obtain rfl : j = gs.length := by simp at hj; omega
      simp only [List.getElem_append_right (Nat.le_refl _), Nat.sub_self, List.getElem_cons_zero]
      rw [h2]
      exact (rowArr_row hr).mods hM hnew
  · have hgv : (Value.slice (some ⟨g, 0, none⟩) (i + 1) cap).ownBlock.toList = [g] := rfl
    rw [hgv]
    rcases List.mem_append.1 hx with hx | hx
    · refine ⟨(h6 x hx).1, fun hm => ?_⟩
      obtain rfl : x = g := by simpa using hm
      rcases hg with h | h
      · exact (h6 x hx).2 (by simp [h])
      · have := hgs x hx; omega
    · obtain rfl : x = wd.heap.size := by simpa using hx
      refine ⟨by omega, fun hm => ?_⟩
      have hxg : wd.heap.size = g := by simpa using hm
      rcases hg with h | h
      · exact hnew (by simp [h, hxg])
      · omega
  · obtain rfl : g = g' := by simpa [Value.ownBlock] using hg'
    rcases hg with h | h
    · exact h7 g h
    · omega

theorem FitSt.rows {S : ByteArray} {X : Nat → Int} {w wr : World} {ao : Option Addr} {cap i : Nat} {gs : List Nat} (h : FitSt S X w wr (.slice ao i cap) i gs) : RowsIn wr ao (fitRows S X i) [] := by
  obtain ⟨h1, h2, h3, h4, h5, h6, h7⟩ := h
  intro h0
  have hi : 0 < i := by have := List.length_pos_iff.2 h0; rwa [fitRows_len] at this
  rcases h4.2 with ⟨hv, hn0⟩ | ⟨g, cap', cur, hv, hb, hg, r⟩
  · omega
  · simp only [Value.slice.injEq] at hv
    obtain ⟨rfl, -, rfl⟩ := hv
    refine ⟨g, 0, rfl, by simp, fun j hj => ?_⟩
    rw [fitRows_len] at hj
    rw [fitRows_get]
    have hjg : j < gs.length := by omega
    have hc := h4.cells (g := g) rfl j (rowCell gs[j]) (by simp [hjg])
    rw [addr_add] at hc
    exact ⟨some ⟨gs[j], 0, none⟩, 4, by show 4 ≤ 4; omega, hc, (h5 j hjg).vals⟩
theorem fit_rowok (S : ByteArray) (X : Nat → Int) (m : Nat) (hS : S.size ≤ 9223372036854775807) : RowOk (fitRows S X m) := by
  intro r hr
  obtain ⟨i, -, rfl⟩ := List.mem_map.1 hr
  refine ⟨by show 4 ≤ _; omega, fun v hv => ?_⟩
  obtain ⟨k, hk, rfl⟩ := List.mem_map.1 hv
  have h0 : (⟨#[]⟩ : ByteArray).size ≤ 9223372036854775807 := by decide
  unfold fitF
  split
  · exact h0
  split
  · exact h0
  split
  · exact hS
  · exact h0

theorem FitSt.quiet {S : ByteArray} {X : Nat → Int} {w wr w' : World} {v : Value} {i : Nat} {gs : List Nat} (h : FitSt S X w wr v i gs) (hM : Mods [] wr w') : FitSt S X w w' v i gs := by
  obtain ⟨h1, h2, h3, h4, h5, h6, h7⟩ := h
  exact ⟨h1.trans hM (by simp), h2, h3, ownsRow_mods h4 hM (by simp), fun j hj => (h5 j hj).mods hM (by simp), h6, h7⟩
theorem FitSt.open {S : ByteArray} {X : Nat → Int} {w wr : World} {ao : Option Addr} {cap i : Nat} {gs : List Nat} (h : FitSt S X w wr (.slice ao i cap) i gs) (hi : i ≠ 0) : ∃ g cur, ao = some ⟨g, 0, none⟩ ∧ wr.heap[g]? = some (.cells cur 35 (0, 0)) ∧ w.heap.size ≤ g ∧ (∀ j (hj : j < gs.length), cur[j]? = some (rowCell gs[j])) ∧ g ∉ gs := by
  obtain ⟨h1, h2, h3, h4, h5, h6, h7⟩ := h
  have h4' := h4
  rcases h4.2 with ⟨hv, hn0⟩ | ⟨g, cap', cur, hv, hb, hg, r⟩
  · omega
  · simp only [Value.slice.injEq] at hv
    obtain ⟨rfl, -, rfl⟩ := hv
    refine ⟨g, cur, rfl, hg, h7 g rfl, fun j hj => ?_, fun hm => (h6 g hm).2 (by simp [Value.ownBlock])⟩
    have hc := h4'.cells (g := g) rfl j (rowCell gs[j]) (by simp [hj])
    rw [addr_add, cell_of_heap hg, Nat.zero_add] at hc
    exact hc
theorem fit_set {S : ByteArray} {X : Nat → Int} {w' : World} {g m k : Nat} {gs : List Nat} (hgl : gs.length = m) (hk : k < m) {r' : List V} {vo : Option Addr} {c' : Nat} (hl : r'.length ≤ c')
    (hcell : w'.cell? ⟨g, k, none⟩ = some (.slice vo r'.length c')) {L : List Nat} (hgL : g ∉ L) (hval : ValsIn w' vo r' L)
    (hkeep : ∀ j (hj : j < gs.length), j ≠ k → w'.cell? ⟨g, j, none⟩ = some (rowCell gs[j]) ∧ VRow w' gs[j] 4 4 (fitF S (X j)) ∧ gs[j] ∉ L) :
    RowsIn w' (some ⟨g, 0, none⟩) ((fitRows S X m).set k r') L := by
  intro _
  refine ⟨g, 0, rfl, hgL, fun i hi => ?_⟩
  rw [List.length_set, fitRows_len] at hi
  rw [List.getElem_set]
  by_cases hik : k = i
  · subst hik
    simp only [if_pos]
    rw [Nat.zero_add]
    exact ⟨vo, c', hl, hcell, hval⟩
  · simp only [if_neg hik]
    rw [fitRows_get, Nat.zero_add]
    obtain ⟨q1, q2, q3⟩ := hkeep i (by omega) (Ne.symm hik)
    exact ⟨_, 4, by show 4 ≤ 4; omega, q1, q2.vals.apart' q3⟩
theorem range_set (F : Nat → V) (n c : Nat) (v : V) : ((List.range n).map F).set c v = (List.range n).map (fun i => if i = c then v else F i) := by
  apply List.ext_getElem
  · simp
  · intro i h1 h2
    rw [List.getElem_set]
    simp only [List.getElem_map, List.getElem_range]
    by_cases h : c = i
    · rw [if_pos h, if_pos h.symm]
    · rw [if_neg h, if_neg (Ne.symm h)]
theorem ValsIn.take {w : World} {ao : Option Addr} {vs : List V} {L : List Nat} (h : ValsIn w ao vs L) (c : Nat) : ValsIn w ao (vs.take c) L := by
  intro h0
  have hne : vs ≠ [] := fun h => h0 (by rw [h]; simp)
  obtain ⟨tb, off, h1, h2, h3⟩ := h hne
  refine ⟨tb, off, h1, h2, fun i hi => ?_⟩
  rw [List.length_take] at hi
  rw [List.getElem_take]
  exact h3 i (by omega)
theorem cell_setCell_off {w : World} {g o p : Nat} {arr : Array Value} {t : TypeId} {fr : Nat × Nat} (h : w.heap[g]? = some (.cells arr t fr)) (hop : o ≠ p) (u : Value) : (w.setCell ⟨g, o, none⟩ u).cell? ⟨g, p, none⟩ = arr[p]? := by
  rw [cell_of_heap (heap_setCell_same h o u), Array.getElem?_setIfInBounds_ne hop]
theorem cell_setCell_on {w : World} {g o : Nat} {arr : Array Value} {t : TypeId} {fr : Nat × Nat} (h : w.heap[g]? = some (.cells arr t fr)) (ho : o < arr.size) (u : Value) : (w.setCell ⟨g, o, none⟩ u).cell? ⟨g, o, none⟩ = some u := by
  rw [cell_of_heap (heap_setCell_same h o u), Array.getElem?_setIfInBounds_self, if_pos ho]

/-- What holds behind the switch. -/
def FitCut (S : ByteArray) (X : Nat → Int) (w2 wx : World) (ao : Option Addr) (m k h c : Nat) : Prop :=
  Mods [] w2 wx ∧ ∀ L : List Nat, (∀ x ∈ L, x < w2.heap.size) → RowsIn wx ao ((fitRows S X m).set k (fitBad h c (fitRow S (X k)))) L
theorem FitSt.change {S : ByteArray} {X : Nat → Int} {w2 w5 w' : World} {g cap m : Nat} {gs : List Nat} (h : FitSt S X w2 w5 (.slice (some ⟨g, 0, none⟩) m cap) m gs) {k : Nat} (hk : k < m) {hh c : Nat} (hc : c < 4) (v : V) (hb : fitBad hh c (fitRow S (X k)) = (fitRow S (X k)).set c v) (hkg : k < gs.length)
    (hw : w' = ((w5.setCell ⟨gs[k], c * 3, none⟩ (.bool v.z)).setCell ⟨gs[k], c * 3 + 1, none⟩ (.int .i64 v.n)).setCell ⟨gs[k], c * 3 + 2, none⟩ (.string v.s)) : FitCut S X w2 w' (some ⟨g, 0, none⟩) m k hh c := by
  obtain ⟨g', cur, hg', hhp, hge, hcur, hng⟩ := h.open (by omega)
  cases hg'
  obtain ⟨h1, h2, h3, h4, h5, h6, h7⟩ := h
  have hgk := (h6 _ (List.getElem_mem hkg)).1
  have hM : Mods [gs[k]] w5 w' := by
    rw [hw]
    exact (((Mods.refl _ _).setCell (.inl (by simp)) _).setCell (.inl (by simp)) _).setCell (.inl (by simp)) _
  have hgne : g ∉ [gs[k]] := fun hm => hng (by have : g = gs[k] := by simpa using hm
                                               rw [this]; exact List.getElem_mem hkg)
  have hhp' := hM.heap hhp hgne
  have hV := (h5 k hkg).set hc v 4 (fun i hi _ => hi)
  rw [← hw] at hV
  have hrl : (fitBad hh c (fitRow S (X k))).length = 4 := by rw [hb, List.length_set]; rfl
  refine ⟨h1.trans hM (fun x hx => .inr (by obtain rfl : x = gs[k] := by simpa using hx
                                            exact hgk)), fun L hL => fit_set h2 hk (vo := some ⟨gs[k], 0, none⟩) (c' := 4) (by rw [hrl]; omega) ?_ (fun hm => by have := hL _ hm; omega) ?_ (fun j hj hjk => ⟨?_, ?_, fun hm => by have := hL _ hm; have := (h6 _ (List.getElem_mem hj)).1; omega⟩)⟩
  · rw [hrl, cell_of_heap hhp', hcur k hkg]; rfl
  · rw [hb]
    unfold fitRow
    rw [range_set]
    exact hV.vals.apart' (fun hm => by have := hL _ hm; omega)
  · rw [cell_of_heap hhp', hcur j hj]
  · refine (h5 j hj).mods hM (fun hm => hjk ?_)
    have : gs[j] = gs[k] := by simpa using hm
    exact (List.getElem_inj h3).1 this
theorem FitSt.other {S : ByteArray} {X : Nat → Int} {w2 w5 w6 : World} {g cap m : Nat} {gs : List Nat} (h : FitSt S X w2 w5 (.slice (some ⟨g, 0, none⟩) m cap) m gs) (hM6 : Mods [] w5 w6) {k : Nat} (hk : k < m) {hh c : Nat} {vo : Option Addr} {n c' : Nat} (hn : (fitBad hh c (fitRow S (X k))).length = n) (hnc : n ≤ c')
    {b off : Nat} (hvo : vo = some ⟨b, off, none⟩) (hbg : b ≠ g) (hb2 : w2.heap.size ≤ b) (hV : ValsIn w6 vo (fitBad hh c (fitRow S (X k))) []) : FitCut S X w2 (w6.setCell ⟨g, k, none⟩ (.slice vo n c')) (some ⟨g, 0, none⟩) m k hh c := by
  obtain ⟨g', cur, hg', hhp, hge, hcur, hng⟩ := (h.quiet hM6).open (by omega)
  cases hg'
  obtain ⟨h1, h2, h3, h4, h5, h6, h7⟩ := h.quiet hM6
  have hM : Mods [g] w6 (w6.setCell ⟨g, k, none⟩ (.slice vo n c')) := (Mods.refl _ _).setCell (.inl (by simp)) _
  have hks : k < cur.size := (Array.getElem?_eq_some_iff.1 (hcur k (by omega))).1
  refine ⟨h1.trans hM (fun x hx => .inr (by obtain rfl : x = g := by simpa using hx
                                            exact hge)), fun L hL => fit_set h2 hk (vo := vo) (c' := c') (by rw [hn]; exact hnc) ?_ (fun hm => by have := hL _ hm; omega) ?_ (fun j hj hjk => ⟨?_, ?_, fun hm => by have := hL _ hm; have := (h6 _ (List.getElem_mem hj)).1; omega⟩)⟩
  · rw [hn]; exact cell_setCell_on hhp hks _
  · subst hvo
    exact ((hV.apart' (L := [g]) (by simpa using hbg)).mods hM).apart' (fun hm => by have := hL _ hm; omega)
  · rw [cell_setCell_off hhp (Ne.symm hjk), hcur j hj]
  · exact (h5 j hj).mods hM (fun hm => hng (by have : gs[j] = g := by simpa using hm
                                               rw [← this]; exact List.getElem_mem hj))

theorem RowsIn.drop {w : World} {ao : Option Addr} {rs : List (List V)} {L : List Nat} (h : RowsIn w ao rs L) : RowsIn w ao rs [] := fun h0 => by
  obtain ⟨b, off, h1, -, h2⟩ := h h0
  refine ⟨b, off, h1, by simp, fun i hi => ?_⟩
  obtain ⟨vo, c, q0, q1, q2⟩ := h2 i hi
  exact ⟨vo, c, q0, q1, q2.drop⟩
theorem fitBad_sub {h c : Nat} {r : List V} : ∀ v ∈ fitBad h c r, v ∈ r ∨ v = nullV ∨ v = xV ∨ v = zeroV := by
  intro v hv
  unfold fitBad at hv
  split at hv
  · rcases List.mem_or_eq_of_mem_set hv with h | h
    · exact .inl h
    · exact .inr (.inl h)
  split at hv
  · rcases List.mem_or_eq_of_mem_set hv with h | h
    · exact .inl h
    · exact .inr (.inr (.inl h))
  split at hv
  · exact .inl (List.mem_of_mem_take hv)
  · rcases List.mem_append.1 hv with h | h
    · exact .inl h
    · exact .inr (.inr (.inr (by simpa using h)))
theorem fit_rowok2 (S : ByteArray) (X : Nat → Int) (m k h c : Nat) (hS : S.size ≤ 9223372036854775807) (hc : c < 4) (hh : h < 4) : RowOk ((fitRows S X m).set k (fitBad h c (fitRow S (X k)))) := by
  intro r hr
  rcases List.mem_or_eq_of_mem_set hr with hr | rfl
  · exact fit_rowok S X m hS r hr
  · refine ⟨by rw [fitBad_len h c hh hc]; split <;> (try split) <;> omega, fun v hv => ?_⟩
    rcases fitBad_sub v hv with h | h | h | h
    · have : fitRow S (X k) ∈ fitRows S X (k + 1) := List.mem_map.2 ⟨k, by simp, rfl⟩
      exact (fit_rowok S X (k + 1) hS _ this).2 v h
    · rw [h]; decide
    · rw [h]; decide
    · rw [h]; decide

set_option maxRecDepth 100000 in
set_option maxHeartbeats 4000000 in
theorem schemaFits_walk (w : World) (hT : Tabs w) (lao : Option Addr) (N cl : Nat) (X : Nat → Int) (hN : N ≤ 9223372036854775807) (hX : IntsIn w lao N X) (s : ByteArray) (hs : s.size ≤ 140737488351232) (which : Nat) (hw : which < 256) (col : Nat) (hcol : col < 256) (how : Nat) (hhow : how < 256) :
    Calls Tryd.prog 3 #[.slice lao N cl, .string s, .int .u8 which, .int .u8 col, .int .u8 how] w fun e w' => e = .returned (.bool true) ∧ Mods [] w w' := by
  obtain ⟨i0, hi0, hz0, hz1, hz2⟩ := info_parts info_R
  obtain ⟨q, hq⟩ : ∃ q : Nat, ((s.size ≤ 199 ∧ q = s.size) ∨ (199 < s.size ∧ q = 199)) ∧ q ≤ 199 ∧ q ≤ s.size := ⟨if s.size ≤ 199 then s.size else 199, by split <;> omega, by split <;> omega, by split <;> omega⟩
  have hmin := fun w => run_min (P := Tryd.prog) w 3 3 3 .i64 s.size 199 q (by omega)
  obtain ⟨S, hS⟩ : ∃ S, (⟨#[115]⟩ : ByteArray) ++ s.extract 0 q = S := ⟨_, rfl⟩
  have hes : (s.extract 0 q).size = q := by simp; omega
  have hSs : S.size ≤ 200 := by rw [← hS, ByteArray.size_append, hes]; show 1 + q ≤ 200; omega
  obtain ⟨m, hm⟩ : ∃ m : Nat, ((N ≤ 20 ∧ m = N) ∨ (20 < N ∧ m = 20)) ∧ m ≤ 20 ∧ m ≤ N := ⟨if N ≤ 20 then N else 20, by split <;> omega, by split <;> omega, by split <;> omega⟩
  have hqs : (q : Int) ≤ (s.size : Int) := by omega
  have hc1 : ¬ 9223372036854775807 < (⟨#[115]⟩ : ByteArray).size + (s.extract 0 q).size := by rw [hes]; show ¬ _ < 1 + q; omega
  go_enter Tryd.func3, Tryd.ntmps3
  go_wp2_with fail
  refine (examples12 _ hT).mono ?_
  rintro e w1 ⟨rfl, hM1⟩
  have hMA := ((Mods.refl [] w1).alloc (.cells #[.string ⟨#[97]⟩, .int .i64 1, .int .i64 0, .bool false, .string ⟨#[98]⟩, .int .i64 2, .int .i64 2, .bool false, .string ⟨#[99]⟩, .int .i64 3, .int .i64 0, .bool false, .string ⟨#[100]⟩, .int .i64 4, .int .i64 0, .bool false] 27)).alloc (.cells #[.string ⟨#[116]⟩, .slice (some ⟨w1.heap.size, 0, none⟩) 4 4] 30)
  obtain ⟨hh1, hh2⟩ := two_new w1 (.cells #[.string ⟨#[97]⟩, .int .i64 1, .int .i64 0, .bool false, .string ⟨#[98]⟩, .int .i64 2, .int .i64 2, .bool false, .string ⟨#[99]⟩, .int .i64 3, .int .i64 0, .bool false, .string ⟨#[100]⟩, .int .i64 4, .int .i64 0, .bool false] 27) (.cells #[.string ⟨#[116]⟩, .slice (some ⟨w1.heap.size, 0, none⟩) 4 4] 30)
  have hsz : ((w1.alloc (.cells #[.string ⟨#[97]⟩, .int .i64 1, .int .i64 0, .bool false, .string ⟨#[98]⟩, .int .i64 2, .int .i64 2, .bool false, .string ⟨#[99]⟩, .int .i64 3, .int .i64 0, .bool false, .string ⟨#[100]⟩, .int .i64 4, .int .i64 0, .bool false] 27)).alloc (.cells #[.string ⟨#[116]⟩, .slice (some ⟨w1.heap.size, 0, none⟩) 4 4] 30)).heap.size = w1.heap.size + 1 + 1 := by rw [size_alloc, size_alloc]
  go_upto_block 0 with fail
  generalize (w1.alloc (.cells #[.string ⟨#[97]⟩, .int .i64 1, .int .i64 0, .bool false, .string ⟨#[98]⟩, .int .i64 2, .int .i64 2, .bool false, .string ⟨#[99]⟩, .int .i64 3, .int .i64 0, .bool false, .string ⟨#[100]⟩, .int .i64 4, .int .i64 0, .bool false] 27)).alloc (.cells #[.string ⟨#[116]⟩, .slice (some ⟨w1.heap.size, 0, none⟩) 4 4] 30) = w2 at *
  have hMw := hM1.trans hMA (by simp)
  have hge := hM1.size
  generalize w1.heap.size = cb at *
  clear hM1 hMA hmin hc1 hes
  go_cut [13, 14] from 46 (fun s13 s14 wx => ∃ gs, FitSt S X w2 wx s13 m gs)
  case first =>
    go_wp2_with fail
    go_loopg [13, 14] m (fun gk t13 t14 wr => ∃ (i : Nat) (gs : List Nat), i + gk = m ∧ t14 = .int .i64 i ∧ FitSt S X w2 wr t13 i gs)
    case atStart => exact ⟨0, [], by omega, rfl, FitSt.start S X w2⟩
    case round =>
      obtain ⟨i, gs, hi, rfl, hF⟩ := hrel
      obtain ⟨ao, cap, rfl⟩ := hF.slice
      by_cases hlt : i < m
      · have hiN : (i : Int) < (N : Int) := by omega
        have hi20 : (i : Int) < 20 := by omega
        obtain ⟨lb, lo, rfl, hXi⟩ := hX (by omega)
        obtain ⟨x0, -, -⟩ := hXi i (by omega)
        have x1 := (hMw.trans hF.1 (by simp)).cell x0 (by simp)
        obtain ⟨x, hx⟩ : ∃ x, X i = x := ⟨_, rfl⟩
        rw [hx] at x1
        have hand := i64_and1 x
        have x2 : wr.drew.cell? ⟨lb, lo + i, none⟩ = some (.int .i64 x) := x1
        have hki : (0 : Int) ≤ (i : Int) ∧ (i : Int) < (N : Int) := by omega
        have hkt : (i : Int).toNat = i := by omega
        have hownD := ownsRow_mods hF.2.2.2.1 ((Mods.refl [] wr).drew) (by simp)
        have HF := Lib.hid hF
        have HX := Lib.hid hx
        clear hF hXi x0 hx
        go_wp2_with fail
        go_region_law (refine step_app rfl (.tmp 56) (.tmp 77) 31 rfl 35 i0 (.slice none 0 0) 1 24 Tryd.underlying31 hi0 hz0 hz1 hz2 rfl (by decide) (.slice ao i cap) i (gs.map rowCell) (by kernel_rfl) ((hownD.alloc _).alloc _) ⟨wr.drew.heap.size + 1, 0, none⟩ 1 1 [rowCell wr.drew.heap.size] (by kernel_rfl) rfl (cell_one_new2 _ _ _ _) (by intro u hu; simp at hu; subst hu; rfl) (by decide) (by unfold maxLen; omega) (by omega) ?_; intro g9 cap9 w7 hown7 hM7 hg7)
        all_goals
          have hp : FitSt S X w2 w7 (.slice (some ⟨g9, 0, none⟩) (i + 1) cap9) (i + 1) (gs ++ [wr.drew.heap.size]) := HF.out.push (wd := wr.drew) (g := g9) (cap := cap9) (w' := w7) ((Mods.refl [] wr).drew) hown7 (by rw [HX.out]; exact hM7) (hg7.imp id (fun h => by rw [drew_heap, size_alloc, size_alloc] at h; exact h))
          clear hown7 hM7 hg7 hownD
          go_wp2_with fail
          go_roundg (m - (i + 1))
          case measure => omega
          case rel => exact ⟨i + 1, _, by omega, by go_num, hp⟩
      · obtain rfl : m = i := by omega
        clear hT
        by_cases hmN : (m : Int) < (N : Int)
        · have h20 : ¬ (m : Int) < 20 := by omega
          go_wp2_with fail
          go_meet
          exact ⟨gs, hF⟩
        · go_wp2_with fail
          go_meet
          exact ⟨gs, hF⟩
  case rest =>
    obtain ⟨gs, hF⟩ := hcut
    obtain ⟨ao, cap, rfl⟩ := hF.slice
    have HF := Lib.hid hF
    have hMr := hMw.trans hF.1 (by simp)
    have hC : ColsIn wc (some ⟨cb, 0, none⟩) (fitTbl fun _ => false).cols [] := (cols_new (cs := (fitTbl fun _ => false).cols) hh1 rfl).mods hF.1
    have hb := hF.1.heap hh2 (by simp)
    have hR := hF.rows
    have hrw := rows_any wc (hT.mods hMr) (fitTbl fun _ => false) (fit_ok _) 4 rfl (some ⟨cb, 0, none⟩) 4 hC (fitRows S X m) (fit_rowok S X m (by omega)) m (fitRows_len _ _ _) (by omega) ao cap hR
    rw [fits_all _ S hSs X m (by omega)] at hrw
    simp only [tri] at hrw
    dsimp only [fitTbl] at hrw
    have a0 := cell_of_heap hb 0
    have a1 := cell_of_heap hb 1
    change wc.cell? _ = some (.string ⟨#[116]⟩) at a0
    change wc.cell? _ = some (.slice (some ⟨cb, 0, none⟩) 4 4) at a1
    clear hF hR
    go_wp2_with fail
    (with_reducible refine hrw.mono ?_)
    rintro e w5 ⟨rfl, hM5⟩
    clear hrw a0 a1
    by_cases hm0 : m = 0
    · have hm0z : ((m : Int) == 0) = true := by rw [beq_iff_eq]; omega
      go_wp2_with fail
      go_ret
      exact ⟨rfl, hMr.trans hM5 (by simp)⟩
    · have hm0z : ((m : Int) == 0) = false := by rw [beq_eq_false_iff_ne]; omega
      obtain ⟨k, hk⟩ : ∃ k, which % m = k := ⟨_, rfl⟩
      obtain ⟨c, hc⟩ : ∃ c, col % 4 = c := ⟨_, rfl⟩
      obtain ⟨h4, hh4⟩ : ∃ h4, how % 4 = h4 := ⟨_, rfl⟩
      have hkm : k < m := by rw [← hk]; exact Nat.mod_lt _ (by omega)
      have hc4 : c < 4 := by omega
      have hh44 : h4 < 4 := by omega
      have ek : (which : Int).tmod (m : Int) = (k : Int) := by rw [Int.tmod_eq_emod_of_nonneg (by omega), ← hk]; rfl
      have ec : (col : Int) % 4 = (c : Int) := by omega
      have eh : (how : Int) % 4 = (h4 : Int) := by omega
      have HF5 := Lib.hid (HF.out.quiet hM5)
      have hMw5 := hMr.trans hM5 (by simp)
      have hkg : k < gs.length := by have := HF.out.2.1; omega
      obtain ⟨gk, hgk⟩ : ∃ gk, gs[k]'hkg = gk := ⟨_, rfl⟩
      have hsl := fun w => run_head (P := Tryd.prog) Tryd.underlying35 (fun w => by kernel_rfl) (some ⟨gk, 0, none⟩) 4 4 c (by omega) w
      obtain ⟨g, cur, rfl, hhp, hge5, hcur, hng⟩ := HF5.out.open hm0
      have e1 := (cell_of_heap hhp k).trans (hcur k hkg)
      have f1 := frozen_of_heap hhp k
      have hVk := HF5.out.2.2.2.2.1 k hkg
      rw [hgk] at e1 hVk
      obtain ⟨u0, u1, u2, v0, v1, v2, r0, r1, r2⟩ := hVk.there hc4
      have hkm2 : (0 : Int) ≤ (k : Int) ∧ (k : Int) < (m : Int) := by omega
      have hc42 : (0 : Int) ≤ (c : Int) ∧ (c : Int) < 4 := by omega
      unfold rowCell at e1
      have hgg : gk ≠ g := fun h => hng (by rw [← h, ← hgk]; exact List.getElem_mem hkg)
      have HGK := Lib.hid hgk
      have hgk2 : w2.heap.size ≤ gk := by rw [← hgk]; exact (HF5.out.2.2.2.2.2.1 _ (List.getElem_mem hkg)).1
      have hw25 := HF5.out.1.size
      have HHP := Lib.hid hhp
      have hgs5 : g < w5.heap.size := lt_size_of_heap hhp
      clear hhp hcur hk hc hh4 HF hgk
      go_upto_block 2 with fail
      clear ek ec
      go_cut [20] from 107 (fun s20 wx => s20 = .int .i64 ((fitQ h4 c : Nat) : Int) ∧ FitCut S X w2 wx (some ⟨g, 0, none⟩) m k h4 c)
      case first =>
        have hcs : h4 = 0 ∨ h4 = 1 ∨ h4 = 2 ∨ h4 = 3 := by omega
        rcases hcs with rfl | rfl | rfl | rfl
        · have z0 : ((how : Int) % 4 == 0) = true := by rw [eh]; rfl
          clear eh
          have hF : ∀ w', w' = (((w5.setCell ⟨gk, c * 3, none⟩ (.bool nullV.z)).setCell ⟨gk, c * 3 + 1, none⟩ (.int .i64 nullV.n)).setCell ⟨gk, c * 3 + 2, none⟩ (.string nullV.s)) → FitCut S X w2 w' (some ⟨g, 0, none⟩) m k 0 c := fun w' hw => HF5.out.change (w' := w') hkm (hh := 0) hc4 nullV rfl hkg (by rw [HGK.out]; exact hw)
          have HFF := Lib.hid hF
          clear hF hsl
          go_wp2_with fail
          go_meet
          exact ⟨rfl, HFF.out _ rfl⟩
        · have z0 : ((how : Int) % 4 == 0) = false := by rw [eh]; rfl
          have z1 : ((how : Int) % 4 == 1) = true := by rw [eh]; rfl
          clear eh
          have hF : ∀ w', w' = (((w5.setCell ⟨gk, c * 3, none⟩ (.bool xV.z)).setCell ⟨gk, c * 3 + 1, none⟩ (.int .i64 xV.n)).setCell ⟨gk, c * 3 + 2, none⟩ (.string xV.s)) → FitCut S X w2 w' (some ⟨g, 0, none⟩) m k 1 c := fun w' hw => HF5.out.change (w' := w') hkm (hh := 1) hc4 xV rfl hkg (by rw [HGK.out]; exact hw)
          have HFF := Lib.hid hF
          clear hF hsl
          go_wp2_with fail
          go_meet
          exact ⟨rfl, HFF.out _ rfl⟩
        · have z0 : ((how : Int) % 4 == 0) = false := by rw [eh]; rfl
          have z1 : ((how : Int) % 4 == 1) = false := by rw [eh]; rfl
          have z2 : ((how : Int) % 4 == 2) = true := by rw [eh]; rfl
          clear eh
          have hV : ValsIn w5 (some ⟨gk, 0, none⟩) (fitBad 2 c (fitRow S (X k))) [] := hVk.vals.take c
          have hF := HF5.out.other (Mods.refl _ _) hkm (hh := 2) (c := c) (n := c) (c' := 4) (by rw [fitBad_len 2 c (by omega) hc4]; rfl) (by omega) rfl hgg hgk2 hV
          have HFF := Lib.hid hF
          clear hF hV
          go_wp2_with fail
          go_meet
          exact ⟨rfl, HFF.out⟩
        · have z0 : ((how : Int) % 4 == 0) = false := by rw [eh]; rfl
          have z1 : ((how : Int) % 4 == 1) = false := by rw [eh]; rfl
          have z2 : ((how : Int) % 4 == 2) = false := by rw [eh]; rfl
          clear eh hsl
          obtain ⟨j0, hj0, hy0, hy1, hy2⟩ := info_parts info_V
          have hold : ∀ b, (some ⟨gk, 0, none⟩ : Option Addr) = some b → ∀ j u, ((fitRow S (X k)).flatMap valC)[j]? = some u → (w5.alloc (.cells #[.bool false, .int .i64 0, .string ⟨#[]⟩] 33)).cell? (b.add j) = some u := by
            intro b hb j u hu
            cases hb
            rw [addr_add, Nat.zero_add]
            exact ((Mods.refl [] w5).alloc _).cell (vrow_cells hVk hu) (by simp)
          have HOLD := Lib.hid hold
          clear hold
          go_wp2_with (at_builtin; refine wpList_append_grows _ rfl _ _ 35 rfl 33 j0 _ 3 32 Tryd.underlying35 hj0 hy0 hy1 hy2 rfl (by decide) (some ⟨gk, 0, none⟩) 4 4 ((fitRow S (X k)).flatMap valC) rfl (fun h => by cases h) rfl HOLD.out ⟨w5.heap.size, 0, none⟩ 1 1 [.bool false, .int .i64 0, .string ⟨#[]⟩] rfl rfl (cells_new3 _ _ _ _ _) (by intro u hu; simp at hu; rcases hu with rfl | rfl | rfl <;> rfl) (by decide) (by decide) (by decide) ?_)
          intro v7 w7 hown7 hgr7
          have hM7a : Mods [] (w5.alloc (.cells #[.bool false, .int .i64 0, .string ⟨#[]⟩] 33)) w7 := (Mods.of_grown hgr7).mono (by simp)
          have hM7 : Mods [] w5 w7 := ((Mods.refl [] w5).alloc _).trans hM7a (by simp)
          rcases hown7.2 with ⟨hv7, h0⟩ | ⟨g7, cap7, cur7, rfl, hb7, hg7, r7⟩
          · omega
          have hc7 := hown7.cells (g := g7) rfl
          have hl5 : (fitBad 3 c (fitRow S (X k))).length = 5 := rfl
          have hfl : (fitBad 3 c (fitRow S (X k))).flatMap valC = (fitRow S (X k)).flatMap valC ++ [.bool false, .int .i64 0, .string ⟨#[]⟩] := by
            show (fitRow S (X k) ++ [zeroV]).flatMap valC = _
            rw [List.flatMap_append]; rfl
          rw [← hfl] at hc7
          have hg75 : g7 ≠ g := by omega
          have hg72 : w2.heap.size ≤ g7 := by omega
          have hV7 : ValsIn w7 (some ⟨g7, 0, none⟩) (fitBad 3 c (fitRow S (X k))) [] := fun _ => ⟨g7, 0, rfl, by simp, fun i hi => by
            have q := fun j (hj : j < 3) => flat_get valC 3 (fun _ => rfl) (fitBad 3 c (fitRow S (X k))) i hi j hj
            refine ⟨?_, ?_, ?_⟩
            · have := hc7 _ _ (q 0 (by omega)); rw [addr_add] at this; exact this
            · have := hc7 _ _ (q 1 (by omega)); rw [addr_add] at this; exact this
            · have := hc7 _ _ (q 2 (by omega)); rw [addr_add] at this; exact this⟩
          have hcap7 : 5 ≤ cap7 := r7.1
          have HFF := Lib.hid (HF5.out.other hM7 hkm (hh := 3) (c := c) (n := 5) (c' := cap7) hl5 hcap7 rfl hg75 hg72 hV7)
          have e7 := hM7.cell e1 (by simp)
          have f7 := frozen_of_heap (hM7.heap HHP.out (by simp)) k
          clear hown7 hgr7 hM7 hb7 hg7 r7 hc7 hfl hV7 e1 f1 u0 u1 u2 v0 v1 v2 r0 r1 r2
          go_wp2_with fail
          go_meet
          exact ⟨rfl, HFF.out⟩
      case rest =>
        obtain ⟨rfl, hM6, hR6⟩ := hcut
        have hcb2 : cb < w2.heap.size := lt_size_of_heap hh1
        have hR7 := hR6 [cb] (by simpa using hcb2)
        have hh6 := hM6.heap hh1 (by simp)
        have hb6 := hM6.heap hh2 (by simp)
        have hMw6 := hMw.trans hM6 (by simp)
        have hT6 := hT.mods hMw6
        have hC6 : ColsIn wc (some ⟨cb, 0, none⟩) (fitTbl fun _ => false).cols [] := cols_new (cs := (fitTbl fun _ => false).cols) hh6 rfl
        have hl6 : ((fitRows S X m).set k (fitBad h4 c (fitRow S (X k)))).length = m := by rw [List.length_set, fitRows_len]
        have hrok : RowOk ((fitRows S X m).set k (fitBad h4 c (fitRow S (X k)))) := fit_rowok2 S X m k h4 c (by omega) hc4 hh44
        have hev := fun b => fits_bad b S hSs X m (by omega) k hkm h4 hh44 c hc4
        have hrw := rows_any wc hT6 (fitTbl fun _ => false) (fit_ok _) 4 rfl (some ⟨cb, 0, none⟩) 4 hC6 _ hrok m hl6 (by omega) _ cap hR7.drop
        rw [hev, if_neg (by simp)] at hrw
        simp only [tri] at hrw
        dsimp only [fitTbl] at hrw
        have a0 := cell_of_heap hb6 0
        have a1 := cell_of_heap hb6 1
        change wc.cell? _ = some (.string ⟨#[116]⟩) at a0
        change wc.cell? _ = some (.slice (some ⟨cb, 0, none⟩) 4 4) at a1
        generalize (fitRows S X m).set k (fitBad h4 c (fitRow S (X k))) = rs at *
        clear hC6 hR6 hM5 hMw5 HF5 HGK HHP u0 u1 u2 v0 v1 v2 r0 r1 r2 e1 f1 hsl
        go_wp2_with fail
        (with_reducible refine hrw.mono ?_)
        rintro e w8 ⟨rfl, hM8⟩
        clear hrw a0 a1
        have hh8 := hM8.heap hh6 (by simp)
        have hb8 := hM8.heap hb6 (by simp)
        have hMw8 := hMw6.trans hM8 (by simp)
        have e8 : w8.cell? ⟨cb, c * 4 + 3, none⟩ = some (.bool false) := by
          rw [cell_of_heap hh8]
          have h : c = 0 ∨ c = 1 ∨ c = 2 ∨ c = 3 := by omega
          rcases h with rfl | rfl | rfl | rfl <;> rfl
        have f8 := frozen_of_heap hh8 (c * 4 + 3)
        have hM9 : Mods [cb] w8 (w8.setCell ⟨cb, c * 4 + 3, none⟩ (.bool true)) := (Mods.refl _ _).setCell (.inl (by simp)) _
        have hh9 := heap_setCell_same hh8 (c * 4 + 3) (.bool true)
        have hC9 : ColsIn (w8.setCell ⟨cb, c * 4 + 3, none⟩ (.bool true)) (some ⟨cb, 0, none⟩) (fitTbl fun j => decide (j = c)).cols [] := cols_new (cs := (fitTbl fun j => decide (j = c)).cols) hh9 (by
          have h : c = 0 ∨ c = 1 ∨ c = 2 ∨ c = 3 := by omega
          rcases h with rfl | rfl | rfl | rfl <;> rfl)
        have hcbt : cb + 1 ∉ [cb] := by simp
        have hb9 := hM9.heap hb8 hcbt
        have hR9 := (hR7.mods (hM8.mono (by simp))).mods hM9
        have hMw9 := hMw8.trans hM9 (fun x hx => .inr (by simp at hx; omega))
        have hrw := rows_any _ (hT.mods hMw9) (fitTbl fun j => decide (j = c)) (fit_ok _) 4 rfl (some ⟨cb, 0, none⟩) 4 hC9 rs hrok m hl6 (by omega) _ cap hR9.drop
        rw [hev] at hrw
        dsimp only [fitTbl] at hrw
        have a1 := cell_of_heap hb8 1
        change w8.cell? _ = some (.slice (some ⟨cb, 0, none⟩) 4 4) at a1
        have d0 := cell_of_heap hb9 0
        have d1 := cell_of_heap hb9 1
        change World.cell? _ _ = some (.string ⟨#[116]⟩) at d0
        change World.cell? _ _ = some (.slice (some ⟨cb, 0, none⟩) 4 4) at d1
        have hrem : (c : Int).toNat = c := by omega
        clear hC9 hh9 hb9 hR9 hM9 hR7 hh8 hb8 hM8 hev hh6 hb6 hMw6 hT6 hrok hl6 hMw8 hMw hMr hT
        by_cases h0 : h4 = 0
        · rw [if_pos ⟨h0, by simp⟩] at hrw
          simp only [tri] at hrw
          have z0 : ((how : Int) % 4 == 0) = true := by rw [eh, h0]; rfl
          clear eh
          go_wp2_with fail
          (with_reducible refine hrw.mono ?_)
          rintro e w10 ⟨rfl, hM10⟩
          clear hrw
          go_wp2_with fail
          go_ret
          exact ⟨rfl, hMw9.trans hM10 (by simp)⟩
        · rw [if_neg (fun h => h0 h.1)] at hrw
          simp only [tri] at hrw
          have z0 : ((how : Int) % 4 == 0) = false := by rw [eh, beq_eq_false_iff_ne]; omega
          clear eh
          go_wp2_with fail
          (with_reducible refine hrw.mono ?_)
          rintro e w10 ⟨rfl, hM10⟩
          clear hrw
          go_wp2_with fail
          go_ret
          exact ⟨rfl, hMw9.trans hM10 (by simp)⟩
end Go.Proofs.YtijapjnhjioknaaDoor
