/-
  The places of a query's exprs, in plain words, and what the walks of places and of same need. No condition.
-/
import Derived.Test.YtpokbepenacnpaaGreatDoorMQs
import Derived.Test.YtpokbepenacnpaaGreatDoorMPf
import Derived.Test.YtpokbepenacnpaaGreatDoorMPy
namespace Go.Proofs.YtpokbepenacnpaaGreatDoor
open Go.RowKit
set_option linter.unusedVariables false

def placesT : Tree → List Int
  | .leaf h => [(h.pos : Int)]
  | .un h a => (h.pos : Int) :: placesT a
  | .bin h a b => (h.pos : Int) :: (placesT a ++ placesT b)
def placesO : Option Tree → List Int
  | none => [-1]
  | some t => placesT t
def placesI (l : List ItemT) : List Int := l.flatMap (fun i => placesT i.e)
def placesK (l : List KeyT) : List Int := l.map (fun k => (k.pos : Int))
def places0 (q : QueryT) : List Int := placesO q.on ++ placesO q.whr
theorem placesT_len : ∀ t : Tree, (placesT t).length = nodes t := by
  intro t
  induction t with
  | leaf h => rfl
  | un h a ih => simp [placesT, nodes, ih]
  | bin h a b iha ihb => simp [placesT, nodes, iha, ihb]
theorem placesO_len {o : Option Tree} (h : ∀ t, o = some t → TreeFine t) : (placesO o).length ≤ 20001 := by
  cases o with
  | none => simp [placesO]
  | some t => have := (h t rfl).2; have := placesT_len t; simp only [placesO]; omega
theorem placesI_len {l : List ItemT} (h : ∀ i ∈ l, TreeFine i.e ∧ i.name.length ≤ 300) : (placesI l).length ≤ l.length * 20001 := by
  induction l with
  | nil => simp [placesI]
  | cons i l ih =>
    have h1 := (h i List.mem_cons_self).1.2
    have h2 := ih fun j hj => h j (List.mem_cons_of_mem _ hj)
    have h3 := placesT_len i.e
    unfold placesI at *
    rw [List.flatMap_cons, List.length_append, List.length_cons, Nat.add_mul]
    omega
theorem placesI_take {l : List ItemT} {i : Nat} (h : i < l.length) : placesI (l.take (i + 1)) = placesI (l.take i) ++ placesT l[i].e := by
  unfold placesI
  rw [List.take_succ_eq_append_getElem h, List.flatMap_append]
  simp
theorem placesK_take {l : List KeyT} {i : Nat} (h : i < l.length) : placesK (l.take (i + 1)) = placesK (l.take i) ++ [(l[i].pos : Int)] := by
  unfold placesK
  rw [List.take_succ_eq_append_getElem h, List.map_append]
  rfl

def intsV (l : List Int) : List Value := l.map (fun k => .int .i64 k)
theorem intsV_len (l : List Int) : (intsV l).length = l.length := by simp [intsV]
theorem intsV_one (l : List Int) : ∀ u ∈ intsV l, u.oneCell' = true := by
  intro u hu
  obtain ⟨x, -, rfl⟩ := List.mem_map.1 hu
  rfl
/-- Numbers that are collected, in a slice of the call's own. -/
def IntsOwn (w wr : World) (t : Value) (l : List Int) : Prop :=
  Mods [] w wr ∧ wr.ownsRow 0 3 1 t l.length (intsV l) ∧ ∀ g, t.ownBlock = some g → w.heap.size ≤ g
theorem IntsOwn.quiet {w wr w' : World} {t : Value} {l : List Int} (h : IntsOwn w wr t l) (hM : Mods [] wr w') : IntsOwn w w' t l := ⟨h.1.trans hM (by simp), ownsRow_mods h.2.1 hM (by simp), h.2.2⟩
theorem IntsOwn.push {w wr w' : World} {t : Value} {l : List Int} (h : IntsOwn w wr t l) {l2 : List Int} {g cap m : Nat} (hm : l2.length = m) (hown : w'.ownsRow 0 3 1 (.slice (some ⟨g, 0, none⟩) (l.length + m) cap) (l.length + m) (intsV l ++ intsV l2))
    (hM : Mods t.ownBlock.toList wr w') (hg : t.ownBlock = some g ∨ wr.heap.size ≤ g) : IntsOwn w w' (.slice (some ⟨g, 0, none⟩) (l.length + m) cap) (l ++ l2) := by
  refine ⟨h.1.trans hM (fun x hx => .inr (h.2.2 x (by simpa using hx))), ?_, fun g' hg' => ?_⟩
  · have e : intsV (l ++ l2) = intsV l ++ intsV l2 := by simp [intsV]
    rw [e, List.length_append, hm]; exact hown
  · obtain rfl : g = g' := by simpa [Value.ownBlock] using hg'
    rcases hg with h2 | h2
    · exact h.2.2 g h2
    · have := h.1.size; omega
theorem IntsOwn.base {w w1 wr : World} {t : Value} {l : List Int} (h : IntsOwn w1 wr t l) (hM : Mods [] w w1) : IntsOwn w wr t l := ⟨hM.trans h.1 (by simp), h.2.1, fun g hg => Nat.le_trans hM.size (h.2.2 g hg)⟩
/-- What is not nothing lies in a block of its own. -/
theorem IntsOwn.at {w wr : World} {t : Value} {l : List Int} (h : IntsOwn w wr t l) (hl : l ≠ []) : ∃ g cap, t = .slice (some ⟨g, 0, none⟩) l.length cap ∧ (l.length ≤ cap ∧ cap ≤ 9223372036854775807) ∧ (w.heap.size ≤ g ∧ g < wr.heap.size) ∧ ∀ j u, (intsV l)[j]? = some u → wr.cell? ⟨g, j, none⟩ = some u := by
  rcases h.2.1.2 with ⟨-, hn⟩ | ⟨g, cap, cur, rfl, -⟩
  · exact absurd (List.length_eq_zero_iff.1 hn) hl
  · obtain ⟨h1, h2, h3⟩ := own_out h.2.1
    exact ⟨g, cap, rfl, ⟨h2, own_cap h.2.1⟩, ⟨h.2.2 g rfl, h1⟩, h3⟩
theorem IntsOwn.one (w : World) (k : Int) : IntsOwn w (w.alloc (.cells #[.int .i64 k] 3)) (.slice (some ⟨w.heap.size, 0, none⟩) 1 1) [k] :=
  ⟨(Mods.refl _ _).alloc _, ⟨by simp [intsV], .inr ⟨_, _, _, rfl, Nat.zero_le _, heap_alloc_new w _, Nat.le_refl _, by unfold maxLen; omega, by simp, by simp [intsV]⟩⟩, fun g hg => by
    obtain rfl : w.heap.size = g := by simpa [Value.ownBlock] using hg
    exact Nat.le_refl _⟩

/-- What a list of the document's query holds. -/
theorem LRef.read {α : Type} {R : RepR α} {T : TypeId} {k : Nat} {wq w : World} {v : Value} {l : List α} (hR : Rep R) (hk : ∀ c x, R w [] c x → c.length = k) (h : LRef R T k wq w v l 0) :
    ∃ ao cap, v = .slice ao l.length cap ∧ (0 < l.length → ∃ g, ao = some ⟨g, 0, none⟩ ∧ ∀ j (hj : j < l.length), ∃ c, R w [] c l[j] ∧ ∀ i u, c[i]? = some u → w.cell? ⟨g, j * k + i, none⟩ = some u) := by
  obtain ⟨css, h1, h2, h3⟩ := h
  rcases h1.2 with ⟨rfl, hn⟩ | ⟨g, cap, cur, rfl, -⟩
  · have : l = [] := List.length_eq_zero_iff.1 hn
    subst this
    exact ⟨none, 0, rfl, fun h => by simp at h⟩
  · obtain ⟨-, -, hc⟩ := own_out h1
    refine ⟨_, cap, rfl, fun _ => ⟨g, rfl, fun j hj => ?_⟩⟩
    have hA : AllR R w [] css l := (h3 rfl [] (by simp)).map fun c x hx => hR.weaken (by simp) hx
    obtain ⟨c, q1, q2⟩ := AllR.at hk hA j hj
    exact ⟨c, q1, fun i u hi => hc _ u (q2 i u hi)⟩
theorem itemDLen {w : World} {L : List Nat} : ∀ c x, ItemD w L c x → c.length = 2 := fun c x ⟨b, h, _⟩ => by rw [h]; rfl
theorem treeDLen {w : World} {L : List Nat} : ∀ c x, TreeD w L c x → c.length = 1 := fun c x ⟨b, h, _⟩ => by rw [h]; rfl
end Go.Proofs.YtpokbepenacnpaaGreatDoor

namespace Go.Proofs.YtpokbepenacnpaaGreatDoor
open Go.RowKit
set_option linter.unusedVariables false

theorem places_take {ls : List (List Int)} {p : Int} {i : Nat} (h : i < ls.length) : (p :: (ls.take (i + 1)).flatten) = (p :: (ls.take i).flatten) ++ ls[i] := by
  rw [List.take_succ_eq_append_getElem h, List.flatten_append]
  simp

set_option maxRecDepth 100000 in
set_option maxHeartbeats 4000000 in
theorem places_nil (w : World) : Calls Tryz.prog 32 #[.pointer none] w fun e w' => ∃ r, e = .returned r ∧ IntsOwn w w' r [-1] := by
  have h1 := IntsOwn.one w (-1)
  have H1 := Lib.hid h1
  clear h1
  go_enter Tryz.func32, Tryz.ntmps32
  go_wp2_with fail
  go_ret
  exact ⟨_, rfl, H1.out⟩

set_option maxRecDepth 100000 in
set_option maxHeartbeats 4000000 in
theorem places_node (w : World) (b : Nat) (h : Hd) (us : List Value) (ls : List (List Int)) (ao : Option Addr)
    (hb : w.heap[b]? = some (.cells (hdC h (.slice ao us.length us.length)).toArray 138 (0, 0))) (hl : ls.length = us.length) (hn : us.length ≤ 2)
    (hao : 0 < us.length → ∃ c, ao = some ⟨c, 0, none⟩ ∧ ∀ i (hi : i < us.length), w.cell? ⟨c, i, none⟩ = some us[i]) (hne : ∀ l ∈ ls, l ≠ [] ∧ l.length ≤ 20001)
    (hsub : ∀ i (hi : i < us.length) (hx : i < ls.length) W, Mods [] w W → Calls Tryz.prog 32 #[us[i]] W fun e w' => ∃ r, e = .returned r ∧ IntsOwn W w' r ls[i]) :
    Calls Tryz.prog 32 #[PtrV b] w fun e w' => ∃ r, e = .returned r ∧ IntsOwn w w' r ((h.pos : Int) :: ls.flatten) := by
  obtain ⟨i0, hi, hz0, hz1, hz2⟩ := info_parts (show (Tryz.prog.info? 3).map (fun i => (i.zero, i.size, i.bytes)) = some (some (.int .i64 0), 1, 8) by kernel_rfl)
  have c1 := cell_of_heap hb 1
  have c7 := cell_of_heap hb 7
  change w.cell? _ = some (.int .i64 h.pos) at c1
  change w.cell? _ = some (.slice ao us.length us.length) at c7
  obtain ⟨n, hnn⟩ : ∃ n, us.length = n := ⟨_, rfl⟩
  rw [hnn] at c7
  have hn2 : n ≤ 2 := by omega
  obtain ⟨p, hp⟩ : ∃ p, h.pos = p := ⟨_, rfl⟩
  rw [hp] at c1 ⊢
  have h1 := IntsOwn.one w p
  have hlen : ∀ i, ((p : Int) :: (ls.take i).flatten).length ≤ 40003 := fun i => by
    have : ∀ (l : List (List Int)), (∀ x ∈ l, x.length ≤ 20001) → l.flatten.length ≤ l.length * 20001 := fun l => by
      induction l with
      | nil => intro _; simp
      | cons x l ih =>
        intro hx
        have q1 := hx x List.mem_cons_self
        have q2 := ih fun y hy => hx y (List.mem_cons_of_mem _ hy)
        rw [List.flatten_cons, List.length_append, List.length_cons, Nat.add_mul]
        omega
    have q := this (ls.take i) (fun x hx => (hne x (List.mem_of_mem_take hx)).2)
    have q2 : (ls.take i).length ≤ 2 := by rw [List.length_take]; omega
    have q3 : (ls.take i).length * 20001 ≤ 2 * 20001 := Nat.mul_le_mul_right _ q2
    rw [List.length_cons]
    omega
  have HA := Lib.hid (And.intro hao (And.intro hsub (And.intro hnn (And.intro hl (And.intro hlen hne)))))
  have H1 := Lib.hid h1
  unfold PtrV
  clear hb hl hao hsub hnn hn h1 hlen hp hne
  go_enter Tryz.func32, Tryz.ntmps32
  go_wp2_with fail
  go_loopg [3, 4] n (fun gk t3 t4 wr => ∃ (i : Nat) (g cap : Nat), i + gk = n ∧ t4 = .int .i64 i ∧ t3 = .slice (some ⟨g, 0, none⟩) ((p : Int) :: (ls.take i).flatten).length cap ∧ IntsOwn w wr (.slice (some ⟨g, 0, none⟩) ((p : Int) :: (ls.take i).flatten).length cap) ((p : Int) :: (ls.take i).flatten))
  case atStart => exact ⟨0, _, 1, by omega, rfl, rfl, H1.out⟩
  clear H1
  obtain ⟨i, g, cap, hin, rfl, rfl, hO⟩ := hrel
  have hM := hO.1
  have c7w := hM.cell c7 (by simp)
  have hjb := HA.out.2.2.2.2.1 i
  by_cases hlt : i < n
  · obtain ⟨c, rfl, hcells⟩ := HA.out.1 (by rw [HA.out.2.2.1]; omega)
    have hiu : i < us.length := by rw [HA.out.2.2.1]; exact hlt
    have hix : i < ls.length := by rw [HA.out.2.2.2.1]; exact hiu
    have k0 := hM.cell (hcells i hiu) (by simp)
    have hca := HA.out.2.1 i hiu hix wr hM
    have hxn := HA.out.2.2.2.2.2 _ (List.getElem_mem hix)
    have htk := places_take (p := (p : Int)) hix
    have hj2 := HA.out.2.2.2.2.1 (i + 1)
    rw [htk, List.length_append] at hj2
    generalize us[i] = u at *
    generalize ls[i] = x at *
    obtain ⟨L, hL⟩ : ∃ L, ((p : Int) :: (ls.take i).flatten) = L := ⟨_, rfl⟩
    rw [hL] at hjb hO htk hj2
    have hLlen : ((p : Int) :: (ls.take i).flatten).length = L.length := by rw [hL]
    rw [hLlen]
    have HTK := Lib.hid htk
    have HO := Lib.hid hO
    have HXN := Lib.hid hxn.1
    have hxl := hxn.2
    clear hcells htk hL hLlen c7 hM hO hxn
    obtain ⟨nL, hnL⟩ : ∃ n, L.length = n := ⟨_, rfl⟩
    obtain ⟨nx, hnx⟩ : ∃ n, x.length = n := ⟨_, rfl⟩
    rw [hnL, hnx] at hj2
    rw [hnL] at hjb
    rw [hnx] at hxl
    rw [hnL]
    have HNL := Lib.hid hnL
    have HNX := Lib.hid hnx
    clear hnL hnx
    go_wp2_with fail
    (with_reducible refine hca.mono ?_)
    rintro e w2 ⟨r, rfl, hO2⟩
    obtain ⟨g2, cap2, rfl, -, -, hx2⟩ := hO2.at HXN.out
    rw [HNX.out]
    have hO3 := HO.out.quiet hO2.1
    have hown := hO3.2.1
    rw [HNL.out] at hown
    have HO3 := Lib.hid hO3
    have hnp : 0 < nx := by rw [← HNX.out]; exact List.length_pos_iff.2 HXN.out
    clear hca k0 c7w hO2 hO3
    go_wp2_with (at_builtin; refine wpList_app _ rfl _ _ 55 rfl 3 i0 _ 1 8 Tryz.underlying55 hi hz0 hz1 hz2 rfl (by decide) (.slice (some ⟨g, 0, none⟩) nL cap) nL (intsV L) rfl hown ⟨g2, 0, none⟩ nx cap2 (intsV x) rfl ?c1 ?c2 (intsV_one _) hnp ?c3 ?c4 ?_)
    case c1 => rw [intsV_len, HNX.out, Nat.mul_one]
    case c2 => intro j u hu; rw [addr_add, Nat.zero_add]; exact hx2 j u hu
    case c3 => unfold maxLen; omega
    case c4 => omega
    intro g5 cap5 w5 hown5 hM5 hg5
    have hO5 := HO3.out.push (l2 := x) (m := nx) (g := g5) (cap := cap5) HNX.out (by rw [HNL.out]; exact hown5) (by rw [HNL.out]; exact hM5) (by rw [HNL.out]; exact hg5)
    rw [← HTK.out] at hO5
    have HO5 := Lib.hid hO5
    have hlen5 : nL + nx = ((p : Int) :: (ls.take (i + 1)).flatten).length := by rw [HTK.out, List.length_append, HNL.out, HNX.out]
    have HL5 := Lib.hid hlen5
    clear hown5 hM5 hg5 hO5 hlen5 hown hx2
    go_wp2_with fail
    go_roundg (n - (i + 1))
    case measure => omega
    case rel => exact ⟨i + 1, g5, cap5, by omega, by go_num, by rw [HL5.out], by rw [← HL5.out]; have := HO5.out; rw [HNL.out] at this; exact this⟩
  · obtain rfl : n = i := by omega
    have hx : ls.take n = ls := List.take_of_length_le (by rw [HA.out.2.2.2.1, HA.out.2.2.1]; omega)
    rw [hx] at hO ⊢
    have HO := Lib.hid hO
    clear hO hx hjb
    go_wp2_with fail
    go_ret
    exact ⟨_, rfl, HO.out⟩

theorem places_any : ∀ (t : Tree) (w : World) (v : Value), ExprAt 138 89 w [] v t → nodes t ≤ 20001 → Calls Tryz.prog 32 #[v] w fun e w' => ∃ r, e = .returned r ∧ IntsOwn w w' r (placesT t) := by
  have hnn : ∀ t : Tree, nodes t ≤ 20001 → placesT t ≠ [] ∧ (placesT t).length ≤ 20001 := fun t h => by
    have := placesT_len t
    refine ⟨fun h0 => ?_, by omega⟩
    rw [h0] at this
    cases t <;> simp [nodes] at this
  intro t
  induction t with
  | leaf h =>
    rintro w v ⟨b, rfl, -, hb⟩ hf
    exact places_node w b h [] [] none hb rfl (by decide) (by simp) (by simp) (by simp)
  | un h a ih =>
    rintro w v ⟨b, c, u, rfl, -, -, hb, hc, ha⟩ hf
    have hfa : nodes a ≤ 20001 := by simp only [nodes] at hf; omega
    have := places_node w b h [u] [placesT a] (some ⟨c, 0, none⟩) hb rfl (by simp) (fun _ => ⟨c, rfl, fun i hi => by
      obtain rfl : i = 0 := by simp at hi; omega
      exact cell_of_heap hc 0⟩) (by simp only [List.mem_singleton]; rintro l rfl; exact hnn a hfa) (fun i hi hx W hM => by
      obtain rfl : i = 0 := by simp at hi; omega
      exact ih W u (ha.mods hM) hfa)
    simpa [placesT] using this
  | bin h a d iha ihd =>
    rintro w v ⟨b, c, u, x, rfl, -, -, hb, hc, ha, hd⟩ hf
    have hfa : nodes a ≤ 20001 := by simp only [nodes] at hf; omega
    have hfd : nodes d ≤ 20001 := by simp only [nodes] at hf; omega
    have := places_node w b h [u, x] [placesT a, placesT d] (some ⟨c, 0, none⟩) hb rfl (by simp) (fun _ => ⟨c, rfl, fun i hi => by
      have hi2 : i = 0 ∨ i = 1 := by simp at hi; omega
      rcases hi2 with rfl | rfl
      · exact cell_of_heap hc 0
      · exact cell_of_heap hc 1⟩) (by
      intro l hl
      simp only [List.mem_cons, List.not_mem_nil, or_false] at hl
      rcases hl with rfl | rfl
      · exact hnn a hfa
      · exact hnn d hfd) (fun i hi hx W hM => by
      have hi2 : i = 0 ∨ i = 1 := by simp at hi; omega
      rcases hi2 with rfl | rfl
      · exact iha W u (ha.mods hM) hfa
      · exact ihd W x (hd.mods hM) hfd)
    simpa [placesT] using this
theorem places_opt {w W : World} {v : Value} {o : Option Tree} (h : OptAt w [] v o) (hM : Mods [] w W) (hf : ∀ t, o = some t → TreeFine t) : Calls Tryz.prog 32 #[v] W fun e w' => ∃ r, e = .returned r ∧ IntsOwn W w' r (placesO o) := by
  cases o with
  | none => rw [show v = .pointer none from h]; exact places_nil W
  | some t =>
    obtain ⟨b, rfl, hE⟩ := h
    exact places_any t W (PtrV b) (hE.mods hM) (hf t rfl).2
end Go.Proofs.YtpokbepenacnpaaGreatDoor

namespace Go.Proofs.YtpokbepenacnpaaGreatDoor
open Go.RowKit
set_option linter.unusedVariables false

theorem rplaces_take {ls : List (List Int)} {p : Int} {i : Nat} (h : i < ls.length) : (p :: (ls.take (i + 1)).flatten) = (p :: (ls.take i).flatten) ++ ls[i] := by
  rw [List.take_succ_eq_append_getElem h, List.flatten_append]
  simp

set_option maxRecDepth 100000 in
set_option maxHeartbeats 4000000 in
theorem rplaces_nil (w : World) : Calls Tryz.prog 33 #[.pointer none] w fun e w' => ∃ r, e = .returned r ∧ IntsOwn w w' r [-1] := by
  have h1 := IntsOwn.one w (-1)
  have H1 := Lib.hid h1
  clear h1
  go_enter Tryz.func33, Tryz.ntmps33
  go_wp2_with fail
  go_ret
  exact ⟨_, rfl, H1.out⟩

set_option maxRecDepth 100000 in
set_option maxHeartbeats 4000000 in
theorem rplaces_node (w : World) (b : Nat) (h : Hd) (us : List Value) (ls : List (List Int)) (ao : Option Addr)
    (hb : w.heap[b]? = some (.cells (hdC h (.slice ao us.length us.length)).toArray 174 (0, 0))) (hl : ls.length = us.length) (hn : us.length ≤ 2)
    (hao : 0 < us.length → ∃ c, ao = some ⟨c, 0, none⟩ ∧ ∀ i (hi : i < us.length), w.cell? ⟨c, i, none⟩ = some us[i]) (hne : ∀ l ∈ ls, l ≠ [] ∧ l.length ≤ 20001)
    (hsub : ∀ i (hi : i < us.length) (hx : i < ls.length) W, Mods [] w W → Calls Tryz.prog 33 #[us[i]] W fun e w' => ∃ r, e = .returned r ∧ IntsOwn W w' r ls[i]) :
    Calls Tryz.prog 33 #[PtrV b] w fun e w' => ∃ r, e = .returned r ∧ IntsOwn w w' r ((h.pos : Int) :: ls.flatten) := by
  obtain ⟨i0, hi, hz0, hz1, hz2⟩ := info_parts (show (Tryz.prog.info? 3).map (fun i => (i.zero, i.size, i.bytes)) = some (some (.int .i64 0), 1, 8) by kernel_rfl)
  have c1 := cell_of_heap hb 1
  have c7 := cell_of_heap hb 7
  change w.cell? _ = some (.int .i64 h.pos) at c1
  change w.cell? _ = some (.slice ao us.length us.length) at c7
  obtain ⟨n, hnn⟩ : ∃ n, us.length = n := ⟨_, rfl⟩
  rw [hnn] at c7
  have hn2 : n ≤ 2 := by omega
  obtain ⟨p, hp⟩ : ∃ p, h.pos = p := ⟨_, rfl⟩
  rw [hp] at c1 ⊢
  have h1 := IntsOwn.one w p
  have hlen : ∀ i, ((p : Int) :: (ls.take i).flatten).length ≤ 40003 := fun i => by
    have : ∀ (l : List (List Int)), (∀ x ∈ l, x.length ≤ 20001) → l.flatten.length ≤ l.length * 20001 := fun l => by
      induction l with
      | nil => intro _; simp
      | cons x l ih =>
        intro hx
        have q1 := hx x List.mem_cons_self
        have q2 := ih fun y hy => hx y (List.mem_cons_of_mem _ hy)
        rw [List.flatten_cons, List.length_append, List.length_cons, Nat.add_mul]
        omega
    have q := this (ls.take i) (fun x hx => (hne x (List.mem_of_mem_take hx)).2)
    have q2 : (ls.take i).length ≤ 2 := by rw [List.length_take]; omega
    have q3 : (ls.take i).length * 20001 ≤ 2 * 20001 := Nat.mul_le_mul_right _ q2
    rw [List.length_cons]
    omega
  have HA := Lib.hid (And.intro hao (And.intro hsub (And.intro hnn (And.intro hl (And.intro hlen hne)))))
  have H1 := Lib.hid h1
  unfold PtrV
  clear hb hl hao hsub hnn hn h1 hlen hp hne
  go_enter Tryz.func33, Tryz.ntmps33
  go_wp2_with fail
  go_loopg [3, 4] n (fun gk t3 t4 wr => ∃ (i : Nat) (g cap : Nat), i + gk = n ∧ t4 = .int .i64 i ∧ t3 = .slice (some ⟨g, 0, none⟩) ((p : Int) :: (ls.take i).flatten).length cap ∧ IntsOwn w wr (.slice (some ⟨g, 0, none⟩) ((p : Int) :: (ls.take i).flatten).length cap) ((p : Int) :: (ls.take i).flatten))
  case atStart => exact ⟨0, _, 1, by omega, rfl, rfl, H1.out⟩
  clear H1
  obtain ⟨i, g, cap, hin, rfl, rfl, hO⟩ := hrel
  have hM := hO.1
  have c7w := hM.cell c7 (by simp)
  have hjb := HA.out.2.2.2.2.1 i
  by_cases hlt : i < n
  · obtain ⟨c, rfl, hcells⟩ := HA.out.1 (by rw [HA.out.2.2.1]; omega)
    have hiu : i < us.length := by rw [HA.out.2.2.1]; exact hlt
    have hix : i < ls.length := by rw [HA.out.2.2.2.1]; exact hiu
    have k0 := hM.cell (hcells i hiu) (by simp)
    have hca := HA.out.2.1 i hiu hix wr hM
    have hxn := HA.out.2.2.2.2.2 _ (List.getElem_mem hix)
    have htk := rplaces_take (p := (p : Int)) hix
    have hj2 := HA.out.2.2.2.2.1 (i + 1)
    rw [htk, List.length_append] at hj2
    generalize us[i] = u at *
    generalize ls[i] = x at *
    obtain ⟨L, hL⟩ : ∃ L, ((p : Int) :: (ls.take i).flatten) = L := ⟨_, rfl⟩
    rw [hL] at hjb hO htk hj2
    have hLlen : ((p : Int) :: (ls.take i).flatten).length = L.length := by rw [hL]
    rw [hLlen]
    have HTK := Lib.hid htk
    have HO := Lib.hid hO
    have HXN := Lib.hid hxn.1
    have hxl := hxn.2
    clear hcells htk hL hLlen c7 hM hO hxn
    obtain ⟨nL, hnL⟩ : ∃ n, L.length = n := ⟨_, rfl⟩
    obtain ⟨nx, hnx⟩ : ∃ n, x.length = n := ⟨_, rfl⟩
    rw [hnL, hnx] at hj2
    rw [hnL] at hjb
    rw [hnx] at hxl
    rw [hnL]
    have HNL := Lib.hid hnL
    have HNX := Lib.hid hnx
    clear hnL hnx
    go_wp2_with fail
    (with_reducible refine hca.mono ?_)
    rintro e w2 ⟨r, rfl, hO2⟩
    obtain ⟨g2, cap2, rfl, -, -, hx2⟩ := hO2.at HXN.out
    rw [HNX.out]
    have hO3 := HO.out.quiet hO2.1
    have hown := hO3.2.1
    rw [HNL.out] at hown
    have HO3 := Lib.hid hO3
    have hnp : 0 < nx := by rw [← HNX.out]; exact List.length_pos_iff.2 HXN.out
    clear hca k0 c7w hO2 hO3
    go_wp2_with (at_builtin; refine wpList_app _ rfl _ _ 55 rfl 3 i0 _ 1 8 Tryz.underlying55 hi hz0 hz1 hz2 rfl (by decide) (.slice (some ⟨g, 0, none⟩) nL cap) nL (intsV L) rfl hown ⟨g2, 0, none⟩ nx cap2 (intsV x) rfl ?c1 ?c2 (intsV_one _) hnp ?c3 ?c4 ?_)
    case c1 => rw [intsV_len, HNX.out, Nat.mul_one]
    case c2 => intro j u hu; rw [addr_add, Nat.zero_add]; exact hx2 j u hu
    case c3 => unfold maxLen; omega
    case c4 => omega
    intro g5 cap5 w5 hown5 hM5 hg5
    have hO5 := HO3.out.push (l2 := x) (m := nx) (g := g5) (cap := cap5) HNX.out (by rw [HNL.out]; exact hown5) (by rw [HNL.out]; exact hM5) (by rw [HNL.out]; exact hg5)
    rw [← HTK.out] at hO5
    have HO5 := Lib.hid hO5
    have hlen5 : nL + nx = ((p : Int) :: (ls.take (i + 1)).flatten).length := by rw [HTK.out, List.length_append, HNL.out, HNX.out]
    have HL5 := Lib.hid hlen5
    clear hown5 hM5 hg5 hO5 hlen5 hown hx2
    go_wp2_with fail
    go_roundg (n - (i + 1))
    case measure => omega
    case rel => exact ⟨i + 1, g5, cap5, by omega, by go_num, by rw [HL5.out], by rw [← HL5.out]; have := HO5.out; rw [HNL.out] at this; exact this⟩
  · obtain rfl : n = i := by omega
    have hx : ls.take n = ls := List.take_of_length_le (by rw [HA.out.2.2.2.1, HA.out.2.2.1]; omega)
    rw [hx] at hO ⊢
    have HO := Lib.hid hO
    clear hO hx hjb
    go_wp2_with fail
    go_ret
    exact ⟨_, rfl, HO.out⟩

theorem rplaces_any : ∀ (t : Tree) (w : World) (v : Value), ExprAt 174 96 w [] v t → nodes t ≤ 20001 → Calls Tryz.prog 33 #[v] w fun e w' => ∃ r, e = .returned r ∧ IntsOwn w w' r (placesT t) := by
  have hnn : ∀ t : Tree, nodes t ≤ 20001 → placesT t ≠ [] ∧ (placesT t).length ≤ 20001 := fun t h => by
    have := placesT_len t
    refine ⟨fun h0 => ?_, by omega⟩
    rw [h0] at this
    cases t <;> simp [nodes] at this
  intro t
  induction t with
  | leaf h =>
    rintro w v ⟨b, rfl, -, hb⟩ hf
    exact rplaces_node w b h [] [] none hb rfl (by decide) (by simp) (by simp) (by simp)
  | un h a ih =>
    rintro w v ⟨b, c, u, rfl, -, -, hb, hc, ha⟩ hf
    have hfa : nodes a ≤ 20001 := by simp only [nodes] at hf; omega
    have := rplaces_node w b h [u] [placesT a] (some ⟨c, 0, none⟩) hb rfl (by simp) (fun _ => ⟨c, rfl, fun i hi => by
      obtain rfl : i = 0 := by simp at hi; omega
      exact cell_of_heap hc 0⟩) (by simp only [List.mem_singleton]; rintro l rfl; exact hnn a hfa) (fun i hi hx W hM => by
      obtain rfl : i = 0 := by simp at hi; omega
      exact ih W u (ha.mods hM) hfa)
    simpa [placesT] using this
  | bin h a d iha ihd =>
    rintro w v ⟨b, c, u, x, rfl, -, -, hb, hc, ha, hd⟩ hf
    have hfa : nodes a ≤ 20001 := by simp only [nodes] at hf; omega
    have hfd : nodes d ≤ 20001 := by simp only [nodes] at hf; omega
    have := rplaces_node w b h [u, x] [placesT a, placesT d] (some ⟨c, 0, none⟩) hb rfl (by simp) (fun _ => ⟨c, rfl, fun i hi => by
      have hi2 : i = 0 ∨ i = 1 := by simp at hi; omega
      rcases hi2 with rfl | rfl
      · exact cell_of_heap hc 0
      · exact cell_of_heap hc 1⟩) (by
      intro l hl
      simp only [List.mem_cons, List.not_mem_nil, or_false] at hl
      rcases hl with rfl | rfl
      · exact hnn a hfa
      · exact hnn d hfd) (fun i hi hx W hM => by
      have hi2 : i = 0 ∨ i = 1 := by simp at hi; omega
      rcases hi2 with rfl | rfl
      · exact iha W u (ha.mods hM) hfa
      · exact ihd W x (hd.mods hM) hfd)
    simpa [placesT] using this
theorem rplaces_opt {w W : World} {v : Value} {o : Option Tree} (h : OptD w [] v o) (hM : Mods [] w W) (hf : ∀ t, o = some t → TreeFine t) : Calls Tryz.prog 33 #[v] W fun e w' => ∃ r, e = .returned r ∧ IntsOwn W w' r (placesO o) := by
  cases o with
  | none => rw [show v = .pointer none from h]; exact rplaces_nil W
  | some t =>
    obtain ⟨b, rfl, hE⟩ := h
    exact rplaces_any t W (PtrV b) (hE.mods hM) (hf t rfl).2
end Go.Proofs.YtpokbepenacnpaaGreatDoor
