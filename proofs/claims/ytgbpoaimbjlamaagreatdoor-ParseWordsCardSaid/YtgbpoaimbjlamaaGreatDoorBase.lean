/-
  Plain lemmas that every text of this seat uses: worlds that keep their old blocks, small maps that a call makes itself, bytes. They speak of no program; no conditions.
-/
import Derived.WalkKit
import Derived.WalkLawsBesides
import Derived.WalkSpells
import Derived.MapKept
import Derived.Laws.CopyOwn
namespace Go.Proofs.YtgbpoaimbjlamaaGreatDoor
open Go.RowKit

/-! ### A map that the call itself has just made -/

theorem set_push (h : Array Obj) (o o' : Obj) : (h.push o).setIfInBounds h.size o' = h.push o' := by
  apply Array.ext_getElem?
  intro i
  simp only [Array.getElem?_setIfInBounds, Array.getElem?_push, Array.size_push]
  by_cases h1 : h.size = i
  · subst h1; simp
  · have h2 : ¬ i = h.size := fun e => h1 e.symm
    simp [h1, h2]

theorem run_update_new {P : Program} (T kt et : TypeId) (d : TypeDesc) (hT : P.underlying T = some (.map kt et)) (hk : P.underlying kt = some d) (w : World) (es : Array MapEntry) (clock : Nat) (k v : Value)
    (hkey : MapKept.IsKey d k) (hf : Instr.findNow d k es.toList 0 = some none) :
    (Instr.mapUpdate T (.map (some w.heap.size)) k v).run P (w.alloc (.map es clock)) = .ok () (w.alloc (.map (es.push { key := k, val := v, born := clock }) (clock + 1))) := by
  have hb : (w.alloc (.map es clock)).heap[w.heap.size]? = some (.map es clock) := heap_alloc_new w _
  have hc : (Instr.checkKey false 10000 kt k).run P (w.alloc (.map es clock)) = .ok () (w.alloc (.map es clock)) := MapKept.run_checkKey hk hkey false 9999
  have hw : ({ w.alloc (.map es clock) with heap := (w.alloc (.map es clock)).heap.setIfInBounds w.heap.size (.map (es.push { key := k, val := v, born := clock }) (clock + 1)) } : World) = w.alloc (.map (es.push { key := k, val := v, born := clock }) (clock + 1)) := by
    show ({ w.alloc (.map es clock) with heap := (w.heap.push (.map es clock)).setIfInBounds w.heap.size (.map (es.push { key := k, val := v, born := clock }) (clock + 1)) } : World) = _
    rw [set_push]; rfl
  simp [Instr.mapUpdate, run_underlying hT, MapKept.run_getObj_map hb, hc, MapKept.run_findKey hk hf, MapKept.run_setObj_map _ hb, Result.andThen]
  exact hw

theorem run_lookup_new {P : Program} (T kt et : TypeId) (d : TypeDesc) (hT : P.underlying T = some (.map kt et)) (hk : P.underlying kt = some d) (w : World) (es : Array MapEntry) (clock : Nat) (k : Value) (z : Value)
    (hz : ∀ w, (zeroValue et).run P w = .ok z w) (hkey : MapKept.IsKey d k) (r : Option (Nat × Value)) (hf : Instr.findNow d k es.toList 0 = some r) :
    (Instr.lookup T (.map (some w.heap.size)) k true).run P (w.alloc (.map es clock)) = .ok (.tuple #[(r.map (·.2)).getD z, .bool r.isSome]) (w.alloc (.map es clock)) := by
  have hb : (w.alloc (.map es clock)).heap[w.heap.size]? = some (.map es clock) := heap_alloc_new w _
  have hc : (Instr.checkKey es.isEmpty 10000 kt k).run P (w.alloc (.map es clock)) = .ok () (w.alloc (.map es clock)) := MapKept.run_checkKey hk hkey _ 9999
  cases r <;> simp [Instr.lookup, run_underlying hT, MapKept.run_getObj_map hb, hc, MapKept.run_findKey hk hf, hz, Result.andThen]

/-! ### Endings -/

theorem ret_bool {a b : Bool} (h : a = b) : Ending.returned (.bool a) = .returned (.bool b) := by rw [h]
theorem ret_int {k : IntKind} {a b : Int} (h : a = b) : Ending.returned (.int k a) = .returned (.int k b) := by rw [h]

/-! ### Worlds: which old blocks may have changed -/

/-- Of the blocks that were there at most those in L have changed; the streams are as they were. -/
structure Mods (L : List Nat) (w w' : World) : Prop where
  os : w'.os = w.os
  tape : w'.tape = w.tape
  output : w'.output = w.output
  size : w.heap.size ≤ w'.heap.size
  block : ∀ k, k < w.heap.size → k ∉ L → w'.heap[k]? = w.heap[k]?

theorem Mods.refl (L : List Nat) (w : World) : Mods L w w := ⟨rfl, rfl, rfl, Nat.le_refl _, fun _ _ _ => rfl⟩
theorem Mods.trans {L L' : List Nat} {a b c : World} (h : Mods L a b) (k : Mods L' b c) (hs : ∀ x ∈ L', x ∈ L ∨ a.heap.size ≤ x) : Mods L a c :=
  ⟨k.os.trans h.os, k.tape.trans h.tape, k.output.trans h.output, Nat.le_trans h.size k.size, fun i hi hn =>
    (k.block i (Nat.lt_of_lt_of_le hi h.size) (fun hm => by rcases hs i hm with h1 | h1; exact hn h1; omega)).trans (h.block i hi hn)⟩
theorem Mods.mono {L L' : List Nat} {a b : World} (h : Mods L a b) (hs : ∀ x ∈ L, x ∈ L' ∨ a.heap.size ≤ x) : Mods L' a b :=
  (Mods.refl L' a).trans h hs
theorem Mods.of_below {B : Nat} {w w' : World} (h : Below B w w') (hB : w.heap.size ≤ B) (L : List Nat) : Mods L w w' :=
  ⟨h.os, h.tape, h.output, h.size, fun k hk _ => h.block k (by omega)⟩
theorem Mods.below {L : List Nat} {w w' : World} (h : Mods L w w') (B : Nat) (hB : B ≤ w.heap.size) (hL : ∀ x ∈ L, B ≤ x) : Below B w w' :=
  ⟨h.os, h.tape, h.output, h.size, fun k hk => h.block k (by omega) (fun hm => by have := hL k hm; omega)⟩
theorem Mods.drew {L : List Nat} {a w : World} (h : Mods L a w) : Mods L a w.drew := ⟨h.os, h.tape, h.output, h.size, h.block⟩
theorem Mods.drewN {L : List Nat} {a w : World} (h : Mods L a w) (n : Nat) : Mods L a (w.drewN n) := ⟨h.os, h.tape, h.output, h.size, h.block⟩
theorem Mods.alloc {L : List Nat} {a w : World} (h : Mods L a w) (o : Obj) : Mods L a (w.alloc o) :=
  h.trans (L' := []) ⟨rfl, rfl, rfl, by simp, fun k hk _ => Below.heap_alloc _ _ _ hk⟩ (by simp)
theorem Mods.setCell {L : List Nat} {a w : World} (h : Mods L a w) {p : Addr} (hp : p.block ∈ L ∨ a.heap.size ≤ p.block) (u : Value) : Mods L a (w.setCell p u) :=
  h.trans (L' := [p.block]) ⟨rfl, rfl, rfl, by simp [World.setCell], fun k hk hn => Below.heap_setCell _ _ _ _ (by simpa using hn)⟩ (by simpa using hp)
theorem Mods.heap {L : List Nat} {w w' : World} (h : Mods L w w') {k : Nat} {o : Obj} (hk : w.heap[k]? = some o) (hn : k ∉ L) : w'.heap[k]? = some o := by
  rw [h.block k ?_ hn]; exact hk
  rcases Nat.lt_or_ge k w.heap.size with h1 | h1
  · exact h1
  · rw [Array.getElem?_eq_none h1] at hk; cases hk
theorem Mods.cell {L : List Nat} {w w' : World} (h : Mods L w w') {p : Addr} {v : Value} (hv : w.cell? p = some v) (hn : p.block ∉ L) : w'.cell? p = some v := by
  have hlt : p.block < w.heap.size := by
    rcases Nat.lt_or_ge p.block w.heap.size with h1 | h1
    · exact h1
    · simp [World.cell?, Array.getElem?_eq_none h1] at hv
  rw [World.cell?_of_block (h.block p.block hlt hn)]; exact hv

theorem lt_size_of_heap {w : World} {k : Nat} {o : Obj} (hk : w.heap[k]? = some o) : k < w.heap.size := (Array.getElem?_eq_some_iff.1 hk).1

theorem cell_of_heap {w : World} {g : Nat} {arr : Array Value} {t : TypeId} {fr : Nat × Nat} (h : w.heap[g]? = some (.cells arr t fr)) (o : Nat) : w.cell? ⟨g, o, none⟩ = arr[o]? := by
  simp [World.cell?, h]
theorem frozen_of_heap {w : World} {g : Nat} {arr : Array Value} {t : TypeId} (h : w.heap[g]? = some (.cells arr t (0, 0))) (o : Nat) : w.frozen? ⟨g, o, none⟩ = false := by
  simp [World.frozen?, h]
theorem heap_setCell_same {w : World} {g : Nat} {arr : Array Value} {t : TypeId} {fr : Nat × Nat} (h : w.heap[g]? = some (.cells arr t fr)) (o : Nat) (u : Value) :
    (w.setCell ⟨g, o, none⟩ u).heap[g]? = some (.cells (arr.setIfInBounds o u) t fr) := by
  simp [World.setCell, Array.getElem?_modify, h]

theorem cell_setCell_same {w : World} {g o : Nat} {u v : Value} (h : w.cell? ⟨g, o, none⟩ = some u) : (w.setCell ⟨g, o, none⟩ v).cell? ⟨g, o, none⟩ = some v := by
  unfold World.cell? at h
  split at h
  · rename_i c t fr hg
    have hlt : o < c.size := by
      rcases Nat.lt_or_ge o c.size with h1 | h1
      · exact h1
      · simp [Array.getElem?_eq_none h1] at h
    rw [cell_of_heap (heap_setCell_same hg o v)]
    simp [hlt]
  · cases h

/-! ### Slices that the call itself makes and appends to -/

theorem Mods.of_grown {w w' : World} {row : Option Nat} (h : w.grownBy w' row) : Mods row.toList w w' :=
  ⟨h.os, h.tape, h.output, h.size, fun k hk hn => h.block k hk (fun e => hn (by simp [← e]))⟩

theorem ownsRow_mods {L : List Nat} {w w' : World} {e : TypeId} {size : Nat} {v : Value} {n : Nat} {xs : List Value} (h : w.ownsRow 0 e size v n xs) (hm : Mods L w w') (hn : ∀ g, v.ownBlock = some g → g ∉ L) :
    w'.ownsRow 0 e size v n xs := by
  refine ⟨h.1, ?_⟩
  rcases h.2 with h2 | ⟨g, cap, cur, rfl, hb, hg, r⟩
  · exact .inl h2
  · exact .inr ⟨g, cap, cur, rfl, hb, hm.heap hg (hn g rfl), r⟩

theorem ownsRow_lt {w : World} {e : TypeId} {size : Nat} {v : Value} {n : Nat} {xs : List Value} (h : w.ownsRow 0 e size v n xs) : ∀ g ∈ v.ownBlock.toList, g < w.heap.size := by
  intro g hg
  exact (h.lt g (by simpa using hg)).2

/-- 'append' to a slice of the call's own: it stays in its block, or moves to a new one. -/
theorem wpList_app {P : Program} (w : World) {ops : Array Oper} {rest : List Oper} {o : Oper} {a : Act} {Q : Exit → Act → World → Prop}
    (hgd : o.guard = none) (s x : Operand) (t : TypeId) (ho : o.op = .call { callee := .builtin .append, args := #[s, x], argTypes := #[t, t] })
    (e : TypeId) (i : TypeInfo) (z : Value) (size bytes : Nat) (ht : P.underlying t = some (.slice e)) (hi : P.info? e = some i) (hz : i.zero = some z)
    (hsize : i.size = size) (hby : i.bytes = bytes) (hzs : z.cells.size = size) (hsz : 0 < size)
    (v : Value) (n : Nat) (xs : List Value) (hs : a.eval s = v) (hown : w.ownsRow 0 e size v n xs)
    (ad : Addr) (m c : Nat) (news : List Value) (hx : a.eval x = .slice (some ad) m c) (hl : news.length = m * size) (hnews : ∀ j u, news[j]? = some u → w.cell? (ad.add j) = some u) (h1 : ∀ u ∈ news, u.oneCell' = true)
    (hm : 0 < m) (h63 : n + m ≤ maxLen) (hbytes : (n + m) * bytes ≤ 140737488355328)
    (hK : ∀ g cap w', w'.ownsRow 0 e size (.slice (some ⟨g, 0, none⟩) (n + m) cap) (n + m) (xs ++ news) → Mods v.ownBlock.toList w w' → (v.ownBlock = some g ∨ w.heap.size ≤ g) →
      wpList P ops Q rest (a.put o.dst (.slice (some ⟨g, 0, none⟩) (n + m) cap)) w') : wpList P ops Q (o :: rest) a w := by
  have grows : ∀ (ao : Option Addr) (cap : Nat), v = .slice ao n cap → (ao = none → n = 0 ∧ cap = 0) → (∀ b, ao = some b → ∀ j u, xs[j]? = some u → w.cell? (b.add j) = some u) → cap < n + m → wpList P ops Q (o :: rest) a w := by
    intro ao cap hv hnone holds hfull
    refine wpList_append_grows w hgd s x t ho e i z size bytes ht hi hz hsize hby hzs hsz ao n cap xs (hs.trans hv) hnone hown.1 holds ad m c news hx hl hnews h1 hfull h63 hbytes ?_
    intro v' w' hown' hgr
    rcases hown'.2 with ⟨_, h0⟩ | ⟨g, cap', cur, rfl, hb, r⟩
    · omega
    · refine hK g cap' w' ⟨hown'.1, .inr ⟨g, cap', cur, rfl, Nat.zero_le _, r⟩⟩ ((Mods.of_grown hgr).mono (by simp)) (.inr hb)
  rcases hown.2 with ⟨hv, hn0⟩ | ⟨g, cap, cur, hv, hb, hg, r⟩
  · exact grows none 0 (by rw [hv, hn0]) (fun _ => ⟨hn0, rfl⟩) (fun b hb => by cases hb) (by omega)
  · by_cases hroom : n + m ≤ cap
    · refine wpList_append_fits w hgd s x t ho 0 e i size ht hi hsize g n cap xs (hs.trans hv) (hv ▸ hown) ad m c news hx hl hnews h1 hroom ?_
      intro w' hown' hgr
      refine hK g cap w' hown' ?_ (.inl (by simp [hv, Value.ownBlock]))
      have := Mods.of_grown hgr
      simpa [hv, Value.ownBlock] using this
    · exact grows (some ⟨g, 0, none⟩) cap hv (by simp) (fun b hb => by simp at hb; subst hb; exact hown.cells (by simp [hv, Value.ownBlock])) (by omega)

/-! ### min of two, without parting the walk -/

theorem wpList_min {P : Program} {w : World} {ops : Array Oper} {rest : List Oper} {o : Oper} {a : Act} {Q : Exit → Act → World → Prop} (hgd : o.guard = none) (x y : Operand) (t1 t2 : TypeId)
    (ho : o.op = .call { callee := .builtin .min, args := #[x, y], argTypes := #[t1, t2] }) (k : IntKind) (m n r : Int) (hx : a.eval x = .int k m) (hy : a.eval y = .int k n) (hr : (m ≤ n ∧ r = m) ∨ (n < m ∧ r = n))
    (h : wpList P ops Q rest (a.put o.dst (.int k r)) w) : wpList P ops Q (o :: rest) a w := by
  have hrun : (Builtin.min_ #[t1, t2] o.type #[.int k m, .int k n]).run P w = .ok (.int k r) w := by
    rcases hr with ⟨h1, rfl⟩ | ⟨h1, rfl⟩
    · have h2 : ¬ n < r := by omega
      simp [Builtin.min_, Builtin.min2, h2]
    · simp [Builtin.min_, Builtin.min2, h1]
  refine wpList_plain hgd fun K hK => ?_
  unfold Oper.wp
  simp only [execOp, ho, resolve, invoke, builtin, Sem.run_bind, Sem.run_pure, Result.andThen_ok, List.map_toArray, List.map_cons, List.map_nil, hx, hy, hrun]
  exact hK _ _ h

/-! ### copy into a row that is known whole -/

theorem splice_get {α : Type} (L : List α) (off : Nat) (cs : List α) (h : off + cs.length ≤ L.length) (o : Nat) :
    (splice L off cs)[o]? = if off ≤ o ∧ o < off + cs.length then cs[o - off]? else L[o]? := by
  unfold splice
  rcases Nat.lt_or_ge o off with h1 | h1
  · rw [if_neg (by omega), List.getElem?_append_left (by simp; omega), List.getElem?_take, if_pos h1]
  · rw [List.getElem?_append_right (by simp; omega)]
    have e : (L.take off).length = off := by simp; omega
    rw [e]
    rcases Nat.lt_or_ge o (off + cs.length) with h2 | h2
    · rw [if_pos ⟨h1, h2⟩, List.getElem?_append_left (by omega)]
    · rw [if_neg (by omega), List.getElem?_append_right (by omega), List.getElem?_drop]
      congr 1
      omega

theorem Mods.setRow {L : List Nat} {a w : World} (h : Mods L a w) {g : Nat} (hg : g ∈ L ∨ a.heap.size ≤ g) (cs : Array Value) : Mods L a (w.setRow g cs) :=
  h.trans (L' := [g]) ⟨rfl, rfl, rfl, by simp [World.setRow], fun k hk hn => setRow_other w g k cs (by simpa using hn)⟩ (by simpa using hg)

theorem wpList_cp {P : Program} {w : World} {ops : Array Oper} {rest : List Oper} {o : Oper} {a : Act} {Q : Exit → Act → World → Prop} (hgd : o.guard = none) (d s : Operand) (dT sT : TypeId)
    (ho : o.op = .call { callee := .builtin .copy, args := #[d, s], argTypes := #[dT, sT] }) (elem : TypeId) (hu : P.underlying dT = some (.slice elem)) (hsz : (P.info? elem).map (·.size) = some 1)
    (g off dLen dCap : Nat) (ad : Addr) (sLen sCap : Nat) (hd : a.eval d = .slice (some ⟨g, off, none⟩) dLen dCap) (hs : a.eval s = .slice (some ad) sLen sCap)
    (cur : Array Value) (t : TypeId) (hg : w.heap[g]? = some (.cells cur t (0, 0))) (cs : List Value) (hn : cs.length = Nat.min sLen dLen)
    (hsrc : ∀ j v, cs[j]? = some v → w.cell? (ad.add j) = some v) (hfit : off + cs.length ≤ cur.size) (h1 : ∀ v ∈ cs, v.oneCell' = true)
    (h : wpList P ops Q rest (a.put o.dst (goInt cs.length)) (w.setRow g (splice cur.toList off cs).toArray)) : wpList P ops Q (o :: rest) a w :=
  wpList_copy_own hgd d s dT sT ho elem hu hsz g off dLen dCap ad sLen sCap hd hs cur t hg cs hn hsrc hfit h1 h

theorem step_cp {P : Program} {ops : Array Oper} {o : Oper} {a : Act} {w : World} {K : Act → World → Prop} {Q : Exit → Act → World → Prop} {E : Prop} (hgd : o.guard = none) (d s : Operand) (dT sT : TypeId)
    (ho : o.op = .call { callee := .builtin .copy, args := #[d, s], argTypes := #[dT, sT] }) (elem : TypeId) (hu : P.underlying dT = some (.slice elem)) (hsz : (P.info? elem).map (·.size) = some 1)
    (g off dLen dCap : Nat) (ad : Addr) (sLen sCap : Nat) (hd : a.eval d = .slice (some ⟨g, off, none⟩) dLen dCap) (hs : a.eval s = .slice (some ad) sLen sCap)
    (cur : Array Value) (t : TypeId) (hg : w.heap[g]? = some (.cells cur t (0, 0))) (cs : List Value) (hn : cs.length = Nat.min sLen dLen)
    (hsrc : ∀ j v, cs[j]? = some v → w.cell? (ad.add j) = some v) (hfit : off + cs.length ≤ cur.size) (h1 : ∀ v ∈ cs, v.oneCell' = true)
    (h : K (a.put o.dst (goInt cs.length)) (w.setRow g (splice cur.toList off cs).toArray)) :
    if Region.wanted o (yielded ops a.tmps) = true then Oper.wp P o a w K Q else E := by
  rw [if_pos (by simp [Region.wanted, hgd])]
  have hrun := run_copy_row (P := P) w dT sT o.type elem g off dLen dCap ad sLen sCap cur t cs hu hsz hg hn hsrc hfit h1
  unfold Oper.wp
  simp [execOp, ho, resolve, invoke, builtin, hd, hs, hrun, Result.andThen]
  exact h

/-! ### Rows of bytes -/

/-- A byte's value. -/
def bv (x : UInt8) : Value := .int .u8 (x.toNat : Int)

theorem bv_zero : bv 0 = .int .u8 0 := rfl

/-- c bytes of f from a on. -/
def rowOf (f : Nat → UInt8) (a c : Nat) : List Value := (List.range c).map fun j => bv (f (a + j))
theorem rowOf_len (f : Nat → UInt8) (a c : Nat) : (rowOf f a c).length = c := by simp [rowOf]
theorem rowOf_get (f : Nat → UInt8) (a c : Nat) {j : Nat} (h : j < c) : (rowOf f a c)[j]? = some (bv (f (a + j))) := by
  unfold rowOf
  rw [List.getElem?_map, List.getElem?_range h]; rfl
theorem rowOf_one (f : Nat → UInt8) (a c : Nat) : ∀ v ∈ rowOf f a c, v.oneCell' = true := by
  intro v hv
  obtain ⟨j, -, rfl⟩ := List.mem_map.1 hv
  rfl
theorem rowOf_some {f : Nat → UInt8} {a c j : Nat} {v : Value} (h : (rowOf f a c)[j]? = some v) : j < c ∧ v = bv (f (a + j)) := by
  have hj : j < c := by
    have := (List.getElem?_eq_some_iff.1 h).1
    rwa [rowOf_len] at this
  rw [rowOf_get f a c hj] at h
  exact ⟨hj, by simpa using h.symm⟩
theorem addr_add (g o j : Nat) : (⟨g, o, none⟩ : Addr).add j = ⟨g, o + j, none⟩ := by
  unfold Addr.add
  split
  · rename_i h; subst h; rfl
  · rfl

/-! ### Small things -/

theorem size_alloc (w : World) (o : Obj) : (w.alloc o).heap.size = w.heap.size + 1 := by simp
theorem lt_of_cell {w : World} {p : Addr} {v : Value} (hv : w.cell? p = some v) : p.block < w.heap.size := by
  rcases Nat.lt_or_ge p.block w.heap.size with h1 | h1
  · exact h1
  · simp [World.cell?, Array.getElem?_eq_none h1] at hv
theorem run_min {P : Program} (w : World) (t1 t2 ty : TypeId) (k : IntKind) (m n r : Int) (hr : (m ≤ n ∧ r = m) ∨ (n < m ∧ r = n)) : (Builtin.min_ #[t1, t2] ty #[.int k m, .int k n]).run P w = .ok (.int k r) w := by
  rcases hr with ⟨h1, rfl⟩ | ⟨h1, rfl⟩
  · have h2 : ¬ n < r := by omega
    simp [Builtin.min_, Builtin.min2, h2]
  · simp [Builtin.min_, Builtin.min2, h1]
theorem cells_new3 (w : World) (x y z : Value) (t : TypeId) : ∀ j u, ([x, y, z] : List Value)[j]? = some u → (w.alloc (.cells #[x, y, z] t)).cell? ((⟨w.heap.size, 0, none⟩ : Addr).add j) = some u := by
  intro j u hu
  rw [addr_add, cell_of_heap (heap_alloc_new w _), Nat.zero_add]
  simpa using hu
theorem cells_new2 (w : World) (x y : Value) (t : TypeId) : ∀ j u, ([x, y] : List Value)[j]? = some u → (w.alloc (.cells #[x, y] t)).cell? ((⟨w.heap.size, 0, none⟩ : Addr).add j) = some u := by
  intro j u hu
  rw [addr_add, cell_of_heap (heap_alloc_new w _), Nat.zero_add]
  simpa using hu

end Go.Proofs.YtgbpoaimbjlamaaGreatDoor
