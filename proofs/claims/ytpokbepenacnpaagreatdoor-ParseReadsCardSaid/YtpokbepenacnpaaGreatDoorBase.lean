/-
  Plain lemmas that every text of this seat uses: worlds that keep their old blocks, small maps that a call makes itself, bytes. They speak of no program; no conditions.
-/
import Derived.WalkKit
import Derived.WalkLawsBesides
import Derived.WalkSpells
import Derived.MapKept
import Derived.Laws.CopyOwn
namespace Go.Proofs.YtpokbepenacnpaaGreatDoor
open Go.RowKit

/-! ### A map that the call itself has just made -/

/-! ### Endings -/

theorem ret_int {k : IntKind} {a b : Int} (h : a = b) : Ending.returned (.int k a) = .returned (.int k b) := by rw [h]

/-! ### Worlds: which old blocks may have changed -/

/-- Of the blocks that were there at most those in L have changed; the streams are as they were. -/
structure Mods (L : List Nat) (w w' : World) : Prop where
  os : w'.os = w.os
  tape : w'.tape = w.tape
  output : w'.output = w.output
  size : w.heap.size ≤ w'.heap.size
  block : ∀ k, k < w.heap.size → k ∉ L → w'.heap[k]? = w.heap[k]?

theorem Mods.refl (L : List Nat) (w : World) : Mods L w w := ⟨rfl, rfl, rfl, Nat.le_refl _, fun _ _ _ => rfl⟩
theorem Mods.trans {L L' : List Nat} {a b c : World} (h : Mods L a b) (k : Mods L' b c) (hs : ∀ x ∈ L', x ∈ L ∨ a.heap.size ≤ x) : Mods L a c :=
  ⟨k.os.trans h.os, k.tape.trans h.tape, k.output.trans h.output, Nat.le_trans h.size k.size, fun i hi hn =>
    (k.block i (Nat.lt_of_lt_of_le hi h.size) (fun hm => by rcases hs i hm with h1 | h1; exact hn h1; omega)).trans (h.block i hi hn)⟩
theorem Mods.mono {L L' : List Nat} {a b : World} (h : Mods L a b) (hs : ∀ x ∈ L, x ∈ L' ∨ a.heap.size ≤ x) : Mods L' a b :=
  (Mods.refl L' a).trans h hs
theorem Mods.of_below {B : Nat} {w w' : World} (h : Below B w w') (hB : w.heap.size ≤ B) (L : List Nat) : Mods L w w' :=
  ⟨h.os, h.tape, h.output, h.size, fun k hk _ => h.block k (by omega)⟩
theorem Mods.below {L : List Nat} {w w' : World} (h : Mods L w w') (B : Nat) (hB : B ≤ w.heap.size) (hL : ∀ x ∈ L, B ≤ x) : Below B w w' :=
  ⟨h.os, h.tape, h.output, h.size, fun k hk => h.block k (by omega) (fun hm => by have := hL k hm; omega)⟩
theorem Mods.drew {L : List Nat} {a w : World} (h : Mods L a w) : Mods L a w.drew := ⟨h.os, h.tape, h.output, h.size, h.block⟩
theorem Mods.drewN {L : List Nat} {a w : World} (h : Mods L a w) (n : Nat) : Mods L a (w.drewN n) := ⟨h.os, h.tape, h.output, h.size, h.block⟩
theorem Mods.alloc {L : List Nat} {a w : World} (h : Mods L a w) (o : Obj) : Mods L a (w.alloc o) :=
  h.trans (L' := []) ⟨rfl, rfl, rfl, by simp, fun k hk _ => Below.heap_alloc _ _ _ hk⟩ (by simp)
theorem Mods.setCell {L : List Nat} {a w : World} (h : Mods L a w) {p : Addr} (hp : p.block ∈ L ∨ a.heap.size ≤ p.block) (u : Value) : Mods L a (w.setCell p u) :=
  h.trans (L' := [p.block]) ⟨rfl, rfl, rfl, by simp [World.setCell], fun k hk hn => Below.heap_setCell _ _ _ _ (by simpa using hn)⟩ (by simpa using hp)
theorem Mods.heap {L : List Nat} {w w' : World} (h : Mods L w w') {k : Nat} {o : Obj} (hk : w.heap[k]? = some o) (hn : k ∉ L) : w'.heap[k]? = some o := by
  rw [h.block k ?_ hn]; exact hk
  rcases Nat.lt_or_ge k w.heap.size with h1 | h1
  · exact h1
  · rw [Array.getElem?_eq_none h1] at hk; cases hk
theorem Mods.cell {L : List Nat} {w w' : World} (h : Mods L w w') {p : Addr} {v : Value} (hv : w.cell? p = some v) (hn : p.block ∉ L) : w'.cell? p = some v := by
  have hlt : p.block < w.heap.size := by
    rcases Nat.lt_or_ge p.block w.heap.size with h1 | h1
    · exact h1
    · simp [World.cell?, Array.getElem?_eq_none h1] at hv
  rw [World.cell?_of_block (h.block p.block hlt hn)]; exact hv

theorem lt_size_of_heap {w : World} {k : Nat} {o : Obj} (hk : w.heap[k]? = some o) : k < w.heap.size := (Array.getElem?_eq_some_iff.1 hk).1

theorem cell_of_heap {w : World} {g : Nat} {arr : Array Value} {t : TypeId} {fr : Nat × Nat} (h : w.heap[g]? = some (.cells arr t fr)) (o : Nat) : w.cell? ⟨g, o, none⟩ = arr[o]? := by
  simp [World.cell?, h]
theorem frozen_of_heap {w : World} {g : Nat} {arr : Array Value} {t : TypeId} (h : w.heap[g]? = some (.cells arr t (0, 0))) (o : Nat) : w.frozen? ⟨g, o, none⟩ = false := by
  simp [World.frozen?, h]
theorem heap_setCell_same {w : World} {g : Nat} {arr : Array Value} {t : TypeId} {fr : Nat × Nat} (h : w.heap[g]? = some (.cells arr t fr)) (o : Nat) (u : Value) :
    (w.setCell ⟨g, o, none⟩ u).heap[g]? = some (.cells (arr.setIfInBounds o u) t fr) := by
  simp [World.setCell, Array.getElem?_modify, h]

theorem cell_setCell_same {w : World} {g o : Nat} {u v : Value} (h : w.cell? ⟨g, o, none⟩ = some u) : (w.setCell ⟨g, o, none⟩ v).cell? ⟨g, o, none⟩ = some v := by
  unfold World.cell? at h
  split at h
  · rename_i c t fr hg
    have hlt : o < c.size := by
      rcases Nat.lt_or_ge o c.size with h1 | h1
      · exact h1
      · simp [Array.getElem?_eq_none h1] at h
    rw [cell_of_heap (heap_setCell_same hg o v)]
    simp [hlt]
  · cases h

/-! ### Slices that the call itself makes and appends to -/

theorem Mods.of_grown {w w' : World} {row : Option Nat} (h : w.grownBy w' row) : Mods row.toList w w' :=
  ⟨h.os, h.tape, h.output, h.size, fun k hk hn => h.block k hk (fun e => hn (by simp [← e]))⟩

theorem ownsRow_mods {L : List Nat} {w w' : World} {e : TypeId} {size : Nat} {v : Value} {n : Nat} {xs : List Value} (h : w.ownsRow 0 e size v n xs) (hm : Mods L w w') (hn : ∀ g, v.ownBlock = some g → g ∉ L) :
    w'.ownsRow 0 e size v n xs := by
  refine ⟨h.1, ?_⟩
  rcases h.2 with h2 | ⟨g, cap, cur, rfl, hb, hg, r⟩
  · exact .inl h2
  · exact .inr ⟨g, cap, cur, rfl, hb, hm.heap hg (hn g rfl), r⟩

theorem ownsRow_lt {w : World} {e : TypeId} {size : Nat} {v : Value} {n : Nat} {xs : List Value} (h : w.ownsRow 0 e size v n xs) : ∀ g ∈ v.ownBlock.toList, g < w.heap.size := by
  intro g hg
  exact (h.lt g (by simpa using hg)).2

/-- 'append' to a slice of the call's own: it stays in its block, or moves to a new one. -/
theorem wpList_app {P : Program} (w : World) {ops : Array Oper} {rest : List Oper} {o : Oper} {a : Act} {Q : Exit → Act → World → Prop}
    (hgd : o.guard = none) (s x : Operand) (t : TypeId) (ho : o.op = .call { callee := .builtin .append, args := #[s, x], argTypes := #[t, t] })
    (e : TypeId) (i : TypeInfo) (z : Value) (size bytes : Nat) (ht : P.underlying t = some (.slice e)) (hi : P.info? e = some i) (hz : i.zero = some z)
    (hsize : i.size = size) (hby : i.bytes = bytes) (hzs : z.cells.size = size) (hsz : 0 < size)
    (v : Value) (n : Nat) (xs : List Value) (hs : a.eval s = v) (hown : w.ownsRow 0 e size v n xs)
    (ad : Addr) (m c : Nat) (news : List Value) (hx : a.eval x = .slice (some ad) m c) (hl : news.length = m * size) (hnews : ∀ j u, news[j]? = some u → w.cell? (ad.add j) = some u) (h1 : ∀ u ∈ news, u.oneCell' = true)
    (hm : 0 < m) (h63 : n + m ≤ maxLen) (hbytes : (n + m) * bytes ≤ 140737488355328)
    (hK : ∀ g cap w', w'.ownsRow 0 e size (.slice (some ⟨g, 0, none⟩) (n + m) cap) (n + m) (xs ++ news) → Mods v.ownBlock.toList w w' → (v.ownBlock = some g ∨ w.heap.size ≤ g) →
      wpList P ops Q rest (a.put o.dst (.slice (some ⟨g, 0, none⟩) (n + m) cap)) w') : wpList P ops Q (o :: rest) a w := by
  have grows : ∀ (ao : Option Addr) (cap : Nat), v = .slice ao n cap → (ao = none → n = 0 ∧ cap = 0) → (∀ b, ao = some b → ∀ j u, xs[j]? = some u → w.cell? (b.add j) = some u) → cap < n + m → wpList P ops Q (o :: rest) a w := by
    intro ao cap hv hnone holds hfull
    refine wpList_append_grows w hgd s x t ho e i z size bytes ht hi hz hsize hby hzs hsz ao n cap xs (hs.trans hv) hnone hown.1 holds ad m c news hx hl hnews h1 hfull h63 hbytes ?_
    intro v' w' hown' hgr
    rcases hown'.2 with ⟨_, h0⟩ | ⟨g, cap', cur, rfl, hb, r⟩
    · omega
    · refine hK g cap' w' ⟨hown'.1, .inr ⟨g, cap', cur, rfl, Nat.zero_le _, r⟩⟩ ((Mods.of_grown hgr).mono (by simp)) (.inr hb)
  rcases hown.2 with ⟨hv, hn0⟩ | ⟨g, cap, cur, hv, hb, hg, r⟩
  · exact grows none 0 (by rw [hv, hn0]) (fun _ => ⟨hn0, rfl⟩) (fun b hb => by cases hb) (by omega)
  · by_cases hroom : n + m ≤ cap
    · refine wpList_append_fits w hgd s x t ho 0 e i size ht hi hsize g n cap xs (hs.trans hv) (hv ▸ hown) ad m c news hx hl hnews h1 hroom ?_
      intro w' hown' hgr
      refine hK g cap w' hown' ?_ (.inl (by simp [hv, Value.ownBlock]))
      have := Mods.of_grown hgr
      simpa [hv, Value.ownBlock] using this
    · exact grows (some ⟨g, 0, none⟩) cap hv (by simp) (fun b hb => by simp at hb; subst hb; exact hown.cells (by simp [hv, Value.ownBlock])) (by omega)

/-! ### min of two, without parting the walk -/

/-! ### copy into a row that is known whole -/

theorem Mods.setRow {L : List Nat} {a w : World} (h : Mods L a w) {g : Nat} (hg : g ∈ L ∨ a.heap.size ≤ g) (cs : Array Value) : Mods L a (w.setRow g cs) :=
  h.trans (L' := [g]) ⟨rfl, rfl, rfl, by simp [World.setRow], fun k hk hn => setRow_other w g k cs (by simpa using hn)⟩ (by simpa using hg)

/-! ### Rows of bytes -/

/-- A byte's value. -/
def bv (x : UInt8) : Value := .int .u8 (x.toNat : Int)

/-- c bytes of f from a on. -/
def rowOf (f : Nat → UInt8) (a c : Nat) : List Value := (List.range c).map fun j => bv (f (a + j))
theorem addr_add (g o j : Nat) : (⟨g, o, none⟩ : Addr).add j = ⟨g, o + j, none⟩ := by
  unfold Addr.add
  split
  · rename_i h; subst h; rfl
  · rfl

/-! ### Small things -/

theorem size_alloc (w : World) (o : Obj) : (w.alloc o).heap.size = w.heap.size + 1 := by simp
theorem lt_of_cell {w : World} {p : Addr} {v : Value} (hv : w.cell? p = some v) : p.block < w.heap.size := by
  rcases Nat.lt_or_ge p.block w.heap.size with h1 | h1
  · exact h1
  · simp [World.cell?, Array.getElem?_eq_none h1] at hv
theorem run_min {P : Program} (w : World) (t1 t2 ty : TypeId) (k : IntKind) (m n r : Int) (hr : (m ≤ n ∧ r = m) ∨ (n < m ∧ r = n)) : (Builtin.min_ #[t1, t2] ty #[.int k m, .int k n]).run P w = .ok (.int k r) w := by
  rcases hr with ⟨h1, rfl⟩ | ⟨h1, rfl⟩
  · have h2 : ¬ n < r := by omega
    simp [Builtin.min_, Builtin.min2, h2]
  · simp [Builtin.min_, Builtin.min2, h1]
end Go.Proofs.YtpokbepenacnpaaGreatDoor
