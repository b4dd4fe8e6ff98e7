/-
  What the walk of parse.Text needs: texts in a slice of the call's own; lists that are read. No condition.
-/
import Derived.Test.YtgbpoaimbjlamaaGreatDoorMPz
import Derived.Test.YtgbpoaimbjlamaaGreatDoorMPq
import Derived.Test.YtgbpoaimbjlamaaGreatDoorMPt
import Derived.Deep.AppendLies
import Derived.Deep.RegionLaw
namespace Go.Proofs.YtgbpoaimbjlamaaGreatDoor
open Go.RowKit
set_option linter.unusedVariables false

theorem step_app2 {P : Program} {ops : Array Oper} {o : Oper} {a : Act} {w : World} {K : Act → World → Prop} {Q : Exit → Act → World → Prop} {E : Prop} (hgd : o.guard = none) (s x : Operand) (t : TypeId)
    (ho : o.op = .call { callee := .builtin .append, args := #[s, x], argTypes := #[t, t] })
    (e : TypeId) (i : TypeInfo) (z : Value) (size bytes : Nat) (ht : P.underlying t = some (.slice e)) (hi : P.info? e = some i) (hz : i.zero = some z)
    (hsize : i.size = size) (hby : i.bytes = bytes) (hzs : z.cells.size = size) (hsz : 0 < size)
    (v : Value) (n : Nat) (xs : List Value) (hs : a.eval s = v) (hown : w.ownsRow 0 e size v n xs)
    (ad : Addr) (m c : Nat) (news : List Value) (hx : a.eval x = .slice (some ad) m c) (hl : news.length = m * size) (hnews : ∀ j u, news[j]? = some u → w.cell? (ad.add j) = some u) (h1 : ∀ u ∈ news, u.oneCell' = true)
    (hm : 0 < m) (h63 : n + m ≤ maxLen) (hbytes : (n + m) * bytes ≤ 140737488355328)
    (h : ∀ g cap w', w'.ownsRow 0 e size (.slice (some ⟨g, 0, none⟩) (n + m) cap) (n + m) (xs ++ news) → Mods v.ownBlock.toList w w' → (v.ownBlock = some g ∨ w.heap.size ≤ g) → K (a.put o.dst (.slice (some ⟨g, 0, none⟩) (n + m) cap)) w') :
    if Region.wanted o (yielded ops a.tmps) = true then Oper.wp P o a w K Q else E :=
  step_append_lies w hgd s x t ho 0 e i z size bytes ht hi hz hsize hby hzs hsz v n xs hs hown ad m c news hx hl hnews h1 hm h63 hbytes (Nat.zero_le _) w.heap.size rfl
    (fun g cap w' h1 h2 h3 _ => h g cap w' h1 (Mods.of_grown h2) (h3.imp id (fun e => by omega)))
/-- Texts that are collected, in a slice of the call's own. -/
def StrsOwn (w wr : World) (t : Value) (l : List Bs) : Prop :=
  Mods [] w wr ∧ wr.ownsRow 0 9 1 t l.length (strsV l) ∧ ∀ g, t.ownBlock = some g → w.heap.size ≤ g
theorem StrsOwn.start (w : World) : StrsOwn w w (.slice none 0 0) [] := ⟨Mods.refl _ _, World.ownsRow_nil _ _ _ _, fun g hg => by cases hg⟩
theorem StrsOwn.quiet {w wr w' : World} {t : Value} {l : List Bs} (h : StrsOwn w wr t l) (hM : Mods [] wr w') : StrsOwn w w' t l := ⟨h.1.trans hM (by simp), ownsRow_mods h.2.1 hM (by simp), h.2.2⟩
theorem StrsOwn.push {w wr w' : World} {t : Value} {l : List Bs} (h : StrsOwn w wr t l) {l2 : List Bs} {g cap m : Nat} (hm : l2.length = m) (hown : w'.ownsRow 0 9 1 (.slice (some ⟨g, 0, none⟩) (l.length + m) cap) (l.length + m) (strsV l ++ strsV l2))
    (hM : Mods t.ownBlock.toList wr w') (hg : t.ownBlock = some g ∨ wr.heap.size ≤ g) : StrsOwn w w' (.slice (some ⟨g, 0, none⟩) (l.length + m) cap) (l ++ l2) := by
  refine ⟨h.1.trans hM (fun x hx => .inr (h.2.2 x (by simpa using hx))), ?_, fun g' hg' => ?_⟩
  · have e : strsV (l ++ l2) = strsV l ++ strsV l2 := by simp [strsV]
    rw [e, List.length_append, hm]; exact hown
  · obtain rfl : g = g' := by simpa [Value.ownBlock] using hg'
    rcases hg with h2 | h2
    · exact h.2.2 g h2
    · have := h.1.size; omega
theorem StrsOwn.base {w w1 wr : World} {t : Value} {l : List Bs} (h : StrsOwn w1 wr t l) (hM : Mods [] w w1) : StrsOwn w wr t l := ⟨hM.trans h.1 (by simp), h.2.1, fun g hg => Nat.le_trans hM.size (h.2.2 g hg)⟩
theorem strsV_one (l : List Bs) : ∀ u ∈ strsV l, u.oneCell' = true := by
  intro u hu
  obtain ⟨x, -, rfl⟩ := List.mem_map.1 hu
  rfl
theorem StrsOwn.made (w : World) (l : List Bs) (hl : l.length ≤ 100) (n : Nat) (hn : l.length = n) : StrsOwn w (w.alloc (.cells (strsV l).toArray 9)) (.slice (some ⟨w.heap.size, 0, none⟩) n n) l := by
  subst hn
  exact ⟨(Mods.refl _ _).alloc _, ⟨by rw [strsV_len]; omega, .inr ⟨_, _, _, rfl, Nat.zero_le _, heap_alloc_new w _, Nat.le_refl _, by unfold maxLen; omega, by simp [strsV_len], by
    rw [Nat.mul_one, ← strsV_len l]
    simp⟩⟩, fun g hg => by
    obtain rfl : w.heap.size = g := by simpa [Value.ownBlock] using hg
    exact Nat.le_refl _⟩
/-- Join of such texts. -/
theorem join_own (w wr : World) (t : Value) (l : List Bs) (sep : Bs) (h : StrsOwn w wr t l) (hl : l.length ≤ 140737488355328) (hlen : (Lib.join l sep).length ≤ 140737488355328) :
    Calls Tryz.prog 19 #[t, .string ⟨sep.toArray⟩] wr fun e w' => e = .returned (.string ⟨(Lib.join l sep).toArray⟩) ∧ Mods [] wr w' := by
  rcases h.2.1.2 with ⟨rfl, hn⟩ | ⟨g, cap, cur, rfl, -⟩
  · obtain rfl : l = [] := List.length_eq_zero_iff.1 hn
    exact (Tryz.strings_Join_none none 0 ⟨sep.toArray⟩ wr).mono fun e w' ⟨h1, h2⟩ => ⟨h1, by rw [h2]; exact Mods.refl _ _⟩
  · exact join_any wr l sep g cap l.length rfl hl hlen h.2.1

theorem AllR.at {α : Type} {R : RepR α} {w : World} {L : List Nat} {k : Nat} (hk : ∀ c x, R w L c x → c.length = k) : ∀ {css : List (List Value)} {xs : List α}, AllR R w L css xs → ∀ j (hj : j < xs.length), ∃ c, R w L c xs[j] ∧ ∀ i u, c[i]? = some u → css.flatten[j * k + i]? = some u := by
  intro css
  induction css with
  | nil => intro xs h j hj; cases xs with
    | nil => simp at hj
    | cons x xs => exact h.elim
  | cons c css ih => intro xs h j hj; cases xs with
    | nil => exact h.elim
    | cons x xs =>
      have hl := hk c x h.1
      cases j with
      | zero =>
        refine ⟨c, h.1, fun i u hi => ?_⟩
        have hlt : i < c.length := by
          rcases Nat.lt_or_ge i c.length with h | h
          · exact h
          · rw [List.getElem?_eq_none h] at hi; cases hi
        rw [List.flatten_cons, Nat.zero_mul, Nat.zero_add, List.getElem?_append_left hlt]
        exact hi
      | succ j =>
        obtain ⟨c2, h2, h3⟩ := ih h.2 j (by simpa using hj)
        refine ⟨c2, h2, fun i u hi => ?_⟩
        rw [List.flatten_cons, List.getElem?_append_right (by rw [hl, Nat.add_mul]; omega), hl, show (j + 1) * k + i - k = j * k + i by rw [Nat.add_mul]; omega]
        exact h3 i u hi
theorem ListAt.read {α : Type} {R : RepR α} {w : World} {k : Nat} {v : Value} {l : List α} (hk : ∀ c x, R w [] c x → c.length = k) (h : ListAt R w [] v l) :
    ∃ ao cap, v = .slice ao l.length cap ∧ (0 < l.length → ∃ g, ao = some ⟨g, 0, none⟩ ∧ ∀ j (hj : j < l.length), ∃ c, R w [] c l[j] ∧ ∀ i u, c[i]? = some u → w.cell? ⟨g, j * k + i, none⟩ = some u) := by
  rcases h with ⟨rfl, rfl⟩ | ⟨g, cap, css, rfl, -, -, hc, hA⟩
  · exact ⟨none, 0, rfl, fun h => by simp at h⟩
  · refine ⟨_, _, rfl, fun _ => ⟨g, rfl, fun j hj => ?_⟩⟩
    obtain ⟨c, h1, h2⟩ := AllR.at hk hA j hj
    exact ⟨c, h1, fun i u hi => hc _ u (h2 i u hi)⟩
theorem itemLen {w : World} {L : List Nat} : ∀ c x, ItemR w L c x → c.length = 2 := fun c x ⟨b, h, _⟩ => by rw [h]; rfl
theorem treeLen {w : World} {L : List Nat} : ∀ c x, TreeR w L c x → c.length = 1 := fun c x ⟨b, h, _⟩ => by rw [h]; rfl
theorem keyLen {w : World} {L : List Nat} : ∀ c x, KeyR w L c x → c.length = 4 := fun c x h => by unfold KeyR at h; rw [h]; rfl
theorem cat2 (a b : Bs) : (⟨a.toArray⟩ : ByteArray) ++ ⟨b.toArray⟩ = ⟨(a ++ b).toArray⟩ := by
  apply ByteArray.ext; apply Array.toList_inj.1; simp [ByteArray.data_append]
theorem itoa_any (n : Int) (h0 : -9223372036854775808 ≤ n) (h1 : n ≤ 9223372036854775807) (w : World) (hT : Pow w) : Calls Tryz.prog 20 #[.int .i64 n] w fun e w' => e = .returned (.string ⟨(Lib.itoa n).toArray⟩) ∧ Mods [] w w' :=
  (Tryz.strconv_Itoa n h0 h1 w hT).mono fun e w' he => by
    obtain ⟨rfl, k, os, rfl⟩ := he
    exact ⟨rfl, Mods.of_below (Lib.below_grow w.heap.size w (Nat.le_refl _) k os) (Nat.le_refl _) []⟩
theorem show_opt {w W : World} {v : Value} {o : Option Tree} (hT : Pow W) (h : OptAt w [] v o) (hM : Mods [] w W) (hf : ∀ t, o = some t → TreeFine t) : Calls Tryz.prog 15 #[v] W fun e w' => e = .returned (.string ⟨(showO o).toArray⟩) ∧ Mods [] W w' := by
  cases o with
  | none => rw [show v = .pointer none from h]; exact show_nil W
  | some t =>
    obtain ⟨b, rfl, hE⟩ := h
    exact show_any t W (PtrV b) hT (hE.mods hM) (hf t rfl)
theorem OptAt.ptr {w : World} {L : List Nat} {v : Value} {o : Option Tree} (h : OptAt w L v o) : ∃ p, v = .pointer p ∧ (p.isSome = o.isSome) := by
  cases o with
  | none => exact ⟨none, h, rfl⟩
  | some t => obtain ⟨b, rfl, -⟩ := h; exact ⟨_, rfl, rfl⟩
end Go.Proofs.YtgbpoaimbjlamaaGreatDoor
