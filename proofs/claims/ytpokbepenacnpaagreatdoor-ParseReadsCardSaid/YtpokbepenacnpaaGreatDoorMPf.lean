/-
  What the walk of parse.Text needs: texts in a slice of the call's own; lists that are read. No condition.
-/
import Derived.Test.YtpokbepenacnpaaGreatDoorMPz
import Derived.Test.YtpokbepenacnpaaGreatDoorMPq
import Derived.Test.YtpokbepenacnpaaGreatDoorMPt
import Derived.Deep.AppendLies
import Derived.Deep.RegionLaw
import Derived.Deep.CutRange
namespace Go.Proofs.YtpokbepenacnpaaGreatDoor
open Go.RowKit
set_option linter.unusedVariables false

theorem step_app2 {P : Program} {ops : Array Oper} {o : Oper} {a : Act} {w : World} {K : Act → World → Prop} {Q : Exit → Act → World → Prop} {E : Prop} (hgd : o.guard = none) (s x : Operand) (t : TypeId)
    (ho : o.op = .call { callee := .builtin .append, args := #[s, x], argTypes := #[t, t] })
    (e : TypeId) (i : TypeInfo) (z : Value) (size bytes : Nat) (ht : P.underlying t = some (.slice e)) (hi : P.info? e = some i) (hz : i.zero = some z)
    (hsize : i.size = size) (hby : i.bytes = bytes) (hzs : z.cells.size = size) (hsz : 0 < size)
    (v : Value) (n : Nat) (xs : List Value) (hs : a.eval s = v) (hown : w.ownsRow 0 e size v n xs)
    (ad : Addr) (m c : Nat) (news : List Value) (hx : a.eval x = .slice (some ad) m c) (hl : news.length = m * size) (hnews : ∀ j u, news[j]? = some u → w.cell? (ad.add j) = some u) (h1 : ∀ u ∈ news, u.oneCell' = true)
    (hm : 0 < m) (h63 : n + m ≤ maxLen) (hbytes : (n + m) * bytes ≤ 140737488355328)
    (h : ∀ g cap w', w'.ownsRow 0 e size (.slice (some ⟨g, 0, none⟩) (n + m) cap) (n + m) (xs ++ news) → Mods v.ownBlock.toList w w' → (v.ownBlock = some g ∨ w.heap.size ≤ g) → K (a.put o.dst (.slice (some ⟨g, 0, none⟩) (n + m) cap)) w') :
    if Region.wanted o (yielded ops a.tmps) = true then Oper.wp P o a w K Q else E :=
  step_append_lies w hgd s x t ho 0 e i z size bytes ht hi hz hsize hby hzs hsz v n xs hs hown ad m c news hx hl hnews h1 hm h63 hbytes (Nat.zero_le _) w.heap.size rfl
    (fun g cap w' h1 h2 h3 _ => h g cap w' h1 (Mods.of_grown h2) (h3.imp id (fun e => by omega)))
/-- Texts that are collected, in a slice of the call's own. -/
def StrsOwn (w wr : World) (t : Value) (l : List Bs) : Prop :=
  Mods [] w wr ∧ wr.ownsRow 0 9 1 t l.length (strsV l) ∧ ∀ g, t.ownBlock = some g → w.heap.size ≤ g
theorem StrsOwn.start (w : World) : StrsOwn w w (.slice none 0 0) [] := ⟨Mods.refl _ _, World.ownsRow_nil _ _ _ _, fun g hg => by cases hg⟩
theorem StrsOwn.quiet {w wr w' : World} {t : Value} {l : List Bs} (h : StrsOwn w wr t l) (hM : Mods [] wr w') : StrsOwn w w' t l := ⟨h.1.trans hM (by simp), ownsRow_mods h.2.1 hM (by simp), h.2.2⟩
theorem StrsOwn.push {w wr w' : World} {t : Value} {l : List Bs} (h : StrsOwn w wr t l) {l2 : List Bs} {g cap m : Nat} (hm : l2.length = m) (hown : w'.ownsRow 0 9 1 (.slice (some ⟨g, 0, none⟩) (l.length + m) cap) (l.length + m) (strsV l ++ strsV l2))
    (hM : Mods t.ownBlock.toList wr w') (hg : t.ownBlock = some g ∨ wr.heap.size ≤ g) : StrsOwn w w' (.slice (some ⟨g, 0, none⟩) (l.length + m) cap) (l ++ l2) := by
  refine ⟨h.1.trans hM (fun x hx => .inr (h.2.2 x (by simpa using hx))), ?_, fun g' hg' => ?_⟩
  · have e : strsV (l ++ l2) = strsV l ++ strsV l2 := by simp [strsV]
    rw [e, List.length_append, hm]; exact hown
  · obtain rfl : g = g' := by simpa [Value.ownBlock] using hg'
    rcases hg with h2 | h2
    · exact h.2.2 g h2
    · have := h.1.size; omega
theorem StrsOwn.base {w w1 wr : World} {t : Value} {l : List Bs} (h : StrsOwn w1 wr t l) (hM : Mods [] w w1) : StrsOwn w wr t l := ⟨hM.trans h.1 (by simp), h.2.1, fun g hg => Nat.le_trans hM.size (h.2.2 g hg)⟩
theorem strsV_one (l : List Bs) : ∀ u ∈ strsV l, u.oneCell' = true := by
  intro u hu
  obtain ⟨x, -, rfl⟩ := List.mem_map.1 hu
  rfl
theorem StrsOwn.made (w : World) (l : List Bs) (hl : l.length ≤ 100) (n : Nat) (hn : l.length = n) : StrsOwn w (w.alloc (.cells (strsV l).toArray 9)) (.slice (some ⟨w.heap.size, 0, none⟩) n n) l := by
  subst hn
  exact ⟨(Mods.refl _ _).alloc _, ⟨by rw [strsV_len]; omega, .inr ⟨_, _, _, rfl, Nat.zero_le _, heap_alloc_new w _, Nat.le_refl _, by unfold maxLen; omega, by simp [strsV_len], by
    rw [Nat.mul_one, ← strsV_len l]
    simp⟩⟩, fun g hg => by
    obtain rfl : w.heap.size = g := by simpa [Value.ownBlock] using hg
    exact Nat.le_refl _⟩
/-- Join of such texts. -/
theorem join_own (w wr : World) (t : Value) (l : List Bs) (sep : Bs) (h : StrsOwn w wr t l) (hl : l.length ≤ 140737488355328) (hlen : (Lib.join l sep).length ≤ 140737488355328) :
    Calls Tryz.prog 34 #[t, .string ⟨sep.toArray⟩] wr fun e w' => e = .returned (.string ⟨(Lib.join l sep).toArray⟩) ∧ Mods [] wr w' := by
  rcases h.2.1.2 with ⟨rfl, hn⟩ | ⟨g, cap, cur, rfl, -⟩
  · obtain rfl : l = [] := List.length_eq_zero_iff.1 hn
    exact (Tryz.strings_Join_none none 0 ⟨sep.toArray⟩ wr).mono fun e w' ⟨h1, h2⟩ => ⟨h1, by rw [h2]; exact Mods.refl _ _⟩
  · exact join_any wr l sep g cap l.length rfl hl hlen h.2.1

theorem AllR.at {α : Type} {R : RepR α} {w : World} {L : List Nat} {k : Nat} (hk : ∀ c x, R w L c x → c.length = k) : ∀ {css : List (List Value)} {xs : List α}, AllR R w L css xs → ∀ j (hj : j < xs.length), ∃ c, R w L c xs[j] ∧ ∀ i u, c[i]? = some u → css.flatten[j * k + i]? = some u := by
  intro css
  induction css with
  | nil => intro xs h j hj; cases xs with
    | nil => simp at hj
    | cons x xs => exact h.elim
  | cons c css ih => intro xs h j hj; cases xs with
    | nil => exact h.elim
    | cons x xs =>
      have hl := hk c x h.1
      cases j with
      | zero =>
        refine ⟨c, h.1, fun i u hi => ?_⟩
        have hlt : i < c.length := by
          rcases Nat.lt_or_ge i c.length with h | h
          · exact h
          · rw [List.getElem?_eq_none h] at hi; cases hi
        rw [List.flatten_cons, Nat.zero_mul, Nat.zero_add, List.getElem?_append_left hlt]
        exact hi
      | succ j =>
        obtain ⟨c2, h2, h3⟩ := ih h.2 j (by simpa using hj)
        refine ⟨c2, h2, fun i u hi => ?_⟩
        rw [List.flatten_cons, List.getElem?_append_right (by rw [hl, Nat.add_mul]; omega), hl, show (j + 1) * k + i - k = j * k + i by rw [Nat.add_mul]; omega]
        exact h3 i u hi
theorem ListAt.read {α : Type} {R : RepR α} {w : World} {k : Nat} {v : Value} {l : List α} (hk : ∀ c x, R w [] c x → c.length = k) (h : ListAt R w [] v l) :
    ∃ ao cap, v = .slice ao l.length cap ∧ (0 < l.length → ∃ g, ao = some ⟨g, 0, none⟩ ∧ ∀ j (hj : j < l.length), ∃ c, R w [] c l[j] ∧ ∀ i u, c[i]? = some u → w.cell? ⟨g, j * k + i, none⟩ = some u) := by
  rcases h with ⟨rfl, rfl⟩ | ⟨g, cap, css, rfl, -, -, hc, hA⟩
  · exact ⟨none, 0, rfl, fun h => by simp at h⟩
  · refine ⟨_, _, rfl, fun _ => ⟨g, rfl, fun j hj => ?_⟩⟩
    obtain ⟨c, h1, h2⟩ := AllR.at hk hA j hj
    exact ⟨c, h1, fun i u hi => hc _ u (h2 i u hi)⟩
theorem itemLen {w : World} {L : List Nat} : ∀ c x, ItemR w L c x → c.length = 2 := fun c x ⟨b, h, _⟩ => by rw [h]; rfl
theorem treeLen {w : World} {L : List Nat} : ∀ c x, TreeR w L c x → c.length = 1 := fun c x ⟨b, h, _⟩ => by rw [h]; rfl
theorem keyLen {w : World} {L : List Nat} : ∀ c x, KeyR w L c x → c.length = 4 := fun c x h => by unfold KeyR at h; rw [h]; rfl
theorem cat2 (a b : Bs) : (⟨a.toArray⟩ : ByteArray) ++ ⟨b.toArray⟩ = ⟨(a ++ b).toArray⟩ := by
  apply ByteArray.ext; apply Array.toList_inj.1; simp [ByteArray.data_append]
theorem itoa_any (n : Int) (h0 : -9223372036854775808 ≤ n) (h1 : n ≤ 9223372036854775807) (w : World) (hT : Pow w) : Calls Tryz.prog 35 #[.int .i64 n] w fun e w' => e = .returned (.string ⟨(Lib.itoa n).toArray⟩) ∧ Mods [] w w' :=
  (Tryz.strconv_Itoa n h0 h1 w hT).mono fun e w' he => by
    obtain ⟨rfl, k, os, rfl⟩ := he
    exact ⟨rfl, Mods.of_below (Lib.below_grow w.heap.size w (Nat.le_refl _) k os) (Nat.le_refl _) []⟩
theorem show_opt {w W : World} {v : Value} {o : Option Tree} (hT : Pow W) (h : OptAt w [] v o) (hM : Mods [] w W) (hf : ∀ t, o = some t → TreeFine t) : Calls Tryz.prog 24 #[v] W fun e w' => e = .returned (.string ⟨(showO o).toArray⟩) ∧ Mods [] W w' := by
  cases o with
  | none => rw [show v = .pointer none from h]; exact show_nil W
  | some t =>
    obtain ⟨b, rfl, hE⟩ := h
    exact show_any t W (PtrV b) hT (hE.mods hM) (hf t rfl)
theorem OptAt.ptr {w : World} {L : List Nat} {v : Value} {o : Option Tree} (h : OptAt w L v o) : ∃ p, v = .pointer p ∧ (p.isSome = o.isSome) := by
  cases o with
  | none => exact ⟨none, h, rfl⟩
  | some t => obtain ⟨b, rfl, -⟩ := h; exact ⟨_, rfl, rfl⟩
end Go.Proofs.YtpokbepenacnpaaGreatDoor

namespace Go.Proofs.YtpokbepenacnpaaGreatDoor
open Go.RowKit
set_option linter.unusedVariables false

set_option maxRecDepth 100000 in
set_option maxHeartbeats 8000000 in
theorem queryText_any (w : World) (qb : Nat) (q : QueryT) (hT : Pow w) (hq : QueryAt w [] qb q) (hok : QueryOk q) :
    Calls Tryz.prog 13 #[PtrV qb] w fun e w' => e = .returned (.string ⟨(queryS q).toArray⟩) ∧ Mods [] w w' := by
  obtain ⟨i0, hi, hz0, hz1, hz2⟩ := info_parts (show (Tryz.prog.info? 9).map (fun i => (i.zero, i.size, i.bytes)) = some (some (.string ⟨#[]⟩), 1, 16) by kernel_rfl)
  obtain ⟨vi, von, vwh, vg, vo, hb, hp1, hp2, hp3, hp4, hp5⟩ := hq
  obtain ⟨ai, ci, rfl, hai⟩ := hp1.read itemLen
  obtain ⟨ag, cg, rfl, hag⟩ := hp4.read treeLen
  obtain ⟨ao, co, rfl, hao⟩ := hp5.read keyLen
  obtain ⟨wp, rfl, hwp⟩ := hp3.ptr
  have hn1 := hok.items.1
  have hn2 := hok.group.1
  have hn3 := hok.order.1
  have HB : Hid (∀ W, Mods [] w W → W.heap[qb]? = some (.cells (queryC q (.slice ai q.items.length ci) von (.pointer wp) (.slice ag q.group.length cg) (.slice ao q.order.length co)).toArray 93 (0, 0))) := Lib.hid fun W hM => hM.heap hb (by simp)
  have HP : Hid (∀ W, Mods [] w W → Pow W) := Lib.hid fun W hM => hT.later hM
  have HA := Lib.hid (And.intro hai (And.intro hag (And.intro hao (And.intro hp2 (And.intro hp3 hwp)))))
  have HK := Lib.hid hok
  have hsm := t7_small hok
  have HLE := Lib.hid (tlen hok)
  have hsi := items_join_small hok
  have hbi := (itemsL_bound hok).1
  have HN := Lib.hid (And.intro hsm (And.intro hsi hbi))
  unfold PtrV at *
  clear hb hT hai hag hao hp1 hp2 hp3 hp4 hp5 hwp hok hsm hsi hbi
  obtain ⟨R, hR⟩ : ∃ R : Bs, queryS q = R := ⟨_, rfl⟩
  rw [hR]
  have HR := Lib.hid hR
  clear hR
  obtain ⟨n1, hnn1⟩ : ∃ n, q.items.length = n := ⟨_, rfl⟩
  obtain ⟨n2, hnn2⟩ : ∃ n, q.group.length = n := ⟨_, rfl⟩
  obtain ⟨n3, hnn3⟩ : ∃ n, q.order.length = n := ⟨_, rfl⟩
  rw [hnn1] at HB hn1
  rw [hnn2] at HB hn2
  rw [hnn3] at HB hn3
  have HNN := Lib.hid (And.intro hnn1 (And.intro hnn2 hnn3))
  clear hnn1 hnn2 hnn3
  obtain ⟨st, hst⟩ : ∃ st, q.star = st := ⟨_, rfl⟩
  have c0 := cell_of_heap (HB.out w (Mods.refl _ _)) 0
  change w.cell? _ = some (.bool q.star) at c0
  rw [hst] at c0
  have hsl : starL q = if st = true then [[42]] else [] := by unfold starL; rw [hst]
  have HSL := Lib.hid hsl
  have HST0 := Lib.hid (StrsOwn.start w)
  clear hst hsl
  go_enter Tryz.func13, Tryz.ntmps13
  go_upto_if 16 with fail
  go_cut [3] from 17 to 19 (fun s3 wx => StrsOwn w wx s3 (starL q))
  case first =>
    cases st with
    | false =>
      have hsl : starL q = [] := by rw [HSL.out]; rfl
      go_wp2_with fail
      go_meet
      rw [hsl]
      exact HST0.out
    | true =>
      have hsl : starL q = [] ++ [[42]] := by rw [HSL.out]; rfl
      have HSL2 := Lib.hid hsl
      clear hsl
      have hOa := HST0.out.quiet ((Mods.refl [] w).alloc (.cells #[.string ⟨#[42]⟩] 9))
      have hownA := hOa.2.1
      have HOa := Lib.hid hOa
      clear hOa
      go_wp2_with (at_builtin; refine wpList_app _ rfl _ _ 57 rfl 9 i0 _ 1 16 Tryz.underlying57 hi hz0 hz1 hz2 rfl (by decide) (.slice none 0 0) (([] : List Bs)).length (strsV (([] : List Bs))) rfl hownA ⟨w.heap.size, 0, none⟩ 1 1 (strsV [[42]]) rfl rfl ?ca1 (strsV_one _) (by decide) ?cb1 ?cc1 ?_)
      case ca1 => first | exact cells_lit w #[.string ⟨#[42]⟩] _ | exact fun j u h => h
      first | (case cb1 => unfold maxLen; omega) | skip
      first | (case cc1 => omega) | skip
      intro g5 cap5 w5 hown5 hM5 hg5
      have hO5 := HOa.out.push (l2 := [[42]]) (m := 1) rfl hown5 hM5 (by first | exact hg5 | (rw [size_alloc]; exact hg5))
      have HO5 := Lib.hid hO5
      clear hown5 hM5 hg5 hO5 HOa hownA
      go_wp2_with fail
      go_meet
      rw [HSL2.out]
      exact HO5.out
  case rest =>
  have HS1 := Lib.hid hcut
  clear hcut HST0 HSL c0
  generalize wc = V1 at *
  -- ITEMS
  have hMV := HS1.out.1
  have c1 := cell_of_heap (HB.out V1 hMV) 1
  change V1.cell? _ = some (.slice ai n1 ci) at c1
  go_wp2_with fail
  go_loopg [3, 25] n1 (fun gk t3 t25 wr => ∃ i : Nat, i + gk = n1 ∧ t25 = .int .i64 i ∧ StrsOwn w wr t3 (starL q ++ (q.items.take i).map itemS))
  case atStart => exact ⟨0, by omega, rfl, by simpa using HS1.out⟩
  clear HS1 c1 hMV
  obtain ⟨i, hin, rfl, hO⟩ := hrel
  have hMr := hO.1
  rcases Nat.lt_or_ge i n1 with hlt | hge
  · have hiq : i < q.items.length := by rw [HNN.out.1]; exact hlt
    obtain ⟨g, rfl, hcs⟩ := HA.out.1 (by omega)
    obtain ⟨c, ⟨b, hcb, hE⟩, hcell⟩ := hcs i hiq
    rw [hcb] at hcell
    have k0 := hMr.cell (hcell 0 _ rfl) (by simp)
    have k1 := hMr.cell (hcell 1 _ rfl) (by simp)
    rw [Nat.add_zero] at k0
    obtain ⟨L, hL⟩ : ∃ L, starL q ++ (q.items.take i).map itemS = L := ⟨_, rfl⟩
    have hLl : L.length ≤ 10002 := by
      rw [← hL]
      have : (starL q).length ≤ 1 := by unfold starL; split <;> simp
      simp
      omega
    have htk : starL q ++ (q.items.take (i + 1)).map itemS = L ++ [itemS q.items[i]] := by rw [← hL, List.take_succ_eq_append_getElem hiq, List.map_append, List.append_assoc]; rfl
    have hfi := HK.out.items.2 q.items[i] (List.getElem_mem hiq)
    rw [hL] at hO
    generalize q.items[i] = it at *
    have hz := (Mods.refl [] wr).alloc (.cells #[.pointer (some ⟨b, 0, none⟩), .string ⟨it.name.toArray⟩] 102)
    have hx := heap_alloc_new wr (.cells #[.pointer (some ⟨b, 0, none⟩), .string ⟨it.name.toArray⟩] 102)
    have x0 := cell_of_heap hx 0
    have x1 := cell_of_heap hx 1
    have hMz := hMr.trans hz (by simp)
    have hsh := show_any it.e _ (PtrV b) (HP.out _ hMz) (hE.mods hMz) hfi.1
    have hOz := hO.quiet hz
    have HOz := Lib.hid hOz
    have HTK := Lib.hid (And.intro htk (And.intro hfi hL))
    unfold PtrV at *
    change (wr.alloc (.cells #[.pointer (some ⟨b, 0, none⟩), .string ⟨it.name.toArray⟩] 102)).cell? _ = some (.pointer (some ⟨b, 0, none⟩)) at x0
    change (wr.alloc (.cells #[.pointer (some ⟨b, 0, none⟩), .string ⟨it.name.toArray⟩] 102)).cell? _ = some (.string ⟨it.name.toArray⟩) at x1
    clear hcs hcell hcb hE htk hfi hL hO hOz hMz hz hx hMr
    go_wp2_with fail
    (with_reducible refine hsh.mono ?_)
    rintro e w2 ⟨rfl, hM2⟩
    have y1 := hM2.cell x1 (by simp)
    have hO2 := HOz.out.quiet hM2
    have HO2 := Lib.hid hO2
    obtain ⟨S, hS⟩ : ∃ S : ByteArray, (⟨(showT it.e).toArray⟩ : ByteArray) = S := ⟨_, rfl⟩
    obtain ⟨NM, hNM⟩ : ∃ S : ByteArray, (⟨it.name.toArray⟩ : ByteArray) = S := ⟨_, rfl⟩
    have hS1 : S.size ≤ 20001000 := by rw [← hS]; exact showT_small HTK.out.2.1.1
    have hN1 : NM.size ≤ 300 := by rw [← hNM]; exact HTK.out.2.1.2
    rw [hNM] at y1
    rw [hS]
    have HSN := Lib.hid (And.intro hS hNM)
    clear hsh k0 k1 x0 x1 hM2 hO2 HOz hS
    rw [hNM] 
    clear hNM
    generalize wr.heap.size = ib at *
    go_upto_if 34 with fail
    obtain ⟨nb, hnb⟩ : ∃ nb, (!NM.toList.isEmpty) = nb := ⟨_, rfl⟩
    rw [hnb]
    have HNB := Lib.hid hnb
    clear hnb
    go_cut [6] from 35 to 39 (fun s6 wx => s6 = .string ⟨(itemS it).toArray⟩ ∧ w2 = wx)
    case first =>
      cases nb with
      | false =>
        have hnm : it.name = [] := by
          have h1 := HNB.out
          rw [← HSN.out.2, ByteArray.toList_eq] at h1
          simpa using h1
        have hres : S = ⟨(itemS it).toArray⟩ := by rw [← HSN.out.1]; unfold itemS; rw [if_pos hnm, List.append_nil]
        have HRES := Lib.hid hres
        clear hnm hres
        go_wp2_with fail
        go_meet
        exact ⟨congrArg Value.string HRES.out, rfl⟩
      | true =>
        have hnm : ¬ it.name = [] := by
          have h1 := HNB.out
          rw [← HSN.out.2, ByteArray.toList_eq] at h1
          simpa using h1
        have hres : S ++ ((⟨#[32, 97, 115, 32]⟩ : ByteArray) ++ NM) = ⟨(itemS it).toArray⟩ := by
          rw [← HSN.out.1, ← HSN.out.2]
          unfold itemS
          rw [if_neg hnm]
          apply ByteArray.ext; apply Array.toList_inj.1; simp [ByteArray.data_append]
        have HRES := Lib.hid hres
        clear hnm hres
        go_wp2_with fail
        go_meet
        exact ⟨congrArg Value.string HRES.out, rfl⟩
    case rest =>
      obtain ⟨rfl, rfl⟩ := hcut
      clear y1 hS1 hN1 HSN
      generalize itemS it = X at *
      have hOa := HO2.out.quiet ((Mods.refl [] w2).alloc (.cells #[.string ⟨X.toArray⟩] 9))
      have hownA := hOa.2.1
      have HOa := Lib.hid hOa
      clear hOa
      go_wp2_with (at_builtin; refine wpList_app _ rfl _ _ 57 rfl 9 i0 _ 1 16 Tryz.underlying57 hi hz0 hz1 hz2 rfl (by decide) u3 (L).length (strsV (L)) rfl hownA ⟨w2.heap.size, 0, none⟩ 1 1 (strsV [X]) rfl rfl ?ca2 (strsV_one _) (by decide) ?cb2 ?cc2 ?_)
      case ca2 => first | exact cells_lit w2 #[.string ⟨X.toArray⟩] _ | exact fun j u h => h
      first | (case cb2 => unfold maxLen; omega) | skip
      first | (case cc2 => omega) | skip
      intro g5 cap5 w5 hown5 hM5 hg5
      have hO5 := HOa.out.push (l2 := [X]) (m := 1) rfl hown5 hM5 (by first | exact hg5 | (rw [size_alloc]; exact hg5))
      have HO5 := Lib.hid hO5
      clear hown5 hM5 hg5 hO5 HOa hownA
      go_wp2_with fail
      go_roundg (n1 - (i + 1))
      case measure => omega
      case rel => exact ⟨i + 1, by omega, by go_num, by rw [HTK.out.1]; exact HO5.out⟩
  obtain rfl : n1 = i := by omega
  have hx : q.items.take n1 = q.items := List.take_of_length_le (by rw [HNN.out.1]; exact Nat.le_refl _)
  rw [hx] at hO
  have HOI : Hid (StrsOwn w wr u3 (itemsL q)) := Lib.hid hO
  clear hO hx hge hin
  -- FROM
  go_upto_region 12 with fail
  go_cut [7] from 45 to 51 (fun s7 wx => StrsOwn w wx s7 (t1 q))
  case first =>
    have hd := (Mods.refl [] wr).drew
    have hj : Calls Tryz.prog 34 #[u3, .string ⟨#[44, 32]⟩] wr.drew _ := join_own w wr.drew u3 (itemsL q) [44, 32] (HOI.out.quiet hd) (by have := HN.out.2.2; omega) (by have := HN.out.2.1; omega)
    have ht1 : t1 q = [Lib.join (itemsL q) [44, 32], [102, 114, 111, 109], q.src] := rfl
    have HT1 := Lib.hid ht1
    clear ht1
    generalize Lib.join (itemsL q) [44, 32] = J at *
    have c2 := cell_of_heap (HB.out wr.drew (hMr.trans hd (by simp))) 2
    change wr.drew.cell? _ = some (.string ⟨q.src.toArray⟩) at c2
    go_region_with ((with_reducible refine hj.mono ?_); rintro e w2 ⟨rfl, hM2⟩; have c22 := hM2.cell c2 (by simp))
    all_goals
      have hO3 := (StrsOwn.made w2 [J, [102, 114, 111, 109], q.src] (by simp) 3 rfl).base ((hMr.trans hd (by simp)).trans hM2 (by simp))
      have HO3 := Lib.hid hO3
      clear hO3 hj
      go_wp2_with fail
      go_meet
      rw [HT1.out]
      exact HO3.out
  case rest =>
  have HO1 := Lib.hid hcut
  clear hcut HOI
  generalize wc = V3 at *
  -- JOIN
  have hMV := HO1.out.1
  obtain ⟨JN, hJN⟩ : ∃ S : ByteArray, (⟨q.join.toArray⟩ : ByteArray) = S := ⟨_, rfl⟩
  have c3 := cell_of_heap (HB.out V3 hMV) 3
  change V3.cell? _ = some (.string ⟨q.join.toArray⟩) at c3
  rw [hJN] at c3
  have HJN := Lib.hid hJN
  clear hJN hMr
  go_upto_if 56 with fail
  obtain ⟨nb, hnb⟩ : ∃ nb, (!JN.toList.isEmpty) = nb := ⟨_, rfl⟩
  rw [hnb]
  have HNB := Lib.hid hnb
  clear hnb
  go_cut [7] from 57 to 68 (fun s7 wx => StrsOwn w wx s7 (t2 q))
  case first =>
    obtain ⟨L, hL⟩ : ∃ L, t1 q = L := ⟨_, rfl⟩
    have hLl : L.length ≤ 20101 := by rw [← hL]; exact HLE.out.1
    cases nb with
    | false =>
      have hnm : q.join = [] := by
        have h1 := HNB.out
        rw [← HJN.out, ByteArray.toList_eq] at h1
        simpa using h1
      have ht2 : t2 q = t1 q := by unfold t2; rw [if_pos hnm, List.append_nil]
      have HT2 := Lib.hid ht2
      clear hnm ht2
      go_wp2_with fail
      go_meet
      rw [HT2.out]
      exact HO1.out
    | true =>
      have hnm : ¬ q.join = [] := by
        have h1 := HNB.out
        rw [← HJN.out, ByteArray.toList_eq] at h1
        simpa using h1
      have ht2 : t2 q = t1 q ++ [[106, 111, 105, 110], q.join, [111, 110], showO q.on] := by unfold t2; rw [if_neg hnm]
      have hd := (Mods.refl [] V3).drew
      have hMd := hMV.trans hd (by simp)
      have hsh := show_opt (HP.out V3.drew hMd) HA.out.2.2.2.1 hMd HK.out.on
      have d3 : V3.drew.cell? ⟨qb, 3, none⟩ = some (.string ⟨q.join.toArray⟩) := by rw [HJN.out]; exact c3
      have d6 := cell_of_heap (HB.out V3.drew hMd) 6
      change V3.drew.cell? _ = some von at d6
      have HT2 := Lib.hid ht2
      generalize showO q.on = SO at *
      clear hnm ht2 c3
      rw [hL] at HO1
      have HO1d := Lib.hid (HO1.out.quiet hd)
      go_wp2_with fail
      go_region_law (first | (go_simp; go_at_call 24; (with_reducible refine hsh.mono ?_); rintro e w2 ⟨rfl, hM2⟩; have e3 := hM2.cell d3 (by simp); have e6 := hM2.cell d6 (by simp); have hO2 := (HO1d.out.quiet hM2).quiet ((Mods.refl [] w2).alloc (.cells #[.string ⟨#[106, 111, 105, 110]⟩, .string ⟨q.join.toArray⟩, .string ⟨#[111, 110]⟩, .string ⟨SO.toArray⟩] 9)); have hownA := hO2.2.1) | ((refine step_app2 rfl (.tmp 57) (.tmp 67) 57 rfl 9 i0 (.string ⟨#[]⟩) 1 16 Tryz.underlying57 hi hz0 hz1 hz2 rfl (by decide) u7 L.length (strsV L) (by kernel_rfl) hownA ⟨w2.heap.size, 0, none⟩ 4 4 (strsV [[106, 111, 105, 110], q.join, [111, 110], SO]) (by kernel_rfl) rfl (cells_lit w2 #[.string ⟨#[106, 111, 105, 110]⟩, .string ⟨q.join.toArray⟩, .string ⟨#[111, 110]⟩, .string ⟨SO.toArray⟩] _) (strsV_one _) (by decide) (by unfold maxLen; omega) (by omega) ?_); intro g5 cap5 w5 hown5 hM5 hg5))
      all_goals
        have hO5 := hO2.push (l2 := [[106, 111, 105, 110], q.join, [111, 110], SO]) rfl hown5 hM5 (by first | exact hg5 | (rw [size_alloc]; exact hg5))
        have HO5 := Lib.hid hO5
        clear hown5 hM5 hg5 hO5 hownA
        go_wp2_with fail
        go_meet
        rw [HT2.out, hL]
        exact HO5.out
  case rest =>
  have HO3 := Lib.hid hcut
  clear hcut HO1 HNB HJN c3
  generalize wc = V4 at *
  -- WHERE
  have hMV4 := HO3.out.1
  have c7 := cell_of_heap (HB.out V4 hMV4) 7
  change V4.cell? _ = some (.pointer wp) at c7
  go_upto_if 73 with fail
  go_cut [7] from 74 to 81 (fun s7 wx => StrsOwn w wx s7 (t3 q))
  case first =>
    obtain ⟨L, hL⟩ : ∃ L, t2 q = L := ⟨_, rfl⟩
    have hLl : L.length ≤ 20101 := by rw [← hL]; exact HLE.out.2.1
    rw [hL] at HO3
    obtain ⟨ow, how⟩ : ∃ o, q.whr = o := ⟨_, rfl⟩
    have hpt := HA.out.2.2.2.2.1
    have hsm := HA.out.2.2.2.2.2
    have hfw := HK.out.whr
    have ht3 : t3 q = L ++ (match q.whr with | none => [] | some t => [[119, 104, 101, 114, 101], showT t]) := by rw [← hL]; rfl
    rw [how] at hpt hsm hfw ht3
    cases ow with
    | none =>
      obtain rfl : wp = none := by cases wp with
        | none => rfl
        | some x => cases hsm
      have HT3 := Lib.hid ht3
      clear ht3 hpt hsm hfw how
      simp only [Option.isSome_none]
      go_wp2_with fail
      go_meet
      rw [HT3.out, List.append_nil]
      exact HO3.out
    | some tw =>
      obtain ⟨bw, hbw, hEw⟩ := hpt
      have hsh := show_any tw V4 (PtrV bw) (HP.out V4 hMV4) (hEw.mods hMV4) (hfw tw rfl)
      unfold PtrV at hbw hsh
      simp only [Value.pointer.injEq] at hbw
      subst hbw
      have ht3' : t3 q = L ++ [[119, 104, 101, 114, 101], showT tw] := ht3
      have HT3 := Lib.hid ht3'
      clear ht3'
      generalize showT tw = SW at *
      clear ht3 hsm hfw how hEw
      simp only [Option.isSome_some]
      go_wp2_with fail
      (with_reducible refine hsh.mono ?_)
      rintro e w2 ⟨rfl, hM2⟩
      have HO2 := Lib.hid (HO3.out.quiet hM2)
      clear hsh hM2
      have hOa := HO2.out.quiet ((Mods.refl [] w2).alloc (.cells #[.string ⟨#[119, 104, 101, 114, 101]⟩, .string ⟨SW.toArray⟩] 9))
      have hownA := hOa.2.1
      have HOa := Lib.hid hOa
      clear hOa
      go_wp2_with (at_builtin; refine wpList_app _ rfl _ _ 57 rfl 9 i0 _ 1 16 Tryz.underlying57 hi hz0 hz1 hz2 rfl (by decide) u7 (L).length (strsV (L)) rfl hownA ⟨w2.heap.size, 0, none⟩ 2 2 (strsV [[119, 104, 101, 114, 101], SW]) rfl rfl ?ca3 (strsV_one _) (by decide) ?cb3 ?cc3 ?_)
      case ca3 => first | exact cells_lit w2 #[.string ⟨#[119, 104, 101, 114, 101]⟩, .string ⟨SW.toArray⟩] _ | exact fun j u h => h
      first | (case cb3 => unfold maxLen; omega) | skip
      first | (case cc3 => omega) | skip
      intro g5 cap5 w5 hown5 hM5 hg5
      have hO5 := HOa.out.push (l2 := [[119, 104, 101, 114, 101], SW]) (m := 2) rfl hown5 hM5 (by first | exact hg5 | (rw [size_alloc]; exact hg5))
      have HO5 := Lib.hid hO5
      clear hown5 hM5 hg5 hO5 HOa hownA
      go_wp2_with fail
      go_meet
      rw [HT3.out]
      exact HO5.out
  case rest =>
  have HO4 := Lib.hid hcut
  clear hcut HO3 c7
  generalize wc = V5 at *
  -- GROUP
  have hMV5 := HO4.out.1
  have c8 := cell_of_heap (HB.out V5 hMV5) 8
  change V5.cell? _ = some (.slice ag n2 cg) at c8
  go_wp2_with fail
  go_loopg [7, 87] n2 (fun gk t7 t87 wr => ∃ i : Nat, i + gk = n2 ∧ t87 = .int .i64 i ∧ StrsOwn w wr t7 (t3 q ++ headL [103, 114, 111, 117, 112] ((q.group.take i).map showT)))
  case atStart => exact ⟨0, by omega, rfl, by simpa [headL] using HO4.out⟩
  clear HO4 c8 hMV5
  obtain ⟨i, hin, rfl, hO⟩ := hrel
  have hMr := hO.1
  rcases Nat.lt_or_ge i n2 with hlt | hge
  · have hiq : i < q.group.length := by rw [HNN.out.2.1]; exact hlt
    obtain ⟨g, rfl, hcs⟩ := HA.out.2.1 (by omega)
    obtain ⟨c, ⟨b, hcb, hE⟩, hcell⟩ := hcs i hiq
    rw [hcb] at hcell
    have k0 := hMr.cell (hcell 0 _ rfl) (by simp)
    rw [Nat.add_zero, Nat.mul_one] at k0
    have hfi := HK.out.group.2 q.group[i] (List.getElem_mem hiq)
    have htk := headL_step (t3 q) [103, 114, 111, 117, 112] showT q.group i hiq
    obtain ⟨L, hL⟩ : ∃ L, t3 q ++ ([103, 114, 111, 117, 112] :: (q.group.take i).map showT) = L := ⟨_, rfl⟩
    have hLl : L.length ≤ 40000 := by
      rw [← hL]
      have := HLE.out.2.2.1
      simp
      omega
    rw [hL] at htk
    generalize q.group[i] = tg at *
    have HTK := Lib.hid htk
    have HE := Lib.hid (And.intro hE hfi)
    unfold PtrV at *
    clear hcs hcell hcb htk hE hfi hiq
    rcases Nat.eq_zero_or_pos i with hi0 | hi0
    · subst hi0
      have hO0 : StrsOwn w wr u7 (t3 q) := by simpa [headL] using hO
      obtain ⟨L0, hL0⟩ : ∃ L0, t3 q = L0 := ⟨_, rfl⟩
      have hL0l : L0.length ≤ 20101 := by rw [← hL0]; exact HLE.out.2.2.1
      rw [hL0] at hO0
      have HO0 := Lib.hid hO0
      have hLL : L = L0 ++ [[103, 114, 111, 117, 112]] := by rw [← hL, ← hL0]; simp
      have HLL := Lib.hid hLL
      clear hO hO0 hL hL0 hLL
      have hOa := HO0.out.quiet ((Mods.refl [] wr).alloc (.cells #[.string ⟨#[103, 114, 111, 117, 112]⟩] 9))
      have hownA := hOa.2.1
      have HOa := Lib.hid hOa
      clear hOa
      go_wp2_with (at_builtin; refine wpList_app _ rfl _ _ 57 rfl 9 i0 _ 1 16 Tryz.underlying57 hi hz0 hz1 hz2 rfl (by decide) u7 (L0).length (strsV (L0)) rfl hownA ⟨wr.heap.size, 0, none⟩ 1 1 (strsV [[103, 114, 111, 117, 112]]) rfl rfl ?ca4 (strsV_one _) (by decide) ?cb4 ?cc4 ?_)
      case ca4 => first | exact cells_lit wr #[.string ⟨#[103, 114, 111, 117, 112]⟩] _ | exact fun j u h => h
      first | (case cb4 => unfold maxLen; omega) | skip
      first | (case cc4 => omega) | skip
      intro g5 cap5 w5 hown5 hM5 hg5
      have hO5 := HOa.out.push (l2 := [[103, 114, 111, 117, 112]]) (m := 1) rfl hown5 hM5 (by first | exact hg5 | (rw [size_alloc]; exact hg5))
      have HO5 := Lib.hid hO5
      clear hown5 hM5 hg5 hO5 HOa hownA
      have HO6 : Hid (StrsOwn w w5 (.slice (some ⟨g5, 0, none⟩) (L0.length + 1) cap5) L) := Lib.hid (by rw [HLL.out]; exact HO5.out)
      generalize Value.slice (some ⟨g5, 0, none⟩) (L0.length + 1) cap5 = v6 at *
      have hsh := show_any tg w5 (PtrV b) (HP.out w5 HO6.out.1) (HE.out.1.mods HO6.out.1) HE.out.2
      generalize showT tg = ST at *
      unfold PtrV at hsh
      clear HO5 k0 hMr
      go_wp2_with fail
      (with_reducible refine hsh.mono ?_)
      rintro e w2 ⟨rfl, hM2⟩
      have HO2 := Lib.hid (HO6.out.quiet hM2)
      clear hsh hM2
      have hOa := HO2.out.quiet ((Mods.refl [] w2).alloc (.cells #[.string ⟨ST.toArray⟩] 9))
      have hownA := hOa.2.1
      have HOa := Lib.hid hOa
      clear hOa
      go_wp2_with (at_builtin; refine wpList_app _ rfl _ _ 57 rfl 9 i0 _ 1 16 Tryz.underlying57 hi hz0 hz1 hz2 rfl (by decide) v6 (L).length (strsV (L)) rfl hownA ⟨w2.heap.size, 0, none⟩ 1 1 (strsV [ST]) rfl rfl ?ca5 (strsV_one _) (by decide) ?cb5 ?cc5 ?_)
      case ca5 => first | exact cells_lit w2 #[.string ⟨ST.toArray⟩] _ | exact fun j u h => h
      first | (case cb5 => unfold maxLen; omega) | skip
      first | (case cc5 => omega) | skip
      intro g7 cap7 w7 hown5 hM5 hg7
      have hO7 := HOa.out.push (l2 := [ST]) (m := 1) rfl hown5 hM5 (by first | exact hg7 | (rw [size_alloc]; exact hg7))
      have HO7 := Lib.hid hO7
      clear hown5 hM5 hg7 hO7 HOa hownA
      go_wp2_with fail
      go_roundg (n2 - (0 + 1))
      case measure => omega
      case rel => exact ⟨0 + 1, by omega, by go_num, by rw [HTK.out]; exact HO7.out⟩
    · have z0 : ((i : Int) == 0) = false := by rw [beq_eq_false_iff_ne]; omega
      have z1 : ¬ (i : Int) = 0 := by omega
      have hO0 : StrsOwn w wr u7 L := by
        rw [headL_pos (by
          intro h
          have h2 := congrArg List.length h
          have h3 := HNN.out.2.1
          rw [List.length_map, List.length_take, List.length_nil] at h2
          omega), hL] at hO
        exact hO
      have HO6 := Lib.hid hO0
      have hsh := show_any tg wr (PtrV b) (HP.out wr hMr) (HE.out.1.mods hMr) HE.out.2
      generalize showT tg = ST at *
      unfold PtrV at hsh
      clear hO hO0 hL
      go_wp2_with fail
      (with_reducible refine hsh.mono ?_)
      rintro e w2 ⟨rfl, hM2⟩
      have HO2 := Lib.hid (HO6.out.quiet hM2)
      clear hsh hM2 k0
      have hOa := HO2.out.quiet ((Mods.refl [] w2).alloc (.cells #[.string ⟨ST.toArray⟩] 9))
      have hownA := hOa.2.1
      have HOa := Lib.hid hOa
      clear hOa
      go_wp2_with (at_builtin; refine wpList_app _ rfl _ _ 57 rfl 9 i0 _ 1 16 Tryz.underlying57 hi hz0 hz1 hz2 rfl (by decide) u7 (L).length (strsV (L)) rfl hownA ⟨w2.heap.size, 0, none⟩ 1 1 (strsV [ST]) rfl rfl ?ca6 (strsV_one _) (by decide) ?cb6 ?cc6 ?_)
      case ca6 => first | exact cells_lit w2 #[.string ⟨ST.toArray⟩] _ | exact fun j u h => h
      first | (case cb6 => unfold maxLen; omega) | skip
      first | (case cc6 => omega) | skip
      intro g5 cap5 w5 hown5 hM5 hg5
      have hO5 := HOa.out.push (l2 := [ST]) (m := 1) rfl hown5 hM5 (by first | exact hg5 | (rw [size_alloc]; exact hg5))
      have HO5 := Lib.hid hO5
      clear hown5 hM5 hg5 hO5 HOa hownA
      go_wp2_with fail
      go_roundg (n2 - (i + 1))
      case measure => omega
      case rel => exact ⟨i + 1, by omega, by go_num, by rw [HTK.out]; exact HO5.out⟩
  obtain rfl : n2 = i := by omega
  have hx : q.group.take n2 = q.group := List.take_of_length_le (by rw [HNN.out.2.1]; exact Nat.le_refl _)
  rw [hx] at hO
  have HO5g : Hid (StrsOwn w wr u7 (t4 q)) := Lib.hid hO
  clear hO hx hge hin
  -- ORDER
  have c9 := cell_of_heap (HB.out wr hMr) 9
  change wr.cell? _ = some (.slice ao n3 co) at c9
  clear hMr
  go_wp2_with fail
  go_loopg [7, 108] n3 (fun gk t7 t108 wr => ∃ i : Nat, i + gk = n3 ∧ t108 = .int .i64 i ∧ StrsOwn w wr t7 (t4 q ++ headL [111, 114, 100, 101, 114] ((q.order.take i).map keyS)))
  case atStart => exact ⟨0, by omega, rfl, by simpa [headL] using HO5g.out⟩
  clear HO5g c9
  obtain ⟨i, hin, rfl, hO⟩ := hrel
  have hMr := hO.1
  rcases Nat.lt_or_ge i n3 with hlt | hge
  · have hiq : i < q.order.length := by rw [HNN.out.2.2]; exact hlt
    obtain ⟨g, rfl, hcs⟩ := HA.out.2.2.1 (by omega)
    obtain ⟨c, hcb, hcell⟩ := hcs i hiq
    have hfk := HK.out.order.2 q.order[i] (List.getElem_mem hiq)
    have htk := headL_step (t4 q) [111, 114, 100, 101, 114] keyS q.order i hiq
    obtain ⟨L, hL⟩ : ∃ L, t4 q ++ ([111, 114, 100, 101, 114] :: (q.order.take i).map keyS) = L := ⟨_, rfl⟩
    have hLl : L.length ≤ 40000 := by
      rw [← hL]
      have := HLE.out.2.2.2.1
      simp
      omega
    rw [hL] at htk
    generalize q.order[i] = kk at *
    unfold KeyR at hcb
    rw [hcb] at hcell
    have k0 := hMr.cell (hcell 0 _ rfl) (by simp)
    have k1 := hMr.cell (hcell 1 _ rfl) (by simp)
    have k2 := hMr.cell (hcell 2 _ rfl) (by simp)
    have k3 := hMr.cell (hcell 3 _ rfl) (by simp)
    rw [Nat.add_zero] at k0
    have HTK := Lib.hid htk
    have HFK := Lib.hid hfk
    obtain ⟨kd, hkd⟩ : ∃ d, kk.desc = d := ⟨_, rfl⟩
    obtain ⟨NM, hNM⟩ : ∃ S : ByteArray, (⟨kk.name.toArray⟩ : ByteArray) = S := ⟨_, rfl⟩
    obtain ⟨S1, hS1⟩ : ∃ S : ByteArray, (⟨(if kk.name = [] then Lib.itoa kk.item else kk.name).toArray⟩ : ByteArray) = S := ⟨_, rfl⟩
    obtain ⟨S2, hS2⟩ : ∃ S : ByteArray, S1 ++ (⟨(if kd = true then [45] else []).toArray⟩ : ByteArray) = S := ⟨_, rfl⟩
    obtain ⟨KS, hKS⟩ : ∃ l, keyS kk = l := ⟨_, rfl⟩
    have hks : S2 = ⟨KS.toArray⟩ := by rw [← hKS, ← hS2, ← hS1, cat2, ← hkd]; rfl
    have hS1z : S1.size ≤ 300 := by
      rw [← hS1]
      show (if kk.name = [] then Lib.itoa kk.item else kk.name).length ≤ 300
      have := Lib.itoa_length_le kk.item (by have := hfk.2.1; omega) hfk.2.2
      split
      · omega
      · exact hfk.1
    rw [hkd] at k3
    rw [hNM] at k2
    rw [hKS] at HTK
    have HNM := Lib.hid hNM
    have HS1 := Lib.hid hS1
    have HS2 := Lib.hid hS2
    have HKS := Lib.hid hks
    have hz := (Mods.refl [] wr).alloc (.cells #[.int .i64 kk.pos, .int .i64 kk.item, .string NM, .bool kd] 106)
    have hx := heap_alloc_new wr (.cells #[.int .i64 kk.pos, .int .i64 kk.item, .string NM, .bool kd] 106)
    have x1 := cell_of_heap hx 1
    have x2 := cell_of_heap hx 2
    have x3 := cell_of_heap hx 3
    change (wr.alloc (.cells #[.int .i64 kk.pos, .int .i64 kk.item, .string NM, .bool kd] 106)).cell? _ = some (.int .i64 kk.item) at x1
    change (wr.alloc (.cells #[.int .i64 kk.pos, .int .i64 kk.item, .string NM, .bool kd] 106)).cell? _ = some (.string NM) at x2
    change (wr.alloc (.cells #[.int .i64 kk.pos, .int .i64 kk.item, .string NM, .bool kd] 106)).cell? _ = some (.bool kd) at x3
    have hOz := hO.quiet hz
    have hnk : wr.heap.size ∉ u7.ownBlock.toList := fun hm => absurd (hO.2.1.lt _ (by simpa using hm)).2 (Nat.lt_irrefl _)
    have HNK := Lib.hid hnk
    clear hnk hcs hcell hcb htk hfk hNM hS1 hS2 hKS hks hkd hO hx hz hMr
    go_upto_region 27 with fail
    generalize wr.alloc (.cells #[.int .i64 kk.pos, .int .i64 kk.item, .string NM, .bool kd] 106) = Wz at *
    generalize wr.heap.size = kb at *
    clear k0 k1 k2 k3
    rcases Nat.eq_zero_or_pos i with hi0 | hi0
    · subst hi0
      have hO0 : StrsOwn w Wz u7 (t4 q) := by simpa [headL] using hOz
      obtain ⟨L0, hL0⟩ : ∃ L0, t4 q = L0 := ⟨_, rfl⟩
      have hL0l : L0.length ≤ 20101 := by rw [← hL0]; exact HLE.out.2.2.2.1
      rw [hL0] at hO0
      have HO0 := Lib.hid hO0
      have hLL : L = L0 ++ [[111, 114, 100, 101, 114]] := by rw [← hL, ← hL0]; simp
      have HLL := Lib.hid hLL
      have HX := Lib.hid (And.intro x1 (And.intro x2 x3))
      have hOw := hO0.1
      clear hOz hO0 hL hL0 hLL x1 x2 x3 hiq
      have hOa := HO0.out.quiet ((Mods.refl [] Wz).alloc (.cells #[.string ⟨#[111, 114, 100, 101, 114]⟩] 9))
      have hownA := hOa.2.1
      have HOa := Lib.hid hOa
      clear hOa
      go_wp2_with (at_builtin; refine wpList_app _ rfl _ _ 57 rfl 9 i0 _ 1 16 Tryz.underlying57 hi hz0 hz1 hz2 rfl (by decide) u7 (L0).length (strsV (L0)) rfl hownA ⟨Wz.heap.size, 0, none⟩ 1 1 (strsV [[111, 114, 100, 101, 114]]) rfl rfl ?ca7 (strsV_one _) (by decide) ?cb7 ?cc7 ?_)
      case ca7 => first | exact cells_lit Wz #[.string ⟨#[111, 114, 100, 101, 114]⟩] _ | exact fun j u h => h
      first | (case cb7 => unfold maxLen; omega) | skip
      first | (case cc7 => omega) | skip
      intro g5 cap5 w5 hown5 hM5 hg5
      have hO5 := HOa.out.push (l2 := [[111, 114, 100, 101, 114]]) (m := 1) rfl hown5 hM5 (by first | exact hg5 | (rw [size_alloc]; exact hg5))
      have HO5 := Lib.hid hO5
      have HX5 := Lib.hid (And.intro hown5 (And.intro hM5 hg5))
      clear hown5 hM5 hg5 hO5 HOa hownA
      have HO6 : Hid (StrsOwn w w5 (.slice (some ⟨g5, 0, none⟩) (L0.length + 1) cap5) L) := Lib.hid (by rw [HLL.out]; exact HO5.out)
      have hal := (Mods.refl [] Wz).alloc (.cells #[.string ⟨#[111, 114, 100, 101, 114]⟩] 9)
      have x1 := HX5.out.2.1.cell (hal.cell HX.out.1 (by simp)) HNK.out
      have x2 := HX5.out.2.1.cell (hal.cell HX.out.2.1 (by simp)) HNK.out
      have x3 := HX5.out.2.1.cell (hal.cell HX.out.2.2 (by simp)) HNK.out
      generalize Value.slice (some ⟨g5, 0, none⟩) (L0.length + 1) cap5 = v6 at *
      clear HX5 HX HO5 hal hOw
      have hO9 := HO6.out
      go_upto_if 121 with fail
      obtain ⟨nb, hnb⟩ : ∃ nb, NM.toList.isEmpty = nb := ⟨_, rfl⟩
      rw [hnb]
      have HNB := Lib.hid hnb
      clear hnb
      go_cut [12] from 122 to 124 (fun s12 wx => s12 = .string S1 ∧ Mods [] w5 wx)
      case first =>
        cases nb with
        | false =>
          have hnm : ¬ kk.name = [] := by
            have h1 := HNB.out
            rw [← HNM.out, ByteArray.toList_eq] at h1
            simpa using h1
          have hs1 : NM = S1 := by rw [← HS1.out, if_neg hnm]; exact HNM.out.symm
          have HS := Lib.hid hs1
          clear hnm hs1 hO9
          go_wp2_with fail
          go_meet
          exact ⟨congrArg Value.string HS.out, Mods.refl _ _⟩
        | true =>
          have hnm : kk.name = [] := by
            have h1 := HNB.out
            rw [← HNM.out, ByteArray.toList_eq] at h1
            simpa using h1
          have hs1 : (⟨(Lib.itoa kk.item).toArray⟩ : ByteArray) = S1 := by rw [← HS1.out, if_pos hnm]
          have hit := itoa_any kk.item (by have := HFK.out.2.1; omega) HFK.out.2.2 w5 (HP.out w5 hO9.1)
          rw [hs1] at hit
          clear hnm hs1 hO9
          go_wp2_with fail
          (with_reducible refine hit.mono ?_)
          rintro e wq ⟨rfl, hMq⟩
          clear hit
          go_wp2_with fail
          go_meet
          exact ⟨rfl, hMq⟩
      case rest =>
        obtain ⟨rfl, hMc⟩ := hcut
        have y3 := hMc.cell x3 (by simp)
        have HOc := Lib.hid (hO9.quiet hMc)
        clear hO9 hMc x1 x2 x3
        generalize wc = Wc at *
        go_upto_if 126 with fail
        go_cut [12] from 127 to 128 (fun s12 wx => s12 = .string S2 ∧ Wc = wx)
        case first =>
          cases kd with
          | false =>
            have hs2 : S1 = S2 := by rw [← HS2.out]; apply ByteArray.ext; apply Array.toList_inj.1; simp [ByteArray.data_append]
            have HS := Lib.hid hs2
            clear hs2
            go_wp2_with fail
            go_meet
            exact ⟨congrArg Value.string HS.out, rfl⟩
          | true =>
            have hs2 : S1 ++ (⟨#[45]⟩ : ByteArray) = S2 := by rw [← HS2.out]; rfl
            have HS := Lib.hid hs2
            clear hs2
            go_wp2_with fail
            go_meet
            exact ⟨congrArg Value.string HS.out, rfl⟩
        case rest =>
          obtain ⟨rfl, rfl⟩ := hcut
          have hs2 : S2 = ⟨KS.toArray⟩ := HKS.out
          subst hs2
          clear y3 hS1z
          have hOa := HOc.out.quiet ((Mods.refl [] Wc).alloc (.cells #[.string ⟨KS.toArray⟩] 9))
          have hownA := hOa.2.1
          have HOa := Lib.hid hOa
          clear hOa
          go_wp2_with (at_builtin; refine wpList_app _ rfl _ _ 57 rfl 9 i0 _ 1 16 Tryz.underlying57 hi hz0 hz1 hz2 rfl (by decide) v6 (L).length (strsV (L)) rfl hownA ⟨Wc.heap.size, 0, none⟩ 1 1 (strsV [KS]) rfl rfl ?ca8 (strsV_one _) (by decide) ?cb8 ?cc8 ?_)
          case ca8 => first | exact cells_lit Wc #[.string ⟨KS.toArray⟩] _ | exact fun j u h => h
          first | (case cb8 => unfold maxLen; omega) | skip
          first | (case cc8 => omega) | skip
          intro g9 cap9 w9 hown5 hM5 hg9
          have hO9 := HOa.out.push (l2 := [KS]) (m := 1) rfl hown5 hM5 (by first | exact hg9 | (rw [size_alloc]; exact hg9))
          have HO9 := Lib.hid hO9
          clear hown5 hM5 hg9 hO9 HOa hownA
          go_wp2_with fail
          go_roundg (n3 - (0 + 1))
          case measure => omega
          case rel => exact ⟨0 + 1, by omega, by go_num, by rw [HTK.out]; exact HO9.out⟩
    · have z0 : ((i : Int) == 0) = false := by rw [beq_eq_false_iff_ne]; omega
      have z1 : ¬ (i : Int) = 0 := by omega
      have hO0 : StrsOwn w Wz u7 L := by
        rw [headL_pos (by
          intro h
          have h2 := congrArg List.length h
          have h3 := HNN.out.2.2
          rw [List.length_map, List.length_take, List.length_nil] at h2
          omega), hL] at hOz
        exact hOz
      have HO6 := Lib.hid hO0
      clear hO0 hOz hL hiq
      have hO9 := HO6.out
      go_upto_if 121 with fail
      obtain ⟨nb, hnb⟩ : ∃ nb, NM.toList.isEmpty = nb := ⟨_, rfl⟩
      rw [hnb]
      have HNB := Lib.hid hnb
      clear hnb
      go_cut [12] from 122 to 124 (fun s12 wx => s12 = .string S1 ∧ Mods [] Wz wx)
      case first =>
        cases nb with
        | false =>
          have hnm : ¬ kk.name = [] := by
            have h1 := HNB.out
            rw [← HNM.out, ByteArray.toList_eq] at h1
            simpa using h1
          have hs1 : NM = S1 := by rw [← HS1.out, if_neg hnm]; exact HNM.out.symm
          have HS := Lib.hid hs1
          clear hnm hs1 hO9
          go_wp2_with fail
          go_meet
          exact ⟨congrArg Value.string HS.out, Mods.refl _ _⟩
        | true =>
          have hnm : kk.name = [] := by
            have h1 := HNB.out
            rw [← HNM.out, ByteArray.toList_eq] at h1
            simpa using h1
          have hs1 : (⟨(Lib.itoa kk.item).toArray⟩ : ByteArray) = S1 := by rw [← HS1.out, if_pos hnm]
          have hit := itoa_any kk.item (by have := HFK.out.2.1; omega) HFK.out.2.2 Wz (HP.out Wz hO9.1)
          rw [hs1] at hit
          clear hnm hs1 hO9
          go_wp2_with fail
          (with_reducible refine hit.mono ?_)
          rintro e wq ⟨rfl, hMq⟩
          clear hit
          go_wp2_with fail
          go_meet
          exact ⟨rfl, hMq⟩
      case rest =>
        obtain ⟨rfl, hMc⟩ := hcut
        have y3 := hMc.cell x3 (by simp)
        have HOc := Lib.hid (hO9.quiet hMc)
        clear hO9 hMc x1 x2 x3
        generalize wc = Wc at *
        go_upto_if 126 with fail
        go_cut [12] from 127 to 128 (fun s12 wx => s12 = .string S2 ∧ Wc = wx)
        case first =>
          cases kd with
          | false =>
            have hs2 : S1 = S2 := by rw [← HS2.out]; apply ByteArray.ext; apply Array.toList_inj.1; simp [ByteArray.data_append]
            have HS := Lib.hid hs2
            clear hs2
            go_wp2_with fail
            go_meet
            exact ⟨congrArg Value.string HS.out, rfl⟩
          | true =>
            have hs2 : S1 ++ (⟨#[45]⟩ : ByteArray) = S2 := by rw [← HS2.out]; rfl
            have HS := Lib.hid hs2
            clear hs2
            go_wp2_with fail
            go_meet
            exact ⟨congrArg Value.string HS.out, rfl⟩
        case rest =>
          obtain ⟨rfl, rfl⟩ := hcut
          have hs2 : S2 = ⟨KS.toArray⟩ := HKS.out
          subst hs2
          clear y3 hS1z
          have hOa := HOc.out.quiet ((Mods.refl [] Wc).alloc (.cells #[.string ⟨KS.toArray⟩] 9))
          have hownA := hOa.2.1
          have HOa := Lib.hid hOa
          clear hOa
          go_wp2_with (at_builtin; refine wpList_app _ rfl _ _ 57 rfl 9 i0 _ 1 16 Tryz.underlying57 hi hz0 hz1 hz2 rfl (by decide) u7 (L).length (strsV (L)) rfl hownA ⟨Wc.heap.size, 0, none⟩ 1 1 (strsV [KS]) rfl rfl ?ca9 (strsV_one _) (by decide) ?cb9 ?cc9 ?_)
          case ca9 => first | exact cells_lit Wc #[.string ⟨KS.toArray⟩] _ | exact fun j u h => h
          first | (case cb9 => unfold maxLen; omega) | skip
          first | (case cc9 => omega) | skip
          intro g9 cap9 w9 hown5 hM5 hg9
          have hO9 := HOa.out.push (l2 := [KS]) (m := 1) rfl hown5 hM5 (by first | exact hg9 | (rw [size_alloc]; exact hg9))
          have HO9 := Lib.hid hO9
          clear hown5 hM5 hg9 hO9 HOa hownA
          go_wp2_with fail
          go_roundg (n3 - (i + 1))
          case measure => omega
          case rel => exact ⟨i + 1, by omega, by go_num, by rw [HTK.out]; exact HO9.out⟩
  obtain rfl : n3 = i := by omega
  have hx : q.order.take n3 = q.order := List.take_of_length_le (by rw [HNN.out.2.2]; exact Nat.le_refl _)
  rw [hx] at hO
  have HO7 : Hid (StrsOwn w wr u7 (t5 q)) := Lib.hid hO
  clear hO hx hge hin
  -- limit
  obtain ⟨lm, hlm⟩ : ∃ z, q.limit = z := ⟨_, rfl⟩
  have hMq := HO7.out.1
  have cq := cell_of_heap (HB.out wr hMq) 10
  change wr.cell? _ = some (.int .i64 q.limit) at cq
  rw [hlm] at cq
  have hlb := HK.out.limit
  rw [hlm] at hlb
  have ht : t6 q = t5 q ++ (if 0 ≤ lm then [[108, 105, 109, 105, 116], Lib.itoa lm] else []) := by rw [← hlm]; rfl
  have HTT := Lib.hid ht
  clear ht hlm
  go_upto_if 138 with fail
  obtain ⟨nb, hnb⟩ : ∃ nb, decide (0 ≤ lm) = nb := ⟨_, rfl⟩
  rw [hnb]
  have HNB := Lib.hid hnb
  clear hnb
  go_cut [7] from 139 to 146 (fun s7 wx => StrsOwn w wx s7 (t6 q))
  case first =>
    obtain ⟨L, hL⟩ : ∃ L, t5 q = L := ⟨_, rfl⟩
    have hLl : L.length ≤ 20101 := by rw [← hL]; exact HLE.out.2.2.2.2.1
    rw [hL] at HO7
    cases nb with
    | false =>
      have ht2 : t6 q = L := by rw [HTT.out, if_neg (of_decide_eq_false HNB.out), List.append_nil, hL]
      have HT2 := Lib.hid ht2
      clear ht2
      go_wp2_with fail
      go_meet
      rw [HT2.out]
      exact HO7.out
    | true =>
      have ht2 : t6 q = L ++ [[108, 105, 109, 105, 116], Lib.itoa lm] := by rw [HTT.out, if_pos (of_decide_eq_true HNB.out), hL]
      have HT2 := Lib.hid ht2
      have hfm := fmt_any lm (by omega) hlb.2 wr (HP.out wr hMq)
      generalize Lib.itoa lm = IL at *
      clear ht2
      go_wp2_with fail
      (with_reducible refine hfm.mono ?_)
      rintro e w2 ⟨rfl, hM2⟩
      have HO2 := Lib.hid (HO7.out.quiet hM2)
      clear hfm hM2 cq
      have hOa := HO2.out.quiet ((Mods.refl [] w2).alloc (.cells #[.string ⟨#[108, 105, 109, 105, 116]⟩, .string ⟨IL.toArray⟩] 9))
      have hownA := hOa.2.1
      have HOa := Lib.hid hOa
      clear hOa
      go_wp2_with (at_builtin; refine wpList_app _ rfl _ _ 57 rfl 9 i0 _ 1 16 Tryz.underlying57 hi hz0 hz1 hz2 rfl (by decide) u7 (L).length (strsV (L)) rfl hownA ⟨w2.heap.size, 0, none⟩ 2 2 (strsV [[108, 105, 109, 105, 116], IL]) rfl rfl ?ca10 (strsV_one _) (by decide) ?cb10 ?cc10 ?_)
      case ca10 => first | exact cells_lit w2 #[.string ⟨#[108, 105, 109, 105, 116]⟩, .string ⟨IL.toArray⟩] _ | exact fun j u h => h
      first | (case cb10 => unfold maxLen; omega) | skip
      first | (case cc10 => omega) | skip
      intro g5 cap5 w5 hown5 hM5 hg5
      have hO5 := HOa.out.push (l2 := [[108, 105, 109, 105, 116], IL]) (m := 2) rfl hown5 hM5 (by first | exact hg5 | (rw [size_alloc]; exact hg5))
      have HO5 := Lib.hid hO5
      clear hown5 hM5 hg5 hO5 HOa hownA
      go_wp2_with fail
      go_meet
      rw [HT2.out]
      exact HO5.out
  case rest =>
  have HO8 := Lib.hid hcut
  clear hcut HO7 HNB HTT cq hlb hMq
  generalize wc = V8 at *
  -- offset
  obtain ⟨lm, hlm⟩ : ∃ z, q.offset = z := ⟨_, rfl⟩
  have hMq := HO8.out.1
  have cq := cell_of_heap (HB.out V8 hMq) 11
  change V8.cell? _ = some (.int .i64 q.offset) at cq
  rw [hlm] at cq
  have hlb := HK.out.offset
  rw [hlm] at hlb
  have ht : t7 q = t6 q ++ (if 0 ≤ lm then [[111, 102, 102, 115, 101, 116], Lib.itoa lm] else []) := by rw [← hlm]; rfl
  have HTT := Lib.hid ht
  clear ht hlm
  go_upto_if 151 with fail
  obtain ⟨nb, hnb⟩ : ∃ nb, decide (0 ≤ lm) = nb := ⟨_, rfl⟩
  rw [hnb]
  have HNB := Lib.hid hnb
  clear hnb
  go_cut [7] from 152 to 159 (fun s7 wx => StrsOwn w wx s7 (t7 q))
  case first =>
    obtain ⟨L, hL⟩ : ∃ L, t6 q = L := ⟨_, rfl⟩
    have hLl : L.length ≤ 20101 := by rw [← hL]; exact HLE.out.2.2.2.2.2
    rw [hL] at HO8
    cases nb with
    | false =>
      have ht2 : t7 q = L := by rw [HTT.out, if_neg (of_decide_eq_false HNB.out), List.append_nil, hL]
      have HT2 := Lib.hid ht2
      clear ht2
      go_wp2_with fail
      go_meet
      rw [HT2.out]
      exact HO8.out
    | true =>
      have ht2 : t7 q = L ++ [[111, 102, 102, 115, 101, 116], Lib.itoa lm] := by rw [HTT.out, if_pos (of_decide_eq_true HNB.out), hL]
      have HT2 := Lib.hid ht2
      have hfm := fmt_any lm (by omega) hlb.2 V8 (HP.out V8 hMq)
      generalize Lib.itoa lm = IL at *
      clear ht2
      go_wp2_with fail
      (with_reducible refine hfm.mono ?_)
      rintro e w2 ⟨rfl, hM2⟩
      have HO2 := Lib.hid (HO8.out.quiet hM2)
      clear hfm hM2 cq
      have hOa := HO2.out.quiet ((Mods.refl [] w2).alloc (.cells #[.string ⟨#[111, 102, 102, 115, 101, 116]⟩, .string ⟨IL.toArray⟩] 9))
      have hownA := hOa.2.1
      have HOa := Lib.hid hOa
      clear hOa
      go_wp2_with (at_builtin; refine wpList_app _ rfl _ _ 57 rfl 9 i0 _ 1 16 Tryz.underlying57 hi hz0 hz1 hz2 rfl (by decide) u7 (L).length (strsV (L)) rfl hownA ⟨w2.heap.size, 0, none⟩ 2 2 (strsV [[111, 102, 102, 115, 101, 116], IL]) rfl rfl ?ca11 (strsV_one _) (by decide) ?cb11 ?cc11 ?_)
      case ca11 => first | exact cells_lit w2 #[.string ⟨#[111, 102, 102, 115, 101, 116]⟩, .string ⟨IL.toArray⟩] _ | exact fun j u h => h
      first | (case cb11 => unfold maxLen; omega) | skip
      first | (case cc11 => omega) | skip
      intro g5 cap5 w5 hown5 hM5 hg5
      have hO5 := HOa.out.push (l2 := [[111, 102, 102, 115, 101, 116], IL]) (m := 2) rfl hown5 hM5 (by first | exact hg5 | (rw [size_alloc]; exact hg5))
      have HO5 := Lib.hid hO5
      clear hown5 hM5 hg5 hO5 HOa hownA
      go_wp2_with fail
      go_meet
      rw [HT2.out]
      exact HO5.out
  case rest =>
  have HO9 := Lib.hid hcut
  clear hcut HO8 HNB HTT cq hlb hMq
  generalize wc = V9 at *
  have hj : Calls Tryz.prog 34 #[u7, .string ⟨#[32]⟩] V9 _ := join_own w V9 u7 (t7 q) [32] HO9.out (by have := HN.out.1.1; omega) (by have := HN.out.1.2; omega)
  have hfin : Lib.join (t7 q) [32] = R := HR.out
  rw [hfin] at hj
  have hMf := HO9.out.1
  clear hfin
  go_wp2_with fail
  (with_reducible refine hj.mono ?_)
  rintro e w2 ⟨rfl, hM2⟩
  clear hj
  go_wp2_with fail
  go_ret
  exact ⟨rfl, hMf.trans hM2 (by simp)⟩
end Go.Proofs.YtpokbepenacnpaaGreatDoor
