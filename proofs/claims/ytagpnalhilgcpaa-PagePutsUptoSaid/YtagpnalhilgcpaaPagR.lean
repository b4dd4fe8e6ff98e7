/-
  page.List, walked: rows that each tell where the next one stands, or none.
-/
import Derived.Test.YtagpnalhilgcpaaPagM
import Derived.Test.YtagpnalhilgcpaaPagK
namespace Go.Proofs.Ytagpnalhilgcpaa
open Go.RowKit
set_option linter.unusedVariables false

/-- The rows of a list that begins at a place, at most so many; none where it can't be read. -/
def listGo (f : Nat → UInt8) (nP : Nat) (ts : List (Int × Int)) : Nat → Nat → Option (List (List V))
  | m, 0 => some []
  | 0, _ + 1 => none
  | m + 1, a + 1 => if hasB nP ((a + 1 : Nat) : Int) 8 = true then (match rowAns f nP (a + 1 + 8) ts with | some r => (listGo f nP ts m (numAt f (a + 1))).map (r :: ·) | none => none) else none

theorem listGo_zero (f : Nat → UInt8) (nP : Nat) (ts : List (Int × Int)) (m : Nat) : listGo f nP ts m 0 = some [] := by cases m <;> rfl
theorem listGo_full (f : Nat → UInt8) (nP : Nat) (ts : List (Int × Int)) {a : Nat} (h : a ≠ 0) : listGo f nP ts 0 a = none := by
  obtain ⟨b, rfl⟩ := Nat.exists_eq_succ_of_ne_zero h
  rfl
theorem listGo_out (f : Nat → UInt8) (nP : Nat) (ts : List (Int × Int)) (m : Nat) {a : Nat} (h : a ≠ 0) (hb : hasB nP (a : Int) 8 = false) : listGo f nP ts m a = none := by
  obtain ⟨b, rfl⟩ := Nat.exists_eq_succ_of_ne_zero h
  cases m with
  | zero => rfl
  | succ m => simp only [listGo, Nat.succ_eq_add_one] at hb ⊢; rw [if_neg (by rw [hb]; decide)]
theorem listGo_bad (f : Nat → UInt8) (nP : Nat) (ts : List (Int × Int)) (m : Nat) {a : Nat} (h : a ≠ 0) (hb : rowAns f nP (a + 8) ts = none) : listGo f nP ts m a = none := by
  obtain ⟨b, rfl⟩ := Nat.exists_eq_succ_of_ne_zero h
  cases m with
  | zero => rfl
  | succ m => simp only [listGo, Nat.succ_eq_add_one] at hb ⊢; rw [hb]; split <;> rfl
theorem listGo_next (f : Nat → UInt8) (nP : Nat) (ts : List (Int × Int)) (m : Nat) {a : Nat} (h : a ≠ 0) (hb : hasB nP (a : Int) 8 = true) {r : List V} (hr : rowAns f nP (a + 8) ts = some r) : listGo f nP ts (m + 1) a = (listGo f nP ts m (numAt f a)).map (r :: ·) := by
  obtain ⟨b, rfl⟩ := Nat.exists_eq_succ_of_ne_zero h
  simp only [listGo, Nat.succ_eq_add_one] at hb hr ⊢
  rw [if_pos hb, hr]

theorem ValsIn.later {w w' : World} {ao : Option Addr} {vs : List V} {L L' : List Nat} (h : ValsIn w' ao vs L) (h0 : ValsIn w ao vs L) (hL : ∀ k ∈ L', k ∈ L ∨ w.heap.size ≤ k) : ValsIn w' ao vs L' := by
  intro hn
  obtain ⟨tb, off, h1, h2, h3⟩ := h hn
  obtain ⟨tb', off', h1', h2', h3'⟩ := h0 hn
  rw [h1] at h1'
  cases h1'
  refine ⟨tb, off, h1, fun hm => ?_, h3⟩
  have hl : 0 < vs.length := List.length_pos_iff.2 hn
  have h4 : tb < w.heap.size := lt_of_cell (h3' 0 hl).1
  rcases hL tb hm with h5 | h5
  · exact h2 h5
  · omega

/-- The rows that are collected, in a slice of the call's own. -/
def RowsOwn (w wr : World) (t : Value) (rs : List (List V)) : Prop :=
  Mods [] w wr ∧ (∃ cells : List Value, wr.ownsRow 0 71 1 t rs.length cells ∧ cells.length = rs.length ∧ ∀ i (h : i < rs.length), ∃ vo c, cells[i]? = some (.slice vo rs[i].length c) ∧ ValsIn wr vo rs[i] t.ownBlock.toList) ∧ ∀ g, t.ownBlock = some g → w.heap.size ≤ g

theorem RowsOwn.quiet {w wr w' : World} {t : Value} {rs : List (List V)} (h : RowsOwn w wr t rs) (hM : Mods [] wr w') : RowsOwn w w' t rs := by
  obtain ⟨h1, ⟨cells, h2, h3, h4⟩, h5⟩ := h
  refine ⟨h1.trans hM (by simp), ⟨cells, ownsRow_mods h2 hM (by simp), h3, fun i hi => ?_⟩, h5⟩
  obtain ⟨vo, c, q1, q2⟩ := h4 i hi
  exact ⟨vo, c, q1, q2.mods (hM.mono (by simp))⟩

theorem RowsOwn.start (w : World) : RowsOwn w w (.slice none 0 0) [] :=
  ⟨Mods.refl _ _, ⟨[], World.ownsRow_nil _ _ _ _, rfl, fun i hi => by simp at hi⟩, fun g hg => by cases hg⟩

theorem RowsOwn.push {w wr w' : World} {t : Value} {rs : List (List V)} (h : RowsOwn w wr t rs) {r : List V} {vo : Option Addr} {c : Nat} (hV : ValsIn wr vo r t.ownBlock.toList) {cells : List Value} (hc : wr.ownsRow 0 71 1 t rs.length cells)
    (hcl : cells.length = rs.length) (hcs : ∀ i (h : i < rs.length), ∃ vo c, cells[i]? = some (.slice vo rs[i].length c) ∧ ValsIn wr vo rs[i] t.ownBlock.toList) {g cap : Nat} (hown : w'.ownsRow 0 71 1 (.slice (some ⟨g, 0, none⟩) (rs.length + 1) cap) (rs.length + 1) (cells ++ [.slice vo r.length c]))
    (hM : Mods t.ownBlock.toList wr w') (hg : t.ownBlock = some g ∨ wr.heap.size ≤ g) : RowsOwn w w' (.slice (some ⟨g, 0, none⟩) (rs.length + 1) cap) (rs ++ [r]) := by
  obtain ⟨h1, -, h5⟩ := h
  have hL : ∀ k ∈ (Value.slice (some ⟨g, 0, none⟩) (rs.length + 1) cap).ownBlock.toList, k ∈ t.ownBlock.toList ∨ wr.heap.size ≤ k := by
    intro k hk
    obtain rfl : k = g := by simpa [Value.ownBlock] using hk
    rcases hg with h | h
    · exact .inl (by simp [h])
    · exact .inr h
  refine ⟨h1.trans hM (fun x hx => .inr (h5 x (by simpa using hx))), ⟨_, by simpa using hown, by simp [hcl], fun i hi => ?_⟩, fun g' hg' => ?_⟩
  · by_cases hi2 : i < rs.length
    · obtain ⟨vo', c', q1, q2⟩ := hcs i hi2
      refine ⟨vo', c', ?_, ?_⟩
      · rw [List.getElem?_append_left (by omega), List.getElem_append_left hi2]; exact q1
      · rw [List.getElem_append_left hi2]; exact (q2.mods hM).later q2 hL
    · obtain rfl : i = rs.length := by simp at hi; omega
      refine ⟨vo, c, ?_, ?_⟩
      · rw [List.getElem?_append_right (by omega), hcl]; simp
      · simp only [List.getElem_append_right (Nat.le_refl _), Nat.sub_self, List.getElem_cons_zero]; exact (hV.mods hM).later hV hL
  · obtain rfl : g = g' := by simpa [Value.ownBlock] using hg'
    rcases hg with h | h
    · exact h5 g h
    · have := h1.size; omega

/-- What page.List hands back. -/
def GotRows (w : World) (r : Option (List (List V))) (e : Ending) (w' : World) : Prop :=
  match r with
    | some rs => ∃ t, e = .returned (.tuple #[t, .bool true]) ∧ RowsOwn w w' t rs
    | none => e = .returned (.tuple #[.slice none 0 0, .bool false]) ∧ Mods [] w w'

theorem RowsOwn.rows {w wr : World} {t : Value} {rs : List (List V)} (h : RowsOwn w wr t rs) : ∃ ao cap, t = .slice ao rs.length cap ∧ RowsIn wr ao rs [] := by
  obtain ⟨h1, ⟨cells, h2, h3, h4⟩, h5⟩ := h
  rcases h2.2 with ⟨hv, hn0⟩ | ⟨g, cap, cur, hv, hb, hg, r⟩
  · subst hv
    refine ⟨none, 0, by rw [hn0], fun h0 => ?_⟩
    exact absurd (List.length_eq_zero_iff.1 hn0) h0
  · subst hv
    refine ⟨some ⟨g, 0, none⟩, cap, rfl, fun h0 => ⟨g, 0, rfl, by simp, fun i hi => ?_⟩⟩
    obtain ⟨vo, c, q1, q2⟩ := h4 i hi
    have hc := h2.cells (g := g) rfl _ _ q1
    rw [addr_add] at hc
    refine ⟨vo, c, hc, fun hn => ?_⟩
    obtain ⟨tb, off, x1, x2, x3⟩ := q2 hn
    exact ⟨tb, off, x1, by simp, x3⟩

def ListRel (w : World) (f : Nat → UInt8) (nP : Nat) (ts : List (Int × Int)) (M : Nat) (ans : Option (List (List V))) (k at_ : Nat) (t8 : Value) (wr : World) : Prop :=
  ∃ rs, rs.length = k ∧ RowsOwn w wr t8 rs ∧ (listGo f nP ts (M - k) at_).map (rs ++ ·) = ans

set_option maxHeartbeats 2000000 in
set_option maxRecDepth 100000 in
theorem pglist_any (w : World) (b nP : Nat) (most : Int) (f : Nat → UInt8) (L : List Nat) (h : Mem w b nP most f L) (hnP : nP ≤ 256) (tao : Option Addr) (ts : List (Int × Int)) (nT ct : Nat) (hts : ts.length = nT) (hnT : nT ≤ 9223372036854775807) (hT : TysIn w tao ts []) (head : Nat) (hh : head < 18446744073709551616)
    (M : Nat) (hM : M ≤ 100000) :
    Calls Try.prog 34 #[.pointer (some ⟨b, 0, none⟩), .slice tao nT ct, .int .u64 head, .int .i64 M] w (GotRows w (listGo f nP ts M head)) := by
  obtain ⟨i0, hi, hz0, hz1, hz2⟩ := info_parts (show (Try.prog.info? 71).map (fun i => (i.zero, i.size, i.bytes)) = some (some (.slice none 0 0), 1, 24) by kernel_rfl)
  obtain ⟨ans, hans⟩ : ∃ ans, listGo f nP ts M head = ans := ⟨_, rfl⟩
  rw [hans]
  have hstart : ListRel w f nP ts M ans 0 head (.slice none 0 0) w := ⟨[], rfl, RowsOwn.start w, by rw [← hans]; simp⟩
  clear hans
  go_enter Try.func34, Try.ntmps34
  go_wp2_with fail
  go_loopw [8, 10] (fun t8 t10 wr => ∃ (k at_ : Nat), k ≤ M ∧ at_ < 18446744073709551616 ∧ t10 = .int .u64 at_ ∧ ListRel w f nP ts M ans k at_ t8 wr) (fun t8 _ _ => M + 1 - lenOf t8)
  case atStart => exact ⟨0, head, by omega, hh, rfl, hstart⟩
  case round =>
    clear hstart
    obtain ⟨k, a, hk, ha, rfl, rs, rfl, hR, hA⟩ := hrel
    obtain ⟨ao, cap, rfl, hRI⟩ := hR.rows
    have HA := Lib.hid hA
    clear hA
    by_cases h0 : a = 0
    · subst h0
      have fin : GotRows w ans (.returned (.tuple #[.slice ao rs.length cap, .bool true])) wr := by
        have := HA.out
        rw [listGo_zero] at this
        rw [← this]
        refine ⟨_, rfl, ?_⟩
        simpa using hR
      clear hRI
      go_wp2_with fail
      go_ret2
      exact fin
    · have ha0 : ¬ (a : Int) = 0 := by omega
      have hmr := h.mods hR.1 (by simp)
      have none_fin : ∀ w', Mods [] wr w' → listGo f nP ts (M - rs.length) a = none → GotRows w ans (.returned (.tuple #[.slice none 0 0, .bool false])) w' := by
        intro w' hm hn
        have := HA.out
        rw [hn] at this
        rw [← this]
        exact ⟨rfl, hR.1.trans hm (by simp)⟩
      cases hb : hasB nP (a : Int) 8 with
      | false =>
        have hld := load_bad wr b nP most f L a 8 hmr hnP ha (by omega) (by omega) (by rw [hb]; rfl)
        have fin := fun w' hm => none_fin w' hm (listGo_out f nP ts (M - rs.length) h0 hb)
        clear hb none_fin hRI
        go_wp2_with fail
        refine hld.mono ?_
        rintro e w2 ⟨rfl, hM2⟩
        go_wp2_with fail
        go_ret2
        exact fin _ hM2
      | true =>
        have hin : a + 8 ≤ 65536 * nP := by have := of_decide_eq_true hb; omega
        have hld := load_ok wr b nP most f L a 8 hmr hnP (by rw [hb]; rfl)
        have e1 : num (fun j => f (a + j)) (8 : Int).toNat = numAt f a := rfl
        rw [e1] at hld
        have hNl : numAt f a < 18446744073709551616 := num_lt _ _
        obtain ⟨NX, hNX⟩ : ∃ NX, numAt f a = NX := ⟨_, rfl⟩
        rw [hNX] at hld hNl
        have HNX := Lib.hid hNX
        have HB := Lib.hid hb
        clear hNX hb e1
        by_cases hkM : rs.length < M
        · have hkM2 : ¬ (M : Int) ≤ (rs.length : Int) := by omega
          go_wp2_with fail
          refine hld.mono ?_
          rintro e w2 ⟨rfl, hM2⟩
          have hm2 := hmr.mods hM2 (by simp)
          have hR2 := hR.quiet hM2
          have hT2 := (hT.mods hR.1).mods hM2
          have e8 : IntKind.u64.wrap ((a : Int) + 8) = ((a + 8 : Nat) : Int) := by rw [IntKind.wrap_u64]; omega
          have hrow := pgrow_any w2 b nP most f L hm2 hnP tao ts nT ct hts hnT hT2 (a + 8) (by omega)
          clear hld hm2 hmr
          go_wp2_with fail
          refine hrow.mono ?_
          rintro e w3 ⟨hM3, hans⟩
          cases hr : rowAns f nP (a + 8) ts with
          | none =>
            rw [hr] at hans
            obtain rfl := hans
            have fin := none_fin _ (hM2.trans hM3 (by simp)) (listGo_bad f nP ts (M - rs.length) h0 hr)
            clear none_fin hRI hrow
            go_wp2_with fail
            go_ret2
            exact fin
          | some r =>
            rw [hr] at hans
            obtain ⟨vo, rc, rfl, hV, hfr⟩ := hans
            have hR3 := hR2.quiet hM3
            obtain ⟨q1, ⟨cells, q2, q3, q4⟩, q5⟩ := id hR3
            have HR := Lib.hid hr
            have HR3 := Lib.hid hR3
            have HQ := Lib.hid (And.intro q3 q4)
            have hVL : ValsIn w3 vo r (Value.slice ao rs.length cap).ownBlock.toList := by
              intro hn
              obtain ⟨tb, off, x1, x2, x3⟩ := hV hn
              refine ⟨tb, off, x1, fun hm => ?_, x3⟩
              have h5 := hfr _ x1
              have h6 := ownsRow_lt (hR2.2.1.choose_spec.1) tb hm
              dsimp only at h5
              omega
            have HV := Lib.hid hVL
            clear hr hR3 q3 q4 q1 q5 hVL hV hfr hrow hM3 hR2 hT2 none_fin hRI hR
            go_wp2_with (at_builtin; refine wpList_app _ rfl _ _ 52 rfl 71 i0 (.slice none 0 0) 1 24 Try.underlying52 hi hz0 hz1 hz2 rfl (by decide) (.slice ao rs.length cap) rs.length cells rfl (q2.alloc _) ⟨w3.heap.size, 0, none⟩ 1 1 [.slice vo r.length rc] rfl rfl (cell_one_new _ _ _) ?c2 (by decide) ?c3 ?c4 ?_)
            case c2 => intro u hu; simp at hu; subst hu; rfl
            case c3 => unfold maxLen; omega
            case c4 => omega
            intro g cap2 w7 hown7 hM7 hg7
            have hM3 := HR3.out.1
            have hown8 : ∃ x, x = (Value.slice (some ⟨g, 0, none⟩) (rs.length + 1) cap2) := ⟨_, rfl⟩
            have hrel : ListRel w f nP ts M ans (rs.length + 1) NX (.slice (some ⟨g, 0, none⟩) (rs.length + 1) cap2) w7 := by
              refine ⟨rs ++ [r], by simp, ?_, ?_⟩
              · have hMA := (Mods.refl [] w3).alloc (.cells #[.slice vo r.length rc] 71)
                have hRA := HR3.out.quiet hMA
                refine hRA.push (HV.out.mods (hMA.mono (by simp))) (q2.alloc _) HQ.out.1 (fun i hi => ?_) hown7 hM7 (by rw [size_alloc]; exact hg7)
                obtain ⟨vo', c', x1, x2⟩ := HQ.out.2 i hi
                exact ⟨vo', c', x1, x2.mods (hMA.mono (by simp))⟩
              · have h1 := HA.out
                have h2 := listGo_next f nP ts (M - rs.length - 1) h0 HB.out HR.out
                rw [HNX.out] at h2
                rw [show M - rs.length = M - rs.length - 1 + 1 by omega, h2] at h1
                rw [← h1, show M - (rs.length + 1) = M - rs.length - 1 by omega]
                cases listGo f nP ts (M - rs.length - 1) NX <;> simp
            clear hown7 hM7 hg7 q2 hown8 hM3
            go_wp2_with fail
            go_roundw
            case measure => simp [lenOf]; omega
            case rel => exact ⟨rs.length + 1, NX, by omega, hNl, rfl, hrel⟩
        · have hkM2 : (M : Int) ≤ (rs.length : Int) := by omega
          have fin := fun w' hm => none_fin w' hm (by rw [show M - rs.length = 0 by omega]; exact listGo_full f nP ts h0)
          clear none_fin hRI
          go_wp2_with fail
          refine hld.mono ?_
          rintro e w2 ⟨rfl, hM2⟩
          go_wp2_with fail
          go_ret2
          exact fin _ hM2
end Go.Proofs.Ytagpnalhilgcpaa
