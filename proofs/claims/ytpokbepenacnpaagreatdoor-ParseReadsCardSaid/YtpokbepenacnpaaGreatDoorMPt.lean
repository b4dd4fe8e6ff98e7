/-
  Lists of what parse reads, as they lie in memory. No condition.
-/
import Derived.Test.YtpokbepenacnpaaGreatDoorMPs
import Derived.Test.YtpokbepenacnpaaGreatDoorMPq
namespace Go.Proofs.YtpokbepenacnpaaGreatDoor
open Go.RowKit
set_option linter.unusedVariables false

abbrev RepR (α : Type) := World → List Nat → List Value → α → Prop
structure Rep {α : Type} (R : RepR α) : Prop where
  mods : ∀ {w w' : World} {L : List Nat} {cs : List Value} {a : α}, R w L cs a → Mods L w w' → R w' L cs a
  weaken : ∀ {w : World} {L L' : List Nat} {cs : List Value} {a : α}, (∀ x ∈ L', x ∈ L) → R w L cs a → R w L' cs a
  fresh : ∀ {w : World} {L : List Nat} {cs : List Value} {a : α} {g : Nat}, w.heap.size ≤ g → R w L cs a → R w (g :: L) cs a
def AllR {α : Type} (R : RepR α) (w : World) (L : List Nat) : List (List Value) → List α → Prop
  | [], [] => True
  | c :: cs, x :: xs => R w L c x ∧ AllR R w L cs xs
  | _, _ => False
theorem AllR.map {α : Type} {R : RepR α} {w w' : World} {L L' : List Nat} (h : ∀ c x, R w L c x → R w' L' c x) : ∀ {css : List (List Value)} {xs : List α}, AllR R w L css xs → AllR R w' L' css xs := by
  intro css
  induction css with
  | nil => intro xs hx; cases xs with
    | nil => trivial
    | cons x xs => exact hx.elim
  | cons c cs ih => intro xs hx; cases xs with
    | nil => exact hx.elim
    | cons x xs => exact ⟨h _ _ hx.1, ih hx.2⟩
theorem AllR.snoc {α : Type} {R : RepR α} {w : World} {L : List Nat} {c : List Value} {x : α} (hc : R w L c x) : ∀ {css : List (List Value)} {xs : List α}, AllR R w L css xs → AllR R w L (css ++ [c]) (xs ++ [x]) := by
  intro css
  induction css with
  | nil => intro xs hx; cases xs with
    | nil => exact ⟨hc, trivial⟩
    | cons x xs => exact hx.elim
  | cons c cs ih => intro xs hx; cases xs with
    | nil => exact hx.elim
    | cons x xs => exact ⟨hx.1, ih hx.2⟩
theorem ExprAt.fresh {T T2 : TypeId} {w : World} {L : List Nat} {g : Nat} (hg : w.heap.size ≤ g) : ∀ {t : Tree} {v : Value}, ExprAt T T2 w L v t → ExprAt T T2 w (g :: L) v t := by
  intro t
  induction t with
  | leaf h =>
    rintro v ⟨b, h1, h2, h3⟩
    have := lt_size_of_heap h3
    exact ⟨b, h1, by simp; exact ⟨by omega, h2⟩, h3⟩
  | un h a ih =>
    rintro v ⟨b, c, u, h1, h2, h3, h4, h5, h6⟩
    have := lt_size_of_heap h4
    have := lt_size_of_heap h5
    exact ⟨b, c, u, h1, by simp; exact ⟨by omega, h2⟩, by simp; exact ⟨by omega, h3⟩, h4, h5, ih h6⟩
  | bin h a d iha ihd =>
    rintro v ⟨b, c, u, x, h1, h2, h3, h4, h5, h6, h7⟩
    have := lt_size_of_heap h4
    have := lt_size_of_heap h5
    exact ⟨b, c, u, x, h1, by simp; exact ⟨by omega, h2⟩, by simp; exact ⟨by omega, h3⟩, h4, h5, iha h6, ihd h7⟩

def TreeR : RepR Tree := fun w L cs t => ∃ b, cs = [PtrV b] ∧ ExprAt 138 89 w L (PtrV b) t
def ItemR : RepR ItemT := fun w L cs i => ∃ b, cs = [PtrV b, .string ⟨i.name.toArray⟩] ∧ ExprAt 138 89 w L (PtrV b) i.e
def KeyR : RepR KeyT := fun w L cs k => cs = [.int .i64 k.pos, .int .i64 k.item, .string ⟨k.name.toArray⟩, .bool k.desc]
theorem treeRep : Rep TreeR := ⟨fun ⟨b, h1, h2⟩ hM => ⟨b, h1, h2.mods hM⟩, fun hL ⟨b, h1, h2⟩ => ⟨b, h1, h2.weaken hL⟩, fun hg ⟨b, h1, h2⟩ => ⟨b, h1, h2.fresh hg⟩⟩
theorem itemRep : Rep ItemR := ⟨fun ⟨b, h1, h2⟩ hM => ⟨b, h1, h2.mods hM⟩, fun hL ⟨b, h1, h2⟩ => ⟨b, h1, h2.weaken hL⟩, fun hg ⟨b, h1, h2⟩ => ⟨b, h1, h2.fresh hg⟩⟩
theorem keyRep : Rep KeyR := ⟨fun h _ => h, fun _ h => h, fun _ h => h⟩

/-- A list in memory, of the call's own. -/
def ListRes {α : Type} (R : RepR α) (pb tg f : Nat) (F : PS → List α × PS) (s : PS) (w : World) (e : Ending) (w' : World) : Prop :=
  ∃ g cap css, e = .returned (.slice (some ⟨g, 0, none⟩) (F s).1.length cap) ∧ Mods [pb] w w' ∧ PSt w' pb tg (F s).2 f ∧ w.heap.size ≤ g ∧ g < w'.heap.size ∧ (F s).1.length ≤ cap ∧ (∀ j u, css.flatten[j]? = some u → w'.cell? ⟨g, j, none⟩ = some u) ∧
    ((F s).2.e = 0 → ∀ L : List Nat, (∀ x ∈ L, x < w.heap.size) → AllR R w' (g :: L) css (F s).1)

theorem takes_false {s : PS} {x : Bs} (h : (s.takes x).1 = false) : (s.takes x).2 = s := by
  unfold PS.takes at h ⊢
  split
  · rename_i hi; rw [if_pos hi] at h; cases h
  · rfl
theorem takes_true {s : PS} {x : Bs} (h : (s.takes x).1 = true) : s.is [x] = true ∧ s.takes x = (true, s.next) := by
  unfold PS.takes at h ⊢
  split
  · rename_i hi; exact ⟨hi, rfl⟩
  · rename_i hi; rw [if_neg hi] at h; cases h

/-- One round of list. -/
theorem list_step {α : Type} {R : RepR α} (hR : Rep R) {T : TypeId} {size : Nat} {w wr w2 w3 w5 : World} {pb tg f : Nat} {F : PS → α × PS} {s s1 : PS} {l : List α} {css : List (List Value)} {c : List Value} {g cap g' cap' : Nat} {o : Obj}
    (hgo : GoesA F) (hpb : pb < w.heap.size) (htg : tg < w.heap.size) (hM : Mods [pb] w wr) (h2 : Mods [pb] wr w2) (h3 : Mods [pb] w2 w3) (hP3 : PSt w3 pb tg (F s1.next).2 f) (hi : s1.is [wComma] = true) (hlen : s1.next.rest.length + 1 = s1.rest.length)
    (ho3 : wr.ownsRow 0 T size (.slice (some ⟨g, 0, none⟩) l.length cap) l.length css.flatten) (hg : w.heap.size ≤ g)
    (hE : s1.e = 0 → ∀ L : List Nat, (∀ z ∈ L, z < w.heap.size) → AllR R wr (g :: L) css l) (hE3 : (F s1.next).2.e = 0 → ∀ L : List Nat, (∀ z ∈ L, z < w2.heap.size) → R w3 L c (F s1.next).1)
    (hJ : ∀ m, s1.rest.length = m + 1 → listF F s = listG F m (l ++ [(F s1.next).1]) (F s1.next).2)
    (h5 : w5.ownsRow 0 T size (.slice (some ⟨g', 0, none⟩) (l.length + 1) cap') (l.length + 1) (css.flatten ++ c)) (hM5 : Mods [g] (w3.alloc o) w5) (hg' : g' = g ∨ (w3.alloc o).heap.size ≤ g') :
    (F s1.next).2.rest.length < s1.rest.length ∧ Mods [pb] w w5 ∧ PSt w5 pb tg (F s1.next).2 f ∧ w.heap.size ≤ g' ∧
      Hid (listF F s = listG F (F s1.next).2.rest.length (l ++ [(F s1.next).1]) (F s1.next).2) ∧
      w5.ownsRow 0 T size (.slice (some ⟨g', 0, none⟩) (l ++ [(F s1.next).1]).length cap') (l ++ [(F s1.next).1]).length (css ++ [c]).flatten ∧
      Hid ((F s1.next).2.e = 0 → ∀ L : List Nat, (∀ z ∈ L, z < w.heap.size) → AllR R w5 (g' :: L) (css ++ [c]) (l ++ [(F s1.next).1])) := by
  have hl := (hgo s1.next).len
  have hwf : WfT (F s1.next).2.rest := by obtain ⟨l, -, -, h3, -⟩ := hP3; exact h3
  have hz := (Mods.refl [] w3).alloc o
  have hgl : g < wr.heap.size := ho3.lt g rfl |>.2
  have hs1 := hM.size
  have hs2 := h2.size
  have hs3 := h3.size
  have hM3 : Mods [pb] w w3 := (hM.trans h2 (by simp)).trans h3 (by simp)
  have hgp : g ≠ pb := by omega
  have hgt : g ≠ tg := by omega
  refine ⟨by omega, ((hM3.trans (hz.mono (L' := [pb]) (by simp)) (by simp)).trans hM5 (fun x hx => .inr (by simp at hx; omega))), (hP3.later hz).mods hM5 (by simpa using hgp.symm) (by simpa using hgt.symm), ?_, Lib.hid ?_, ?_, Lib.hid fun he L hL => ?_⟩
  · rcases hg' with rfl | h
    · exact hg
    · rw [size_alloc] at h; omega
  · rw [hJ s1.next.rest.length hlen.symm]
    exact listG_more hgo _ _ _ _ hwf hl (Nat.le_refl _)
  · rw [List.length_append, List.flatten_append]
    simpa using h5
  · have h1e : s1.e = 0 := (is_kind hi).1
    have hL1 : ∀ z ∈ (pb :: L), z < w.heap.size := fun z hz => by
      rcases List.mem_cons.1 hz with rfl | hz
      · exact hpb
      · exact hL _ hz
    -- the old ones
    have a1 : AllR R w3 (g :: pb :: L) css l := (hE h1e (pb :: L) hL1).map fun c x h => hR.mods h (((h2.trans h3 (by simp)).mono (L' := g :: pb :: L) (by simp)))
    have a2 : R w3 (g :: pb :: L) c (F s1.next).1 := hE3 he (g :: pb :: L) fun z hz => by
      rcases List.mem_cons.1 hz with rfl | hz
      · omega
      · have := hL1 z hz; omega
    have a3 := AllR.snoc a2 a1
    have a4 : AllR R (w3.alloc o) (g :: pb :: L) (css ++ [c]) (l ++ [(F s1.next).1]) := a3.map fun c x h => hR.mods h (hz.mono (by simp))
    rcases hg' with rfl | h
    · exact (a4.map fun c x h => hR.mods h (hM5.mono (by simp))).map fun c x h => hR.weaken (fun z hz => by
        rcases List.mem_cons.1 hz with rfl | hz
        · exact List.mem_cons_self
        · exact List.mem_cons_of_mem _ (List.mem_cons_of_mem _ hz)) h
    · have a5 : AllR R (w3.alloc o) (g' :: g :: pb :: L) (css ++ [c]) (l ++ [(F s1.next).1]) := a4.map fun c x hx => hR.fresh h hx
      exact (a5.map fun c x h => hR.mods h (hM5.mono (by simp))).map fun c x h => hR.weaken (fun z hz => by
        rcases List.mem_cons.1 hz with rfl | hz
        · exact List.mem_cons_self
        · exact List.mem_cons_of_mem _ (List.mem_cons_of_mem _ (List.mem_cons_of_mem _ hz))) h
/-- What a slice of the call's own holds. -/
theorem own_out {w : World} {T : TypeId} {size g n cap : Nat} {xs : List Value} (h : w.ownsRow 0 T size (.slice (some ⟨g, 0, none⟩) n cap) n xs) : g < w.heap.size ∧ n ≤ cap ∧ ∀ j u, xs[j]? = some u → w.cell? ⟨g, j, none⟩ = some u := by
  refine ⟨(h.lt g rfl).2, ?_, fun j u hj => ?_⟩
  · rcases h.2 with ⟨hv, -⟩ | ⟨g', cap', cur, hv, -, -, hc, -⟩
    · cases hv
    · simp only [Value.slice.injEq] at hv
      rw [hv.2.2]; exact hc
  · have := h.cells (g := g) rfl j u hj
    rw [addr_add, Nat.zero_add] at this
    exact this
theorem cells_lit (w : World) (cs : Array Value) (T : TypeId) : ∀ j u, cs.toList[j]? = some u → (w.alloc (.cells cs T)).cell? ((⟨w.heap.size, 0, none⟩ : Addr).add j) = some u := by
  intro j u hj
  rw [addr_add, Nat.zero_add, cell_of_heap (heap_alloc_new w _) j]
  simpa using hj
end Go.Proofs.YtpokbepenacnpaaGreatDoor

namespace Go.Proofs.YtpokbepenacnpaaGreatDoor
open Go.RowKit
set_option linter.unusedVariables false

/-- What item hands back. -/
def ItemRes (pb tg f : Nat) (F : PS → ItemT × PS) (s : PS) (w : World) (e : Ending) (w' : World) : Prop :=
  ∃ (b : Nat) (nm : ByteArray), e = .returned (.agg #[PtrV b, .string nm]) ∧ Mods [pb] w w' ∧ PSt w' pb tg (F s).2 f ∧ ((F s).2.e = 0 → ∀ L : List Nat, (∀ x ∈ L, x < w.heap.size) → ItemR w' L [PtrV b, .string nm] (F s).1)

set_option maxRecDepth 100000 in
set_option maxHeartbeats 4000000 in
theorem list_item (w : World) (pb tg : Nat) (f : Nat) (s : PS) (h : PSt w pb tg s f) (hlen : s.rest.length ≤ 10000) (F : PS → ItemT × PS) (hgo : GoesA F)
    (hone : ∀ W s1, PSt W pb tg s1 f → Calls Tryz.prog 61 #[PtrV pb] W (ItemRes pb tg f F s1 W)) :
    Calls Tryz.prog 60 #[PtrV pb, .func (.func 61) #[PtrV pb] #[]] w (ListRes ItemR pb tg f (listF F) s w) := by
  have hpw := h.lt
  obtain ⟨i0, hi, hz0, hz1, hz2⟩ := info_parts (show (Tryz.prog.info? 102).map (fun i => (i.zero, i.size, i.bytes)) = some (some (.agg #[.pointer none, .string ⟨#[]⟩]), 2, 24) by kernel_rfl)
  have h1 := hone w s h
  have HPT := Lib.hid hone
  have HL0 : Hid ((F s).2.rest.length ≤ s.rest.length) := Lib.hid (hgo s).len
  have FIN : Hid (∀ g cap css w' l s2, listF F s = (l, s2) → Mods [pb] w w' → PSt w' pb tg s2 f → w.heap.size ≤ g → g < w'.heap.size → l.length ≤ cap → (∀ j u, css.flatten[j]? = some u → w'.cell? ⟨g, j, none⟩ = some u) → (s2.e = 0 → ∀ L : List Nat, (∀ x ∈ L, x < w.heap.size) → AllR ItemR w' (g :: L) css l) → ListRes ItemR pb tg f (listF F) s w (.returned (.slice (some ⟨g, 0, none⟩) l.length cap)) w') :=
    Lib.hid (fun g cap css w' l s2 e h1 h2 h3 h3' h4 h5 h6 => ⟨g, cap, css, by rw [e], h1, by rw [e]; exact h2, h3, h3', by rw [e]; exact h4, h5, by rw [e]; exact h6⟩)
  unfold PtrV at *
  clear h hone
  go_enter Tryz.func60, Tryz.ntmps60
  go_wp2_with fail
  (with_reducible refine h1.mono ?_)
  rintro e w1 ⟨b1, nm1, rfl, hM1, hP1, hE1⟩
  (try unfold PtrV)
  clear h1
  have HJ : Hid (listF F s = listG F (F s).2.rest.length [(F s).1] (F s).2) := Lib.hid rfl
  have hz := (Mods.refl [] w1).alloc (.cells #[.pointer (some ⟨b1, 0, none⟩), .string nm1] 102)
  have hbn := heap_alloc_new w1 (.cells #[.pointer (some ⟨b1, 0, none⟩), .string nm1] 102)
  have hown1 : (w1.alloc (.cells #[.pointer (some ⟨b1, 0, none⟩), .string nm1] 102)).ownsRow 0 102 2 (.slice (some ⟨w1.heap.size, 0, none⟩) 1 1) 1 [.pointer (some ⟨b1, 0, none⟩), .string nm1] := ⟨rfl, .inr ⟨_, 1, _, rfl, Nat.zero_le _, hbn, Nat.le_refl _, by unfold maxLen; omega, rfl, rfl⟩⟩
  have hs1 := hM1.size
  have hstart : Hid ((F s).2.e = 0 → ∀ L : List Nat, (∀ x ∈ L, x < w.heap.size) → AllR ItemR (w1.alloc (.cells #[.pointer (some ⟨b1, 0, none⟩), .string nm1] 102)) (w1.heap.size :: L) [[.pointer (some ⟨b1, 0, none⟩), .string nm1]] [(F s).1]) := Lib.hid fun he L hL => ⟨(itemRep.mods (itemRep.fresh (Nat.le_refl _) (hE1 he L hL)) (hz.mono (by simp))), trivial⟩
  have hMs := hM1.trans (hz.mono (L' := [pb]) (by simp)) (by simp)
  have hPs := hP1.later hz
  have HS := Lib.hid (And.intro hMs (And.intro hPs hown1))
  clear hE1 hP1 hbn hown1 hMs hPs hz
  go_wp2_with fail
  go_loopg [5] (F s).2.rest.length (fun gk t5 wr => ∃ (l : List ItemT) (s1 : PS) (css : List (List Value)) (g cap : Nat), s1.rest.length = gk ∧ t5 = .slice (some ⟨g, 0, none⟩) l.length cap ∧ Mods [pb] w wr ∧ PSt wr pb tg s1 f ∧ l.length + s1.rest.length ≤ s.rest.length + 1 ∧ wr.ownsRow 0 102 2 (.slice (some ⟨g, 0, none⟩) l.length cap) l.length css.flatten ∧ w.heap.size ≤ g ∧ Hid (listF F s = listG F s1.rest.length l s1) ∧ Hid (s1.e = 0 → ∀ L : List Nat, (∀ x ∈ L, x < w.heap.size) → AllR ItemR wr (g :: L) css l))
  case atStart => exact ⟨[(F s).1], (F s).2, [[.pointer (some ⟨b1, 0, none⟩), .string nm1]], w1.heap.size, 1, rfl, rfl, HS.out.1, HS.out.2.1, by have := HL0.out; simp; omega, HS.out.2.2, hs1, HJ, hstart⟩
  case round =>
    clear hstart HS HJ HL0
    obtain ⟨l, s1, css, g, cap, hgk, rfl, hM, hP, hll, ho, hg, HJ, HE⟩ := hrel
    have htk := takes_any wr pb tg s1 f hP wComma
    have hwf : WfT s1.rest := by obtain ⟨l, -, -, h3, -⟩ := hP; exact h3
    have hpos : 0 < s1.rest.length := List.length_pos_iff.2 hwf.ne
    have hgl := own_out ho
    have hgp : g ≠ pb := by omega
    unfold PtrV at htk
    cases ht : (s1.takes wComma).1 with
    | false =>
      have hs1 := takes_false ht
      rw [ht, hs1] at htk
      have hJ2 : listF F s = (l, s1) := by
        rw [HJ.out]
        obtain ⟨m, hm⟩ : ∃ m, s1.rest.length = m + 1 := ⟨s1.rest.length - 1, by omega⟩
        rw [hm]
        unfold listG
        rw [if_neg (by rw [ht]; decide), hs1]
      have hfin := fun w2 (hM2 : Mods [pb] wr w2) (hP2 : PSt w2 pb tg s1 f) => FIN.out g cap css w2 l s1 hJ2 (hM.trans hM2 (by simp)) hP2 hg (by have := hM2.size; omega) hgl.2.1 (fun j u hj => hM2.cell (hgl.2.2 j u hj) (by simpa using hgp)) (fun he L hL =>
        ((HE.out he (pb :: L) (fun z hz => by
          rcases List.mem_cons.1 hz with rfl | hz
          · exact hpw.1
          · exact hL z hz)).map fun c x hx => itemRep.mods hx (hM2.mono (by simp))).map fun c x hx => itemRep.weaken (fun z hz => by
            rcases List.mem_cons.1 hz with rfl | hz
            · exact List.mem_cons_self
            · exact List.mem_cons_of_mem _ (List.mem_cons_of_mem _ hz)) hx)
      have HFIN := Lib.hid hfin
      unfold wComma at htk
      clear hfin hJ2 ht hs1 hP ho hgl FIN HJ HE hwf
      go_wp2_with fail
      (with_reducible refine htk.mono ?_)
      rintro e w2 ⟨rfl, hM2, hP2⟩
      clear htk
      have fin := Lib.hid (HFIN.out w2 hM2 hP2)
      clear HFIN hP2
      go_wp2_with fail
      go_ret
      exact fin.out
    | true =>
      obtain ⟨his, hTk⟩ := takes_true ht
      have HNL : Hid (s1.next.rest.length + 1 = s1.rest.length) := Lib.hid (by unfold PS.next; rw [List.length_tail]; omega)
      have HJ2 : Hid (∀ m, s1.rest.length = m + 1 → listF F s = listG F m (l ++ [(F s1.next).1]) (F s1.next).2) := Lib.hid fun m hm => by
        rw [HJ.out, hm]
        conv => lhs; unfold listG
        rw [if_pos ht, hTk]
      rw [hTk] at htk
      have HIS := Lib.hid his
      have HO := Lib.hid (And.intro ho hgl)
      unfold wComma at htk
      clear his hTk ht hP ho hgl FIN HJ hwf
      go_wp2_with fail
      (with_reducible refine htk.mono ?_)
      rintro e w2 ⟨rfl, hM2, hP2⟩
      have h2 := HPT.out w2 s1.next hP2
      unfold PtrV at h2
      clear htk hP2
      go_wp2_with fail
      (with_reducible refine h2.mono ?_)
      rintro e w3 ⟨b2, nm2, rfl, hM3, hP3, hE3⟩
      (try unfold PtrV)
      have hown3 := ownsRow_mods (ownsRow_mods HO.out.1 hM2 (by simpa [Value.ownBlock] using hgp)) hM3 (by simpa [Value.ownBlock] using hgp)
      have H3 := Lib.hid (And.intro hP3 hE3)
      clear h2 hP3 hE3
      go_wp2_with (at_builtin; refine wpList_app _ rfl _ _ 88 rfl 102 i0 _ 2 24 Tryz.underlying88 hi hz0 hz1 hz2 rfl (by decide) (.slice (some ⟨g, 0, none⟩) l.length cap) l.length css.flatten rfl (hown3.alloc _) ⟨w3.heap.size, 0, none⟩ 1 1 [.pointer (some ⟨b2, 0, none⟩), .string nm2] rfl rfl ?c1 ?c2 (by decide) ?c3 ?c4 ?_)
      case c1 => exact cells_lit w3 #[.pointer (some ⟨b2, 0, none⟩), .string nm2] _
      case c2 => intro u hu; simp only [List.mem_cons, List.not_mem_nil, or_false] at hu; rcases hu with rfl | rfl <;> rfl
      case c3 => unfold maxLen; omega
      case c4 => omega
      intro g' cap2 w5 hown5 hM5 hg5
      have hst := list_step itemRep hgo hpw.1 hpw.2 hM hM2 hM3 H3.out.1 HIS.out HNL.out HO.out.1 hg HE.out H3.out.2 HJ2.out hown5 hM5 (by rw [size_alloc]; exact Or.imp (fun h : some g = some g' => (Option.some.inj h).symm) id hg5)
      have HST := Lib.hid hst
      clear hst hown5 hM5 hg5 H3 HIS HJ2 HO hown3 HE
      go_wp2_with fail
      go_roundg (F s1.next).2.rest.length
      case measure => rw [← hgk]; exact HST.out.1
      case rel => exact ⟨l ++ [(F s1.next).1], (F s1.next).2, css ++ [[.pointer (some ⟨b2, 0, none⟩), .string nm2]], g', cap2, rfl, by simp, HST.out.2.1, HST.out.2.2.1, by have := HST.out.1; simp; omega, HST.out.2.2.2.2.2.1, HST.out.2.2.2.1, HST.out.2.2.2.2.1, HST.out.2.2.2.2.2.2⟩
end Go.Proofs.YtpokbepenacnpaaGreatDoor

namespace Go.Proofs.YtpokbepenacnpaaGreatDoor
open Go.RowKit
set_option linter.unusedVariables false

/-- What column hands back. -/
def ColumnRes (pb tg f : Nat) (F : PS → Tree × PS) (s : PS) (w : World) (e : Ending) (w' : World) : Prop :=
  ∃ (b : Nat), e = .returned (PtrV b) ∧ Mods [pb] w w' ∧ PSt w' pb tg (F s).2 f ∧ ((F s).2.e = 0 → ∀ L : List Nat, (∀ x ∈ L, x < w.heap.size) → TreeR w' L [PtrV b] (F s).1)

set_option maxRecDepth 100000 in
set_option maxHeartbeats 4000000 in
theorem list_column (w : World) (pb tg : Nat) (f : Nat) (s : PS) (h : PSt w pb tg s f) (hlen : s.rest.length ≤ 10000) (F : PS → Tree × PS) (hgo : GoesA F)
    (hone : ∀ W s1, PSt W pb tg s1 f → Calls Tryz.prog 66 #[PtrV pb] W (ColumnRes pb tg f F s1 W)) :
    Calls Tryz.prog 65 #[PtrV pb, .func (.func 66) #[PtrV pb] #[]] w (ListRes TreeR pb tg f (listF F) s w) := by
  have hpw := h.lt
  obtain ⟨i0, hi, hz0, hz1, hz2⟩ := info_parts (show (Tryz.prog.info? 89).map (fun i => (i.zero, i.size, i.bytes)) = some (some (.pointer none), 1, 8) by kernel_rfl)
  have h1 := hone w s h
  have HPT := Lib.hid hone
  have HL0 : Hid ((F s).2.rest.length ≤ s.rest.length) := Lib.hid (hgo s).len
  have FIN : Hid (∀ g cap css w' l s2, listF F s = (l, s2) → Mods [pb] w w' → PSt w' pb tg s2 f → w.heap.size ≤ g → g < w'.heap.size → l.length ≤ cap → (∀ j u, css.flatten[j]? = some u → w'.cell? ⟨g, j, none⟩ = some u) → (s2.e = 0 → ∀ L : List Nat, (∀ x ∈ L, x < w.heap.size) → AllR TreeR w' (g :: L) css l) → ListRes TreeR pb tg f (listF F) s w (.returned (.slice (some ⟨g, 0, none⟩) l.length cap)) w') :=
    Lib.hid (fun g cap css w' l s2 e h1 h2 h3 h3' h4 h5 h6 => ⟨g, cap, css, by rw [e], h1, by rw [e]; exact h2, h3, h3', by rw [e]; exact h4, h5, by rw [e]; exact h6⟩)
  unfold PtrV at *
  clear h hone
  go_enter Tryz.func65, Tryz.ntmps65
  go_wp2_with fail
  (with_reducible refine h1.mono ?_)
  rintro e w1 ⟨b1, rfl, hM1, hP1, hE1⟩
  (try unfold PtrV)
  clear h1
  have HJ : Hid (listF F s = listG F (F s).2.rest.length [(F s).1] (F s).2) := Lib.hid rfl
  have hz := (Mods.refl [] w1).alloc (.cells #[.pointer (some ⟨b1, 0, none⟩)] 89)
  have hbn := heap_alloc_new w1 (.cells #[.pointer (some ⟨b1, 0, none⟩)] 89)
  have hown1 : (w1.alloc (.cells #[.pointer (some ⟨b1, 0, none⟩)] 89)).ownsRow 0 89 1 (.slice (some ⟨w1.heap.size, 0, none⟩) 1 1) 1 [.pointer (some ⟨b1, 0, none⟩)] := ⟨rfl, .inr ⟨_, 1, _, rfl, Nat.zero_le _, hbn, Nat.le_refl _, by unfold maxLen; omega, rfl, rfl⟩⟩
  have hs1 := hM1.size
  have hstart : Hid ((F s).2.e = 0 → ∀ L : List Nat, (∀ x ∈ L, x < w.heap.size) → AllR TreeR (w1.alloc (.cells #[.pointer (some ⟨b1, 0, none⟩)] 89)) (w1.heap.size :: L) [[.pointer (some ⟨b1, 0, none⟩)]] [(F s).1]) := Lib.hid fun he L hL => ⟨(treeRep.mods (treeRep.fresh (Nat.le_refl _) (hE1 he L hL)) (hz.mono (by simp))), trivial⟩
  have hMs := hM1.trans (hz.mono (L' := [pb]) (by simp)) (by simp)
  have hPs := hP1.later hz
  have HS := Lib.hid (And.intro hMs (And.intro hPs hown1))
  clear hE1 hP1 hbn hown1 hMs hPs hz
  go_wp2_with fail
  go_loopg [5] (F s).2.rest.length (fun gk t5 wr => ∃ (l : List Tree) (s1 : PS) (css : List (List Value)) (g cap : Nat), s1.rest.length = gk ∧ t5 = .slice (some ⟨g, 0, none⟩) l.length cap ∧ Mods [pb] w wr ∧ PSt wr pb tg s1 f ∧ l.length + s1.rest.length ≤ s.rest.length + 1 ∧ wr.ownsRow 0 89 1 (.slice (some ⟨g, 0, none⟩) l.length cap) l.length css.flatten ∧ w.heap.size ≤ g ∧ Hid (listF F s = listG F s1.rest.length l s1) ∧ Hid (s1.e = 0 → ∀ L : List Nat, (∀ x ∈ L, x < w.heap.size) → AllR TreeR wr (g :: L) css l))
  case atStart => exact ⟨[(F s).1], (F s).2, [[.pointer (some ⟨b1, 0, none⟩)]], w1.heap.size, 1, rfl, rfl, HS.out.1, HS.out.2.1, by have := HL0.out; simp; omega, HS.out.2.2, hs1, HJ, hstart⟩
  case round =>
    clear hstart HS HJ HL0
    obtain ⟨l, s1, css, g, cap, hgk, rfl, hM, hP, hll, ho, hg, HJ, HE⟩ := hrel
    have htk := takes_any wr pb tg s1 f hP wComma
    have hwf : WfT s1.rest := by obtain ⟨l, -, -, h3, -⟩ := hP; exact h3
    have hpos : 0 < s1.rest.length := List.length_pos_iff.2 hwf.ne
    have hgl := own_out ho
    have hgp : g ≠ pb := by omega
    unfold PtrV at htk
    cases ht : (s1.takes wComma).1 with
    | false =>
      have hs1 := takes_false ht
      rw [ht, hs1] at htk
      have hJ2 : listF F s = (l, s1) := by
        rw [HJ.out]
        obtain ⟨m, hm⟩ : ∃ m, s1.rest.length = m + 1 := ⟨s1.rest.length - 1, by omega⟩
        rw [hm]
        unfold listG
        rw [if_neg (by rw [ht]; decide), hs1]
      have hfin := fun w2 (hM2 : Mods [pb] wr w2) (hP2 : PSt w2 pb tg s1 f) => FIN.out g cap css w2 l s1 hJ2 (hM.trans hM2 (by simp)) hP2 hg (by have := hM2.size; omega) hgl.2.1 (fun j u hj => hM2.cell (hgl.2.2 j u hj) (by simpa using hgp)) (fun he L hL =>
        ((HE.out he (pb :: L) (fun z hz => by
          rcases List.mem_cons.1 hz with rfl | hz
          · exact hpw.1
          · exact hL z hz)).map fun c x hx => treeRep.mods hx (hM2.mono (by simp))).map fun c x hx => treeRep.weaken (fun z hz => by
            rcases List.mem_cons.1 hz with rfl | hz
            · exact List.mem_cons_self
            · exact List.mem_cons_of_mem _ (List.mem_cons_of_mem _ hz)) hx)
      have HFIN := Lib.hid hfin
      unfold wComma at htk
      clear hfin hJ2 ht hs1 hP ho hgl FIN HJ HE hwf
      go_wp2_with fail
      (with_reducible refine htk.mono ?_)
      rintro e w2 ⟨rfl, hM2, hP2⟩
      clear htk
      have fin := Lib.hid (HFIN.out w2 hM2 hP2)
      clear HFIN hP2
      go_wp2_with fail
      go_ret
      exact fin.out
    | true =>
      obtain ⟨his, hTk⟩ := takes_true ht
      have HNL : Hid (s1.next.rest.length + 1 = s1.rest.length) := Lib.hid (by unfold PS.next; rw [List.length_tail]; omega)
      have HJ2 : Hid (∀ m, s1.rest.length = m + 1 → listF F s = listG F m (l ++ [(F s1.next).1]) (F s1.next).2) := Lib.hid fun m hm => by
        rw [HJ.out, hm]
        conv => lhs; unfold listG
        rw [if_pos ht, hTk]
      rw [hTk] at htk
      have HIS := Lib.hid his
      have HO := Lib.hid (And.intro ho hgl)
      unfold wComma at htk
      clear his hTk ht hP ho hgl FIN HJ hwf
      go_wp2_with fail
      (with_reducible refine htk.mono ?_)
      rintro e w2 ⟨rfl, hM2, hP2⟩
      have h2 := HPT.out w2 s1.next hP2
      unfold PtrV at h2
      clear htk hP2
      go_wp2_with fail
      (with_reducible refine h2.mono ?_)
      rintro e w3 ⟨b2, rfl, hM3, hP3, hE3⟩
      (try unfold PtrV)
      have hown3 := ownsRow_mods (ownsRow_mods HO.out.1 hM2 (by simpa [Value.ownBlock] using hgp)) hM3 (by simpa [Value.ownBlock] using hgp)
      have H3 := Lib.hid (And.intro hP3 hE3)
      clear h2 hP3 hE3
      go_wp2_with (at_builtin; refine wpList_app _ rfl _ _ 90 rfl 89 i0 _ 1 8 Tryz.underlying90 hi hz0 hz1 hz2 rfl (by decide) (.slice (some ⟨g, 0, none⟩) l.length cap) l.length css.flatten rfl (hown3.alloc _) ⟨w3.heap.size, 0, none⟩ 1 1 [.pointer (some ⟨b2, 0, none⟩)] rfl rfl ?c1 ?c2 (by decide) ?c3 ?c4 ?_)
      case c1 => exact cells_lit w3 #[.pointer (some ⟨b2, 0, none⟩)] _
      case c2 => intro u hu; simp only [List.mem_cons, List.not_mem_nil, or_false] at hu; rcases hu with rfl <;> rfl
      case c3 => unfold maxLen; omega
      case c4 => omega
      intro g' cap2 w5 hown5 hM5 hg5
      have hst := list_step treeRep hgo hpw.1 hpw.2 hM hM2 hM3 H3.out.1 HIS.out HNL.out HO.out.1 hg HE.out H3.out.2 HJ2.out hown5 hM5 (by rw [size_alloc]; exact Or.imp (fun h : some g = some g' => (Option.some.inj h).symm) id hg5)
      have HST := Lib.hid hst
      clear hst hown5 hM5 hg5 H3 HIS HJ2 HO hown3 HE
      go_wp2_with fail
      go_roundg (F s1.next).2.rest.length
      case measure => rw [← hgk]; exact HST.out.1
      case rel => exact ⟨l ++ [(F s1.next).1], (F s1.next).2, css ++ [[.pointer (some ⟨b2, 0, none⟩)]], g', cap2, rfl, by simp, HST.out.2.1, HST.out.2.2.1, by have := HST.out.1; simp; omega, HST.out.2.2.2.2.2.1, HST.out.2.2.2.1, HST.out.2.2.2.2.1, HST.out.2.2.2.2.2.2⟩
end Go.Proofs.YtpokbepenacnpaaGreatDoor

namespace Go.Proofs.YtpokbepenacnpaaGreatDoor
open Go.RowKit
set_option linter.unusedVariables false

/-- What key hands back. -/
def KeyRes (pb tg f : Nat) (F : PS → KeyT × PS) (s : PS) (w : World) (e : Ending) (w' : World) : Prop :=
  ∃ (p k : Int) (nm : ByteArray) (d : Bool), e = .returned (.agg #[.int .i64 p, .int .i64 k, .string nm, .bool d]) ∧ Mods [pb] w w' ∧ PSt w' pb tg (F s).2 f ∧ ((F s).2.e = 0 → ∀ L : List Nat, (∀ x ∈ L, x < w.heap.size) → KeyR w' L [.int .i64 p, .int .i64 k, .string nm, .bool d] (F s).1)

set_option maxRecDepth 100000 in
set_option maxHeartbeats 4000000 in
theorem list_key (w : World) (pb tg : Nat) (f : Nat) (s : PS) (h : PSt w pb tg s f) (hlen : s.rest.length ≤ 10000) (F : PS → KeyT × PS) (hgo : GoesA F)
    (hone : ∀ W s1, PSt W pb tg s1 f → Calls Tryz.prog 68 #[PtrV pb] W (KeyRes pb tg f F s1 W)) :
    Calls Tryz.prog 67 #[PtrV pb, .func (.func 68) #[PtrV pb] #[]] w (ListRes KeyR pb tg f (listF F) s w) := by
  have hpw := h.lt
  obtain ⟨i0, hi, hz0, hz1, hz2⟩ := info_parts (show (Tryz.prog.info? 106).map (fun i => (i.zero, i.size, i.bytes)) = some (some (.agg #[.int .i64 0, .int .i64 0, .string ⟨#[]⟩, .bool false]), 4, 40) by kernel_rfl)
  have h1 := hone w s h
  have HPT := Lib.hid hone
  have HL0 : Hid ((F s).2.rest.length ≤ s.rest.length) := Lib.hid (hgo s).len
  have FIN : Hid (∀ g cap css w' l s2, listF F s = (l, s2) → Mods [pb] w w' → PSt w' pb tg s2 f → w.heap.size ≤ g → g < w'.heap.size → l.length ≤ cap → (∀ j u, css.flatten[j]? = some u → w'.cell? ⟨g, j, none⟩ = some u) → (s2.e = 0 → ∀ L : List Nat, (∀ x ∈ L, x < w.heap.size) → AllR KeyR w' (g :: L) css l) → ListRes KeyR pb tg f (listF F) s w (.returned (.slice (some ⟨g, 0, none⟩) l.length cap)) w') :=
    Lib.hid (fun g cap css w' l s2 e h1 h2 h3 h3' h4 h5 h6 => ⟨g, cap, css, by rw [e], h1, by rw [e]; exact h2, h3, h3', by rw [e]; exact h4, h5, by rw [e]; exact h6⟩)
  unfold PtrV at *
  clear h hone
  go_enter Tryz.func67, Tryz.ntmps67
  go_wp2_with fail
  (with_reducible refine h1.mono ?_)
  rintro e w1 ⟨p1, k1, nm1, d1, rfl, hM1, hP1, hE1⟩
  (try unfold PtrV)
  clear h1
  have HJ : Hid (listF F s = listG F (F s).2.rest.length [(F s).1] (F s).2) := Lib.hid rfl
  have hz := (Mods.refl [] w1).alloc (.cells #[.int .i64 p1, .int .i64 k1, .string nm1, .bool d1] 106)
  have hbn := heap_alloc_new w1 (.cells #[.int .i64 p1, .int .i64 k1, .string nm1, .bool d1] 106)
  have hown1 : (w1.alloc (.cells #[.int .i64 p1, .int .i64 k1, .string nm1, .bool d1] 106)).ownsRow 0 106 4 (.slice (some ⟨w1.heap.size, 0, none⟩) 1 1) 1 [.int .i64 p1, .int .i64 k1, .string nm1, .bool d1] := ⟨rfl, .inr ⟨_, 1, _, rfl, Nat.zero_le _, hbn, Nat.le_refl _, by unfold maxLen; omega, rfl, rfl⟩⟩
  have hs1 := hM1.size
  have hstart : Hid ((F s).2.e = 0 → ∀ L : List Nat, (∀ x ∈ L, x < w.heap.size) → AllR KeyR (w1.alloc (.cells #[.int .i64 p1, .int .i64 k1, .string nm1, .bool d1] 106)) (w1.heap.size :: L) [[.int .i64 p1, .int .i64 k1, .string nm1, .bool d1]] [(F s).1]) := Lib.hid fun he L hL => ⟨(keyRep.mods (keyRep.fresh (Nat.le_refl _) (hE1 he L hL)) (hz.mono (by simp))), trivial⟩
  have hMs := hM1.trans (hz.mono (L' := [pb]) (by simp)) (by simp)
  have hPs := hP1.later hz
  have HS := Lib.hid (And.intro hMs (And.intro hPs hown1))
  clear hE1 hP1 hbn hown1 hMs hPs hz
  go_wp2_with fail
  go_loopg [5] (F s).2.rest.length (fun gk t5 wr => ∃ (l : List KeyT) (s1 : PS) (css : List (List Value)) (g cap : Nat), s1.rest.length = gk ∧ t5 = .slice (some ⟨g, 0, none⟩) l.length cap ∧ Mods [pb] w wr ∧ PSt wr pb tg s1 f ∧ l.length + s1.rest.length ≤ s.rest.length + 1 ∧ wr.ownsRow 0 106 4 (.slice (some ⟨g, 0, none⟩) l.length cap) l.length css.flatten ∧ w.heap.size ≤ g ∧ Hid (listF F s = listG F s1.rest.length l s1) ∧ Hid (s1.e = 0 → ∀ L : List Nat, (∀ x ∈ L, x < w.heap.size) → AllR KeyR wr (g :: L) css l))
  case atStart => exact ⟨[(F s).1], (F s).2, [[.int .i64 p1, .int .i64 k1, .string nm1, .bool d1]], w1.heap.size, 1, rfl, rfl, HS.out.1, HS.out.2.1, by have := HL0.out; simp; omega, HS.out.2.2, hs1, HJ, hstart⟩
  case round =>
    clear hstart HS HJ HL0
    obtain ⟨l, s1, css, g, cap, hgk, rfl, hM, hP, hll, ho, hg, HJ, HE⟩ := hrel
    have htk := takes_any wr pb tg s1 f hP wComma
    have hwf : WfT s1.rest := by obtain ⟨l, -, -, h3, -⟩ := hP; exact h3
    have hpos : 0 < s1.rest.length := List.length_pos_iff.2 hwf.ne
    have hgl := own_out ho
    have hgp : g ≠ pb := by omega
    unfold PtrV at htk
    cases ht : (s1.takes wComma).1 with
    | false =>
      have hs1 := takes_false ht
      rw [ht, hs1] at htk
      have hJ2 : listF F s = (l, s1) := by
        rw [HJ.out]
        obtain ⟨m, hm⟩ : ∃ m, s1.rest.length = m + 1 := ⟨s1.rest.length - 1, by omega⟩
        rw [hm]
        unfold listG
        rw [if_neg (by rw [ht]; decide), hs1]
      have hfin := fun w2 (hM2 : Mods [pb] wr w2) (hP2 : PSt w2 pb tg s1 f) => FIN.out g cap css w2 l s1 hJ2 (hM.trans hM2 (by simp)) hP2 hg (by have := hM2.size; omega) hgl.2.1 (fun j u hj => hM2.cell (hgl.2.2 j u hj) (by simpa using hgp)) (fun he L hL =>
        ((HE.out he (pb :: L) (fun z hz => by
          rcases List.mem_cons.1 hz with rfl | hz
          · exact hpw.1
          · exact hL z hz)).map fun c x hx => keyRep.mods hx (hM2.mono (by simp))).map fun c x hx => keyRep.weaken (fun z hz => by
            rcases List.mem_cons.1 hz with rfl | hz
            · exact List.mem_cons_self
            · exact List.mem_cons_of_mem _ (List.mem_cons_of_mem _ hz)) hx)
      have HFIN := Lib.hid hfin
      unfold wComma at htk
      clear hfin hJ2 ht hs1 hP ho hgl FIN HJ HE hwf
      go_wp2_with fail
      (with_reducible refine htk.mono ?_)
      rintro e w2 ⟨rfl, hM2, hP2⟩
      clear htk
      have fin := Lib.hid (HFIN.out w2 hM2 hP2)
      clear HFIN hP2
      go_wp2_with fail
      go_ret
      exact fin.out
    | true =>
      obtain ⟨his, hTk⟩ := takes_true ht
      have HNL : Hid (s1.next.rest.length + 1 = s1.rest.length) := Lib.hid (by unfold PS.next; rw [List.length_tail]; omega)
      have HJ2 : Hid (∀ m, s1.rest.length = m + 1 → listF F s = listG F m (l ++ [(F s1.next).1]) (F s1.next).2) := Lib.hid fun m hm => by
        rw [HJ.out, hm]
        conv => lhs; unfold listG
        rw [if_pos ht, hTk]
      rw [hTk] at htk
      have HIS := Lib.hid his
      have HO := Lib.hid (And.intro ho hgl)
      unfold wComma at htk
      clear his hTk ht hP ho hgl FIN HJ hwf
      go_wp2_with fail
      (with_reducible refine htk.mono ?_)
      rintro e w2 ⟨rfl, hM2, hP2⟩
      have h2 := HPT.out w2 s1.next hP2
      unfold PtrV at h2
      clear htk hP2
      go_wp2_with fail
      (with_reducible refine h2.mono ?_)
      rintro e w3 ⟨p2, k2, nm2, d2, rfl, hM3, hP3, hE3⟩
      (try unfold PtrV)
      have hown3 := ownsRow_mods (ownsRow_mods HO.out.1 hM2 (by simpa [Value.ownBlock] using hgp)) hM3 (by simpa [Value.ownBlock] using hgp)
      have H3 := Lib.hid (And.intro hP3 hE3)
      clear h2 hP3 hE3
      go_wp2_with (at_builtin; refine wpList_app _ rfl _ _ 91 rfl 106 i0 _ 4 40 Tryz.underlying91 hi hz0 hz1 hz2 rfl (by decide) (.slice (some ⟨g, 0, none⟩) l.length cap) l.length css.flatten rfl (hown3.alloc _) ⟨w3.heap.size, 0, none⟩ 1 1 [.int .i64 p2, .int .i64 k2, .string nm2, .bool d2] rfl rfl ?c1 ?c2 (by decide) ?c3 ?c4 ?_)
      case c1 => exact cells_lit w3 #[.int .i64 p2, .int .i64 k2, .string nm2, .bool d2] _
      case c2 => intro u hu; simp only [List.mem_cons, List.not_mem_nil, or_false] at hu; rcases hu with rfl | rfl | rfl | rfl <;> rfl
      case c3 => unfold maxLen; omega
      case c4 => omega
      intro g' cap2 w5 hown5 hM5 hg5
      have hst := list_step keyRep hgo hpw.1 hpw.2 hM hM2 hM3 H3.out.1 HIS.out HNL.out HO.out.1 hg HE.out H3.out.2 HJ2.out hown5 hM5 (by rw [size_alloc]; exact Or.imp (fun h : some g = some g' => (Option.some.inj h).symm) id hg5)
      have HST := Lib.hid hst
      clear hst hown5 hM5 hg5 H3 HIS HJ2 HO hown3 HE
      go_wp2_with fail
      go_roundg (F s1.next).2.rest.length
      case measure => rw [← hgk]; exact HST.out.1
      case rel => exact ⟨l ++ [(F s1.next).1], (F s1.next).2, css ++ [[.int .i64 p2, .int .i64 k2, .string nm2, .bool d2]], g', cap2, rfl, by simp, HST.out.2.1, HST.out.2.2.1, by have := HST.out.1; simp; omega, HST.out.2.2.2.2.2.1, HST.out.2.2.2.1, HST.out.2.2.2.2.1, HST.out.2.2.2.2.2.2⟩
end Go.Proofs.YtpokbepenacnpaaGreatDoor

namespace Go.Proofs.YtpokbepenacnpaaGreatDoor
open Go.RowKit
set_option linter.unusedVariables false

/-- A list in memory (or none), none of whose blocks is one of L. -/
def ListAt {α : Type} (R : RepR α) (w : World) (L : List Nat) (v : Value) (l : List α) : Prop :=
  (v = .slice none 0 0 ∧ l = []) ∨ ∃ g cap css, v = .slice (some ⟨g, 0, none⟩) l.length cap ∧ g ∉ L ∧ l.length ≤ cap ∧ (∀ j u, css.flatten[j]? = some u → w.cell? ⟨g, j, none⟩ = some u) ∧ AllR R w L css l
def OptAt (w : World) (L : List Nat) (v : Value) : Option Tree → Prop
  | none => v = .pointer none
  | some t => ∃ b, v = PtrV b ∧ ExprAt 138 89 w L (PtrV b) t
theorem ListAt.mods {α : Type} {R : RepR α} (hR : Rep R) {w w' : World} {L : List Nat} {v : Value} {l : List α} (h : ListAt R w L v l) (hM : Mods L w w') : ListAt R w' L v l := by
  rcases h with h | ⟨g, cap, css, h1, h2, h3, h4, h5⟩
  · exact .inl h
  · exact .inr ⟨g, cap, css, h1, h2, h3, fun j u hj => hM.cell (h4 j u hj) h2, h5.map fun c x hx => hR.mods hx hM⟩
theorem ListAt.weaken {α : Type} {R : RepR α} (hR : Rep R) {w : World} {L L' : List Nat} (hL : ∀ x ∈ L', x ∈ L) {v : Value} {l : List α} (h : ListAt R w L v l) : ListAt R w L' v l := by
  rcases h with h | ⟨g, cap, css, h1, h2, h3, h4, h5⟩
  · exact .inl h
  · exact .inr ⟨g, cap, css, h1, fun hm => h2 (hL _ hm), h3, h4, h5.map fun c x hx => hR.weaken hL hx⟩
theorem OptAt.mods {w w' : World} {L : List Nat} {v : Value} {o : Option Tree} (h : OptAt w L v o) (hM : Mods L w w') : OptAt w' L v o := by
  cases o with
  | none => exact h
  | some t => obtain ⟨b, h1, h2⟩ := h; exact ⟨b, h1, h2.mods hM⟩
theorem OptAt.weaken {w : World} {L L' : List Nat} (hL : ∀ x ∈ L', x ∈ L) {v : Value} {o : Option Tree} (h : OptAt w L v o) : OptAt w L' v o := by
  cases o with
  | none => exact h
  | some t => obtain ⟨b, h1, h2⟩ := h; exact ⟨b, h1, h2.weaken hL⟩
theorem PRes.optAt {t : Tree} {w w' : World} {b : Nat} {L : List Nat} (hL : ∀ x ∈ L, x < w.heap.size) (h : ∀ L : List Nat, (∀ x ∈ L, x < w.heap.size) → ExprAt 138 89 w' L (PtrV b) t) : OptAt w' L (PtrV b) (some t) := ⟨b, rfl, h L hL⟩

/-- A query's cells. -/
def queryC (q : QueryT) (vi von vwh vg vo : Value) : List Value := [.bool q.star, vi, .string ⟨q.src.toArray⟩, .string ⟨q.join.toArray⟩, .int .i64 q.srcAt, .int .i64 q.joinAt, von, vwh, vg, vo, .int .i64 q.limit, .int .i64 q.offset]
/-- What a query points to. -/
def QParts (w : World) (L : List Nat) (q : QueryT) (vi von vwh vg vo : Value) : Prop :=
  ListAt ItemR w L vi q.items ∧ OptAt w L von q.on ∧ OptAt w L vwh q.whr ∧ ListAt TreeR w L vg q.group ∧ ListAt KeyR w L vo q.order
theorem QParts.mods {w w' : World} {L : List Nat} {q : QueryT} {vi von vwh vg vo : Value} (h : QParts w L q vi von vwh vg vo) (hM : Mods L w w') : QParts w' L q vi von vwh vg vo :=
  ⟨h.1.mods itemRep hM, h.2.1.mods hM, h.2.2.1.mods hM, h.2.2.2.1.mods treeRep hM, h.2.2.2.2.mods keyRep hM⟩
def QueryAt (w : World) (L : List Nat) (qb : Nat) (q : QueryT) : Prop :=
  ∃ vi von vwh vg vo, w.heap[qb]? = some (.cells (queryC q vi von vwh vg vo).toArray 93 (0, 0)) ∧ QParts w L q vi von vwh vg vo

/-- The parser and the query, while that is put together. -/
def QInv (pb tg f : Nat) (w0 : World) (qb : Nat) (x : QS) (w : World) : Prop :=
  Mods [pb] w0 w ∧ PSt w pb tg x.2 f ∧ w0.heap.size ≤ qb ∧ pb < w0.heap.size ∧ tg < w0.heap.size ∧ x.2.rest.length ≤ 10000 ∧ ∃ vi von vwh vg vo, w.heap[qb]? = some (.cells (queryC x.1 vi von vwh vg vo).toArray 93 (0, 0)) ∧ (x.2.e = 0 → QParts w [qb, pb] x.1 vi von vwh vg vo)

theorem QInv.go {pb tg f : Nat} {w0 : World} {qb : Nat} {x : QS} {w w' : World} {s' : PS} (h : QInv pb tg f w0 qb x w) (hM : Mods [pb] w w') (hP : PSt w' pb tg s' f) (hA : Aft x.2 s') : QInv pb tg f w0 qb (x.1, s') w' := by
  obtain ⟨h1, h2, h3, h4, h5, h6, vi, von, vwh, vg, vo, h7, h8⟩ := h
  refine ⟨h1.trans hM (by simp), hP, h3, h4, h5, Nat.le_trans hA.len h6, vi, von, vwh, vg, vo, hM.heap h7 (by simp; omega), fun he => (h8 ?_).mods (hM.mono (by simp))⟩
  by_cases hx : x.2.e = 0
  · exact hx
  · have := hA.err hx
    rw [this] at he
    exact absurd he hx
theorem QInv.later {pb tg f : Nat} {w0 : World} {qb : Nat} {x : QS} {w w' : World} (h : QInv pb tg f w0 qb x w) (hM : Mods [] w w') : QInv pb tg f w0 qb x w' := by
  obtain ⟨h1, h2, h3, h4, h5, h6, vi, von, vwh, vg, vo, h7, h8⟩ := h
  exact ⟨h1.trans (hM.mono (L' := [pb]) (by simp)) (by simp), h2.later hM, h3, h4, h5, h6, vi, von, vwh, vg, vo, hM.heap h7 (by simp), fun he => (h8 he).mods (hM.mono (by simp))⟩
theorem QInv.pst {pb tg f : Nat} {w0 : World} {qb : Nat} {x : QS} {w : World} (h : QInv pb tg f w0 qb x w) : PSt w pb tg x.2 f := h.2.1
theorem QInv.block {pb tg f : Nat} {w0 : World} {qb : Nat} {x : QS} {w : World} (h : QInv pb tg f w0 qb x w) : ∃ cs, w.heap[qb]? = some (.cells cs 93 (0, 0)) ∧ cs.size = 12 := by
  obtain ⟨h1, h2, h3, h4, h5, h6, vi, von, vwh, vg, vo, h7, h8⟩ := h
  exact ⟨_, h7, rfl⟩

theorem QInv.put {pb tg f : Nat} {w0 : World} {qb : Nat} {x : QS} {w : World} (h : QInv pb tg f w0 qb x w) (j : Nat) (v : Value) (q' : QueryT)
    (hq : ∀ vi von vwh vg vo, (x.2.e = 0 → QParts w [qb, pb] x.1 vi von vwh vg vo) → ∃ vi' von' vwh' vg' vo', (queryC x.1 vi von vwh vg vo).set j v = queryC q' vi' von' vwh' vg' vo' ∧ (x.2.e = 0 → QParts w [qb, pb] q' vi' von' vwh' vg' vo')) :
    QInv pb tg f w0 qb (q', x.2) (w.setCell ⟨qb, j, none⟩ v) := by
  obtain ⟨h1, h2, h3, h4, h5, h6, vi, von, vwh, vg, vo, h7, h8⟩ := h
  obtain ⟨vi', von', vwh', vg', vo', e1, e2⟩ := hq vi von vwh vg vo h8
  have hz : Mods [qb] w (w.setCell ⟨qb, j, none⟩ v) := (Mods.refl _ _).setCell (.inl (by simp)) _
  refine ⟨h1.trans hz (fun y hy => .inr (by simp at hy; omega)), h2.mods hz (by simp; omega) (by simp; omega), h3, h4, h5, h6, vi', von', vwh', vg', vo', ?_, fun he => (e2 he).mods (hz.mono (by simp))⟩
  have := heap_setCell_same h7 j v
  rw [this, ← e1]
  congr 1
  congr 1
  apply Array.toList_inj.1
  simp
end Go.Proofs.YtpokbepenacnpaaGreatDoor

namespace Go.Proofs.YtpokbepenacnpaaGreatDoor
open Go.RowKit
set_option linter.unusedVariables false

theorem Aft.zero {a b : PS} (h : Aft a b) (hb : b.e = 0) : a.e = 0 := by
  by_cases ha : a.e = 0
  · exact ha
  · have := h.err ha
    rw [this] at hb
    exact hb
theorem item_one (a : Option Addr) (s : ByteArray) : (#[.pointer a, .string s] : Array Value).all (·.oneCell') = true := by simp [Value.oneCell']
theorem key_one (p k : Int) (s : ByteArray) (d : Bool) : (#[.int .i64 p, .int .i64 k, .string s, .bool d] : Array Value).all (·.oneCell') = true := by simp [Value.oneCell']
theorem PRes.keep {T T2 : TypeId} {n : Nat} {w1 w2 w' : World} {pb rb ib : Nat} {v : Value} {t : Tree} (h1 : n ≤ w1.heap.size) (hE : ∀ L : List Nat, (∀ x ∈ L, x < w1.heap.size) → ExprAt T T2 w2 L v t) (hpb : pb < w1.heap.size) (hrb : rb < w1.heap.size) (hib : w2.heap.size ≤ ib) (hM : Mods [ib, rb, pb] w2 w') :
    ∀ L : List Nat, (∀ x ∈ L, x < n) → ExprAt T T2 w' L v t := fun L hL =>
  (((hE (rb :: pb :: L) (fun z hz => by
    rcases List.mem_cons.1 hz with rfl | hz
    · exact hrb
    · rcases List.mem_cons.1 hz with rfl | hz
      · exact hpb
      · have := hL z hz; omega)).fresh hib).mods (hM.mono (fun x hx => .inl (by simp at hx ⊢; rcases hx with h | h | h <;> simp [h])))).weaken (fun z hz => List.mem_cons_of_mem _ (List.mem_cons_of_mem _ (List.mem_cons_of_mem _ hz)))

set_option maxRecDepth 100000 in
set_option maxHeartbeats 1000000 in
theorem item_any (w : World) (pb tg : Nat) (f : Nat) (s : PS) (h : PSt w pb tg s f) :
    Calls Tryz.prog 61 #[PtrV pb] w (ItemRes pb tg f (itemF (lvl f).expr) s w) := by
  have hpw := h.lt
  have hMr := (Mods.refl [] w).alloc (.cells #[.pointer none, .string ⟨#[]⟩] 102)
  have hP1 := h.later hMr
  have h1 := expr_all _ pb tg f s hP1
  have hrow := heap_alloc_new w (.cells #[.pointer none, .string ⟨#[]⟩] 102)
  have hinfo : (Tryz.prog.info? 102).map (·.size) = some 2 := by kernel_rfl
  have hsz : w.heap.size < (w.alloc (.cells #[.pointer none, .string ⟨#[]⟩] 102)).heap.size := by rw [size_alloc]; omega
  generalize hE0 : (lvl f).expr = E at *
  have FIN : Hid (∀ b nm w', Mods [pb] w w' → PSt w' pb tg (itemF E s).2 f → (itemF E s).1 = ⟨(E s).1, nm⟩ → ((itemF E s).2.e = 0 → (E s).2.e = 0) → ((E s).2.e = 0 → ∀ L : List Nat, (∀ x ∈ L, x < w.heap.size) → ExprAt 138 89 w' L (PtrV b) (E s).1) → ItemRes pb tg f (itemF E) s w (.returned (.agg #[PtrV b, .string ⟨nm.toArray⟩])) w') :=
    Lib.hid (fun b nm w' a1 a2 a3 a4 a5 => ⟨b, _, rfl, a1, a2, fun he L hL => ⟨b, by rw [a3], by rw [a3]; exact a5 (a4 he) L hL⟩⟩)
  unfold PtrV at *
  clear h hP1 hE0
  have HH := Lib.hid (And.intro hMr hrow)
  clear hrow hMr
  go_enter Tryz.func61, Tryz.ntmps61
  go_wp2_with fail
  (with_reducible refine h1.mono ?_)
  rintro e w2 ⟨b, rfl, hM2, hP2, hE2⟩
  unfold PtrV
  clear h1
  have hs2 := hM2.size
  have hrow2 := hM2.heap HH.out.2 (by simp; omega)
  have hMw2 : Mods [pb] w w2 := (HH.out.1.mono (L' := [pb]) (by simp)).trans hM2 (by simp)
  have hz3 := (Mods.refl [] w2).alloc (.cells #[.pointer (some ⟨b, 0, none⟩), .string ⟨#[]⟩] 102)
  have hi3 := heap_alloc_new w2 (.cells #[.pointer (some ⟨b, 0, none⟩), .string ⟨#[]⟩] 102)
  have htk : Calls Tryz.prog 59 #[PtrV pb, .string ⟨#[65, 83]⟩] (w2.alloc (.cells #[.pointer (some ⟨b, 0, none⟩), .string ⟨#[]⟩] 102)) _ := takes_any _ pb tg _ f (hP2.later hz3) wAs
  have hrow3 := hz3.heap hrow2 (by simp)
  have HE2 := Lib.hid hE2
  have HM2 := Lib.hid (And.intro hMw2 hz3)
  unfold PtrV at htk
  clear hE2 hP2 hM2 hrow2 hMw2 hz3 HH
  generalize hrb : w.heap.size = rb at *
  go_wp2_with fail
  (with_reducible refine htk.mono ?_)
  rintro e w4 ⟨rfl, hM4, hP4⟩
  clear htk
  have hi4 := hM4.heap hi3 (by simp; omega)
  have hrow4 := hM4.heap hrow3 (by simp; omega)
  have hs4 := hM4.size
  have hIF : itemF E s = if ((E s).2.takes wAs).1 = true then (⟨(E s).1, ((E s).2.takes wAs).2.name.1⟩, ((E s).2.takes wAs).2.name.2) else (⟨(E s).1, []⟩, ((E s).2.takes wAs).2) := rfl
  have HAf := Lib.hid (Aft.takes (E s).2 wAs)
  have HIF := Lib.hid hIF
  have HI3 := Lib.hid hi3
  generalize hib : w2.heap.size = ib at *
  have hilt : ib < w4.heap.size := lt_size_of_heap hi4
  clear hi3 hIF hrow3
  obtain ⟨c, hc⟩ : ∃ c, ((E s).2.takes wAs).1 = c := ⟨_, rfl⟩
  rw [hc]
  have HC := Lib.hid hc
  clear hc
  generalize ((E s).2.takes wAs).2 = s4 at *
  have HT : Hid (tg < w2.heap.size) := Lib.hid (by have := hs2; have := hpw.2; omega)
  cases c with
  | false =>
    have c0 := cell_of_heap hi4 0
    have c1 := cell_of_heap hi4 1
    change w4.cell? _ = some (.pointer (some ⟨b, 0, none⟩)) at c0
    change w4.cell? _ = some (.string ⟨#[]⟩) at c1
    go_wp2_with (refine wpList_store_row rfl 102 (.tmp 2) (.tmp 12) rfl rb #[.pointer (some ⟨b, 0, none⟩), .string ⟨#[]⟩] rfl rfl 102 _ hrow4 hinfo rfl (item_one _ _) ?_)
    have hM5 : Mods [rb] w4 (w4.setRow rb #[.pointer (some ⟨b, 0, none⟩), .string ⟨#[]⟩]) := (Mods.refl _ _).setRow (.inl (by simp)) _
    have hr5 := row_set_same #[.pointer (some ⟨b, 0, none⟩), .string ⟨#[]⟩] hrow4
    have hP5 := hP4.mods hM5 (by simp; omega) (by simp; omega)
    have hM25 : Mods [ib, rb, pb] w2 (w4.setRow rb #[.pointer (some ⟨b, 0, none⟩), .string ⟨#[]⟩]) := (((HM2.out.2.mono (L' := [ib, rb, pb]) (by simp)).trans hM4 (by simp)).trans hM5 (by simp))
    generalize w4.setRow rb #[.pointer (some ⟨b, 0, none⟩), .string ⟨#[]⟩] = w5 at *
    have q0 := cell_of_heap hr5 0
    have q1 := cell_of_heap hr5 1
    change w5.cell? _ = some (.pointer (some ⟨b, 0, none⟩)) at q0
    change w5.cell? _ = some (.string ⟨#[]⟩) at q1
    refine bodyPost_ret (by simp [results, Tryz.results61, go_sem, q0, q1, Result.andThen]; try rfl) rfl ?_
    have hIF : itemF E s = (⟨(E s).1, []⟩, s4) := by rw [HIF.out, if_neg (by rw [HC.out]; decide)]
    exact FIN.out b [] w5 (HM2.out.1.trans hM25 (fun x hx => by simp at hx; rcases hx with h | h | h <;> simp [h] <;> omega)) (by rw [hIF]; exact hP5) (by rw [hIF]) (by rw [hIF]; exact HAf.out.zero)
      (fun he => PRes.keep (w1 := w.alloc (.cells #[.pointer none, .string ⟨#[]⟩] 102)) (Nat.le_of_lt hsz) (HE2.out he) (by omega) (by omega) (Nat.le_of_eq hib) hM25)
  | true =>
    have hnm := name_any w4 pb tg s4 f hP4
    unfold PtrV at hnm
    go_wp2_with fail
    (with_reducible refine hnm.mono ?_)
    rintro e w5 ⟨rfl, hM5, hP5⟩
    have hi5 := hM5.heap hi4 (by simp; omega)
    have hrow5 := hM5.heap hrow4 (by simp; omega)
    have c1 := cell_of_heap hi5 1
    have f1 := frozen_of_heap hi5 1
    change w5.cell? _ = some (.string ⟨#[]⟩) at c1
    have hM6 : Mods [ib] w5 (w5.setCell ⟨ib, 1, none⟩ (.string ⟨s4.name.1.toArray⟩)) := (Mods.refl _ _).setCell (.inl (by simp)) _
    have hi6 := heap_setCell_same hi5 1 (.string ⟨s4.name.1.toArray⟩)
    change (w5.setCell ⟨ib, 1, none⟩ (.string ⟨s4.name.1.toArray⟩)).heap[ib]? = some (.cells #[.pointer (some ⟨b, 0, none⟩), .string ⟨s4.name.1.toArray⟩] 102 (0, 0)) at hi6
    have hrow6 := hM6.heap hrow5 (by simp; omega)
    have hP6 := hP5.mods hM6 (by simp; omega) (by have := HT.out; simp; omega)
    have hM26 : Mods [ib, rb, pb] w2 (w5.setCell ⟨ib, 1, none⟩ (.string ⟨s4.name.1.toArray⟩)) := (((HM2.out.2.mono (L' := [ib, rb, pb]) (by simp)).trans hM4 (by simp)).trans hM5 (by simp)).trans hM6 (by simp)
    clear hnm
    go_upto_region 4 with fail
    generalize w5.setCell ⟨ib, 1, none⟩ (.string ⟨s4.name.1.toArray⟩) = w6 at *
    clear c1 f1 hi5 hrow5 hM6 hM5
    have c0 := cell_of_heap hi6 0
    have c1 := cell_of_heap hi6 1
    change w6.cell? _ = some (.pointer (some ⟨b, 0, none⟩)) at c0
    change w6.cell? _ = some (.string ⟨s4.name.1.toArray⟩) at c1
    go_wp2_with (refine wpList_store_row rfl 102 (.tmp 2) (.tmp 12) rfl rb #[.pointer (some ⟨b, 0, none⟩), .string ⟨s4.name.1.toArray⟩] rfl rfl 102 _ hrow6 hinfo rfl (item_one _ _) ?_)
    have hM7 : Mods [rb] w6 (w6.setRow rb #[.pointer (some ⟨b, 0, none⟩), .string ⟨s4.name.1.toArray⟩]) := (Mods.refl _ _).setRow (.inl (by simp)) _
    have hr7 := row_set_same #[.pointer (some ⟨b, 0, none⟩), .string ⟨s4.name.1.toArray⟩] hrow6
    have hP7 := hP6.mods hM7 (by simp; omega) (by simp; omega)
    have hM27 : Mods [ib, rb, pb] w2 (w6.setRow rb #[.pointer (some ⟨b, 0, none⟩), .string ⟨s4.name.1.toArray⟩]) := hM26.trans hM7 (by simp)
    generalize w6.setRow rb #[.pointer (some ⟨b, 0, none⟩), .string ⟨s4.name.1.toArray⟩] = w7 at *
    have q0 := cell_of_heap hr7 0
    have q1 := cell_of_heap hr7 1
    change w7.cell? _ = some (.pointer (some ⟨b, 0, none⟩)) at q0
    change w7.cell? _ = some (.string ⟨s4.name.1.toArray⟩) at q1
    refine bodyPost_ret (by simp [results, Tryz.results61, go_sem, q0, q1, Result.andThen]; try rfl) rfl ?_
    have hIF : itemF E s = (⟨(E s).1, s4.name.1⟩, s4.name.2) := by rw [HIF.out, if_pos HC.out]
    exact FIN.out b _ w7 (HM2.out.1.trans hM27 (fun x hx => by simp at hx; rcases hx with h | h | h <;> simp [h] <;> omega)) (by rw [hIF]; exact hP7) (by rw [hIF]) (by rw [hIF]; exact fun h => HAf.out.zero ((Aft.name s4).zero h))
      (fun he => PRes.keep (w1 := w.alloc (.cells #[.pointer none, .string ⟨#[]⟩] 102)) (Nat.le_of_lt hsz) (HE2.out he) (by omega) (by omega) (Nat.le_of_eq hib) hM27)
end Go.Proofs.YtpokbepenacnpaaGreatDoor

namespace Go.Proofs.YtpokbepenacnpaaGreatDoor
open Go.RowKit
set_option linter.unusedVariables false

set_option maxRecDepth 100000 in
set_option maxHeartbeats 1000000 in
theorem key_any (w : World) (pb tg : Nat) (f : Nat) (s : PS) (h : PSt w pb tg s f) :
    Calls Tryz.prog 68 #[PtrV pb] w (KeyRes pb tg f keyF s w) := by
  have hpw := h.lt
  have hMr := (Mods.refl [] w).alloc (.cells #[.int .i64 0, .int .i64 0, .string ⟨#[]⟩, .bool false] 106)
  have hP1 := h.later hMr
  have hnow := now_any _ pb tg s f hP1
  have hfd0 := tok_field0 s.now
  have hfd1 := tok_field1 s.now
  have hrow := heap_alloc_new w (.cells #[.int .i64 0, .int .i64 0, .string ⟨#[]⟩, .bool false] 106)
  have hinfo : (Tryz.prog.info? 106).map (·.size) = some 4 := by kernel_rfl
  have FIN : Hid (∀ (k : Int) (nm : Bs) (d : Bool) s' w', Mods [pb] w w' → PSt w' pb tg s' f → keyF s = (⟨s.now.pos, k, nm, d⟩, s') → KeyRes pb tg f keyF s w (.returned (.agg #[.int .i64 s.now.pos, .int .i64 k, .string ⟨nm.toArray⟩, .bool d])) w') :=
    Lib.hid (fun k nm d s' w' a1 a2 a3 => ⟨_, _, _, _, rfl, a1, by rw [a3]; exact a2, fun he L hL => by rw [a3]; rfl⟩)
  have HH := Lib.hid (And.intro hMr (And.intro hrow hP1))
  have HKF : Hid (keyF s = (⟨s.now.pos, (keyHead s).1.1, (keyHead s).1.2, ((keyHead s).2.takes wDesc).1⟩, if ((keyHead s).2.takes wDesc).1 = true then ((keyHead s).2.takes wDesc).2 else (((keyHead s).2.takes wDesc).2.takes wAsc).2)) := Lib.hid rfl
  have HHD : Hid (keyHead s = if s.now.kind = 2 then ((0, s.name.1), s.name.2) else ((s.count.1, []), s.count.2)) := Lib.hid rfl
  unfold PtrV at *
  clear h hP1 hrow hMr
  go_enter Tryz.func68, Tryz.ntmps68
  go_wp2_with fail
  (with_reducible refine hnow.mono ?_)
  rintro e w2 ⟨rfl, hM2⟩
  clear hnow
  have hs2 := hM2.size
  have hrow2 := hM2.heap HH.out.2.1 (by simp)
  have hMw2 : Mods [] w w2 := HH.out.1.trans hM2 (by simp)
  have hP2 := HH.out.2.2.later hM2
  have hz3 := (Mods.refl [] w2).alloc (.cells #[.int .i64 s.now.pos, .int .i64 0, .string ⟨#[]⟩, .bool false] 106)
  have hi3 := heap_alloc_new w2 (.cells #[.int .i64 s.now.pos, .int .i64 0, .string ⟨#[]⟩, .bool false] 106)
  have hrow3 := hz3.heap hrow2 (by simp)
  have hnow3 := now_any _ pb tg s f (hP2.later hz3)
  unfold PtrV at hnow3
  have hrbl : w.heap.size < w2.heap.size := lt_size_of_heap hrow2
  have HM2 := Lib.hid (And.intro (hMw2.mono (L' := [pb]) (by simp)) hz3)
  have HP3 := Lib.hid (hP2.later hz3)
  clear hP2 hM2 hrow2 hMw2 HH hz3 hs2
  generalize hrb : w.heap.size = rb at *
  generalize hib : w2.heap.size = ib at *
  go_wp2_with fail
  (with_reducible refine hnow3.mono ?_)
  rintro e w4 ⟨rfl, hM4⟩
  clear hnow3
  have hi4 := hM4.heap hi3 (by simp)
  have hrow4 := hM4.heap hrow3 (by simp)
  have hP4 := HP3.out.later hM4
  have hM24 : Mods [ib, rb, pb] w2 w4 := (HM2.out.2.mono (L' := [ib, rb, pb]) (by simp)).trans hM4 (by simp)
  have HM24 := Lib.hid (And.intro HM2.out.1 hM24)
  clear hi3 hrow3 hM4 hM24 HM2 HP3
  by_cases hk : s.now.kind = 2
  · have hhd : keyHead s = ((0, s.name.1), s.name.2) := by rw [HHD.out, if_pos hk]
    have z0 : ((s.now.kind : Int) == 2) = true := by rw [hk]; rfl
    have hc := name_any w4 pb tg s f hP4
    have HHd := Lib.hid hhd
    unfold PtrV at hc
    clear hk hhd HHD hP4
    generalize s.name = r at *
    obtain ⟨n6, s6⟩ := r
    go_wp2_with fail
    (with_reducible refine hc.mono ?_)
    rintro e w5 ⟨rfl, hM5, hP5⟩
    have hi5 := hM5.heap hi4 (by simp; omega)
    have hrow5 := hM5.heap hrow4 (by simp; omega)
    have c2 := cell_of_heap hi5 2
    have f2 := frozen_of_heap hi5 2
    change w5.cell? _ = some (.string ⟨#[]⟩) at c2
    clear hc
    go_upto_region 5 with fail
    have hM6 : Mods [ib] w5 (w5.setCell ⟨ib, 2, none⟩ (.string ⟨n6.toArray⟩)) := (Mods.refl _ _).setCell (.inl (by simp)) _
    have hi6 := heap_setCell_same hi5 2 (.string ⟨n6.toArray⟩)
    have hrow6 := hM6.heap hrow5 (by simp; omega)
    have hP6 := hP5.mods hM6 (by simp; omega) (by simp; omega)
    have hM26 := (HM24.out.2.trans hM5 (L' := [pb]) (by simp)).trans hM6 (by simp)
    have HM26 := Lib.hid (And.intro HM24.out.1 hM26)
    change (w5.setCell ⟨ib, 2, none⟩ (.string ⟨n6.toArray⟩)).heap[ib]? = some (.cells #[.int .i64 s.now.pos, .int .i64 0, .string ⟨n6.toArray⟩, .bool false] 106 (0, 0)) at hi6
    clear hM26 HM24 hM6 hi5 hrow5 c2 f2 hM5 hP5 hi4 hrow4
    generalize w5.setCell ⟨ib, 2, none⟩ (.string ⟨n6.toArray⟩) = w6 at *
    have htd : Calls Tryz.prog 59 #[PtrV pb, .string ⟨#[68, 69, 83, 67]⟩] w6 _ := takes_any w6 pb tg s6 f hP6 wDesc
    unfold PtrV at htd
    have hkf : keyF s = (⟨s.now.pos, 0, n6, (s6.takes wDesc).1⟩, if (s6.takes wDesc).1 = true then (s6.takes wDesc).2 else ((s6.takes wDesc).2.takes wAsc).2) := by rw [HKF.out, HHd.out]
    have HK2 := Lib.hid hkf
    clear hkf HKF HHd hP6
    generalize s6.takes wDesc = r7 at *
    obtain ⟨d7, s7⟩ := r7
    go_wp2_with fail
    (with_reducible refine htd.mono ?_)
    rintro e w7 ⟨rfl, hM7, hP7⟩
    have hi7 := hM7.heap hi6 (by simp; omega)
    have hrow7 := hM7.heap hrow6 (by simp; omega)
    have c3 := cell_of_heap hi7 3
    have f3 := frozen_of_heap hi7 3
    change w7.cell? _ = some (.bool false) at c3
    clear htd
    go_upto_region 6 with fail
    have hM8 : Mods [ib] w7 (w7.setCell ⟨ib, 3, none⟩ (.bool d7)) := (Mods.refl _ _).setCell (.inl (by simp)) _
    have hi8 := heap_setCell_same hi7 3 (.bool d7)
    have hrow8 := hM8.heap hrow7 (by simp; omega)
    have hP8 := hP7.mods hM8 (by simp; omega) (by simp; omega)
    have hM28 := (HM26.out.2.trans hM7 (by simp)).trans hM8 (by simp)
    have HM28 := Lib.hid (And.intro HM26.out.1 hM28)
    change (w7.setCell ⟨ib, 3, none⟩ (.bool d7)).heap[ib]? = some (.cells #[.int .i64 s.now.pos, .int .i64 0, .string ⟨n6.toArray⟩, .bool d7] 106 (0, 0)) at hi8
    clear hM28 HM26 hM8 hi7 hrow7 c3 f3 hM7 hP7 hi6 hrow6
    generalize w7.setCell ⟨ib, 3, none⟩ (.bool d7) = w8 at *
    have c3 := cell_of_heap hi8 3
    change w8.cell? _ = some (.bool d7) at c3
    cases d7 with
    | true =>
      have HK3 : Hid (keyF s = (⟨s.now.pos, 0, n6, true⟩, s7)) := Lib.hid HK2.out
      clear HK2
      have k0 := cell_of_heap hi8 0
      have k1 := cell_of_heap hi8 1
      have k2 := cell_of_heap hi8 2
      have k3 := cell_of_heap hi8 3
      change w8.cell? _ = some (.int .i64 s.now.pos) at k0
      change w8.cell? _ = some (.int .i64 0) at k1
      change w8.cell? _ = some (.string ⟨n6.toArray⟩) at k2
      change w8.cell? _ = some (.bool true) at k3
      go_wp2_with (refine wpList_store_row rfl 106 (.tmp 2) (.tmp 26) rfl rb #[.int .i64 s.now.pos, .int .i64 0, .string ⟨n6.toArray⟩, .bool true] rfl rfl 106 _ hrow8 hinfo rfl (key_one _ _ _ _) ?_)
      have hMe : Mods [rb] w8 (w8.setRow rb #[.int .i64 s.now.pos, .int .i64 0, .string ⟨n6.toArray⟩, .bool true]) := (Mods.refl _ _).setRow (.inl (by simp)) _
      have hre := row_set_same #[.int .i64 s.now.pos, .int .i64 0, .string ⟨n6.toArray⟩, .bool true] hrow8
      have hPe := hP8.mods hMe (by simp; omega) (by simp; omega)
      have hM2e := HM28.out.2.trans hMe (by simp)
      generalize w8.setRow rb #[.int .i64 s.now.pos, .int .i64 0, .string ⟨n6.toArray⟩, .bool true] = we at *
      have q0 := cell_of_heap hre 0
      have q1 := cell_of_heap hre 1
      have q2 := cell_of_heap hre 2
      have q3 := cell_of_heap hre 3
      change we.cell? _ = some (.int .i64 s.now.pos) at q0
      change we.cell? _ = some (.int .i64 0) at q1
      change we.cell? _ = some (.string ⟨n6.toArray⟩) at q2
      change we.cell? _ = some (.bool true) at q3
      refine bodyPost_ret (by simp [results, Tryz.results68, go_sem, q0, q1, q2, q3, Result.andThen]; try rfl) rfl ?_
      exact FIN.out 0 n6 true s7 we (HM28.out.1.trans hM2e (fun x hx => by simp at hx; rcases hx with h | h | h <;> simp [h] <;> omega)) hPe HK3.out
    | false =>
      have HK3 : Hid (keyF s = (⟨s.now.pos, 0, n6, false⟩, (s7.takes wAsc).2)) := Lib.hid HK2.out
      have hta : Calls Tryz.prog 59 #[PtrV pb, .string ⟨#[65, 83, 67]⟩] w8 _ := takes_any w8 pb tg s7 f hP8 wAsc
      unfold PtrV at hta
      clear HK2 hP8
      go_wp2_with fail
      (with_reducible refine hta.mono ?_)
      rintro e w9 ⟨rfl, hM9, hP9⟩
      generalize (s7.takes wAsc).2 = s9 at *
      have hi9 := hM9.heap hi8 (by simp; omega)
      have hrow9 := hM9.heap hrow8 (by simp; omega)
      have HM29 := Lib.hid (And.intro HM28.out.1 (HM28.out.2.trans hM9 (by simp)))
      clear hta c3 hi8 hrow8 hM9 HM28
      have k0 := cell_of_heap hi9 0
      have k1 := cell_of_heap hi9 1
      have k2 := cell_of_heap hi9 2
      have k3 := cell_of_heap hi9 3
      change w9.cell? _ = some (.int .i64 s.now.pos) at k0
      change w9.cell? _ = some (.int .i64 0) at k1
      change w9.cell? _ = some (.string ⟨n6.toArray⟩) at k2
      change w9.cell? _ = some (.bool false) at k3
      go_wp2_with (refine wpList_store_row rfl 106 (.tmp 2) (.tmp 26) rfl rb #[.int .i64 s.now.pos, .int .i64 0, .string ⟨n6.toArray⟩, .bool false] rfl rfl 106 _ hrow9 hinfo rfl (key_one _ _ _ _) ?_)
      have hMe : Mods [rb] w9 (w9.setRow rb #[.int .i64 s.now.pos, .int .i64 0, .string ⟨n6.toArray⟩, .bool false]) := (Mods.refl _ _).setRow (.inl (by simp)) _
      have hre := row_set_same #[.int .i64 s.now.pos, .int .i64 0, .string ⟨n6.toArray⟩, .bool false] hrow9
      have hPe := hP9.mods hMe (by simp; omega) (by simp; omega)
      have hM2e := HM29.out.2.trans hMe (by simp)
      generalize w9.setRow rb #[.int .i64 s.now.pos, .int .i64 0, .string ⟨n6.toArray⟩, .bool false] = we at *
      have q0 := cell_of_heap hre 0
      have q1 := cell_of_heap hre 1
      have q2 := cell_of_heap hre 2
      have q3 := cell_of_heap hre 3
      change we.cell? _ = some (.int .i64 s.now.pos) at q0
      change we.cell? _ = some (.int .i64 0) at q1
      change we.cell? _ = some (.string ⟨n6.toArray⟩) at q2
      change we.cell? _ = some (.bool false) at q3
      refine bodyPost_ret (by simp [results, Tryz.results68, go_sem, q0, q1, q2, q3, Result.andThen]; try rfl) rfl ?_
      exact FIN.out 0 n6 false s9 we (HM29.out.1.trans hM2e (fun x hx => by simp at hx; rcases hx with h | h | h <;> simp [h] <;> omega)) hPe HK3.out
  · have hhd : keyHead s = ((s.count.1, []), s.count.2) := by rw [HHD.out, if_neg hk]
    have z0 : ((s.now.kind : Int) == 2) = false := by rw [beq_eq_false_iff_ne]; omega
    have z1 : ¬ (s.now.kind : Int) = 2 := by omega
    have hc := count_any w4 pb tg s f hP4
    have HHd := Lib.hid hhd
    unfold PtrV at hc
    clear hk hhd HHD hP4
    generalize s.count = r at *
    obtain ⟨i6, s6⟩ := r
    go_wp2_with fail
    (with_reducible refine hc.mono ?_)
    rintro e w5 ⟨rfl, hM5, hP5⟩
    have hi5 := hM5.heap hi4 (by simp; omega)
    have hrow5 := hM5.heap hrow4 (by simp; omega)
    have c2 := cell_of_heap hi5 1
    have f2 := frozen_of_heap hi5 1
    change w5.cell? _ = some (.int .i64 0) at c2
    clear hc
    go_upto_region 5 with fail
    have hM6 : Mods [ib] w5 (w5.setCell ⟨ib, 1, none⟩ (.int .i64 i6)) := (Mods.refl _ _).setCell (.inl (by simp)) _
    have hi6 := heap_setCell_same hi5 1 (.int .i64 i6)
    have hrow6 := hM6.heap hrow5 (by simp; omega)
    have hP6 := hP5.mods hM6 (by simp; omega) (by simp; omega)
    have hM26 := (HM24.out.2.trans hM5 (L' := [pb]) (by simp)).trans hM6 (by simp)
    have HM26 := Lib.hid (And.intro HM24.out.1 hM26)
    change (w5.setCell ⟨ib, 1, none⟩ (.int .i64 i6)).heap[ib]? = some (.cells #[.int .i64 s.now.pos, .int .i64 i6, .string ⟨([] : Bs).toArray⟩, .bool false] 106 (0, 0)) at hi6
    clear hM26 HM24 hM6 hi5 hrow5 c2 f2 hM5 hP5 hi4 hrow4
    generalize w5.setCell ⟨ib, 1, none⟩ (.int .i64 i6) = w6 at *
    have htd : Calls Tryz.prog 59 #[PtrV pb, .string ⟨#[68, 69, 83, 67]⟩] w6 _ := takes_any w6 pb tg s6 f hP6 wDesc
    unfold PtrV at htd
    have hkf : keyF s = (⟨s.now.pos, i6, ([] : Bs), (s6.takes wDesc).1⟩, if (s6.takes wDesc).1 = true then (s6.takes wDesc).2 else ((s6.takes wDesc).2.takes wAsc).2) := by rw [HKF.out, HHd.out]
    have HK2 := Lib.hid hkf
    clear hkf HKF HHd hP6
    generalize s6.takes wDesc = r7 at *
    obtain ⟨d7, s7⟩ := r7
    go_wp2_with fail
    (with_reducible refine htd.mono ?_)
    rintro e w7 ⟨rfl, hM7, hP7⟩
    have hi7 := hM7.heap hi6 (by simp; omega)
    have hrow7 := hM7.heap hrow6 (by simp; omega)
    have c3 := cell_of_heap hi7 3
    have f3 := frozen_of_heap hi7 3
    change w7.cell? _ = some (.bool false) at c3
    clear htd
    go_upto_region 6 with fail
    have hM8 : Mods [ib] w7 (w7.setCell ⟨ib, 3, none⟩ (.bool d7)) := (Mods.refl _ _).setCell (.inl (by simp)) _
    have hi8 := heap_setCell_same hi7 3 (.bool d7)
    have hrow8 := hM8.heap hrow7 (by simp; omega)
    have hP8 := hP7.mods hM8 (by simp; omega) (by simp; omega)
    have hM28 := (HM26.out.2.trans hM7 (by simp)).trans hM8 (by simp)
    have HM28 := Lib.hid (And.intro HM26.out.1 hM28)
    change (w7.setCell ⟨ib, 3, none⟩ (.bool d7)).heap[ib]? = some (.cells #[.int .i64 s.now.pos, .int .i64 i6, .string ⟨([] : Bs).toArray⟩, .bool d7] 106 (0, 0)) at hi8
    clear hM28 HM26 hM8 hi7 hrow7 c3 f3 hM7 hP7 hi6 hrow6
    generalize w7.setCell ⟨ib, 3, none⟩ (.bool d7) = w8 at *
    have c3 := cell_of_heap hi8 3
    change w8.cell? _ = some (.bool d7) at c3
    cases d7 with
    | true =>
      have HK3 : Hid (keyF s = (⟨s.now.pos, i6, ([] : Bs), true⟩, s7)) := Lib.hid HK2.out
      clear HK2
      have k0 := cell_of_heap hi8 0
      have k1 := cell_of_heap hi8 1
      have k2 := cell_of_heap hi8 2
      have k3 := cell_of_heap hi8 3
      change w8.cell? _ = some (.int .i64 s.now.pos) at k0
      change w8.cell? _ = some (.int .i64 i6) at k1
      change w8.cell? _ = some (.string ⟨([] : Bs).toArray⟩) at k2
      change w8.cell? _ = some (.bool true) at k3
      go_wp2_with (refine wpList_store_row rfl 106 (.tmp 2) (.tmp 26) rfl rb #[.int .i64 s.now.pos, .int .i64 i6, .string ⟨([] : Bs).toArray⟩, .bool true] rfl rfl 106 _ hrow8 hinfo rfl (key_one _ _ _ _) ?_)
      have hMe : Mods [rb] w8 (w8.setRow rb #[.int .i64 s.now.pos, .int .i64 i6, .string ⟨([] : Bs).toArray⟩, .bool true]) := (Mods.refl _ _).setRow (.inl (by simp)) _
      have hre := row_set_same #[.int .i64 s.now.pos, .int .i64 i6, .string ⟨([] : Bs).toArray⟩, .bool true] hrow8
      have hPe := hP8.mods hMe (by simp; omega) (by simp; omega)
      have hM2e := HM28.out.2.trans hMe (by simp)
      generalize w8.setRow rb #[.int .i64 s.now.pos, .int .i64 i6, .string ⟨([] : Bs).toArray⟩, .bool true] = we at *
      have q0 := cell_of_heap hre 0
      have q1 := cell_of_heap hre 1
      have q2 := cell_of_heap hre 2
      have q3 := cell_of_heap hre 3
      change we.cell? _ = some (.int .i64 s.now.pos) at q0
      change we.cell? _ = some (.int .i64 i6) at q1
      change we.cell? _ = some (.string ⟨([] : Bs).toArray⟩) at q2
      change we.cell? _ = some (.bool true) at q3
      refine bodyPost_ret (by simp [results, Tryz.results68, go_sem, q0, q1, q2, q3, Result.andThen]; try rfl) rfl ?_
      exact FIN.out i6 ([] : Bs) true s7 we (HM28.out.1.trans hM2e (fun x hx => by simp at hx; rcases hx with h | h | h <;> simp [h] <;> omega)) hPe HK3.out
    | false =>
      have HK3 : Hid (keyF s = (⟨s.now.pos, i6, ([] : Bs), false⟩, (s7.takes wAsc).2)) := Lib.hid HK2.out
      have hta : Calls Tryz.prog 59 #[PtrV pb, .string ⟨#[65, 83, 67]⟩] w8 _ := takes_any w8 pb tg s7 f hP8 wAsc
      unfold PtrV at hta
      clear HK2 hP8
      go_wp2_with fail
      (with_reducible refine hta.mono ?_)
      rintro e w9 ⟨rfl, hM9, hP9⟩
      generalize (s7.takes wAsc).2 = s9 at *
      have hi9 := hM9.heap hi8 (by simp; omega)
      have hrow9 := hM9.heap hrow8 (by simp; omega)
      have HM29 := Lib.hid (And.intro HM28.out.1 (HM28.out.2.trans hM9 (by simp)))
      clear hta c3 hi8 hrow8 hM9 HM28
      have k0 := cell_of_heap hi9 0
      have k1 := cell_of_heap hi9 1
      have k2 := cell_of_heap hi9 2
      have k3 := cell_of_heap hi9 3
      change w9.cell? _ = some (.int .i64 s.now.pos) at k0
      change w9.cell? _ = some (.int .i64 i6) at k1
      change w9.cell? _ = some (.string ⟨([] : Bs).toArray⟩) at k2
      change w9.cell? _ = some (.bool false) at k3
      go_wp2_with (refine wpList_store_row rfl 106 (.tmp 2) (.tmp 26) rfl rb #[.int .i64 s.now.pos, .int .i64 i6, .string ⟨([] : Bs).toArray⟩, .bool false] rfl rfl 106 _ hrow9 hinfo rfl (key_one _ _ _ _) ?_)
      have hMe : Mods [rb] w9 (w9.setRow rb #[.int .i64 s.now.pos, .int .i64 i6, .string ⟨([] : Bs).toArray⟩, .bool false]) := (Mods.refl _ _).setRow (.inl (by simp)) _
      have hre := row_set_same #[.int .i64 s.now.pos, .int .i64 i6, .string ⟨([] : Bs).toArray⟩, .bool false] hrow9
      have hPe := hP9.mods hMe (by simp; omega) (by simp; omega)
      have hM2e := HM29.out.2.trans hMe (by simp)
      generalize w9.setRow rb #[.int .i64 s.now.pos, .int .i64 i6, .string ⟨([] : Bs).toArray⟩, .bool false] = we at *
      have q0 := cell_of_heap hre 0
      have q1 := cell_of_heap hre 1
      have q2 := cell_of_heap hre 2
      have q3 := cell_of_heap hre 3
      change we.cell? _ = some (.int .i64 s.now.pos) at q0
      change we.cell? _ = some (.int .i64 i6) at q1
      change we.cell? _ = some (.string ⟨([] : Bs).toArray⟩) at q2
      change we.cell? _ = some (.bool false) at q3
      refine bodyPost_ret (by simp [results, Tryz.results68, go_sem, q0, q1, q2, q3, Result.andThen]; try rfl) rfl ?_
      exact FIN.out i6 ([] : Bs) false s9 we (HM29.out.1.trans hM2e (fun x hx => by simp at hx; rcases hx with h | h | h <;> simp [h] <;> omega)) hPe HK3.out
end Go.Proofs.YtpokbepenacnpaaGreatDoor

namespace Go.Proofs.YtpokbepenacnpaaGreatDoor
open Go.RowKit
set_option linter.unusedVariables false

theorem wants_one (w : World) (pb tg : Nat) (s : PS) (f : Nat) (h : PSt w pb tg s f) (x : Bs) :
    Calls Tryz.prog 58 #[PtrV pb, .slice (some ⟨w.heap.size, 0, none⟩) 1 1] (w.alloc (.cells #[.string ⟨x.toArray⟩] 9)) fun e w' => e = .returned (.tuple #[]) ∧ Mods [pb] w w' ∧ PSt w' pb tg (s.wants [x]) f := by
  have hMs := (Mods.refl [] w).alloc (.cells #[.string ⟨x.toArray⟩] 9)
  have hl := h.lt
  exact (wants_any _ pb tg _ f (h.later hMs) _ [x] (strs_new1 w x 9) (by simp) (fun g off n c he => by simp only [Value.slice.injEq, Option.some.injEq, Addr.mk.injEq] at he; omega)).mono
    fun e w' ⟨a, b, c⟩ => ⟨a, (hMs.mono (by simp)).trans b (by simp), c⟩
theorem column_one (w : World) (pb tg : Nat) (f : Nat) (s : PS) (h : PSt w pb tg s f) : Calls Tryz.prog 66 #[PtrV pb] w (ColumnRes pb tg f columnF s w) :=
  (column_any w pb tg s f h).mono fun e w' ⟨b, a1, a2, a3, a4⟩ => ⟨b, a1, a2, a3, fun he L hL => ⟨b, rfl, a4 he L hL⟩⟩

theorem ListRes.listAt {α : Type} {R : RepR α} (hR : Rep R) {w w' : World} {L : List Nat} {g cap : Nat} {css : List (List Value)} {l : List α} (hL : ∀ x ∈ L, x < w.heap.size) (hg : w.heap.size ≤ g) (hc : l.length ≤ cap) (hcells : ∀ j u, css.flatten[j]? = some u → w'.cell? ⟨g, j, none⟩ = some u)
    (hA : ∀ L : List Nat, (∀ x ∈ L, x < w.heap.size) → AllR R w' (g :: L) css l) : ListAt R w' L (.slice (some ⟨g, 0, none⟩) l.length cap) l :=
  .inr ⟨g, cap, css, rfl, fun hm => by have := hL g hm; omega, hc, hcells, (hA L hL).map fun c x hx => hR.weaken (fun z hz => List.mem_cons_of_mem _ hz) hx⟩

theorem QInv.cell {pb tg f : Nat} {w0 : World} {qb : Nat} {x : QS} {w : World} (h : QInv pb tg f w0 qb x w) (j : Nat) (hj : j < 12) : ∃ v, w.cell? ⟨qb, j, none⟩ = some v := by
  obtain ⟨cs, h1, h2⟩ := h.block
  have := cell_of_heap h1 j
  rw [Array.getElem?_eq_getElem (by omega)] at this
  exact ⟨_, this⟩
theorem QInv.frozen {pb tg f : Nat} {w0 : World} {qb : Nat} {x : QS} {w : World} (h : QInv pb tg f w0 qb x w) (j : Nat) : w.frozen? ⟨qb, j, none⟩ = false := by
  obtain ⟨cs, h1, h2⟩ := h.block
  exact frozen_of_heap h1 j
theorem QInv.lts {pb tg f : Nat} {w0 : World} {qb : Nat} {x : QS} {w : World} (h : QInv pb tg f w0 qb x w) : ∀ z ∈ [qb, pb], z < w.heap.size := by
  obtain ⟨cs, h1, h2⟩ := h.block
  intro z hz
  simp at hz
  rcases hz with rfl | rfl
  · exact lt_size_of_heap h1
  · exact h.pst.lt.1

theorem QInv.as {pb tg f : Nat} {w0 : World} {qb : Nat} {x y : QS} {w : World} (h : QInv pb tg f w0 qb x w) (e : y = x) : QInv pb tg f w0 qb y w := e ▸ h
section puts
variable {pb tg f : Nat} {w0 : World} {qb : Nat} {x : QS} {w : World}
theorem QInv.putStar (h : QInv pb tg f w0 qb x w) (b : Bool) : QInv pb tg f w0 qb ({ x.1 with star := b }, x.2) (w.setCell ⟨qb, 0, none⟩ (.bool b)) :=
  h.put 0 _ _ fun vi von vwh vg vo hp => ⟨vi, von, vwh, vg, vo, rfl, hp⟩
theorem QInv.putSrc (h : QInv pb tg f w0 qb x w) (n : Bs) : QInv pb tg f w0 qb ({ x.1 with src := n }, x.2) (w.setCell ⟨qb, 2, none⟩ (.string ⟨n.toArray⟩)) :=
  h.put 2 _ _ fun vi von vwh vg vo hp => ⟨vi, von, vwh, vg, vo, rfl, hp⟩
theorem QInv.putJoin (h : QInv pb tg f w0 qb x w) (n : Bs) : QInv pb tg f w0 qb ({ x.1 with join := n }, x.2) (w.setCell ⟨qb, 3, none⟩ (.string ⟨n.toArray⟩)) :=
  h.put 3 _ _ fun vi von vwh vg vo hp => ⟨vi, von, vwh, vg, vo, rfl, hp⟩
theorem QInv.putSrcAt (h : QInv pb tg f w0 qb x w) (n : Nat) : QInv pb tg f w0 qb ({ x.1 with srcAt := n }, x.2) (w.setCell ⟨qb, 4, none⟩ (.int .i64 n)) :=
  h.put 4 _ _ fun vi von vwh vg vo hp => ⟨vi, von, vwh, vg, vo, rfl, hp⟩
theorem QInv.putJoinAt (h : QInv pb tg f w0 qb x w) (n : Nat) : QInv pb tg f w0 qb ({ x.1 with joinAt := n }, x.2) (w.setCell ⟨qb, 5, none⟩ (.int .i64 n)) :=
  h.put 5 _ _ fun vi von vwh vg vo hp => ⟨vi, von, vwh, vg, vo, rfl, hp⟩
theorem QInv.putLimit (h : QInv pb tg f w0 qb x w) (n : Int) : QInv pb tg f w0 qb ({ x.1 with limit := n }, x.2) (w.setCell ⟨qb, 10, none⟩ (.int .i64 n)) :=
  h.put 10 _ _ fun vi von vwh vg vo hp => ⟨vi, von, vwh, vg, vo, rfl, hp⟩
theorem QInv.putOffset (h : QInv pb tg f w0 qb x w) (n : Int) : QInv pb tg f w0 qb ({ x.1 with offset := n }, x.2) (w.setCell ⟨qb, 11, none⟩ (.int .i64 n)) :=
  h.put 11 _ _ fun vi von vwh vg vo hp => ⟨vi, von, vwh, vg, vo, rfl, hp⟩
theorem QInv.putItems (h : QInv pb tg f w0 qb x w) (v : Value) (l : List ItemT) (hl : x.2.e = 0 → ListAt ItemR w [qb, pb] v l) : QInv pb tg f w0 qb ({ x.1 with items := l }, x.2) (w.setCell ⟨qb, 1, none⟩ v) :=
  h.put 1 _ _ fun vi von vwh vg vo hp => ⟨v, von, vwh, vg, vo, rfl, fun he => ⟨hl he, (hp he).2⟩⟩
theorem QInv.putOn (h : QInv pb tg f w0 qb x w) (v : Value) (t : Tree) (hl : x.2.e = 0 → OptAt w [qb, pb] v (some t)) : QInv pb tg f w0 qb ({ x.1 with on := some t }, x.2) (w.setCell ⟨qb, 6, none⟩ v) :=
  h.put 6 _ _ fun vi von vwh vg vo hp => ⟨vi, v, vwh, vg, vo, rfl, fun he => ⟨(hp he).1, hl he, (hp he).2.2⟩⟩
theorem QInv.putWhr (h : QInv pb tg f w0 qb x w) (v : Value) (t : Tree) (hl : x.2.e = 0 → OptAt w [qb, pb] v (some t)) : QInv pb tg f w0 qb ({ x.1 with whr := some t }, x.2) (w.setCell ⟨qb, 7, none⟩ v) :=
  h.put 7 _ _ fun vi von vwh vg vo hp => ⟨vi, von, v, vg, vo, rfl, fun he => ⟨(hp he).1, (hp he).2.1, hl he, (hp he).2.2.2⟩⟩
theorem QInv.putGroup (h : QInv pb tg f w0 qb x w) (v : Value) (l : List Tree) (hl : x.2.e = 0 → ListAt TreeR w [qb, pb] v l) : QInv pb tg f w0 qb ({ x.1 with group := l }, x.2) (w.setCell ⟨qb, 8, none⟩ v) :=
  h.put 8 _ _ fun vi von vwh vg vo hp => ⟨vi, von, vwh, v, vo, rfl, fun he => ⟨(hp he).1, (hp he).2.1, (hp he).2.2.1, hl he, (hp he).2.2.2.2⟩⟩
theorem QInv.putOrder (h : QInv pb tg f w0 qb x w) (v : Value) (l : List KeyT) (hl : x.2.e = 0 → ListAt KeyR w [qb, pb] v l) : QInv pb tg f w0 qb ({ x.1 with order := l }, x.2) (w.setCell ⟨qb, 9, none⟩ v) :=
  h.put 9 _ _ fun vi von vwh vg vo hp => ⟨vi, von, vwh, vg, v, rfl, fun he => ⟨(hp he).1, (hp he).2.1, (hp he).2.2.1, (hp he).2.2.2.1, hl he⟩⟩
end puts
theorem QInv.start {pb tg f : Nat} {w : World} {s : PS} (h : PSt w pb tg s f) (hl : s.rest.length ≤ 10000) :
    QInv pb tg f w w.heap.size ({}, s) (w.alloc (.cells #[.bool false, .slice none 0 0, .string ⟨#[]⟩, .string ⟨#[]⟩, .int .i64 0, .int .i64 0, .pointer none, .pointer none, .slice none 0 0, .slice none 0 0, .int .i64 (-1), .int .i64 (-1)] 93)) := by
  have hM := (Mods.refl [] w).alloc (.cells #[.bool false, .slice none 0 0, .string ⟨#[]⟩, .string ⟨#[]⟩, .int .i64 0, .int .i64 0, .pointer none, .pointer none, .slice none 0 0, .slice none 0 0, .int .i64 (-1), .int .i64 (-1)] 93)
  exact ⟨hM.mono (by simp), h.later hM, Nat.le_refl _, h.lt.1, h.lt.2, hl, .slice none 0 0, .pointer none, .pointer none, .slice none 0 0, .slice none 0 0, heap_alloc_new w _, fun _ => ⟨.inl ⟨rfl, rfl⟩, rfl, rfl, .inl ⟨rfl, rfl⟩, .inl ⟨rfl, rfl⟩⟩⟩
theorem wf_tail2 {l : List Tok} (h : WfT l) (h2 : WfT l.dropLast) : WfT l.tail := by
  obtain ⟨⟨u, h3, h4⟩, h5⟩ := h
  cases l with
  | nil => simp at h3
  | cons t r =>
    cases r with
    | nil => exact absurd rfl h2.ne
    | cons a r => exact ⟨⟨u, by rw [List.getLast?_cons_cons] at h3; exact h3, h4⟩, fun t ht => h5 t (List.mem_cons_of_mem _ ht)⟩
end Go.Proofs.YtpokbepenacnpaaGreatDoor
