/-
  The document's parser: query, walked. No condition.
-/
import Derived.Test.YtpokbepenacnpaaGreatDoorMQn
import Derived.Deep.RegionLaw
namespace Go.Proofs.YtpokbepenacnpaaGreatDoor
open Go.RowKit
set_option linter.unusedVariables false

/-- What is read of the token that stands there, for its place. -/
theorem RSt.place {w : World} {pb tg : Nat} {ts : List Tok} {s : PS} {f : Nat} (h : RSt w pb tg ts s f) : ∃ (i n cap : Nat), (i : Int) < (n : Int) ∧ w.cell? ⟨pb, 0, none⟩ = some (.slice (some ⟨tg, 0, none⟩) n cap) ∧ w.cell? ⟨pb, 1, none⟩ = some (.int .i64 i) ∧ w.cell? ⟨tg, i * 5 + 1, none⟩ = some (.int .i64 s.now.pos) ∧ w.cell? ⟨tg, i * 5, none⟩ = some (.int .i64 s.now.kind) ∧ w.cell? ⟨pb, 3, none⟩ = some (.int .i64 s.e) := by
  obtain ⟨i, cap, d, hb, hd, hi, -, ⟨c0, c1, -⟩, -, -⟩ := h.tok
  exact ⟨i, ts.length, cap, by omega, cell_of_heap hb 0, cell_of_heap hb 1, c1, c0, cell_of_heap hb 3⟩
theorem DInv.drew {pb tg : Nat} {ts : List Tok} {f : Nat} {w0 wq : World} {qb : Nat} {x : QS} {w : World} (h : DInv pb tg ts f w0 wq qb x w) : DInv pb tg ts f w0 wq qb x w.drew := h.go ((Mods.refl [] w).drew.mono (by simp)) (h.2.1.later (Mods.refl [] w).drew) (Aft.refl _)
def fin9 (s : PS) : PS := if s.e = 0 ∧ s.now.kind ≠ 0 then s.fail 8 else s
theorem fin9_eq (s : PS) : (fin9 s).e = (s.of 0).2.2.e ∧ (fin9 s).pos = (s.of 0).2.2.pos := by
  unfold fin9 PS.of
  by_cases he : s.e = 0
  · by_cases hk : s.now.kind = 0
    · rw [if_neg (fun h => h.2 hk), if_pos ⟨he, hk⟩]; exact ⟨rfl, rfl⟩
    · rw [if_pos ⟨he, hk⟩, if_neg (fun h => hk h.2)]; exact ⟨rfl, rfl⟩
  · rw [if_neg (fun h => he h.1), if_neg (fun h => he h.1)]
    unfold PS.fail
    rw [if_neg he]
    exact ⟨rfl, rfl⟩
/-- A query of the document, in memory. -/
def QueryD (w : World) (qb : Nat) (q : QueryT) : Prop :=
  ∃ wq vi von vwh vg vo, w.heap[qb]? = some (.cells (queryC q vi von vwh vg vo).toArray 100 (0, 0)) ∧ DParts wq w q 0 vi von vwh vg vo

/-- A list of the query grows: the rest of it stands as it stood. -/
def GrowGo {α : Type} (R : RepR α) (T : TypeId) (size : Nat) (pb tg : Nat) (ts : List Tok) (f qb : Nat) (C : Value → Array Value) (ws : World) (one : PS → α × PS) (fin : List α × PS) (e0 : Nat) (gk : Nat) (wr : World) : Prop :=
  ∃ l st v, Mods [pb, qb] ws wr ∧ RSt wr pb tg ts st f ∧ wr.heap[qb]? = some (.cells (C v) 100 (0, 0)) ∧ LRef R T size ws wr v l st.e ∧ listG one gk l st = fin ∧ st.rest.length ≤ gk ∧ l.length + gk ≤ 10003 ∧ l ≠ [] ∧ (st.e = 0 → e0 = 0)
theorem lt_one {a b x : Nat} (h : a < b) (hx : x ∈ [a]) : x < b := by
  have : x = a := by simpa using hx
  omega
theorem grp_nil (E : PF) (s : PS) : (q4 E (q3 E (q2 (q1 E s)))).1.group = [] := by
  have h1 : (q1 E s).1.group = [] := by unfold q1; simp only; split <;> rfl
  generalize q1 E s = a at *
  have h2 : (q2 a).1.group = [] := h1
  generalize q2 a = b at *
  have h3 : (q3 E b).1.group = [] := by unfold q3; simp only; split <;> exact h2
  generalize q3 E b = c at *
  unfold q4; simp only; split <;> exact h3
theorem ord_nil (E : PF) (s : PS) : (q5 (q4 E (q3 E (q2 (q1 E s))))).1.order = [] := by
  have h1 : (q1 E s).1.order = [] := by unfold q1; simp only; split <;> rfl
  generalize q1 E s = a at *
  have h2 : (q2 a).1.order = [] := h1
  generalize q2 a = b at *
  have h3 : (q3 E b).1.order = [] := by unfold q3; simp only; split <;> exact h2
  generalize q3 E b = c at *
  have h4 : (q4 E c).1.order = [] := by unfold q4; simp only; split <;> exact h3
  generalize q4 E c = d at *
  unfold q5; simp only; split <;> exact h4
theorem listG_stop {α : Type} {one : PS → α × PS} {n : Nat} {l : List α} {st : PS} (h : (st.takes wComma).1 = false) : listG one n l st = (l, st) := by
  cases n with
  | zero => rfl
  | succ n => unfold listG; rw [if_neg (by rw [h]; decide), takes_false h]
theorem listG_go {α : Type} {one : PS → α × PS} (hg : GoesA one) {n : Nat} {l : List α} {st : PS} (h : (st.takes wComma).1 = true) (hn : st.rest.length ≤ n) : ∃ m, n = m + 1 ∧ listG one n l st = listG one m (l ++ [(one (st.takes wComma).2).1]) (one (st.takes wComma).2).2 ∧ (one (st.takes wComma).2).2.rest.length ≤ m := by
  obtain ⟨hi, he⟩ := takes_true h
  have hl := next_len (is_kind hi).2
  obtain ⟨m, rfl⟩ : ∃ m, n = m + 1 := ⟨n - 1, by omega⟩
  refine ⟨m, rfl, ?_, ?_⟩
  · conv => lhs; unfold listG
    rw [if_pos h]
  · have h1 := (hg (st.takes wComma).2).len
    rw [he] at h1 ⊢
    exact Nat.le_trans h1 (by show st.next.rest.length ≤ m; omega)
theorem key_oneD (a b : Int) (s : ByteArray) (d : Bool) : ([.int .i64 a, .int .i64 b, .string s, .bool d] : List Value).all (·.oneCell') = true := by simp [Value.oneCell']

theorem keyd {w : World} {L : List Nat} {k k' : KeyT} (h : k = k') : KeyR w L [.int .i64 k.pos, .int .i64 k.item, .string ⟨k.name.toArray⟩, .bool k.desc] k' := by subst h; exact rfl

set_option maxRecDepth 100000 in
set_option maxHeartbeats 8000000 in
theorem query_ref (w : World) (pb tg : Nat) (ts : List Tok) (f : Nat) (s : PS) (h : RSt w pb tg ts s f) :
    Calls Tryz.prog 31 #[PtrV pb] w fun e w' => ∃ qb, e = .returned (PtrV qb) ∧ Mods [pb] w w' ∧ RSt w' pb tg ts (fin9 (queryF (lvl f).expr s).2) f ∧ ((queryF (lvl f).expr s).2.e = 0 → QueryD w' qb (queryF (lvl f).expr s).1) := by
  have hlt := h.lt
  obtain ⟨E, hE⟩ : ∃ E, (lvl f).expr = E := ⟨_, rfl⟩
  have hor := fun w s h => or_all w pb tg ts s f h
  have hits := fun w s h qb hqp hqt hq => items_ref w pb tg ts f s h qb hqp hqt (.string ⟨#[]⟩) (.string ⟨#[]⟩) (.int .i64 0) (.int .i64 0) (.pointer none) (.pointer none) (.slice none 0 0) (.slice none 0 0) (.int .i64 (-1)) (.int .i64 (-1)) hq
  have hgo : Goes E := by rw [← hE]; exact (goes_lvl f).expr
  rw [hE] at hor hits ⊢
  have hq0 := heap_alloc_new w (.cells #[.bool false, .slice none 0 0, .string ⟨#[]⟩, .string ⟨#[]⟩, .int .i64 0, .int .i64 0, .pointer none, .pointer none, .slice none 0 0, .slice none 0 0, .int .i64 (-1), .int .i64 (-1)] 100)
  have hM0 := (Mods.refl [] w).alloc (.cells #[.bool false, .slice none 0 0, .string ⟨#[]⟩, .string ⟨#[]⟩, .int .i64 0, .int .i64 0, .pointer none, .pointer none, .slice none 0 0, .slice none 0 0, .int .i64 (-1), .int .i64 (-1)] 100)
  have hR0 := h.later hM0
  have hsz : w.heap.size < (w.alloc (.cells #[.bool false, .slice none 0 0, .string ⟨#[]⟩, .string ⟨#[]⟩, .int .i64 0, .int .i64 0, .pointer none, .pointer none, .slice none 0 0, .slice none 0 0, .int .i64 (-1), .int .i64 (-1)] 100)).heap.size := by rw [size_alloc]; exact Nat.lt_succ_self _
  obtain ⟨xf, hxf⟩ : ∃ x, queryF E s = x := ⟨_, rfl⟩
  rw [hxf]
  have HXF := Lib.hid hxf
  have HOR := Lib.hid hor
  have HIT := Lib.hid hits
  have HGO := Lib.hid hgo
  unfold PtrV
  clear h hor hits hgo hxf hE
  go_enter Tryz.func31, Tryz.ntmps31
  go_upto_region 2 with fail
  generalize w.alloc (.cells #[.bool false, .slice none 0 0, .string ⟨#[]⟩, .string ⟨#[]⟩, .int .i64 0, .int .i64 0, .pointer none, .pointer none, .slice none 0 0, .slice none 0 0, .int .i64 (-1), .int .i64 (-1)] 100) = wq at *
  obtain ⟨qb, hqb⟩ : ∃ qb, w.heap.size = qb := ⟨_, rfl⟩
  rw [hqb] at hq0 hsz
  rw [hqb]
  have HQB := Lib.hid hqb
  have hqp : qb ≠ pb := by omega
  have hqt : qb ≠ tg := by omega
  clear hqb
  have h1 : Calls Tryz.prog 77 #[PtrV pb, .string ⟨#[83, 69, 76, 69, 67, 84]⟩] wq _ := wants_ref wq pb tg ts s f hR0 wSelect
  unfold PtrV at h1
  go_wp2_with fail
  (with_reducible refine h1.mono ?_)
  rintro e w1 ⟨rfl, hM1, hR1⟩
  have hq1 := hM1.heap hq0 (by simpa using hqp)
  have hMw1 := (hM0.mono (L' := [pb]) (by simp)).trans hM1 (by simp)
  clear h1 hq0 hM0 hR0
  have h2 := HIT.out w1 _ hR1 qb hqp hqt hq1
  unfold PtrV at h2
  go_wp2_with fail
  (with_reducible refine h2.mono ?_)
  rintro e w2 ⟨rfl, hM2, hR2, vi, hq2, hL2⟩
  have hs1 := hM1.size
  have hs2 := hM2.size
  have HV2 : Hid (DInv pb tg ts f w wq qb (q1 E s) w2) := Lib.hid (by
    have e1 : itemsF E (s.wants [wSelect]) = (((q1 E s).1.star, (q1 E s).1.items), (q1 E s).2) := by
      unfold itemsF q1
      simp only
      split <;> rfl
    rw [e1] at hR2 hq2 hL2
    have e2 : (q1 E s).1 = { star := (q1 E s).1.star, items := (q1 E s).1.items } := by
      unfold q1
      simp only
      split <;> rfl
    refine ⟨hMw1.trans hM2 (fun x hx => by
      rcases List.mem_cons.1 hx with rfl | hx
      · exact .inl (by simp)
      · right
        have : x = qb := by simpa using hx
        rw [HQB.out]; omega), hR2, ⟨by rw [HQB.out]; omega, hsz, hlt.1, hlt.2, by omega⟩, vi, .pointer none, .pointer none, .slice none 0 0, .slice none 0 0, by rw [e2]; exact hq2, ?_⟩
    rw [e2]
    exact ⟨hL2.base hs1, LRef.start _ _ _ _ _ _, LRef.start _ _ _ _ _ _, fun _ => rfl, fun _ => rfl, fun h0 L hL => ⟨rfl, rfl⟩⟩)
  clear h2 hM2 hR2 hq2 hL2 hq1 hR1 hM1 hMw1 hs1 hs2
  obtain ⟨x1, hx1⟩ : ∃ x, q1 E s = x := ⟨_, rfl⟩
  rw [hx1] at HV2
  have HX1 := Lib.hid hx1
  clear hx1
  have hcl : Calls Tryz.prog 77 #[PtrV pb, .string ⟨#[70, 82, 79, 77]⟩] w2 _ := wants_ref w2 pb tg ts x1.2 f HV2.out.2.1 wFrom
  unfold PtrV at hcl
  go_wp2_with fail
  (with_reducible refine hcl.mono ?_)
  rintro e w3 ⟨rfl, hMc, hRc⟩
  have HV3 := Lib.hid (HV2.out.go hMc hRc (Aft.wants _ _))
  clear hcl hMc hRc
  clear HV2
  obtain ⟨sa, hsa⟩ : ∃ x, x1.2.wants [wFrom] = x := ⟨_, rfl⟩
  rw [hsa] at HV3
  have HSA := Lib.hid hsa
  clear hsa
  obtain ⟨i, n, cap, hii, a0, a1, c1, -, -⟩ := HV3.out.2.1.place
  obtain ⟨⟨z2, z3, z4, z5, z10, z11⟩, zf, -, -⟩ := HV3.out.cell
  have fk := zf 4
  have zd := (Mods.refl [] w3).drew
  have A0 := zd.cell a0 (by simp)
  have A1 := zd.cell a1 (by simp)
  have C1 := zd.cell c1 (by simp)
  have Z4 := zd.cell z4 (by simp)
  have Z5 := zd.cell z5 (by simp)
  clear zf z2 z3 z10 z11
  go_upto_region 5 with fail
  go_cut [] from 13 to 26 (fun wx => DInv pb tg ts f w wq qb ({ x1.1 with srcAt := sa.now.pos }, sa) wx)
  case first =>
    go_region_law (fail)
    all_goals
      go_wp2_with fail
      go_meet
      exact (HV3.out.put 4 (.int .i64 (sa).now.pos) { x1.1 with srcAt := sa.now.pos } (fun _ _ _ _ _ => rfl) ⟨rfl, rfl, rfl, rfl, rfl⟩).drew
  case rest =>
    clear fk zd A0 A1 C1 Z4 Z5 a0 a1 c1 z4 z5 hii
    have HV4 := Lib.hid hcut
    clear hcut HV3
    have hcl := name_ref wc pb tg ts sa f HV4.out.2.1
    unfold PtrV at hcl
    go_wp2_with fail
    (with_reducible refine hcl.mono ?_)
    rintro e w5 ⟨rfl, hMc, hRc⟩
    have HVn := Lib.hid (HV4.out.go hMc hRc (Aft.name _))
    obtain ⟨⟨z2, z3, z4, z5, z10, z11⟩, zf, -, -⟩ := HVn.out.cell
    have fk := zf 2
    have HV5 : Hid (DInv pb tg ts f w wq qb ({ x1.1 with srcAt := sa.now.pos, src := (sa).name.1 }, (sa).name.2) (w5.setCell ⟨qb, 2, none⟩ (.string ⟨(sa).name.1.toArray⟩))) := Lib.hid (HVn.out.put 2 (.string ⟨(sa).name.1.toArray⟩) { x1.1 with srcAt := sa.now.pos, src := (sa).name.1 } (fun _ _ _ _ _ => rfl) ⟨rfl, rfl, rfl, rfl, rfl⟩)
    clear hcl hMc hRc zf z4 z5 z10 z11 HVn
    go_upto_region 7 with fail
    generalize w5.setCell ⟨qb, 2, none⟩ (.string ⟨(sa).name.1.toArray⟩) = w6 at *
    clear z2 z3 fk
    clear HV4
    obtain ⟨x2, hx2⟩ : ∃ x, q2 x1 = x := ⟨_, rfl⟩
    have HV6 : Hid (DInv pb tg ts f w wq qb x2 w6) := Lib.hid (by rw [← hx2]; unfold q2; simp only [HSA.out]; exact HV5.out)
    have HX2 := Lib.hid hx2
    clear hx2 HV5 HSA
    have hcl : Calls Tryz.prog 80 #[PtrV pb, .string ⟨#[74, 79, 73, 78]⟩] w6 _ := takes_ref w6 pb tg ts x2.2 f HV6.out.2.1 wJoin
    have hat := Aft.takes x2.2 wJoin
    obtain ⟨⟨tk, sj⟩, hst⟩ : ∃ x, (x2.2).takes wJoin = x := ⟨_, rfl⟩
    rw [hst] at hcl hat
    simp only at hcl hat
    unfold PtrV at hcl
    go_wp2_with fail
    (with_reducible refine hcl.mono ?_)
    rintro e w7 ⟨rfl, hMc, hRc⟩
    have HV7 := Lib.hid (HV6.out.go hMc hRc hat)
    have HST := Lib.hid hst
    clear hcl hMc hRc hat hst
    go_upto_if 33 with fail
    go_cut [] from 34 to 59 (fun wx => DInv pb tg ts f w wq qb (q3 E x2) wx)
    case first =>
      cases tk with
      | false =>
        go_wp2_with fail
        go_meet
        have : q3 E x2 = (x2.1, sj) := by unfold q3; simp only [HST.out]; rfl
        rw [this]
        exact HV7.out
      | true =>
        have h3 : q3 E x2 = ({ x2.1 with joinAt := sj.now.pos, join := sj.name.1, on := some (E (sj.name.2.wants [wOn])).1 }, (E (sj.name.2.wants [wOn])).2) := by unfold q3; simp only [HST.out]; rfl
        have HQ3 := Lib.hid h3
        clear h3 HV6
        obtain ⟨i, n, cap, hii, a0, a1, c1, -, -⟩ := HV7.out.2.1.place
        obtain ⟨⟨z2, z3, z4, z5, z10, z11⟩, zf, -, -⟩ := HV7.out.cell
        have fk := zf 5
        have zd := (Mods.refl [] w7).drew
        have A0 := zd.cell a0 (by simp)
        have A1 := zd.cell a1 (by simp)
        have C1 := zd.cell c1 (by simp)
        have Z4 := zd.cell z4 (by simp)
        have Z5 := zd.cell z5 (by simp)
        clear zf z2 z3 z10 z11
        go_upto_region 8 with fail
        go_cut [] from 34 to 47 (fun wx => DInv pb tg ts f w wq qb ({ x2.1 with joinAt := sj.now.pos }, sj) wx)
        case first =>
          go_region_law (fail)
          all_goals
            go_wp2_with fail
            go_meet
            exact (HV7.out.put 5 (.int .i64 (sj).now.pos) { x2.1 with joinAt := sj.now.pos } (fun _ _ _ _ _ => rfl) ⟨rfl, rfl, rfl, rfl, rfl⟩).drew
        case rest =>
          clear fk zd A0 A1 C1 Z4 Z5 a0 a1 c1 z4 z5 hii
          have HV8 := Lib.hid hcut
          clear hcut HV7
          have hcl := name_ref wc pb tg ts sj f HV8.out.2.1
          unfold PtrV at hcl
          go_wp2_with fail
          (with_reducible refine hcl.mono ?_)
          rintro e w8 ⟨rfl, hMc, hRc⟩
          have HVn := Lib.hid (HV8.out.go hMc hRc (Aft.name _))
          obtain ⟨⟨z2, z3, z4, z5, z10, z11⟩, zf, -, -⟩ := HVn.out.cell
          have fk := zf 3
          have HV9 : Hid (DInv pb tg ts f w wq qb ({ x2.1 with joinAt := sj.now.pos, join := (sj).name.1 }, (sj).name.2) (w8.setCell ⟨qb, 3, none⟩ (.string ⟨(sj).name.1.toArray⟩))) := Lib.hid (HVn.out.put 3 (.string ⟨(sj).name.1.toArray⟩) { x2.1 with joinAt := sj.now.pos, join := (sj).name.1 } (fun _ _ _ _ _ => rfl) ⟨rfl, rfl, rfl, rfl, rfl⟩)
          clear hcl hMc hRc zf z4 z5 z10 z11 HVn
          go_upto_region 10 with fail
          generalize w8.setCell ⟨qb, 3, none⟩ (.string ⟨(sj).name.1.toArray⟩) = w9 at *
          clear z2 z3 fk
          have hcl : Calls Tryz.prog 77 #[PtrV pb, .string ⟨#[79, 78]⟩] w9 _ := wants_ref w9 pb tg ts sj.name.2 f HV9.out.2.1 wOn
          unfold PtrV at hcl
          go_wp2_with fail
          (with_reducible refine hcl.mono ?_)
          rintro e w10 ⟨rfl, hMc, hRc⟩
          have HV10 := Lib.hid (HV9.out.go hMc hRc (Aft.wants _ _))
          clear hcl hMc hRc
          have hcl := HOR.out w10 (sj.name.2.wants [wOn]) HV10.out.2.1
          unfold PtrV at hcl
          go_wp2_with fail
          (with_reducible refine hcl.mono ?_)
          rintro e wo ⟨yb, rfl, hMc, hRc, hEc⟩
          dsimp only [PtrV]
          have HVo := Lib.hid (HV10.out.go hMc hRc (HGO.out _))
          obtain ⟨-, zf, ⟨v6, z6⟩, ⟨v7, z7⟩⟩ := HVo.out.cell
          have fk := zf 6
          have HVs := Lib.hid (HV10.out.opt HGO.out hMc hRc hEc true)
          unfold PtrV at HVs
          clear hcl hMc hRc hEc zf HVo
          go_wp2_with fail
          go_meet
          rw [HQ3.out]
          exact HVs.out
    case rest =>
      clear HST HV7
      have HVa := Lib.hid hcut
      clear hcut HV6
      obtain ⟨x3, hx⟩ : ∃ x, q3 E x2 = x := ⟨_, rfl⟩
      rw [hx] at HVa
      have HX3 := Lib.hid hx
      clear hx
      obtain ⟨v3, hwn⟩ : ∃ x, wc = x := ⟨_, rfl⟩
      rw [hwn] at HVa
      have HV3 := HVa
      rw [hwn]
      clear hwn HVa
      go_upto_region 12 with fail
      have hcl : Calls Tryz.prog 80 #[PtrV pb, .string ⟨#[87, 72, 69, 82, 69]⟩] v3 _ := takes_ref v3 pb tg ts x3.2 f HV3.out.2.1 wWhere
      have hat := Aft.takes x3.2 wWhere
      obtain ⟨⟨tk, sj⟩, hst⟩ : ∃ x, (x3.2).takes wWhere = x := ⟨_, rfl⟩
      rw [hst] at hcl hat
      simp only at hcl hat
      unfold PtrV at hcl
      go_wp2_with fail
      (with_reducible refine hcl.mono ?_)
      rintro e w7 ⟨rfl, hMc, hRc⟩
      have HV7 := Lib.hid (HV3.out.go hMc hRc hat)
      have HST := Lib.hid hst
      clear hcl hMc hRc hat hst
      go_upto_if 61 with fail
      go_cut [] from 62 to 66 (fun wx => DInv pb tg ts f w wq qb (q4 E x3) wx)
      case first =>
        cases tk with
        | false =>
          go_wp2_with fail
          go_meet
          have : q4 E x3 = (x3.1, sj) := by unfold q4; simp only [HST.out]; rfl
          rw [this]
          exact HV7.out
        | true =>
          have h4 : q4 E x3 = ({ x3.1 with whr := some (E sj).1 }, (E sj).2) := by unfold q4; simp only [HST.out]; rfl
          have HQ4 := Lib.hid h4
          clear h4 HV3
          have hcl := HOR.out w7 sj HV7.out.2.1
          unfold PtrV at hcl
          go_wp2_with fail
          (with_reducible refine hcl.mono ?_)
          rintro e wo ⟨yb, rfl, hMc, hRc, hEc⟩
          dsimp only [PtrV]
          have HVo := Lib.hid (HV7.out.go hMc hRc (HGO.out _))
          obtain ⟨-, zf, ⟨v6, z6⟩, ⟨v7, z7⟩⟩ := HVo.out.cell
          have fk := zf 7
          have HVs := Lib.hid (HV7.out.opt HGO.out hMc hRc hEc false)
          unfold PtrV at HVs
          clear hcl hMc hRc hEc zf HVo
          go_wp2_with fail
          go_meet
          rw [HQ4.out]
          exact HVs.out
      case rest =>
        clear HST HV7
        have HVa := Lib.hid hcut
        clear hcut HV3
        obtain ⟨x4, hx⟩ : ∃ x, q4 E x3 = x := ⟨_, rfl⟩
        rw [hx] at HVa
        have HX4 := Lib.hid hx
        clear hx
        obtain ⟨v4, hwn⟩ : ∃ x, wc = x := ⟨_, rfl⟩
        rw [hwn] at HVa
        have HV4 := HVa
        rw [hwn]
        clear hwn HVa
        go_upto_region 14 with fail
        have hcl : Calls Tryz.prog 80 #[PtrV pb, .string ⟨#[71, 82, 79, 85, 80]⟩] v4 _ := takes_ref v4 pb tg ts x4.2 f HV4.out.2.1 wGroup
        have hat := Aft.takes x4.2 wGroup
        obtain ⟨⟨tk, sj⟩, hst⟩ : ∃ x, (x4.2).takes wGroup = x := ⟨_, rfl⟩
        rw [hst] at hcl hat
        simp only at hcl hat
        unfold PtrV at hcl
        go_wp2_with fail
        (with_reducible refine hcl.mono ?_)
        rintro e w7 ⟨rfl, hMc, hRc⟩
        have HV7 := Lib.hid (HV4.out.go hMc hRc hat)
        have HST := Lib.hid hst
        clear hcl hMc hRc hat hst
        go_upto_if 68 with fail
        go_cut [] from 69 to 94 (fun wx => DInv pb tg ts f w wq qb (q5 x4) wx)
        case first =>
          cases tk with
          | false =>
            go_wp2_with fail
            go_meet
            have : q5 x4 = (x4.1, sj) := by unfold q5; simp only [HST.out]; rfl
            rw [this]
            exact HV7.out
          | true =>
            obtain ⟨s0, hs0⟩ : ∃ x, sj.wants [wBy] = x := ⟨_, rfl⟩
            obtain ⟨fin, hfin⟩ : ∃ x, listF columnF s0 = x := ⟨_, rfl⟩
            have h4 : q5 x4 = ({ x4.1 with group := fin.1 }, fin.2) := by unfold q5; simp only [HST.out, ← hfin, ← hs0]; rfl
            have HQ4 := Lib.hid h4
            have HFI := Lib.hid hfin
            clear h4 hfin
            have hcl : Calls Tryz.prog 77 #[PtrV pb, .string ⟨#[66, 89]⟩] w7 _ := wants_ref w7 pb tg ts sj f HV7.out.2.1 wBy
            unfold PtrV at hcl
            go_wp2_with fail
            (with_reducible refine hcl.mono ?_)
            rintro e w8 ⟨rfl, hMc, hRc⟩
            have HV8 := Lib.hid (HV7.out.go hMc hRc (Aft.wants _ _))
            clear hcl hMc hRc
            rw [hs0] at HV8
            clear hs0
            have hV8 := HV8.out
            obtain ⟨g1, g2, g3, vi, von, vwh, vg, vo, g8, g9⟩ := hV8
            obtain ⟨i1, hi1, hy0, hy1, hy2⟩ := info_parts (show (Tryz.prog.info? 96).map (fun i => (i.zero, i.size, i.bytes)) = some (some (.pointer none), 1, 8) by kernel_rfl)
            obtain ⟨i2, hi2, hx0, hx1, hx2⟩ := info_parts (show (Tryz.prog.info? 107).map (fun i => (i.zero, i.size, i.bytes)) = some (some (.agg #[.int .i64 0, .int .i64 0, .string ⟨#[]⟩, .bool false]), 4, 40) by kernel_rfl)
            have hnl0 : x4.1.group = [] := by rw [← HX4.out, ← HX3.out, ← HX2.out, ← HX1.out]; exact grp_nil E s
            obtain rfl := g9.gnil hnl0
            obtain ⟨v, hv⟩ : ∃ v : Value, .slice none 0 0 = v := ⟨_, rfl⟩
            rw [hv] at g8
            have hL0 : LRef TreeD 96 1 w8 w8 v ([] : List _) s0.e := by rw [← hv]; exact LRef.start _ _ _ _ _ _
            have HL0 := Lib.hid hL0
            have HG9 := Lib.hid g9
            have hM00 := Mods.refl [pb, qb] w8
            have hpl : pb < w8.heap.size := by omega
            have hqlt : qb < w8.heap.size := by omega
            have htlt : tg < w8.heap.size := by omega
            have hn0 : ([] : List Tree).length + 1 ≤ 10003 := by simp
            have hlen0 : s0.rest.length ≤ 10001 := by
              obtain ⟨i, cap, d, -, -, hi, hr, ⟨-, -, hl⟩, -⟩ := g2
              rw [hr, List.length_append, List.length_drop, List.length_drop]
              omega
            clear hL0 g9 hnl0 hv
            go_upto_region 16 with fail
            go_cut [] from 71 to 81 (fun wx => GrowGo TreeD 96 1 pb tg ts f qb (fun v => (queryC x4.1 vi von vwh v vo).toArray) w8 columnF fin s0.e (columnF s0).2.rest.length wx)
            case first =>
              have hcol := column_ref w8.drew pb tg ts s0 f (g2.later (Mods.refl [] w8).drew)
              unfold PtrV at hcol
              have k8 := cell_of_heap g8 8
              change w8.cell? _ = some v at k8
              have hdr := (Mods.refl [] w8).drew
              have k8d := hdr.cell k8 (by simp)
              have hqd := hdr.heap g8 (by simp)
              obtain ⟨css, hown, hog, hall⟩ := HL0.out
              have HLO := Lib.hid (And.intro hown (And.intro hog hall))
              have hownd := ownsRow_mods hown hdr (by simp)
              have hqn : ∀ g, v.ownBlock = some g → g ≠ qb ∧ g ≠ pb ∧ g ≠ tg := fun g hg => by have := hog g hg; omega
              have hn63 : ([] : List Tree).length + 1 ≤ maxLen := by have := hn0; unfold maxLen; omega
              have hnl : (([] : List Tree).length + 1) * 8 ≤ 140737488355328 := by have := hn0; omega
              clear hown hall
              go_region_law (first | (go_simp; go_at_call 82; (with_reducible refine hcol.mono ?_); rintro e w2 ⟨yb, rfl, hM2, hR2, hE2⟩; (try dsimp only [PtrV]); have e8 := hM2.cell k8d (by simpa using hqp); have hq2 := hM2.heap hqd (by simpa using hqp); have hown2 := ownsRow_mods hownd hM2 (fun g hg => by simpa using (hqn g hg).2.1); have hzA := (Mods.refl [] w2).alloc (.cells #[.pointer (some ⟨yb, 0, none⟩)] 96); have hownA := ownsRow_mods hown2 hzA (by simp); have hqA := hzA.heap hq2 (by simp); have e8A := hzA.cell e8 (by simp)) | (refine step_app2 rfl (.tmp 75) (.tmp 78) 97 rfl 96 i1 (.pointer none) 1 8 Tryz.underlying97 hi1 hy0 hy1 hy2 rfl (by decide) v ([] : List Tree).length css.flatten (by kernel_rfl) hownA ⟨w2.heap.size, 0, none⟩ 1 1 [.pointer (some ⟨yb, 0, none⟩)] (by kernel_rfl) rfl (cells_lit w2 #[.pointer (some ⟨yb, 0, none⟩)] _) (fun u hu => by simp at hu; subst hu; rfl) (by decide) hn63 hnl ?_; intro g cap w7 hown7 hM7 hg7; have hq7 := hM7.heap hqA (fun hm => (hqn _ (by simpa using hm)).1 rfl); have e7 : w7.cell? ⟨qb, 8, none⟩ = some v := cell_of_heap hq7 8; have f7 := frozen_of_heap hq7 8))
              all_goals
                have hMq : Mods [qb] w7 (w7.setCell ⟨qb, 8, none⟩ (.slice (some ⟨g, 0, none⟩) (([] : List Tree).length + 1) cap)) := (Mods.refl _ _).setCell (.inl (by simp)) _
                have hq8 := heap_setCell_same hq7 8 (.slice (some ⟨g, 0, none⟩) (([] : List Tree).length + 1) cap)
                have hge : (columnF s0).2.e = 0 → s0.e = 0 := fun h0 => (by
                  rcases Nat.eq_zero_or_pos s0.e with h | h
                  · exact h
                  · have := (goes_column s0).err (by omega)
                    rw [this] at h0
                    exact h0)
                have HL8 : Hid (LRef TreeD 96 1 w8 (w7.setCell ⟨qb, 8, none⟩ (.slice (some ⟨g, 0, none⟩) (([] : List Tree).length + 1) cap)) (.slice (some ⟨g, 0, none⟩) (([] : List Tree).length + 1) cap) (([] : List Tree) ++ [(columnF s0).1]) (columnF s0).2.e) := Lib.hid (by
                  have hMx : Mods [pb] w8 (w2.alloc (.cells #[.pointer (some ⟨yb, 0, none⟩)] 96)) := ((hdr.mono (L' := [pb]) (by simp)).trans hM2 (by simp)).trans hzA (by simp)
                  have hL2 := HL0.out.go treeDRep hMx (fun x hx => lt_one hpl hx) hge
                  have hsx := hMx.size
                  have hsb := hM00.size
                  have h1 := LRef.push treeDRep hL2 (by omega) (fun h0 L hL => ⟨yb, rfl, (hE2 h0 (v.ownBlock.toList ++ L) (fun x hx => by
                    rcases List.mem_append.1 hx with hx | hx
                    · obtain ⟨css', q1, -, -⟩ := HL0.out
                      exact (q1.lt x (by simpa using hx)).2
                    · have := hL x hx; have := hM00.size; have hdd : w8.drew.heap.size = w8.heap.size := rfl; omega)).mods (hzA.mono (by simp))⟩) css hown7
                    ⟨ownsRow_mods HLO.out.1 hMx (fun g hg => by simpa using (hqn g hg).2.1), HLO.out.2.1, fun h0 L hL => ((HLO.out.2.2 (hge h0) (pb :: L) (fun x hx => by
                      rcases List.mem_cons.1 hx with rfl | hx
                      · omega
                      · exact hL x hx)).map fun c x hx => treeDRep.mods hx (hMx.mono (by simp))).map fun c x hx => treeDRep.weaken (fun y hy => by
                      rcases List.mem_append.1 hy with hy | hy
                      · exact List.mem_append_left _ hy
                      · exact List.mem_append_right _ (List.mem_cons_of_mem _ hy)) hx⟩ hM7 (by first | exact hg7 | (rw [size_alloc]; exact hg7))
                  exact h1.go treeDRep hMq (fun x hx => lt_one hqlt hx) id)
                have hR7 := (hR2.later hzA).mods hM7 (fun hm => (hqn _ (by simpa using hm)).2.1 rfl) (fun hm => (hqn _ (by simpa using hm)).2.2 rfl)
                have hR8 := hR7.mods hMq (by simpa using hqp.symm) (by simpa using hqt.symm)
                have hMw8 := (((hM00.trans ((hdr.mono (L' := [pb]) (by simp)).trans hM2 (by simp)) (by simp)).trans hzA (by simp)).trans hM7 (fun x hx => .inr (HLO.out.2.1 _ (by simpa using hx)))).trans hMq (by simp)
                have HGW : Hid (GrowGo TreeD 96 1 pb tg ts f qb (fun v => (queryC x4.1 vi von vwh v vo).toArray) w8 columnF fin s0.e (columnF s0).2.rest.length (w7.setCell ⟨qb, 8, none⟩ (.slice (some ⟨g, 0, none⟩) (([] : List Tree).length + 1) cap))) := Lib.hid ⟨_, _, _, hMw8, hR8, hq8, HL8.out, HFI.out, Nat.le_refl _, by have h1 := (goes_column s0).len; simp; omega, by simp, hge⟩
                go_wp2_with fail
                go_meet
                exact HGW.out
            case rest =>
              have HGC := Lib.hid hcut
              clear hcut HL0 hM00 g2 g8 hn0 hlen0
              generalize (columnF s0).2.rest.length = n0 at *
              obtain ⟨wl, hwl⟩ : ∃ x, wc = x := ⟨_, rfl⟩
              rw [hwl] at HGC
              rw [hwl]
              clear hwl
              go_upto_region 17 with fail
              go_loopg [83] n0 (fun gk tl wr => Hid (GrowGo TreeD 96 1 pb tg ts f qb (fun v => (queryC x4.1 vi von vwh v vo).toArray) w8 columnF fin s0.e gk wr))
              case atStart => exact HGC
              clear HGC
              obtain ⟨l, st, v, hMr, hRr, hqr, hLR, hlg, hlen, hln, hlne, hle0⟩ := hrel.out
              have HLR := Lib.hid hLR
              have HLG := Lib.hid (And.intro hlg (And.intro hlen hln))
              have HLE := Lib.hid (And.intro hlne hle0)
              clear hrel hLR hlg hlen hln hlne hle0
              have hcl : Calls Tryz.prog 80 #[PtrV pb, .string ⟨#[44]⟩] wr _ := takes_ref wr pb tg ts st f hRr wComma
              obtain ⟨⟨tc, s2⟩, hst2⟩ : ∃ x, st.takes wComma = x := ⟨_, rfl⟩
              have hte : (st.takes wComma).2.e = st.e := by rw [takes_eq]; simp only; split <;> rfl
              rw [hst2] at hcl hte
              simp only at hcl hte
              unfold PtrV at hcl
              have HS2 := Lib.hid (And.intro hst2 hte)
              clear hst2 hte
              go_wp2_with fail
              (with_reducible refine hcl.mono ?_)
              rintro e wt ⟨rfl, hMt, hRt⟩
              have hqt2 := hMt.heap hqr (by simpa using hqp)
              have hMwt := hMr.trans hMt (by simp)
              have HLT := Lib.hid (HLR.out.go (e2 := s2.e) treeDRep hMt (fun x hx => lt_one hpl hx) (fun h0 => by rw [← HS2.out.2]; exact h0))
              clear hcl hMt hMr hqr hRr HLR
              cases tc with
              | false =>
                have hs2 : s2 = st := by have := takes_false (s := st) (x := wComma) (by rw [HS2.out.1]); rw [HS2.out.1] at this; exact this
                have hff : fin = (l, st) := by rw [← HLG.out.1]; exact listG_stop (by rw [HS2.out.1])
                have HDV : Hid (DInv pb tg ts f w wq qb (q5 x4) wt) := Lib.hid (by
                  rw [HQ4.out, hff]
                  obtain ⟨h3, h4, h5, h6, h7⟩ := g3
                  have hp := HG9.out.go (e2 := st.e) hMwt (fun x hx => by
                    rcases List.mem_cons.1 hx with rfl | hx
                    · omega
                    · have : x = qb := by simpa using hx
                      omega) HLE.out.2
                  have hsz := hMwt.size
                  subst hs2
                  refine ⟨g1.trans hMwt (fun x hx => by
                    rcases List.mem_cons.1 hx with rfl | hx
                    · exact .inl (by simp)
                    · have : x = qb := by simpa using hx
                      exact .inr (by omega)), hRt, ⟨h3, h4, h5, h6, by omega⟩, vi, von, vwh, v, vo, hqt2, ?_⟩
                  exact ⟨hp.items, HLT.out.base (by omega), hp.order, (fun hx => absurd hx HLE.out.1), hp.onil, hp.opts⟩)
                clear hs2 hff
                go_wp2_with fail
                go_meet
                exact HDV.out
              | true =>
                obtain ⟨m, hgm, hl2, hl3⟩ := listG_go goes_column (n := gk) (l := l) (st := st) (by rw [HS2.out.1]) HLG.out.2.1
                rw [HS2.out.1] at hl2 hl3
                have HL3 := Lib.hid (And.intro hgm (And.intro (hl2.symm.trans HLG.out.1) hl3))
                have hlb : l.length + 1 ≤ 10003 := by have := HLG.out.2.2; omega
                clear hgm hl2 hl3
                go_upto_region 18 with fail
                have hcol := column_ref wt.drew pb tg ts s2 f (hRt.later (Mods.refl [] wt).drew)
                unfold PtrV at hcol
                have k8 := cell_of_heap hqt2 8
                change wt.cell? _ = some v at k8
                have hdr := (Mods.refl [] wt).drew
                have k8d := hdr.cell k8 (by simp)
                have hqd := hdr.heap hqt2 (by simp)
                obtain ⟨css, hown, hog, hall⟩ := HLT.out
                have HLO := Lib.hid (And.intro hown (And.intro hog hall))
                have hownd := ownsRow_mods hown hdr (by simp)
                have hqn : ∀ g, v.ownBlock = some g → g ≠ qb ∧ g ≠ pb ∧ g ≠ tg := fun g hg => by have := hog g hg; omega
                have hn63 : l.length + 1 ≤ maxLen := by have := hlb; unfold maxLen; omega
                have hnl : (l.length + 1) * 8 ≤ 140737488355328 := by have := hlb; omega
                clear hown hall
                go_region_law (first | (go_simp; go_at_call 82; (with_reducible refine hcol.mono ?_); rintro e w2 ⟨yb, rfl, hM2, hR2, hE2⟩; (try dsimp only [PtrV]); have e8 := hM2.cell k8d (by simpa using hqp); have hq2 := hM2.heap hqd (by simpa using hqp); have hown2 := ownsRow_mods hownd hM2 (fun g hg => by simpa using (hqn g hg).2.1); have hzA := (Mods.refl [] w2).alloc (.cells #[.pointer (some ⟨yb, 0, none⟩)] 96); have hownA := ownsRow_mods hown2 hzA (by simp); have hqA := hzA.heap hq2 (by simp); have e8A := hzA.cell e8 (by simp)) | (refine step_app2 rfl (.tmp 88) (.tmp 91) 97 rfl 96 i1 (.pointer none) 1 8 Tryz.underlying97 hi1 hy0 hy1 hy2 rfl (by decide) v l.length css.flatten (by kernel_rfl) hownA ⟨w2.heap.size, 0, none⟩ 1 1 [.pointer (some ⟨yb, 0, none⟩)] (by kernel_rfl) rfl (cells_lit w2 #[.pointer (some ⟨yb, 0, none⟩)] _) (fun u hu => by simp at hu; subst hu; rfl) (by decide) hn63 hnl ?_; intro g cap w7 hown7 hM7 hg7; have hq7 := hM7.heap hqA (fun hm => (hqn _ (by simpa using hm)).1 rfl); have e7 : w7.cell? ⟨qb, 8, none⟩ = some v := cell_of_heap hq7 8; have f7 := frozen_of_heap hq7 8))
                all_goals
                  have hMq : Mods [qb] w7 (w7.setCell ⟨qb, 8, none⟩ (.slice (some ⟨g, 0, none⟩) (l.length + 1) cap)) := (Mods.refl _ _).setCell (.inl (by simp)) _
                  have hq8 := heap_setCell_same hq7 8 (.slice (some ⟨g, 0, none⟩) (l.length + 1) cap)
                  have hge : (columnF s2).2.e = 0 → s2.e = 0 := fun h0 => (by
                    rcases Nat.eq_zero_or_pos s2.e with h | h
                    · exact h
                    · have := (goes_column s2).err (by omega)
                      rw [this] at h0
                      exact h0)
                  have HL8 : Hid (LRef TreeD 96 1 w8 (w7.setCell ⟨qb, 8, none⟩ (.slice (some ⟨g, 0, none⟩) (l.length + 1) cap)) (.slice (some ⟨g, 0, none⟩) (l.length + 1) cap) (l ++ [(columnF s2).1]) (columnF s2).2.e) := Lib.hid (by
                    have hMx : Mods [pb] wt (w2.alloc (.cells #[.pointer (some ⟨yb, 0, none⟩)] 96)) := ((hdr.mono (L' := [pb]) (by simp)).trans hM2 (by simp)).trans hzA (by simp)
                    have hL2 := HLT.out.go treeDRep hMx (fun x hx => lt_one hpl hx) hge
                    have hsx := hMx.size
                    have hsb := hMwt.size
                    have h1 := LRef.push treeDRep hL2 (by omega) (fun h0 L hL => ⟨yb, rfl, (hE2 h0 (v.ownBlock.toList ++ L) (fun x hx => by
                      rcases List.mem_append.1 hx with hx | hx
                      · obtain ⟨css', q1, -, -⟩ := HLT.out
                        exact (q1.lt x (by simpa using hx)).2
                      · have := hL x hx; have := hMwt.size; have hdd : wt.drew.heap.size = wt.heap.size := rfl; omega)).mods (hzA.mono (by simp))⟩) css hown7
                      ⟨ownsRow_mods HLO.out.1 hMx (fun g hg => by simpa using (hqn g hg).2.1), HLO.out.2.1, fun h0 L hL => ((HLO.out.2.2 (hge h0) (pb :: L) (fun x hx => by
                        rcases List.mem_cons.1 hx with rfl | hx
                        · omega
                        · exact hL x hx)).map fun c x hx => treeDRep.mods hx (hMx.mono (by simp))).map fun c x hx => treeDRep.weaken (fun y hy => by
                        rcases List.mem_append.1 hy with hy | hy
                        · exact List.mem_append_left _ hy
                        · exact List.mem_append_right _ (List.mem_cons_of_mem _ hy)) hx⟩ hM7 (by first | exact hg7 | (rw [size_alloc]; exact hg7))
                    exact h1.go treeDRep hMq (fun x hx => lt_one hqlt hx) id)
                  have hR7 := (hR2.later hzA).mods hM7 (fun hm => (hqn _ (by simpa using hm)).2.1 rfl) (fun hm => (hqn _ (by simpa using hm)).2.2 rfl)
                  have hR8 := hR7.mods hMq (by simpa using hqp.symm) (by simpa using hqt.symm)
                  have hMw8 := (((hMwt.trans ((hdr.mono (L' := [pb]) (by simp)).trans hM2 (by simp)) (by simp)).trans hzA (by simp)).trans hM7 (fun x hx => .inr (HLO.out.2.1 _ (by simpa using hx)))).trans hMq (by simp)
                  have HGW : Hid (GrowGo TreeD 96 1 pb tg ts f qb (fun v => (queryC x4.1 vi von vwh v vo).toArray) w8 columnF fin s0.e m (w7.setCell ⟨qb, 8, none⟩ (.slice (some ⟨g, 0, none⟩) (l.length + 1) cap))) := Lib.hid ⟨_, _, _, hMw8, hR8, hq8, HL8.out, HL3.out.2.1, HL3.out.2.2, by have := HLG.out.2.2; have := HL3.out.1; simp; omega, by simp, fun h0 => HLE.out.2 (by rw [← HS2.out.2]; exact hge h0)⟩
                  have hgm := HL3.out.1
                  go_wp2_with fail
                  go_roundg m
                  case measure => omega
                  case rel => exact Lib.hid HGW.out
        case rest =>
          clear HST HV7
          have HVa := Lib.hid hcut
          clear hcut HV4
          obtain ⟨x5, hx⟩ : ∃ x, q5 x4 = x := ⟨_, rfl⟩
          rw [hx] at HVa
          have HX5 := Lib.hid hx
          clear hx
          obtain ⟨v5, hwn⟩ : ∃ x, wc = x := ⟨_, rfl⟩
          rw [hwn] at HVa
          have HV5 := HVa
          rw [hwn]
          clear hwn HVa
          go_upto_region 19 with fail
          have hcl : Calls Tryz.prog 80 #[PtrV pb, .string ⟨#[79, 82, 68, 69, 82]⟩] v5 _ := takes_ref v5 pb tg ts x5.2 f HV5.out.2.1 wOrder
          have hat := Aft.takes x5.2 wOrder
          obtain ⟨⟨tk, sj⟩, hst⟩ : ∃ x, (x5.2).takes wOrder = x := ⟨_, rfl⟩
          rw [hst] at hcl hat
          simp only at hcl hat
          unfold PtrV at hcl
          go_wp2_with fail
          (with_reducible refine hcl.mono ?_)
          rintro e w7 ⟨rfl, hMc, hRc⟩
          have HV7 := Lib.hid (HV5.out.go hMc hRc hat)
          have HST := Lib.hid hst
          clear hcl hMc hRc hat hst
          go_upto_if 96 with fail
          go_cut [] from 97 to 122 (fun wx => DInv pb tg ts f w wq qb (q6 x5) wx)
          case first =>
            cases tk with
            | false =>
              go_wp2_with fail
              go_meet
              have : q6 x5 = (x5.1, sj) := by unfold q6; simp only [HST.out]; rfl
              rw [this]
              exact HV7.out
            | true =>
              obtain ⟨s0, hs0⟩ : ∃ x, sj.wants [wBy] = x := ⟨_, rfl⟩
              obtain ⟨fin, hfin⟩ : ∃ x, listF keyF s0 = x := ⟨_, rfl⟩
              have h4 : q6 x5 = ({ x5.1 with order := fin.1 }, fin.2) := by unfold q6; simp only [HST.out, ← hfin, ← hs0]; rfl
              have HQ4 := Lib.hid h4
              have HFI := Lib.hid hfin
              clear h4 hfin
              have hcl : Calls Tryz.prog 77 #[PtrV pb, .string ⟨#[66, 89]⟩] w7 _ := wants_ref w7 pb tg ts sj f HV7.out.2.1 wBy
              unfold PtrV at hcl
              go_wp2_with fail
              (with_reducible refine hcl.mono ?_)
              rintro e w8 ⟨rfl, hMc, hRc⟩
              have HV8 := Lib.hid (HV7.out.go hMc hRc (Aft.wants _ _))
              clear hcl hMc hRc
              rw [hs0] at HV8
              clear hs0
              have hV8 := HV8.out
              obtain ⟨g1, g2, g3, vi, von, vwh, vg, vo, g8, g9⟩ := hV8
              obtain ⟨i1, hi1, hy0, hy1, hy2⟩ := info_parts (show (Tryz.prog.info? 96).map (fun i => (i.zero, i.size, i.bytes)) = some (some (.pointer none), 1, 8) by kernel_rfl)
              obtain ⟨i2, hi2, hx0, hx1, hx2⟩ := info_parts (show (Tryz.prog.info? 107).map (fun i => (i.zero, i.size, i.bytes)) = some (some (.agg #[.int .i64 0, .int .i64 0, .string ⟨#[]⟩, .bool false]), 4, 40) by kernel_rfl)
              have hnl0 : x5.1.order = [] := by rw [← HX5.out, ← HX4.out, ← HX3.out, ← HX2.out, ← HX1.out]; exact ord_nil E s
              obtain rfl := g9.onil hnl0
              obtain ⟨v, hv⟩ : ∃ v : Value, .slice none 0 0 = v := ⟨_, rfl⟩
              rw [hv] at g8
              have hL0 : LRef KeyR 107 4 w8 w8 v ([] : List _) s0.e := by rw [← hv]; exact LRef.start _ _ _ _ _ _
              have HL0 := Lib.hid hL0
              have HG9 := Lib.hid g9
              have hM00 := Mods.refl [pb, qb] w8
              have hpl : pb < w8.heap.size := by omega
              have hqlt : qb < w8.heap.size := by omega
              have htlt : tg < w8.heap.size := by omega
              have hn0 : ([] : List KeyT).length + 1 ≤ 10003 := by simp
              have hlen0 : s0.rest.length ≤ 10001 := by
                obtain ⟨i, cap, d, -, -, hi, hr, ⟨-, -, hl⟩, -⟩ := g2
                rw [hr, List.length_append, List.length_drop, List.length_drop]
                omega
              clear hL0 g9 hnl0 hv
              go_upto_region 21 with fail
              go_cut [] from 99 to 109 (fun wx => GrowGo KeyR 107 4 pb tg ts f qb (fun v => (queryC x5.1 vi von vwh vg v).toArray) w8 keyF fin s0.e (keyF s0).2.rest.length wx)
              case first =>
                have hcol := qkey_ref w8.drew pb tg ts f s0 (g2.later (Mods.refl [] w8).drew)
                unfold PtrV at hcol
                have k8 := cell_of_heap g8 9
                change w8.cell? _ = some v at k8
                have hdr := (Mods.refl [] w8).drew
                have k8d := hdr.cell k8 (by simp)
                have hqd := hdr.heap g8 (by simp)
                obtain ⟨css, hown, hog, hall⟩ := HL0.out
                have HLO := Lib.hid (And.intro hown (And.intro hog hall))
                have hownd := ownsRow_mods hown hdr (by simp)
                have hqn : ∀ g, v.ownBlock = some g → g ≠ qb ∧ g ≠ pb ∧ g ≠ tg := fun g hg => by have := hog g hg; omega
                have hn63 : ([] : List KeyT).length + 1 ≤ maxLen := by have := hn0; unfold maxLen; omega
                have hnl : (([] : List KeyT).length + 1) * 40 ≤ 140737488355328 := by have := hn0; omega
                clear hown hall
                go_region_law (first | (go_simp; go_at_call 83; (with_reducible refine hcol.mono ?_); rintro e w2 ⟨kk, rfl, hM2, hR2, hE2⟩; (try dsimp only [PtrV]); have e8 := hM2.cell k8d (by simpa using hqp); have hq2 := hM2.heap hqd (by simpa using hqp); have hown2 := ownsRow_mods hownd hM2 (fun g hg => by simpa using (hqn g hg).2.1); have hzA := (Mods.refl [] w2).alloc (.cells #[.int .i64 kk.pos, .int .i64 kk.item, .string ⟨kk.name.toArray⟩, .bool kk.desc] 107); have hownA := ownsRow_mods hown2 hzA (by simp); have hqA := hzA.heap hq2 (by simp); have e8A := hzA.cell e8 (by simp)) | (refine step_app2 rfl (.tmp 103) (.tmp 106) 98 rfl 107 i2 (.agg #[.int .i64 0, .int .i64 0, .string ⟨#[]⟩, .bool false]) 4 40 Tryz.underlying98 hi2 hx0 hx1 hx2 rfl (by decide) v ([] : List KeyT).length css.flatten (by kernel_rfl) hownA ⟨w2.heap.size, 0, none⟩ 1 1 [.int .i64 kk.pos, .int .i64 kk.item, .string ⟨kk.name.toArray⟩, .bool kk.desc] (by kernel_rfl) rfl (cells_lit w2 #[.int .i64 kk.pos, .int .i64 kk.item, .string ⟨kk.name.toArray⟩, .bool kk.desc] _) (List.all_eq_true.1 (key_oneD _ _ _ _)) (by decide) hn63 hnl ?_; intro g cap w7 hown7 hM7 hg7; have hq7 := hM7.heap hqA (fun hm => (hqn _ (by simpa using hm)).1 rfl); have e7 : w7.cell? ⟨qb, 9, none⟩ = some v := cell_of_heap hq7 9; have f7 := frozen_of_heap hq7 9))
                all_goals
                  have hMq : Mods [qb] w7 (w7.setCell ⟨qb, 9, none⟩ (.slice (some ⟨g, 0, none⟩) (([] : List KeyT).length + 1) cap)) := (Mods.refl _ _).setCell (.inl (by simp)) _
                  have hq8 := heap_setCell_same hq7 9 (.slice (some ⟨g, 0, none⟩) (([] : List KeyT).length + 1) cap)
                  have hge : (keyF s0).2.e = 0 → s0.e = 0 := fun h0 => (by
                    rcases Nat.eq_zero_or_pos s0.e with h | h
                    · exact h
                    · have := (goes_key s0).err (by omega)
                      rw [this] at h0
                      exact h0)
                  have HL8 : Hid (LRef KeyR 107 4 w8 (w7.setCell ⟨qb, 9, none⟩ (.slice (some ⟨g, 0, none⟩) (([] : List KeyT).length + 1) cap)) (.slice (some ⟨g, 0, none⟩) (([] : List KeyT).length + 1) cap) (([] : List KeyT) ++ [(keyF s0).1]) (keyF s0).2.e) := Lib.hid (by
                    have hMx : Mods [pb] w8 (w2.alloc (.cells #[.int .i64 kk.pos, .int .i64 kk.item, .string ⟨kk.name.toArray⟩, .bool kk.desc] 107)) := ((hdr.mono (L' := [pb]) (by simp)).trans hM2 (by simp)).trans hzA (by simp)
                    have hL2 := HL0.out.go keyRep hMx (fun x hx => lt_one hpl hx) hge
                    have hsx := hMx.size
                    have hsb := hM00.size
                    have h1 := LRef.push keyRep hL2 (by omega) (fun h0 L hL => keyd (hE2 h0)) css hown7
                      ⟨ownsRow_mods HLO.out.1 hMx (fun g hg => by simpa using (hqn g hg).2.1), HLO.out.2.1, fun h0 L hL => ((HLO.out.2.2 (hge h0) (pb :: L) (fun x hx => by
                        rcases List.mem_cons.1 hx with rfl | hx
                        · omega
                        · exact hL x hx)).map fun c x hx => keyRep.mods hx (hMx.mono (by simp))).map fun c x hx => keyRep.weaken (fun y hy => by
                        rcases List.mem_append.1 hy with hy | hy
                        · exact List.mem_append_left _ hy
                        · exact List.mem_append_right _ (List.mem_cons_of_mem _ hy)) hx⟩ hM7 (by first | exact hg7 | (rw [size_alloc]; exact hg7))
                    exact h1.go keyRep hMq (fun x hx => lt_one hqlt hx) id)
                  have hR7 := (hR2.later hzA).mods hM7 (fun hm => (hqn _ (by simpa using hm)).2.1 rfl) (fun hm => (hqn _ (by simpa using hm)).2.2 rfl)
                  have hR8 := hR7.mods hMq (by simpa using hqp.symm) (by simpa using hqt.symm)
                  have hMw8 := (((hM00.trans ((hdr.mono (L' := [pb]) (by simp)).trans hM2 (by simp)) (by simp)).trans hzA (by simp)).trans hM7 (fun x hx => .inr (HLO.out.2.1 _ (by simpa using hx)))).trans hMq (by simp)
                  have HGW : Hid (GrowGo KeyR 107 4 pb tg ts f qb (fun v => (queryC x5.1 vi von vwh vg v).toArray) w8 keyF fin s0.e (keyF s0).2.rest.length (w7.setCell ⟨qb, 9, none⟩ (.slice (some ⟨g, 0, none⟩) (([] : List KeyT).length + 1) cap))) := Lib.hid ⟨_, _, _, hMw8, hR8, hq8, HL8.out, HFI.out, Nat.le_refl _, by have h1 := (goes_key s0).len; simp; omega, by simp, hge⟩
                  go_wp2_with fail
                  go_meet
                  exact HGW.out
              case rest =>
                have HGC := Lib.hid hcut
                clear hcut HL0 hM00 g2 g8 hn0 hlen0
                generalize (keyF s0).2.rest.length = n0 at *
                obtain ⟨wl, hwl⟩ : ∃ x, wc = x := ⟨_, rfl⟩
                rw [hwl] at HGC
                rw [hwl]
                clear hwl
                go_upto_region 22 with fail
                go_loopg [111] n0 (fun gk tl wr => Hid (GrowGo KeyR 107 4 pb tg ts f qb (fun v => (queryC x5.1 vi von vwh vg v).toArray) w8 keyF fin s0.e gk wr))
                case atStart => exact HGC
                clear HGC
                obtain ⟨l, st, v, hMr, hRr, hqr, hLR, hlg, hlen, hln, hlne, hle0⟩ := hrel.out
                have HLR := Lib.hid hLR
                have HLG := Lib.hid (And.intro hlg (And.intro hlen hln))
                have HLE := Lib.hid (And.intro hlne hle0)
                clear hrel hLR hlg hlen hln hlne hle0
                have hcl : Calls Tryz.prog 80 #[PtrV pb, .string ⟨#[44]⟩] wr _ := takes_ref wr pb tg ts st f hRr wComma
                obtain ⟨⟨tc, s2⟩, hst2⟩ : ∃ x, st.takes wComma = x := ⟨_, rfl⟩
                have hte : (st.takes wComma).2.e = st.e := by rw [takes_eq]; simp only; split <;> rfl
                rw [hst2] at hcl hte
                simp only at hcl hte
                unfold PtrV at hcl
                have HS2 := Lib.hid (And.intro hst2 hte)
                clear hst2 hte
                go_wp2_with fail
                (with_reducible refine hcl.mono ?_)
                rintro e wt ⟨rfl, hMt, hRt⟩
                have hqt2 := hMt.heap hqr (by simpa using hqp)
                have hMwt := hMr.trans hMt (by simp)
                have HLT := Lib.hid (HLR.out.go (e2 := s2.e) keyRep hMt (fun x hx => lt_one hpl hx) (fun h0 => by rw [← HS2.out.2]; exact h0))
                clear hcl hMt hMr hqr hRr HLR
                cases tc with
                | false =>
                  have hs2 : s2 = st := by have := takes_false (s := st) (x := wComma) (by rw [HS2.out.1]); rw [HS2.out.1] at this; exact this
                  have hff : fin = (l, st) := by rw [← HLG.out.1]; exact listG_stop (by rw [HS2.out.1])
                  have HDV : Hid (DInv pb tg ts f w wq qb (q6 x5) wt) := Lib.hid (by
                    rw [HQ4.out, hff]
                    obtain ⟨h3, h4, h5, h6, h7⟩ := g3
                    have hp := HG9.out.go (e2 := st.e) hMwt (fun x hx => by
                      rcases List.mem_cons.1 hx with rfl | hx
                      · omega
                      · have : x = qb := by simpa using hx
                        omega) HLE.out.2
                    have hsz := hMwt.size
                    subst hs2
                    refine ⟨g1.trans hMwt (fun x hx => by
                      rcases List.mem_cons.1 hx with rfl | hx
                      · exact .inl (by simp)
                      · have : x = qb := by simpa using hx
                        exact .inr (by omega)), hRt, ⟨h3, h4, h5, h6, by omega⟩, vi, von, vwh, vg, v, hqt2, ?_⟩
                    exact ⟨hp.items, hp.group, HLT.out.base (by omega), hp.gnil, (fun hx => absurd hx HLE.out.1), hp.opts⟩)
                  clear hs2 hff
                  go_wp2_with fail
                  go_meet
                  exact HDV.out
                | true =>
                  obtain ⟨m, hgm, hl2, hl3⟩ := listG_go goes_key (n := gk) (l := l) (st := st) (by rw [HS2.out.1]) HLG.out.2.1
                  rw [HS2.out.1] at hl2 hl3
                  have HL3 := Lib.hid (And.intro hgm (And.intro (hl2.symm.trans HLG.out.1) hl3))
                  have hlb : l.length + 1 ≤ 10003 := by have := HLG.out.2.2; omega
                  clear hgm hl2 hl3
                  go_upto_region 23 with fail
                  have hcol := qkey_ref wt.drew pb tg ts f s2 (hRt.later (Mods.refl [] wt).drew)
                  unfold PtrV at hcol
                  have k8 := cell_of_heap hqt2 9
                  change wt.cell? _ = some v at k8
                  have hdr := (Mods.refl [] wt).drew
                  have k8d := hdr.cell k8 (by simp)
                  have hqd := hdr.heap hqt2 (by simp)
                  obtain ⟨css, hown, hog, hall⟩ := HLT.out
                  have HLO := Lib.hid (And.intro hown (And.intro hog hall))
                  have hownd := ownsRow_mods hown hdr (by simp)
                  have hqn : ∀ g, v.ownBlock = some g → g ≠ qb ∧ g ≠ pb ∧ g ≠ tg := fun g hg => by have := hog g hg; omega
                  have hn63 : l.length + 1 ≤ maxLen := by have := hlb; unfold maxLen; omega
                  have hnl : (l.length + 1) * 40 ≤ 140737488355328 := by have := hlb; omega
                  clear hown hall
                  go_region_law (first | (go_simp; go_at_call 83; (with_reducible refine hcol.mono ?_); rintro e w2 ⟨kk, rfl, hM2, hR2, hE2⟩; (try dsimp only [PtrV]); have e8 := hM2.cell k8d (by simpa using hqp); have hq2 := hM2.heap hqd (by simpa using hqp); have hown2 := ownsRow_mods hownd hM2 (fun g hg => by simpa using (hqn g hg).2.1); have hzA := (Mods.refl [] w2).alloc (.cells #[.int .i64 kk.pos, .int .i64 kk.item, .string ⟨kk.name.toArray⟩, .bool kk.desc] 107); have hownA := ownsRow_mods hown2 hzA (by simp); have hqA := hzA.heap hq2 (by simp); have e8A := hzA.cell e8 (by simp)) | (refine step_app2 rfl (.tmp 116) (.tmp 119) 98 rfl 107 i2 (.agg #[.int .i64 0, .int .i64 0, .string ⟨#[]⟩, .bool false]) 4 40 Tryz.underlying98 hi2 hx0 hx1 hx2 rfl (by decide) v l.length css.flatten (by kernel_rfl) hownA ⟨w2.heap.size, 0, none⟩ 1 1 [.int .i64 kk.pos, .int .i64 kk.item, .string ⟨kk.name.toArray⟩, .bool kk.desc] (by kernel_rfl) rfl (cells_lit w2 #[.int .i64 kk.pos, .int .i64 kk.item, .string ⟨kk.name.toArray⟩, .bool kk.desc] _) (List.all_eq_true.1 (key_oneD _ _ _ _)) (by decide) hn63 hnl ?_; intro g cap w7 hown7 hM7 hg7; have hq7 := hM7.heap hqA (fun hm => (hqn _ (by simpa using hm)).1 rfl); have e7 : w7.cell? ⟨qb, 9, none⟩ = some v := cell_of_heap hq7 9; have f7 := frozen_of_heap hq7 9))
                  all_goals
                    have hMq : Mods [qb] w7 (w7.setCell ⟨qb, 9, none⟩ (.slice (some ⟨g, 0, none⟩) (l.length + 1) cap)) := (Mods.refl _ _).setCell (.inl (by simp)) _
                    have hq8 := heap_setCell_same hq7 9 (.slice (some ⟨g, 0, none⟩) (l.length + 1) cap)
                    have hge : (keyF s2).2.e = 0 → s2.e = 0 := fun h0 => (by
                      rcases Nat.eq_zero_or_pos s2.e with h | h
                      · exact h
                      · have := (goes_key s2).err (by omega)
                        rw [this] at h0
                        exact h0)
                    have HL8 : Hid (LRef KeyR 107 4 w8 (w7.setCell ⟨qb, 9, none⟩ (.slice (some ⟨g, 0, none⟩) (l.length + 1) cap)) (.slice (some ⟨g, 0, none⟩) (l.length + 1) cap) (l ++ [(keyF s2).1]) (keyF s2).2.e) := Lib.hid (by
                      have hMx : Mods [pb] wt (w2.alloc (.cells #[.int .i64 kk.pos, .int .i64 kk.item, .string ⟨kk.name.toArray⟩, .bool kk.desc] 107)) := ((hdr.mono (L' := [pb]) (by simp)).trans hM2 (by simp)).trans hzA (by simp)
                      have hL2 := HLT.out.go keyRep hMx (fun x hx => lt_one hpl hx) hge
                      have hsx := hMx.size
                      have hsb := hMwt.size
                      have h1 := LRef.push keyRep hL2 (by omega) (fun h0 L hL => keyd (hE2 h0)) css hown7
                        ⟨ownsRow_mods HLO.out.1 hMx (fun g hg => by simpa using (hqn g hg).2.1), HLO.out.2.1, fun h0 L hL => ((HLO.out.2.2 (hge h0) (pb :: L) (fun x hx => by
                          rcases List.mem_cons.1 hx with rfl | hx
                          · omega
                          · exact hL x hx)).map fun c x hx => keyRep.mods hx (hMx.mono (by simp))).map fun c x hx => keyRep.weaken (fun y hy => by
                          rcases List.mem_append.1 hy with hy | hy
                          · exact List.mem_append_left _ hy
                          · exact List.mem_append_right _ (List.mem_cons_of_mem _ hy)) hx⟩ hM7 (by first | exact hg7 | (rw [size_alloc]; exact hg7))
                      exact h1.go keyRep hMq (fun x hx => lt_one hqlt hx) id)
                    have hR7 := (hR2.later hzA).mods hM7 (fun hm => (hqn _ (by simpa using hm)).2.1 rfl) (fun hm => (hqn _ (by simpa using hm)).2.2 rfl)
                    have hR8 := hR7.mods hMq (by simpa using hqp.symm) (by simpa using hqt.symm)
                    have hMw8 := (((hMwt.trans ((hdr.mono (L' := [pb]) (by simp)).trans hM2 (by simp)) (by simp)).trans hzA (by simp)).trans hM7 (fun x hx => .inr (HLO.out.2.1 _ (by simpa using hx)))).trans hMq (by simp)
                    have HGW : Hid (GrowGo KeyR 107 4 pb tg ts f qb (fun v => (queryC x5.1 vi von vwh vg v).toArray) w8 keyF fin s0.e m (w7.setCell ⟨qb, 9, none⟩ (.slice (some ⟨g, 0, none⟩) (l.length + 1) cap))) := Lib.hid ⟨_, _, _, hMw8, hR8, hq8, HL8.out, HL3.out.2.1, HL3.out.2.2, by have := HLG.out.2.2; have := HL3.out.1; simp; omega, by simp, fun h0 => HLE.out.2 (by rw [← HS2.out.2]; exact hge h0)⟩
                    have hgm := HL3.out.1
                    go_wp2_with fail
                    go_roundg m
                    case measure => omega
                    case rel => exact Lib.hid HGW.out
          case rest =>
            clear HST HV7
            have HVa := Lib.hid hcut
            clear hcut HV5
            obtain ⟨x6, hx⟩ : ∃ x, q6 x5 = x := ⟨_, rfl⟩
            rw [hx] at HVa
            have HX6 := Lib.hid hx
            clear hx
            obtain ⟨v6, hwn⟩ : ∃ x, wc = x := ⟨_, rfl⟩
            rw [hwn] at HVa
            have HV6 := HVa
            rw [hwn]
            clear hwn HVa
            go_upto_region 24 with fail
            have hcl : Calls Tryz.prog 80 #[PtrV pb, .string ⟨#[76, 73, 77, 73, 84]⟩] v6 _ := takes_ref v6 pb tg ts x6.2 f HV6.out.2.1 wLimit
            have hat := Aft.takes x6.2 wLimit
            obtain ⟨⟨tk, sj⟩, hst⟩ : ∃ x, (x6.2).takes wLimit = x := ⟨_, rfl⟩
            rw [hst] at hcl hat
            simp only at hcl hat
            unfold PtrV at hcl
            go_wp2_with fail
            (with_reducible refine hcl.mono ?_)
            rintro e w7 ⟨rfl, hMc, hRc⟩
            have HV7 := Lib.hid (HV6.out.go hMc hRc hat)
            have HST := Lib.hid hst
            clear hcl hMc hRc hat hst
            go_upto_if 124 with fail
            go_cut [] from 125 to 129 (fun wx => DInv pb tg ts f w wq qb (q7 x6) wx)
            case first =>
              cases tk with
              | false =>
                go_wp2_with fail
                go_meet
                have : q7 x6 = (x6.1, sj) := by unfold q7; simp only [HST.out]; rfl
                rw [this]
                exact HV7.out
              | true =>
                have h4 : q7 x6 = ({ x6.1 with limit := sj.count.1 }, sj.count.2) := by unfold q7; simp only [HST.out]; rfl
                have HQ4 := Lib.hid h4
                have hcl := count_ref w7 pb tg ts sj f HV7.out.2.1
                unfold PtrV at hcl
                clear h4
                go_wp2_with fail
                (with_reducible refine hcl.mono ?_)
                rintro e w8 ⟨rfl, hMc, hRc⟩
                have HV8 := Lib.hid (HV7.out.go hMc hRc (aft_count _))
                obtain ⟨⟨z2, z3, z4, z5, z10, z11⟩, zf, -, -⟩ := HV8.out.cell
                have fk := zf 10
                clear hcl hMc hRc zf z2 z3 z4 z5
                go_wp2_with fail
                go_meet
                rw [HQ4.out]
                exact HV8.out.put 10 (.int .i64 sj.count.1) { x6.1 with limit := sj.count.1 } (fun _ _ _ _ _ => rfl) ⟨rfl, rfl, rfl, rfl, rfl⟩
            case rest =>
              clear HST HV7
              have HVa := Lib.hid hcut
              clear hcut HV6
              obtain ⟨x7, hx⟩ : ∃ x, q7 x6 = x := ⟨_, rfl⟩
              rw [hx] at HVa
              have HX7 := Lib.hid hx
              clear hx
              obtain ⟨v7, hwn⟩ : ∃ x, wc = x := ⟨_, rfl⟩
              rw [hwn] at HVa
              have HV7 := HVa
              rw [hwn]
              clear hwn HVa
              go_upto_region 26 with fail
              have hcl : Calls Tryz.prog 80 #[PtrV pb, .string ⟨#[79, 70, 70, 83, 69, 84]⟩] v7 _ := takes_ref v7 pb tg ts x7.2 f HV7.out.2.1 wOffset
              have hat := Aft.takes x7.2 wOffset
              obtain ⟨⟨tk, sj⟩, hst⟩ : ∃ x, (x7.2).takes wOffset = x := ⟨_, rfl⟩
              rw [hst] at hcl hat
              simp only at hcl hat
              unfold PtrV at hcl
              go_wp2_with fail
              (with_reducible refine hcl.mono ?_)
              rintro e w7 ⟨rfl, hMc, hRc⟩
              have HV7 := Lib.hid (HV7.out.go hMc hRc hat)
              have HST := Lib.hid hst
              clear hcl hMc hRc hat hst
              go_upto_if 131 with fail
              go_cut [] from 132 to 136 (fun wx => DInv pb tg ts f w wq qb (q8 x7) wx)
              case first =>
                cases tk with
                | false =>
                  go_wp2_with fail
                  go_meet
                  have : q8 x7 = (x7.1, sj) := by unfold q8; simp only [HST.out]; rfl
                  rw [this]
                  exact HV7.out
                | true =>
                  have h4 : q8 x7 = ({ x7.1 with offset := sj.count.1 }, sj.count.2) := by unfold q8; simp only [HST.out]; rfl
                  have HQ4 := Lib.hid h4
                  have hcl := count_ref w7 pb tg ts sj f HV7.out.2.1
                  unfold PtrV at hcl
                  clear h4
                  go_wp2_with fail
                  (with_reducible refine hcl.mono ?_)
                  rintro e w8 ⟨rfl, hMc, hRc⟩
                  have HV8 := Lib.hid (HV7.out.go hMc hRc (aft_count _))
                  obtain ⟨⟨z2, z3, z4, z5, z10, z11⟩, zf, -, -⟩ := HV8.out.cell
                  have fk := zf 11
                  clear hcl hMc hRc zf z2 z3 z4 z5
                  go_wp2_with fail
                  go_meet
                  rw [HQ4.out]
                  exact HV8.out.put 11 (.int .i64 sj.count.1) { x7.1 with offset := sj.count.1 } (fun _ _ _ _ _ => rfl) ⟨rfl, rfl, rfl, rfl, rfl⟩
              case rest =>
                clear HST HV7
                have HVa := Lib.hid hcut
                clear hcut HV7
                obtain ⟨x8, hx⟩ : ∃ x, q8 x7 = x := ⟨_, rfl⟩
                rw [hx] at HVa
                have HX8 := Lib.hid hx
                clear hx
                obtain ⟨v8, hwn⟩ : ∃ x, wc = x := ⟨_, rfl⟩
                rw [hwn] at HVa
                have HV8 := HVa
                rw [hwn]
                clear hwn HVa
                have hx88 : queryF E s = x8 := by
                  show q8 (q7 (q6 (q5 (q4 E (q3 E (q2 (q1 E s))))))) = x8
                  rw [HX1.out, HX2.out, HX3.out, HX4.out, HX5.out, HX6.out, HX7.out, HX8.out]
                have hxx : xf = x8 := by rw [← HXF.out]; exact hx88
                have HFIN : Hid (∀ w' s', Mods [pb] v8 w' → RSt w' pb tg ts s' f → s' = fin9 x8.2 → (Ending.returned (.pointer (some ⟨qb, 0, none⟩)) = .returned (PtrV qb) ∧ Mods [pb] w w' ∧ RSt w' pb tg ts (fin9 xf.2) f ∧ (xf.2.e = 0 → QueryD w' qb xf.1))) := Lib.hid fun w' s' hM hR hs => by
                  rw [hxx]
                  obtain ⟨h1, h2, ⟨h3, h4, h5, h6, h7⟩, vi, von, vwh, vg, vo, h8, h9⟩ := HV8.out
                  refine ⟨rfl, h1.trans hM (by simp), by rw [← hs]; exact hR, fun h0 => ?_⟩
                  have hp := h9.go (e2 := 0) hM (fun x hx => by simp at hx; omega) (fun _ => h0)
                  exact ⟨wq, vi, von, vwh, vg, vo, hM.heap h8 (by simp; omega), hp⟩
                have hR8 := HV8.out.2.1
                obtain ⟨i, n, cap, hii, a0, a1, -, c0, a3⟩ := hR8.place
                have hzz : (¬ x8.2.e = 0 ∧ ((x8.2.e : Int) == 0) = false) ∨ (x8.2.e = 0 ∧ ((x8.2.e : Int) == 0) = true ∧ ¬ x8.2.now.kind = 0 ∧ ((x8.2.now.kind : Int) != 0) = true) ∨ (x8.2.e = 0 ∧ ((x8.2.e : Int) == 0) = true ∧ x8.2.now.kind = 0 ∧ ((x8.2.now.kind : Int) != 0) = false) := by
                  by_cases he : x8.2.e = 0
                  · by_cases hk : x8.2.now.kind = 0
                    · exact .inr (.inr ⟨he, by rw [beq_iff_eq]; omega, hk, bne_eq_false_iff_eq.2 (by omega)⟩)
                    · exact .inr (.inl ⟨he, by rw [beq_iff_eq]; omega, hk, bne_iff_ne.2 (by omega)⟩)
                  · exact .inl ⟨he, by rw [beq_eq_false_iff_ne]; omega⟩
                clear hx88 hxx
                go_upto_region 28 with fail
                rcases hzz with ⟨he, z0⟩ | ⟨he, z0, hk, z1⟩ | ⟨he, z0, hk, z1⟩
                · have hf9 : x8.2 = fin9 x8.2 := by unfold fin9; rw [if_neg (fun h => he h.1)]
                  have HF9 := Lib.hid hf9
                  clear hf9 he
                  go_quiet (fail)
                  have hMq := (Mods.refl [] v8).drewN nq
                  have hRq := hR8.later hMq
                  generalize v8.drewN nq = v9 at *
                  go_wp2_with fail
                  go_ret
                  exact ⟨qb, HFIN.out v9 _ (hMq.mono (by simp)) hRq HF9.out⟩
                · have hf9 : x8.2.fail 8 = fin9 x8.2 := by unfold fin9; rw [if_pos ⟨he, hk⟩]
                  have HF9 := Lib.hid hf9
                  clear hf9 he hk
                  go_quiet (fail)
                  have hMq := (Mods.refl [] v8).drewN nq
                  have hRq := hR8.later hMq
                  generalize v8.drewN nq = v9 at *
                  have hfa : Calls Tryz.prog 85 #[PtrV pb, .int .i64 8] v9 _ := fails_ref v9 pb tg ts x8.2 f hRq 8 (by decide)
                  unfold PtrV at hfa
                  go_wp2_with fail
                  (with_reducible refine hfa.mono ?_)
                  rintro e wz ⟨rfl, hMz, hRz⟩
                  clear hfa
                  go_wp2_with fail
                  go_ret
                  exact ⟨qb, HFIN.out wz _ ((hMq.mono (L' := [pb]) (by simp)).trans hMz (by simp)) hRz HF9.out⟩
                · have hf9 : x8.2 = fin9 x8.2 := by unfold fin9; rw [if_neg (fun h => h.2 hk)]
                  have HF9 := Lib.hid hf9
                  clear hf9 he hk
                  go_quiet (fail)
                  have hMq := (Mods.refl [] v8).drewN nq
                  have hRq := hR8.later hMq
                  generalize v8.drewN nq = v9 at *
                  go_wp2_with fail
                  go_ret
                  exact ⟨qb, HFIN.out v9 _ (hMq.mono (by simp)) hRq HF9.out⟩
end Go.Proofs.YtpokbepenacnpaaGreatDoor
