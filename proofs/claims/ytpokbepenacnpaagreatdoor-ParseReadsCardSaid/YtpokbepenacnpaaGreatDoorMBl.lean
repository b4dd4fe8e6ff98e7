/-
  strings.Builder, wherever it lies in a block of cells (a variable of its own, or a struct's field): copyCheck, WriteString, Len, String. No conditions but the length's bound.
-/
import Derived.Test.YtpokbepenacnpaaGreatDoorCom
import Derived.Lib.Builder
import Derived.Lib.AppendStr
import Derived.Lib.UnsafeStr
import Derived.Laws.Externs
namespace Go.Proofs.YtpokbepenacnpaaGreatDoor
open Go.RowKit
set_option linter.unusedVariables false

theorem str_none {s : ByteArray} (h : s.size = 0) : s = ByteArray.empty := by
  obtain ⟨d⟩ := s
  have h1 : d.size = 0 := h
  rw [Array.size_eq_zero_iff.1 h1]
  rfl

theorem Mods.freeze {L : List Nat} {a w : World} (h : Mods L a w) {p : Addr} (hp : p.block ∈ L ∨ a.heap.size ≤ p.block) (n : Nat) : Mods L a (w.freeze p n) := by
  refine h.trans (L' := [p.block]) ?_ (by simpa using hp)
  unfold World.freeze
  split
  · exact Mods.refl _ w
  · exact ⟨rfl, rfl, rfl, by simp, fun k hk hn => by
      simp only [Array.getElem?_modify]
      have hne : ¬ p.block = k := fun e => hn (by simp [e])
      simp [hne]⟩

/-- Where the row lies that 'append' hands back: where it lay, or in a new block. -/
theorem append_str_where {P : Program} (w : World) (t u ty e : TypeId) (i : TypeInfo) (ht : P.underlying t = some (.slice e)) (hu : P.underlying u = some .string) (hi : P.info? e = some i) (hz : i.zero = some (.int .u8 0))
    (hsize : i.size = 1) (hby : i.bytes = 1)
    (v : Value) (n : Nat) (xs : List Value) (hown : w.ownsRow 0 e 1 v n xs) (s : ByteArray)
    (h63 : n + s.size ≤ maxLen) (hbytes : n + s.size ≤ 140737488355328) :
    ∃ v' w', (Builtin.append_ #[t, u] ty #[v, .string s]).run P w = .ok v' w' ∧ w'.ownsRow 0 e 1 v' (n + s.size) (xs ++ Lib.strCells s) ∧ w.grownBy w' v.ownBlock ∧
      (v' = .slice none 0 0 ↔ v = .slice none 0 0 ∧ s.size = 0) ∧ ∀ g, v'.ownBlock = some g → v.ownBlock = some g ∨ w.heap.size ≤ g := by
  obtain ⟨v', w', hr, h1, h2, h3⟩ := Lib.run_append_own_string (P := P) w 0 t u ty e i ht hu hi hz hsize hby v n xs hown s h63 hbytes (Nat.zero_le _)
  refine ⟨v', w', hr, h1, h2, h3, fun g hg => ?_⟩
  have hsmall : n + s.size ≤ 9223372036854775807 := by simp only [maxLen] at h63; omega
  have hxl : xs.length = n := by simpa using hown.1
  rcases hown.2 with ⟨rfl, rfl⟩ | ⟨g0, cap, cur, rfl, hbg, hgg, hnc, hcm, hcs, htake⟩
  · by_cases hm : s.size = 0
    · rw [h3.2 ⟨rfl, hm⟩] at hg; cases hg
    · have hr2 := run_append_nil_string (P := P) w t u ty e i (.int .u8 0) ht hu hi hz s (by omega) (by omega) (by rw [hby]; omega)
      rw [hr2] at hr
      injection hr with e1 e2
      subst e1
      simp only [Value.ownBlock, Option.some.injEq] at hg
      exact .inr (by omega)
  · by_cases hroom : n + s.size ≤ cap
    · have hcs' : cur.size = cap := by simpa using hcs
      have hr2 := Lib.run_append_room_string (P := P) w t u ty e i ht hu hi hsize g0 n cap cur hgg s hroom (by omega)
      rw [hr2] at hr
      injection hr with e1 e2
      subst e1
      exact .inl hg
    · have holds : ∀ j u, xs[j]? = some u → w.cell? ((⟨g0, 0, none⟩ : Addr).add j) = some u := hown.cells (g := g0) rfl
      have hr2 := Lib.run_append_grow_string (P := P) w t u ty e i (.int .u8 0) ht hu hi hz ⟨g0, 0, none⟩ n cap xs (by rw [hsize]; simpa using hxl) holds s (by omega) (by omega) (by rw [hby]; exact growslice_fits (by omega) (by omega))
      rw [hr2] at hr
      injection hr with e1 e2
      subst e1
      simp only [Value.ownBlock, Option.some.injEq] at hg
      exact .inr (by omega)

theorem wpList_append_str {P : Program} {w : World} {ops : Array Oper} {rest : List Oper} {o : Oper} {a : Act} {Q : Exit → Act → World → Prop} (hgd : o.guard = none) (sl x : Operand) (t u : TypeId)
    (ho : o.op = .call { callee := .builtin .append, args := #[sl, x], argTypes := #[t, u] })
    (e : TypeId) (i : TypeInfo) (ht : P.underlying t = some (.slice e)) (hu : P.underlying u = some .string) (hi : P.info? e = some i) (hz : i.zero = some (.int .u8 0))
    (hsize : i.size = 1) (hby : i.bytes = 1)
    (v : Value) (n : Nat) (xs : List Value) (hs : a.eval sl = v) (hown : w.ownsRow 0 e 1 v n xs) (s : ByteArray) (hx : a.eval x = .string s)
    (h63 : n + s.size ≤ maxLen) (hbytes : n + s.size ≤ 140737488355328)
    (h : ∀ v' w', w'.ownsRow 0 e 1 v' (n + s.size) (xs ++ Lib.strCells s) → Mods v.ownBlock.toList w w' → (v' = .slice none 0 0 ↔ v = .slice none 0 0 ∧ s.size = 0) → (∀ g, v'.ownBlock = some g → v.ownBlock = some g ∨ w.heap.size ≤ g) → wpList P ops Q rest (a.put o.dst v') w') : wpList P ops Q (o :: rest) a w := by
  refine wpList_plain hgd fun K hK => ?_
  obtain ⟨v', w', hr, h2, h3, h4, h5⟩ := append_str_where (P := P) w t u o.type e i ht hu hi hz hsize hby v n xs hown s h63 hbytes
  unfold Oper.wp execOp
  simp only [ho, resolve, invoke, builtin, Sem.run_bind, Sem.run_pure, Result.andThen_ok, List.map_toArray, List.map_cons, List.map_nil, hs, hx, hr]
  exact hK _ _ (h v' w' h2 (Mods.of_grown h3) h4 h5)

/-- A block of type T with n cells in which a builder lies from cell o on. -/
structure Lies (T : TypeId) (n o : Nat) : Prop where
  lies : liesAt Tryz.prog Tryz.prog.depth T (n / Tryz.prog.cellsOf T) o 177 1 = true
  lt : o + 2 ≤ n
  ne : T ≠ 5

theorem lies_own : Lies 177 2 0 := ⟨by kernel_rfl, by decide, by decide⟩

/-- A builder that holds the bytes bs; v: its buffer; arr: the cells of the block in which it lies. -/
structure Bld (w : World) (b o : Nat) (T : TypeId) (arr : Array Value) (v : Value) (bs : List UInt8) : Prop where
  row : w.heap[b]? = some (.cells arr T (0, 0))
  a0 : arr[o]? = some (.pointer none) ∨ arr[o]? = some (.pointer (some ⟨b, o, none⟩))
  a1 : arr[o + 1]? = some v
  own : w.ownsRow 0 5 1 v bs.length (Lib.byteCells bs)
  nil : bs = [] → v = .slice none 0 0

theorem size_builder : (Tryz.prog.info? 177).map (·.size) = some 2 := by kernel_rfl

set_option maxRecDepth 100000 in
theorem copyCheck_used (b o : Nat) (w : World) (h0 : w.cell? ⟨b, o, none⟩ = some (.pointer (some ⟨b, o, none⟩))) :
    Calls Tryz.prog 126 #[.pointer (some ⟨b, o, none⟩)] w fun e w' => e = .returned (.tuple #[]) ∧ w' = w := by
  obtain ⟨j, hj, _⟩ := Option.map_eq_some_iff.1 size_builder
  go_enter Tryz.func126, Tryz.ntmps126
  go_wp2
  rw [Lib.run_neq_ptr_same w _ Tryz.underlying175 hj]
  go_wp2
  go_end0
  exact ⟨rfl, rfl⟩

set_option maxRecDepth 100000 in
theorem copyCheck_fresh (b o n : Nat) (T : TypeId) (hl : Lies T n o) (w : World) (h0 : w.cell? ⟨b, o, none⟩ = some (.pointer none)) (hsh : w.shape? b = some (T, n)) (hfz : w.frozen? ⟨b, o, none⟩ = false) :
    Calls Tryz.prog 126 #[.pointer (some ⟨b, o, none⟩)] w fun e w' => e = .returned (.tuple #[]) ∧ w' = w.setCell ⟨b, o, none⟩ (.pointer (some ⟨b, o, none⟩)) := by
  obtain ⟨j, hj, hjs⟩ := Option.map_eq_some_iff.1 size_builder
  have hlt := hl.lt
  go_enter Tryz.func126, Tryz.ntmps126
  go_wp2
  rw [Lib.run_to_unsafe w ⟨b, o, none⟩ Tryz.underlying175 Tryz.underlying251 hj (by rw [hjs]; decide) hsh (by show o < n; omega)]
  simp only [Result.andThen]
  rw [Oper.upon_value]
  go_wp2
  rw [run_callFunc_extern Tryz.func162 (by kernel_rfl) (by kernel_rfl) (by kernel_rfl) (e := Extern.AbiNoEscape.same) (by kernel_rfl)]
  rw [Lib.run_noEscape]
  simp only [Result.andThen]
  rw [Oper.upon_value]
  go_wp2
  rw [Lib.run_from_unsafe w ⟨b, o, none⟩ Tryz.underlying251 Tryz.underlying175 hj hsh hl.lies]
  simp only [Result.andThen]
  rw [Oper.upon_value]
  go_wp2
  go_end0
  exact ⟨rfl, rfl⟩

section
variable {w : World} {b o : Nat} {T : TypeId} {arr : Array Value} {v : Value} {bs : List UInt8}

theorem Bld.cell0 (h : Bld w b o T arr v bs) : w.cell? ⟨b, o, none⟩ = some (.pointer none) ∨ w.cell? ⟨b, o, none⟩ = some (.pointer (some ⟨b, o, none⟩)) := by
  rw [cell_of_heap h.row]; exact h.a0
theorem Bld.cell1 (h : Bld w b o T arr v bs) : w.cell? ⟨b, o + 1, none⟩ = some v := by rw [cell_of_heap h.row]; exact h.a1
theorem Bld.ne (h : Bld w b o T arr v bs) (hT : T ≠ 5) : v.ownBlock ≠ some b := Lib.ownBlock_ne h.own h.row hT
theorem Bld.lt (h : Bld w b o T arr v bs) : b < w.heap.size := lt_size_of_heap h.row

/-- Another world, in which neither the builder's block nor its buffer's has changed. -/
theorem Bld.mods {L : List Nat} {w' : World} (h : Bld w b o T arr v bs) (hM : Mods L w w') (hb : b ∉ L) (hv : ∀ g, v.ownBlock = some g → g ∉ L) : Bld w' b o T arr v bs :=
  ⟨hM.heap h.row hb, h.a0, h.a1, ownsRow_mods h.own hM hv, h.nil⟩

theorem Bld.slice (h : Bld w b o T arr v bs) : ∃ ao cap, v = .slice ao bs.length cap := by
  rcases h.own.2 with ⟨hv, h0⟩ | ⟨g, cap, cur, hv, _⟩
  · exact ⟨none, 0, by rw [hv, h0]⟩
  · exact ⟨_, _, hv⟩

/-- copyCheck: behind it the builder holds its own address. -/
theorem copyCheck_any {n : Nat} (hl : Lies T n o) (hn : arr.size = n) (h : Bld w b o T arr v bs) :
    Calls Tryz.prog 126 #[.pointer (some ⟨b, o, none⟩)] w fun e w' => e = .returned (.tuple #[]) ∧ w'.heap[b]? = some (.cells (arr.setIfInBounds o (.pointer (some ⟨b, o, none⟩))) T (0, 0)) ∧ Mods [b] w w' := by
  rcases h.cell0 with h0 | h0
  · refine (copyCheck_fresh b o n T hl w h0 (by simp [World.shape?, h.row, hn]) (frozen_of_heap h.row o)).mono ?_
    rintro e w' ⟨rfl, rfl⟩
    exact ⟨rfl, heap_setCell_same h.row _ _, (Mods.refl _ w).setCell (.inl (by simp)) _⟩
  · refine (copyCheck_used b o w h0).mono ?_
    rintro e w' ⟨rfl, rfl⟩
    refine ⟨rfl, ?_, Mods.refl _ _⟩
    rw [h.row]
    congr 2
    rw [cell_of_heap h.row] at h0
    apply Array.ext_getElem?
    intro i
    rw [Array.getElem?_setIfInBounds]
    split
    · rename_i hi
      subst hi
      split
      · rw [h0]
      · rename_i hlt
        rw [Array.getElem?_eq_none (by omega)]
    · rfl

/-- What a write leaves. -/
def Wrote (w : World) (b o : Nat) (T : TypeId) (arr : Array Value) (v : Value) (bs : List UInt8) (w' : World) : Prop :=
  Mods (b :: v.ownBlock.toList) w w' ∧ ∃ v', Bld w' b o T ((arr.setIfInBounds o (.pointer (some ⟨b, o, none⟩))).setIfInBounds (o + 1) v') v' bs ∧ ∀ g, v'.ownBlock = some g → v.ownBlock = some g ∨ w.heap.size ≤ g

set_option maxHeartbeats 1000000 in
set_option maxRecDepth 100000 in
theorem writeString_any {n : Nat} (hl : Lies T n o) (hn : arr.size = n) (h : Bld w b o T arr v bs) (s : ByteArray) (hlen : bs.length + s.size ≤ 140737488355328) :
    Calls Tryz.prog 87 #[.pointer (some ⟨b, o, none⟩), .string s] w fun e w' => e = .returned (.tuple #[.int .i64 s.size, .nilIface]) ∧ Wrote w b o T arr v (bs ++ s.data.toList) w' := by
  obtain ⟨i0, hi, hz0, hz1, hz2⟩ := info_parts info_u8
  have hlt := hl.lt
  have hne := h.ne hl.ne
  go_enter Tryz.func87, Tryz.ntmps87
  go_wp2_with fail
  refine (copyCheck_any hl hn h).mono ?_
  rintro e w1 ⟨rfl, hb1, hM1⟩
  have hown1 : w1.ownsRow 0 5 1 v bs.length (Lib.byteCells bs) := ownsRow_mods h.own hM1 (fun g hg => by simp; rintro rfl; exact hne hg)
  have c1 : w1.cell? ⟨b, o + 1, none⟩ = some v := by
    rw [cell_of_heap hb1, Array.getElem?_setIfInBounds_ne (by omega)]; exact h.a1
  go_wp2_with (at_builtin; refine wpList_append_str rfl _ _ 119 9 rfl 5 i0 Tryz.underlying119 Tryz.underlying9 hi hz0 hz1 hz2 _ _ _ rfl hown1 s rfl ?c3 ?c4 ?_)
  case c3 => unfold maxLen; omega
  case c4 => omega
  intro v' w2 hown' hM2 hnil hwhere
  have hb2 : w2.heap[b]? = some (.cells (arr.setIfInBounds o (.pointer (some ⟨b, o, none⟩))) T (0, 0)) := hM2.heap hb1 (by simpa using hne)
  have d1 : w2.cell? ⟨b, o + 1, none⟩ = some v := by
    rw [cell_of_heap hb2, Array.getElem?_setIfInBounds_ne (by omega)]; exact h.a1
  have f1 : w2.frozen? ⟨b, o + 1, none⟩ = false := frozen_of_heap hb2 _
  obtain ⟨ao, n', cap, rfl⟩ : ∃ ao n' cap, v' = .slice ao n' cap := by
    rcases hown'.2 with ⟨hv, _⟩ | ⟨g, cap, cur, hv, _⟩
    · exact ⟨_, _, _, hv⟩
    · exact ⟨_, _, _, hv⟩
  go_wp2
  go_ret2
  have hne' := Lib.ownBlock_ne hown' hb2 hl.ne
  have hM3 : Mods [b] w2 (w2.setCell ⟨b, o + 1, none⟩ (.slice ao n' cap)) := (Mods.refl _ w2).setCell (.inl (by simp)) _
  refine ⟨rfl, ((hM1.mono (by simp)).trans hM2 (by simp; intro x hx; exact .inl (.inr hx))).trans hM3 (by simp), _, ⟨heap_setCell_same hb2 _ _, ?_, ?_, ?_, ?_⟩, ?_⟩
  · right
    rw [Array.getElem?_setIfInBounds_ne (by omega), Array.getElem?_setIfInBounds_self_of_lt (by omega)]
  · rw [Array.getElem?_setIfInBounds_self_of_lt (by rw [Array.size_setIfInBounds]; omega)]
  · have := ownsRow_mods hown' hM3 (fun g hg => by simp; rintro rfl; exact hne' hg)
    rw [Lib.strCells_eq, ← Lib.byteCells_append] at this
    have e1 : bs.length + s.size = (bs ++ s.data.toList).length := by rw [List.length_append, Array.length_toList]; rfl
    rw [e1] at this
    exact this
  · intro h0
    have h1 := List.append_eq_nil_iff.1 h0
    refine hnil.2 ⟨h.nil h1.1, ?_⟩
    have h2 := congrArg List.length h1.2
    rw [Array.length_toList] at h2
    have h3 : s.size = 0 := h2
    first | exact h3 | exact str_none h3
  · intro g hg
    rcases hwhere g hg with h1 | h1
    · exact .inl h1
    · exact .inr (by have := hM1.size; omega)

set_option maxHeartbeats 1000000 in
set_option maxRecDepth 100000 in
theorem len_any (h : Bld w b o T arr v bs) : Calls Tryz.prog 105 #[.pointer (some ⟨b, o, none⟩)] w fun e w' => e = .returned (.int .i64 bs.length) ∧ w' = w := by
  obtain ⟨ao, cap, rfl⟩ := h.slice
  have c1 := h.cell1
  go_enter Tryz.func105, Tryz.ntmps105
  go_wp2
  go_ret
  exact ⟨rfl, rfl⟩

set_option maxHeartbeats 1000000 in
set_option maxRecDepth 100000 in
theorem string_any (h : Bld w b o T arr v bs) : Calls Tryz.prog 88 #[.pointer (some ⟨b, o, none⟩)] w fun e w' => e = .returned (.string ⟨bs.toArray⟩) ∧ Mods v.ownBlock.toList w w' := by
  cases bs with
  | nil =>
    obtain rfl := h.nil rfl
    have c1 : w.drew.cell? ⟨b, o + 1, none⟩ = some (.slice none 0 0) := h.cell1
    have hUS := fun (W : World) (q : Option Addr) => Lib.run_unsafeString_none (P := Tryz.prog) W 210 3 9 q
    have hSD : (Builtin.unsafeSliceData_ #[119] 210 #[.slice none 0 0]).run Tryz.prog w.drew = .ok (.pointer none) w.drew := rfl
    go_enter Tryz.func88, Tryz.ntmps88
    go_wp2
    go_region
    all_goals (go_wp2; go_ret; exact ⟨rfl, (Mods.refl _ w).drew⟩)
  | cons x l =>
    have hc := h.cell1
    obtain ⟨g, cap, cur, rfl, hg, hnc, hcm, hcs⟩ : ∃ g cap cur, v = .slice (some ⟨g, 0, none⟩) (x :: l).length cap ∧ w.heap[g]? = some (.cells cur 5 (0, 0)) ∧ (x :: l).length ≤ cap ∧ cap ≤ maxLen ∧ cur.size = cap * 1 := by
      rcases h.own.2 with ⟨_, hz⟩ | ⟨g, cap, cur, hv, _, r1, r2, r3, r4, r5⟩
      · simp at hz
      · exact ⟨g, cap, cur, hv, r1, r2, r3, r4⟩
    have c1 : w.drew.cell? ⟨b, o + 1, none⟩ = some (.slice (some ⟨g, 0, none⟩) (x :: l).length cap) := hc
    have hSD : (Builtin.unsafeSliceData_ #[119] 210 #[.slice (some ⟨g, 0, none⟩) (x :: l).length cap]).run Tryz.prog w.drew = .ok (.pointer (some ⟨g, 0, none⟩)) w.drew :=
      Lib.run_unsafeSliceData_row _ _ _ _ _ _ (by simp at hnc; omega)
    have hUS : (Builtin.unsafeString_ #[210, 3] 9 #[.pointer (some ⟨g, 0, none⟩), .int .i64 (x :: l).length]).run Tryz.prog w.drew = .ok (.string ⟨(x :: l).toArray⟩) (w.drew.freeze ⟨g, 0, none⟩ (x :: l).length) := by
      refine Lib.run_unsafeString_row w.drew 210 3 9 5 Tryz.underlying210 (by kernel_rfl) g cur.size (by have hg' : w.drew.heap[g]? = some (.cells cur 5 (0, 0)) := hg; simp [World.shape?, hg']) (x :: l) (by simp) (by omega) (by unfold maxLen at hcm; omega) ?_
      intro j y hy
      exact h.own.cells (g := g) rfl j (.int .u8 y.toNat) (by unfold Lib.byteCells; rw [List.getElem?_map, hy]; rfl)
    have hM : Mods [g] w (w.drew.freeze ⟨g, 0, none⟩ (x :: l).length) := (Mods.refl _ w).drew.freeze (.inl (by simp)) _
    generalize (x :: l).length = N at *
    generalize (x :: l).toArray = S at *
    go_enter Tryz.func88, Tryz.ntmps88
    go_wp2
    go_region
    all_goals (go_wp2; go_ret; exact ⟨rfl, hM⟩)
end
end Go.Proofs.YtpokbepenacnpaaGreatDoor

namespace Go.Proofs.YtpokbepenacnpaaGreatDoor
open Go.RowKit
set_option linter.unusedVariables false
section
variable {w : World} {b o : Nat} {T : TypeId} {arr : Array Value} {v : Value} {bs : List UInt8}

set_option maxHeartbeats 1000000 in
set_option maxRecDepth 100000 in
theorem writeByte_any {n : Nat} (hl : Lies T n o) (hn : arr.size = n) (h : Bld w b o T arr v bs) (c : UInt8) (hlen : bs.length + 1 ≤ 140737488355328) :
    Calls Tryz.prog 106 #[.pointer (some ⟨b, o, none⟩), .int .u8 (c.toNat : Int)] w fun e w' => e = .returned .nilIface ∧ Wrote w b o T arr v (bs ++ [c]) w' := by
  obtain ⟨i0, hi, hz0, hz1, hz2⟩ := info_parts info_u8
  have hlt := hl.lt
  have hne := h.ne hl.ne
  go_enter Tryz.func106, Tryz.ntmps106
  go_wp2_with fail
  refine (copyCheck_any hl hn h).mono ?_
  rintro e w1 ⟨rfl, hb1, hM1⟩
  have hown1 : w1.ownsRow 0 5 1 v bs.length (Lib.byteCells bs) := ownsRow_mods h.own hM1 (fun g hg => by simp; rintro rfl; exact hne hg)
  have hMA := (Mods.refl [] w1).alloc (.cells #[.int .u8 (c.toNat : Int)] 5)
  have hb1' := hMA.heap hb1 (by simp)
  have c1 : w1.cell? ⟨b, o + 1, none⟩ = some v := by
    rw [cell_of_heap hb1, Array.getElem?_setIfInBounds_ne (by omega)]; exact h.a1
  have hlt1 := lt_size_of_heap hb1
  go_wp2_with (at_builtin; refine wpList_app _ rfl _ _ 119 rfl 5 i0 _ 1 1 Tryz.underlying119 hi hz0 hz1 hz2 rfl (by decide) v bs.length (Lib.byteCells bs) rfl (hown1.alloc _) ⟨w1.heap.size, 0, none⟩ 1 1 [.int .u8 (c.toNat : Int)] rfl rfl (cell_one_new _ _ _) ?c2 (by decide) ?c3 ?c4 ?_)
  case c2 => intro u hu; simp at hu; subst hu; rfl
  case c3 => unfold maxLen; omega
  case c4 => omega
  intro g cap w2 hown' hM2 hwhere
  have hb2 : w2.heap[b]? = some (.cells (arr.setIfInBounds o (.pointer (some ⟨b, o, none⟩))) T (0, 0)) := hM2.heap hb1' (by simpa using hne)
  have d1 : w2.cell? ⟨b, o + 1, none⟩ = some v := by
    rw [cell_of_heap hb2, Array.getElem?_setIfInBounds_ne (by omega)]; exact h.a1
  have f1 : w2.frozen? ⟨b, o + 1, none⟩ = false := frozen_of_heap hb2 _
  go_wp2
  go_ret
  have hne' := Lib.ownBlock_ne hown' hb2 hl.ne
  have hM3 : Mods [b] w2 (w2.setCell ⟨b, o + 1, none⟩ (.slice (some ⟨g, 0, none⟩) (bs.length + 1) cap)) := (Mods.refl _ w2).setCell (.inl (by simp)) _
  have hsz : (w1.alloc (.cells #[.int .u8 (c.toNat : Int)] 5)).heap.size = w1.heap.size + 1 := size_alloc _ _
  refine ⟨rfl, (((hM1.mono (by simp)).trans hMA (by simp)).trans hM2 (by simp; intro x hx; exact .inl (.inr hx))).trans hM3 (by simp), _, ⟨heap_setCell_same hb2 _ _, ?_, ?_, ?_, ?_⟩, ?_⟩
  · right
    rw [Array.getElem?_setIfInBounds_ne (by omega), Array.getElem?_setIfInBounds_self_of_lt (by omega)]
  · rw [Array.getElem?_setIfInBounds_self_of_lt (by rw [Array.size_setIfInBounds]; omega)]
  · have := ownsRow_mods hown' hM3 (fun g' hg => by simp; rintro rfl; exact hne' hg)
    have e1 : Lib.byteCells bs ++ [.int .u8 (c.toNat : Int)] = Lib.byteCells (bs ++ [c]) := by simp [Lib.byteCells]
    rw [e1] at this
    rw [List.length_append]
    exact this
  · intro h0
    simp at h0
  · intro g' hg
    obtain rfl : g = g' := by simpa [Value.ownBlock] using hg
    rcases hwhere with h1 | h1
    · exact .inl h1
    · exact .inr (by have := hM1.size; omega)
end
end Go.Proofs.YtpokbepenacnpaaGreatDoor
