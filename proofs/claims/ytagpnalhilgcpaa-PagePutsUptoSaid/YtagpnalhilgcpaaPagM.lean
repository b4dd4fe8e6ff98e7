/-
  The chapter's examples of pages (law16.examples), walked: they hold. And how slices that a call has just made are read as types, values and rows.
-/
import Derived.Test.YtagpnalhilgcpaaPagL
import Derived.Test.YtagpnalhilgcpaaPagG
import Derived.Test.YtagpnalhilgcpaaMemG
namespace Go.Proofs.Ytagpnalhilgcpaa
open Go.RowKit
set_option linter.unusedVariables false

def cellsT (ts : List (Int × Int)) : List Value := ts.flatMap fun t => [.int .i64 t.1, .int .i64 t.2]
theorem cellsT_get (ts : List (Int × Int)) (i : Nat) (h : i < ts.length) : (cellsT ts)[i * 2]? = some (.int .i64 ts[i].1) ∧ (cellsT ts)[i * 2 + 1]? = some (.int .i64 ts[i].2) := by
  induction ts generalizing i with
  | nil => simp at h
  | cons v vs ih =>
    cases i with
    | zero => exact ⟨rfl, rfl⟩
    | succ i =>
      have := ih i (by simpa using h)
      have e : cellsT (v :: vs) = [.int .i64 v.1, .int .i64 v.2] ++ cellsT vs := by simp [cellsT]
      have hl : ([.int .i64 v.1, .int .i64 v.2] : List Value).length = 2 := rfl
      rw [e, List.getElem?_append_right (by rw [hl]; omega), List.getElem?_append_right (by rw [hl]; omega)]
      rw [hl, show (i + 1) * 2 - 2 = i * 2 by omega, show (i + 1) * 2 + 1 - 2 = i * 2 + 1 by omega]
      exact this

theorem tys_new {w : World} {b : Nat} {arr : Array Value} {T : TypeId} {fr : Nat × Nat} {ts : List (Int × Int)} (h : w.heap[b]? = some (.cells arr T fr)) (ha : arr.toList = cellsT ts) : TysIn w (some ⟨b, 0, none⟩) ts [] := by
  intro _
  refine ⟨b, 0, rfl, by simp, fun i hi => ?_⟩
  obtain ⟨h1, h2⟩ := cellsT_get ts i hi
  rw [cell_of_heap h, cell_of_heap h, Nat.zero_add, ← Array.getElem?_toList, ← Array.getElem?_toList, ha]
  exact ⟨h1, h2⟩
theorem vals_new {w : World} {b : Nat} {arr : Array Value} {T : TypeId} {fr : Nat × Nat} {vs : List V} (h : w.heap[b]? = some (.cells arr T fr)) (ha : arr.toList = cellsV vs) : ValsIn w (some ⟨b, 0, none⟩) vs [] := by
  intro _
  refine ⟨b, 0, rfl, by simp, fun i hi => ?_⟩
  obtain ⟨h1, h2, h3⟩ := cellsV_get vs i hi
  rw [cell_of_heap h, cell_of_heap h, cell_of_heap h, Nat.zero_add, ← Array.getElem?_toList, ← Array.getElem?_toList, ← Array.getElem?_toList, ha]
  exact ⟨h1, h2, h3⟩
theorem rows_one {w : World} {b : Nat} {vo : Option Addr} {n c : Nat} {T : TypeId} {fr : Nat × Nat} {vs : List V} (h : w.heap[b]? = some (.cells #[.slice vo n c] T fr)) (hn : vs.length = n) (hv : ValsIn w vo vs []) : RowsIn w (some ⟨b, 0, none⟩) [vs] [] := by
  intro _
  refine ⟨b, 0, rfl, by simp, fun i hi => ?_⟩
  obtain rfl : i = 0 := by simp at hi; omega
  refine ⟨vo, c, ?_, hv⟩
  rw [cell_of_heap h, ← hn]
  rfl
theorem rows_two {w : World} {b : Nat} {vo uo : Option Addr} {n c m d : Nat} {T : TypeId} {fr : Nat × Nat} {vs us : List V} (h : w.heap[b]? = some (.cells #[.slice vo n c, .slice uo m d] T fr)) (hn : vs.length = n) (hv : ValsIn w vo vs []) (hm : us.length = m) (hu : ValsIn w uo us []) : RowsIn w (some ⟨b, 0, none⟩) [vs, us] [] := by
  intro _
  refine ⟨b, 0, rfl, by simp, fun i hi => ?_⟩
  by_cases h0 : i = 0
  · subst h0
    refine ⟨vo, c, ?_, hv⟩
    rw [cell_of_heap h, ← hn]
    rfl
  · obtain rfl : i = 1 := by simp at hi; omega
    refine ⟨uo, d, ?_, hu⟩
    rw [cell_of_heap h, ← hm]
    rfl
theorem ValsIn.nil (w : World) (ao : Option Addr) : ValsIn w ao [] [] := fun h => absurd rfl h

theorem two_new (w : World) (A B : Obj) : ((w.alloc A).alloc B).heap[w.heap.size]? = some A ∧ ((w.alloc A).alloc B).heap[w.heap.size + 1]? = some B := by
  refine ⟨?_, ?_⟩
  · rw [Below.heap_alloc _ _ _ (by rw [size_alloc]; omega)]; exact heap_alloc_new _ _
  · have := heap_alloc_new (w.alloc A) B
    rw [size_alloc] at this
    exact this
theorem three_new (w : World) (A B C : Obj) : (((w.alloc A).alloc B).alloc C).heap[w.heap.size]? = some A ∧ (((w.alloc A).alloc B).alloc C).heap[w.heap.size + 1]? = some B ∧ (((w.alloc A).alloc B).alloc C).heap[w.heap.size + 1 + 1]? = some C := by
  obtain ⟨h1, h2⟩ := two_new w A B
  refine ⟨?_, ?_, ?_⟩
  · rw [Below.heap_alloc _ _ _ (by rw [size_alloc, size_alloc]; omega)]; exact h1
  · rw [Below.heap_alloc _ _ _ (by rw [size_alloc, size_alloc]; omega)]; exact h2
  · have := heap_alloc_new ((w.alloc A).alloc B) C
    rw [size_alloc, size_alloc] at this
    exact this

/-- What page.Put answers: the bytes, the error's number. -/
def putStr (at_ : Int) (ts : List (Int × Int)) (rs : List (List V)) : ByteArray := if putE at_ ts rs = 0 then ⟨(putB at_.toNat ts.length rs).toArray⟩ else ⟨#[]⟩

def exRow : List V := [⟨false, 5, ⟨#[]⟩⟩]
theorem ex_putE : putE 8 [(1, 0)] [exRow] = 0 := by decide +kernel
theorem ex_putE2 : putE 8 [(1, 0)] [[]] = 1 := by decide +kernel
theorem ex_len : (putB 8 1 [exRow]).length = 16 := by decide +kernel
theorem ex_rowOK : ∀ vs ∈ [exRow], rowOK [(1, 0)] vs = true := by decide +kernel
theorem exRow_ok : ∀ vs ∈ [exRow], ∀ v ∈ vs, v.ok := by
  intro vs hvs v hv
  simp at hvs
  subst hvs
  simp [exRow] at hv
  subst hv
  exact ⟨by decide, by decide⟩
theorem ex_read : rowAns (putF (fun _ => 0) 8 (⟨(putB 8 1 [exRow]).toArray⟩ : ByteArray).size (sAt ⟨(putB 8 1 [exRow]).toArray⟩)) 1 8 [(1, 0)] = some exRow :=
  rows_read (rs := [exRow]) (i := 0) (by decide) exRow_ok ex_rowOK (bys_put _ _ _) (by rw [show ([(1, 0)] : List (Int × Int)).length = 1 from rfl, ex_len]; decide) (by decide) (by decide)

set_option maxRecDepth 100000 in
set_option maxHeartbeats 1000000 in
theorem examples16 (w : World) : Calls Try.prog 24 #[] w fun e w' => e = .returned (.bool true) ∧ Mods [] w w' := by
  have hM1 := ((((Mods.refl [] w).alloc (.cells #[.int .i64 1, .int .i64 0] 60)).alloc (.cells #[.bool false, .int .i64 5, .string ⟨#[]⟩] 77)).alloc (.cells #[.slice (some ⟨w.heap.size + 1, 0, none⟩) 1 1] 71))
  obtain ⟨hh1, hh2, hh3⟩ := three_new w (.cells #[.int .i64 1, .int .i64 0] 60) (.cells #[.bool false, .int .i64 5, .string ⟨#[]⟩] 77) (.cells #[.slice (some ⟨w.heap.size + 1, 0, none⟩) 1 1] 71)
  have hT := tys_new (ts := [(1, 0)]) hh1 rfl
  have hV := vals_new (vs := exRow) hh2 rfl
  have hR := rows_one (vs := exRow) hh3 rfl hV
  have hp := pgput_any _ [(1, 0)] [exRow] _ _ 1 1 hT hR (fun vs hvs => ⟨by simp at hvs; rw [hvs]; decide, exRow_ok vs hvs⟩) 8 (by decide) (by decide) (by decide) (by decide)
  unfold PgPost at hp
  rw [ex_putE, if_pos rfl] at hp
  have hl : (⟨(putB 8 1 [exRow]).toArray⟩ : ByteArray).size = 16 := by
    have := ex_len
    simpa [ByteArray.size] using this
  have hrd := ex_read
  change Calls _ _ _ _ (fun e w' => e = Ending.returned (Value.tuple #[Value.string ⟨(putB 8 1 [exRow]).toArray⟩, _]) ∧ _) at hp
  generalize (⟨(putB 8 1 [exRow]).toArray⟩ : ByteArray) = S at *
  clear hh1 hh2 hh3 hV hR
  go_enter Try.func24, Try.ntmps24
  go_wp2_with fail
  refine hp.mono ?_
  rintro e w1 ⟨rfl, hM2⟩
  have hT1 := hT.mods hM2
  have hM3 := hM1.trans hM2 (by simp)
  clear hp hT hM2 hM1
  go_wp2_with fail
  have hMa := ((Mods.refl [] w1).alloc (.cells #[] 77)).alloc (.cells #[.slice (some ⟨w1.heap.size, 0, none⟩) 0 0] 71)
  have hR2 := rows_one (vs := []) (two_new w1 (.cells #[] 77) (.cells #[.slice (some ⟨w1.heap.size, 0, none⟩) 0 0] 71)).2 rfl (ValsIn.nil _ _)
  have hp := pgput_any _ [(1, 0)] [[]] _ _ 1 1 (hT1.mods hMa) hR2 (fun vs hvs => ⟨by simp at hvs; rw [hvs]; decide, fun v hv => by simp at hvs; rw [hvs] at hv; cases hv⟩) 8 (by decide) (by decide) (by decide) (by decide)
  unfold PgPost at hp
  rw [ex_putE2, if_neg (by decide)] at hp
  refine hp.mono ?_
  rintro e w2 ⟨rfl, hM4⟩
  have hT2 := (hT1.mods hMa).mods hM4
  have hM5 := (hM3.trans hMa (by simp)).trans hM4 (by simp)
  clear hp hT1 hM3 hMa hM4 hR2
  go_wp2_with fail
  refine (new_is _ 1 1 (by omega) (by omega) (by omega) (by omega)).mono ?_
  rintro e w3 ⟨b, L, rfl, hm1, hM6, hL1⟩
  have hT3 := hT2.apart hL1
  have hT3 := hT3.mods (hM6.mono (by simp))
  have hM7 := hM5.trans hM6 (by simp)
  have hL2 : ∀ k ∈ L, w.heap.size ≤ k := fun k hk => by have := hL1 k hk; have := hM5.size; omega
  clear hT2 hM5 hM6 hL1
  go_wp2_with fail
  refine (write_ok w3 b 1 _ _ L 8 S hm1 (by omega) (by omega)).mono ?_
  rintro e w4 ⟨rfl, hN⟩
  obtain ⟨hM8, L4, hm4, hL4, hM9, -⟩ := hN.go hM7 hL2
  have hT4 := hT3.mods hM9
  clear hN hT3 hM7 hM9
  go_wp2_with fail
  refine (pgrow_any w4 b 1 _ _ L4 hm4 (by omega) _ [(1, 0)] 1 1 rfl (by omega) (fun h => by obtain ⟨x1, x2, x3, x4, x5⟩ := hT4 h; exact ⟨x1, x2, x3, by simp, x5⟩) 8 (by omega)).mono ?_
  rintro e w5 ⟨hM10, hans⟩
  rw [hrd] at hans
  obtain ⟨ao, cap, rfl, hV5, -⟩ := hans
  have hM11 := hM8.trans hM10 (by simp)
  obtain ⟨vb, vo, rfl, -, hvc⟩ := hV5 (by decide)
  have c1 : w5.cell? ⟨vb, vo + 1, none⟩ = some (.int .i64 5) := (hvc 0 (by decide)).2.1
  have hlen : exRow.length = 1 := rfl
  rw [hlen]
  clear hvc hrd hT4 hm4 hm1
  go_wp2_with fail
  refine (size_any 2 _).mono ?_
  rintro e w6 ⟨rfl, rfl⟩
  rw [show sizeI 2 = 24 from rfl]
  go_wp2_with fail
  go_ret
  exact ⟨rfl, hM11⟩
end Go.Proofs.Ytagpnalhilgcpaa
