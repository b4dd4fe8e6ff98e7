/-
  page's writer: what it holds; what a value's slot is, and what writing it leaves.
-/
import Derived.Test.YtagpnalhilgcpaaPagB
import Derived.Test.YtagpnalhilgcpaaBldA
import Derived.Deep.RegionHeld3
import Derived.BigQuiet
import Derived.IntWalk
namespace Go.Proofs.Ytagpnalhilgcpaa
open Go.RowKit
set_option linter.unusedVariables false

/-- A writer in block b: where its texts begin; the bytes of its rows, and of its texts; L: the blocks that are its own. -/
def Wr (w : World) (b fr : Nat) (R H : List UInt8) (L : List Nat) : Prop :=
  ∃ (arr : Array Value) (v0 v1 : Value), arr.size = 5 ∧ arr[4]? = some (.int .i64 fr) ∧ Bld w b 0 103 arr v0 R ∧ Bld w b 2 103 arr v1 H ∧ (∀ g, v0.ownBlock = some g → v1.ownBlock ≠ some g) ∧ L = b :: (v0.ownBlock.toList ++ v1.ownBlock.toList)

theorem Wr.lt {w : World} {b fr : Nat} {R H : List UInt8} {L : List Nat} (h : Wr w b fr R H L) : ∀ k ∈ L, k < w.heap.size := by
  obtain ⟨arr, v0, v1, -, -, h0, h1, -, rfl⟩ := h
  intro k hk
  rcases List.mem_cons.1 hk with rfl | hk
  · exact h0.lt
  · rcases List.mem_append.1 hk with hk | hk
    · exact ownsRow_lt h0.own k hk
    · exact ownsRow_lt h1.own k hk

theorem Wr.mods {w w' : World} {b fr : Nat} {R H : List UInt8} {L M : List Nat} (h : Wr w b fr R H L) (hM : Mods M w w') (hd : ∀ k ∈ L, k ∉ M) : Wr w' b fr R H L := by
  obtain ⟨arr, v0, v1, q1, q2, h0, h1, q3, rfl⟩ := h
  refine ⟨arr, v0, v1, q1, q2, h0.mods hM (hd b (by simp)) (fun g hg => hd g (by simp [hg])), h1.mods hM (hd b (by simp)) (fun g hg => hd g (by simp [hg])), q3, rfl⟩

/-- What a write to the writer leaves: its own blocks have changed alone. -/
def WrNow (w : World) (b fr : Nat) (R H : List UInt8) (L : List Nat) (w' : World) : Prop :=
  Mods L w w' ∧ ∃ L', Wr w' b fr R H L' ∧ ∀ k ∈ L', k ∈ L ∨ w.heap.size ≤ k

section
variable {w : World} {b fr : Nat} {R H : List UInt8} {L : List Nat}

/-- A text is written to the texts. -/
theorem heap_write (h : Wr w b fr R H L) (s : ByteArray) (hlen : H.length + s.size ≤ 140737488355328) :
    Calls Try.prog 56 #[.pointer (some ⟨b, 2, none⟩), .string s] w fun e w' => e = .returned (.tuple #[.int .i64 s.size, .nilIface]) ∧ WrNow w b fr R (H ++ s.data.toList) L w' := by
  obtain ⟨arr, v0, v1, q1, q2, h0, h1, q3, rfl⟩ := h
  refine (writeString_any lies_heap q1 h1 s hlen).mono ?_
  rintro e w' ⟨rfl, hM, v', hB, hw⟩
  have hM0 : Mods (b :: (v0.ownBlock.toList ++ v1.ownBlock.toList)) w w' := hM.mono (by simp; intro x hx; exact .inl (.inr (.inr hx)))
  have hv0b := h0.ne (lies_rows.ne)
  have hv0 : ∀ g, v0.ownBlock = some g → g ∉ b :: v1.ownBlock.toList := by
    intro g hg hm
    rcases List.mem_cons.1 hm with rfl | hm
    · exact hv0b hg
    · exact q3 g hg (by simpa using hm)
  refine ⟨rfl, hM0, _, ⟨_, v0, v', ?_, ?_, ⟨hB.row, ?_, ?_, ownsRow_mods h0.own hM hv0, h0.nil⟩, hB, ?_, rfl⟩, ?_⟩
  · simpa using q1
  · rw [Array.getElem?_setIfInBounds_ne (by omega), Array.getElem?_setIfInBounds_ne (by omega)]; exact q2
  · rw [Array.getElem?_setIfInBounds_ne (by omega), Array.getElem?_setIfInBounds_ne (by omega)]; exact h0.a0
  · rw [Array.getElem?_setIfInBounds_ne (by omega), Array.getElem?_setIfInBounds_ne (by omega)]; exact h0.a1
  · intro g hg hg'
    rcases hw g hg' with h2 | h2
    · exact q3 g hg h2
    · have := ownsRow_lt h0.own g (by simp [hg])
      omega
  · intro k hk
    rcases List.mem_cons.1 hk with rfl | hk
    · exact .inl (by simp)
    · rcases List.mem_append.1 hk with hk | hk
      · exact .inl (by simp at hk; simp [hk])
      · rcases hw k (by simpa using hk) with h2 | h2
        · exact .inl (by simp [h2])
        · exact .inr h2

/-- A row is written to the rows. -/
theorem rows_write (h : Wr w b fr R H L) (s : ByteArray) (hlen : R.length + s.size ≤ 140737488355328) :
    Calls Try.prog 56 #[.pointer (some ⟨b, 0, none⟩), .string s] w fun e w' => e = .returned (.tuple #[.int .i64 s.size, .nilIface]) ∧ WrNow w b fr (R ++ s.data.toList) H L w' := by
  obtain ⟨arr, v0, v1, q1, q2, h0, h1, q3, rfl⟩ := h
  refine (writeString_any lies_rows q1 h0 s hlen).mono ?_
  rintro e w' ⟨rfl, hM, v', hB, hw⟩
  have hM0 : Mods (b :: (v0.ownBlock.toList ++ v1.ownBlock.toList)) w w' := hM.mono (by simp; intro x hx; exact .inl (.inr (.inl hx)))
  have hv1b := h1.ne (lies_rows.ne)
  have hv1 : ∀ g, v1.ownBlock = some g → g ∉ b :: v0.ownBlock.toList := by
    intro g hg hm
    rcases List.mem_cons.1 hm with rfl | hm
    · exact hv1b hg
    · exact q3 g (by simpa using hm) hg
  refine ⟨rfl, hM0, _, ⟨_, v', v1, ?_, ?_, hB, ⟨hB.row, ?_, ?_, ownsRow_mods h1.own hM hv1, h1.nil⟩, ?_, rfl⟩, ?_⟩
  · simpa using q1
  · rw [Array.getElem?_setIfInBounds_ne (by omega), Array.getElem?_setIfInBounds_ne (by omega)]; exact q2
  · rw [Array.getElem?_setIfInBounds_ne (by omega), Array.getElem?_setIfInBounds_ne (by omega)]; exact h1.a0
  · rw [Array.getElem?_setIfInBounds_ne (by omega), Array.getElem?_setIfInBounds_ne (by omega)]; exact h1.a1
  · intro g hg hg'
    rcases hw g hg with h2 | h2
    · exact q3 g h2 hg'
    · have := ownsRow_lt h1.own g (by simp [hg'])
      omega
  · intro k hk
    rcases List.mem_cons.1 hk with rfl | hk
    · exact .inl (by simp)
    · rcases List.mem_append.1 hk with hk | hk
      · rcases hw k (by simpa using hk) with h2 | h2
        · exact .inl (by simp [h2])
        · exact .inr h2
      · exact .inl (by simp at hk; simp [hk])

/-- The slot of a value: its number; or, where it has a text, where this stands, and how long it is. -/
def slotN (pos : Nat) (n : Int) (s : ByteArray) : Nat := if s.size = 0 then (n % 18446744073709551616).toNat else pos * 256 + s.size

theorem slot_bits (a c m : Nat) (hm : m ≤ 200) (ha : a + c ≤ 72057594037927935) : bits .or .u64 (((a : Int) + (c : Int)) * 256) (m : Int) = (((a + c) * 256 + m : Nat) : Int) := by
  have e1 : ((a : Int) + (c : Int)) * 256 = (((a + c) * 256 : Nat) : Int) := by simp
  rw [e1, (bits_nat .u64 64 (by decide) wraps64 _ _ (by omega) (by omega)).2, Nat.or_comm]
  have := or_high m (a + c) 8 (by omega)
  rw [show (2 : Nat) ^ 8 = 256 from rfl] at this
  rw [this, Nat.add_comm]

set_option maxHeartbeats 1000000 in
set_option maxRecDepth 100000 in
theorem slot_none (h : Wr w b fr R H L) (z : Bool) (n : Int) :
    Calls Try.prog 58 #[.pointer (some ⟨b, 0, none⟩), .agg #[.bool z, .int .i64 n, .string ⟨#[]⟩]] w fun e w' => e = .returned (.int .u64 ((slotN (fr + H.length) n ⟨#[]⟩ : Nat) : Int)) ∧ Mods [] w w' := by
  go_enter Try.func58, Try.ntmps58
  go_wp2_with fail
  go_ret
  refine ⟨ret_int ?_, (Mods.refl [] w).alloc _⟩
  unfold slotN
  rw [if_pos (show (ByteArray.mk #[]).size = 0 from rfl), IntKind.wrap_u64]
  omega

set_option maxHeartbeats 1000000 in
set_option maxRecDepth 100000 in
theorem slot_some (h : Wr w b fr R H L) (z : Bool) (n : Int) (s : ByteArray) (hs0 : s.size ≠ 0) (hs : s.size ≤ 200) (hlen : fr + H.length ≤ 72057594037927935) (hH : H.length ≤ 140737488350000) :
    Calls Try.prog 58 #[.pointer (some ⟨b, 0, none⟩), .agg #[.bool z, .int .i64 n, .string s]] w fun e w' => e = .returned (.int .u64 ((slotN (fr + H.length) n s : Nat) : Int)) ∧ WrNow w b fr R (H ++ s.data.toList) L w' := by
  have hM1 := (Mods.refl [] w).alloc (.cells #[.bool z, .int .i64 n, .string s] 77)
  have hw1 : Wr (w.alloc (.cells #[.bool z, .int .i64 n, .string s] 77)) b fr R H L := h.mods hM1 (by simp)
  have hlt := h.lt
  have hnl : s.toList.isEmpty = false := by cases hb : s.toList.isEmpty with | false => rfl | true => exact absurd ((toList_nil s).1 (List.isEmpty_iff.1 hb)) hs0
  have e1 : IntKind.i64.wrap ((fr : Int) + (H.length : Int)) = ((fr + H.length : Nat) : Int) := by rw [IntKind.wrap_i64]; omega
  obtain ⟨arr, v0, v1, q1, q2, h0, h1, q3, hL⟩ := id hw1
  have c4 : (w.alloc (.cells #[.bool z, .int .i64 n, .string s] 77)).cell? ⟨b, 4, none⟩ = some (.int .i64 fr) := by rw [cell_of_heap h0.row]; exact q2
  have c2 : (w.alloc (.cells #[.bool z, .int .i64 n, .string s] 77)).cell? ⟨w.heap.size, 2, none⟩ = some (.string s) := cell_of_heap (heap_alloc_new w _) 2
  go_enter Try.func58, Try.ntmps58
  go_wp2_with fail
  go_quiet ((refine Calls.quiet_of_same (len_any (h1.mods ((Mods.refl [] _).drewN _) (by simp) (by simp)))))
  go_wp2_with fail
  have k0 : ((w.alloc (.cells #[.bool z, .int .i64 n, .string s] 77)).drewN nq).cell? ⟨w.heap.size, 2, none⟩ = some (.string s) := ((Mods.refl [] _).drewN nq).cell c2 (by simp)
  have hwN : Wr ((w.alloc (.cells #[.bool z, .int .i64 n, .string s] 77)).drewN nq) b fr R H L := hw1.mods ((Mods.refl [] _).drewN nq) (by simp)
  have hMN := hM1.drewN nq
  have hnL : w.heap.size ∉ L := fun hk => Nat.lt_irrefl _ (hlt _ hk)
  clear c2 c4 hM1 hw1 h0 h1
  generalize (w.alloc (.cells #[.bool z, .int .i64 n, .string s] 77)).drewN nq = wq at *
  have k1 : wq.drew.cell? ⟨w.heap.size, 2, none⟩ = some (.string s) := k0
  have hwD : Wr wq.drew b fr R H L := hwN.mods ((Mods.refl [] _).drew) (by simp)
  have hlen2 : H.length + s.size ≤ 140737488355328 := by omega
  go_region_held3 (fun w' => w'.cell? ⟨w.heap.size, 2, none⟩ = some (.string s)) (assumption)
    ((refine (heap_write hwD s hlen2).mono ?_; rintro e w' ⟨rfl, hq⟩; have k4 : _ = some (Value.string s) := hq.1.cell k1 hnL))
  go_wp2_with fail
  go_ret
  refine ⟨ret_int ?_, (hMN.mono (by simp)).drew.trans hq.1 (fun x hx => .inl hx), ?_⟩
  · unfold slotN
    rw [if_neg hs0]
    exact slot_bits _ _ _ hs hlen
  · obtain ⟨L', h5, h6⟩ := hq.2
    refine ⟨L', h5, fun k hk => (h6 k hk).imp id fun h7 => ?_⟩
    have h8 : w.heap.size ≤ wq.heap.size := hMN.size
    have h9 : wq.heap.size ≤ k := h7
    omega
end
end Go.Proofs.Ytagpnalhilgcpaa
