/-
  The law PageLists: its plain part: nodes in memory, and the lists that are read of them; the law's inner function.
-/
import Derived.Test.YtagpnalhilgcpaaPagR
import Derived.Test.YtagpnalhilgcpaaPagN
namespace Go.Proofs.Ytagpnalhilgcpaa
open Go.RowKit
set_option linter.unusedVariables false

def plP (i : Nat) : Nat := 1000 + 100 * (i * 7 % 10)
def plR (x : Int) : List V := [⟨false, x, ⟨#[]⟩⟩]
theorem plR_ok (x : Int) (h : -9223372036854775808 ≤ x ∧ x ≤ 9223372036854775807) : ∀ vs ∈ [plR x], ∀ v ∈ vs, v.ok := by
  intro vs hvs v hv
  simp at hvs
  subst hvs
  simp [plR] at hv
  subst hv
  exact ⟨h, Nat.zero_le _⟩
theorem plR_rowOK (x : Int) : rowOK [(1, 0)] (plR x) = true := by
  refine rowOK_true rfl fun i hi => ?_
  obtain rfl : i = 0 := by simp at hi; omega
  show fitsV 1 0 true false x ⟨#[]⟩ = true
  rfl
theorem pl_len (a : Nat) (x : Int) : (putB a 1 [plR x]).length = 16 := by
  rw [putB_len a 1 _ (by intro i hi; obtain rfl : i = 0 := by simp at hi; omega
                         rfl), putS_noText _ _ (by intro vs hvs v hv; simp at hvs; subst hvs; simp [plR] at hv; subst hv; rfl)]
  rfl
theorem pl_putE (a : Nat) (ha : a ≤ 3000) (x : Int) : putE (a : Int) [(1, 0)] [plR x] = 0 := by
  unfold putE
  rw [if_neg (by have : ([(1, 0)] : List (Int × Int)).length = 1 := rfl
                 omega), if_neg (by simp [plR_rowOK]), if_neg]
  rw [Int.toNat_natCast, show ([(1, 0)] : List (Int × Int)).length = 1 from rfl, pl_len]
  omega

theorem plP_lt (i : Nat) : 1000 ≤ plP i ∧ plP i ≤ 1900 := by unfold plP; omega
theorem plP_apart {i j : Nat} (hi : i < 10) (hj : j < 10) (h : i ≠ j) : plP i + 100 ≤ plP j ∨ plP j + 100 ≤ plP i := by unfold plP; omega

/-- Node i stands in memory: where the next one stands, its number. -/
def Node (f : Nat → UInt8) (i nxt : Nat) (x : Int) : Prop := numAt f (plP i) = nxt ∧ Bys f (plP i + 8) (putB (plP i + 8) 1 [plR x])
theorem Node.put {f : Nat → UInt8} {i nxt : Nat} {x : Int} (h : Node f i nxt x) {a c : Nat} (s : Nat → UInt8) (ha : a + c ≤ plP i ∨ plP i + 24 ≤ a) : Node (putF f a c s) i nxt x := by
  obtain ⟨h1, h2⟩ := h
  refine ⟨?_, h2.congr fun j hj => putF_out _ _ _ _ (by rw [pl_len] at hj; omega)⟩
  rw [← h1]
  exact num_putF_out _ _ _ _ _ _ (by omega)

/-- Where node j stands; 0: none. -/
def plA (n j : Nat) : Nat := if j < n then plP j else 0
/-- The nodes from j on are put. -/
def Nodes (f : Nat → UInt8) (X : Nat → Int) (n j : Nat) : Prop := ∀ i, j ≤ i → i < n → Node f i (plA n (i + 1)) (X i)

theorem Nodes.step {f : Nat → UInt8} {X : Nat → Int} {n i : Nat} (hn : n ≤ 10) (hi : i < n) (h : Nodes f X n (i + 1)) (s t : Nat → UInt8)
    (hs : Bys (putF f (plP i + 8) 16 s) (plP i + 8) (putB (plP i + 8) 1 [plR (X i)])) (ht : numAt (putF (putF f (plP i + 8) 16 s) (plP i) 8 t) (plP i) = plA n (i + 1)) : Nodes (putF (putF f (plP i + 8) 16 s) (plP i) 8 t) X n i := by
  intro k h1 h2
  by_cases hk : k = i
  · subst hk
    refine ⟨ht, hs.congr fun j hj => putF_out _ _ _ _ (by rw [pl_len] at hj; omega)⟩
  · have ha := plP_apart (i := i) (j := k) (by omega) (by omega) (Ne.symm hk)
    exact ((h k (by omega) h2).put s (by omega)).put t (by omega)

theorem node_row {f : Nat → UInt8} {i nxt : Nat} {x : Int} (h : Node f i nxt x) (hx : -9223372036854775808 ≤ x ∧ x ≤ 9223372036854775807) : rowAns f 1 (plP i + 8) [(1, 0)] = some (plR x) := by
  have hp := plP_lt i
  have := rows_read (nP := 1) (rs := [plR x]) (ts := [(1, 0)]) (at_ := plP i + 8) (i := 0) (by decide) (plR_ok x hx) (by intro vs hvs; simp at hvs; subst hvs; exact plR_rowOK x) h.2 (by
    rw [show ([(1, 0)] : List (Int × Int)).length = 1 from rfl, pl_len]; omega) (by decide) (by show 0 < 1; decide)
  simpa using this

def plRows (X : Nat → Int) (j d : Nat) : List (List V) := (List.range d).map fun i => plR (X (j + i))
theorem plRows_succ (X : Nat → Int) (j d : Nat) : plRows X j (d + 1) = plR (X j) :: plRows X (j + 1) d := by
  unfold plRows
  rw [List.range_succ_eq_map]
  simp [Nat.add_comm, Nat.add_left_comm]

theorem hasB_P (i : Nat) : hasB 1 ((plP i : Nat) : Int) 8 = true := decide_eq_true (by have := plP_lt i; omega)

theorem pl_list {f : Nat → UInt8} {X : Nat → Int} {n : Nat} (h : Nodes f X n 0) (hX : ∀ i, i < n → -9223372036854775808 ≤ X i ∧ X i ≤ 9223372036854775807) (d : Nat) : ∀ j m, j + d = n → listGo f 1 [(1, 0)] m (plA n j) = if d ≤ m then some (plRows X j d) else none := by
  induction d with
  | zero =>
    intro j m hj
    have : plA n j = 0 := by unfold plA; rw [if_neg (by omega)]
    rw [this, listGo_zero, if_pos (Nat.zero_le _)]
    rfl
  | succ d ih =>
    intro j m hj
    have e : plA n j = plP j := by unfold plA; rw [if_pos (by omega)]
    have hp := plP_lt j
    have hN := h j (by omega) (by omega)
    rw [e]
    cases m with
    | zero => rw [listGo_full _ _ _ (by omega), if_neg (by omega)]
    | succ m =>
      rw [listGo_next f 1 [(1, 0)] m (by omega) (hasB_P j) (node_row hN (hX j (by omega))), hN.1, ih (j + 1) m (by omega), plRows_succ]
      by_cases hd : d ≤ m
      · rw [if_pos hd, if_pos (by omega)]; rfl
      · rw [if_neg hd, if_neg (by omega)]; rfl

/-- A list that goes round is none. -/
theorem pl_round {f : Nat → UInt8} {X : Nat → Int} {n : Nat} (hn : n ≤ 10) (h0 : 0 < n) (h : Nodes f X n 0) (hX : ∀ i, i < n → -9223372036854775808 ≤ X i ∧ X i ≤ 9223372036854775807) (t : Nat → UInt8)
    (ht : numAt (putF f (plP (n - 1)) 8 t) (plP (n - 1)) = plP 0) (m : Nat) : ∀ j, j < n → listGo (putF f (plP (n - 1)) 8 t) 1 [(1, 0)] m (plP j) = none := by
  induction m with
  | zero => intro j hj; exact listGo_full _ _ _ (by have := plP_lt j; omega)
  | succ m ih =>
    intro j hj
    have hp := plP_lt j
    have hN := h j (by omega) hj
    by_cases hjn : j = n - 1
    · have hrow : rowAns (putF f (plP (n - 1)) 8 t) 1 (plP j + 8) [(1, 0)] = some (plR (X j)) := by
        have hB : Node (putF f (plP (n - 1)) 8 t) j (plP 0) (X j) := ⟨by rw [hjn]; exact ht, hN.2.congr fun i hi => putF_out _ _ _ _ (by rw [pl_len] at hi; rw [hjn]; omega)⟩
        exact node_row hB (hX j hj)
      rw [listGo_next _ 1 [(1, 0)] m (by omega) (hasB_P j) hrow, hjn, ht, ih 0 h0]
      rfl
    · have ha := plP_apart (i := n - 1) (j := j) (by omega) (by omega) (Ne.symm hjn)
      have hN2 := hN.put (a := plP (n - 1)) (c := 8) t (by omega)
      have e : plA n (j + 1) = plP (j + 1) := by unfold plA; rw [if_pos (by omega)]
      rw [listGo_next _ 1 [(1, 0)] m (by omega) (hasB_P j) (node_row hN2 (hX j hj)), hN2.1, e, ih (j + 1) (by omega)]
      rfl

set_option maxRecDepth 100000 in
theorem place_any (i : Nat) (hi : i < 10) (w : World) : Calls Try.prog 33 #[.int .i64 i] w fun e w' => e = .returned (.int .i64 ((plP i : Nat) : Int)) ∧ w = w' := by
  go_enter Try.func33, Try.ntmps33
  go_wp2_with fail
  go_ret
  refine ⟨ret_int ?_, rfl⟩
  unfold plP
  omega
end Go.Proofs.Ytagpnalhilgcpaa
