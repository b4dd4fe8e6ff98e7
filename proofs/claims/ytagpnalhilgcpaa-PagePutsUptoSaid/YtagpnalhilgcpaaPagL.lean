/-
  The plain law of a page: where the bytes of rows that were put lie in memory, the rows are read. No program; no condition but those typed.
-/
import Derived.Test.YtagpnalhilgcpaaPagK
import Derived.Test.YtagpnalhilgcpaaPagG
import Derived.Test.YtagpnalhilgcpaaMemH
namespace Go.Proofs.Ytagpnalhilgcpaa
open Go.RowKit
set_option linter.unusedVariables false

/-- The bytes l lie in memory from a on. -/
def Bys (f : Nat → UInt8) (a : Nat) (l : List UInt8) : Prop := ∀ j (h : j < l.length), f (a + j) = l[j]

theorem Bys.left {f : Nat → UInt8} {a : Nat} {l m : List UInt8} (h : Bys f a (l ++ m)) : Bys f a l := by
  intro j hj
  rw [h j (by simp; omega), List.getElem_append_left hj]
theorem Bys.right {f : Nat → UInt8} {a : Nat} {l m : List UInt8} (h : Bys f a (l ++ m)) : Bys f (a + l.length) m := by
  intro j hj
  have := h (l.length + j) (by simp; omega)
  rw [List.getElem_append_right (by omega)] at this
  rw [Nat.add_assoc, this]
  congr 1
  omega
theorem Bys.app {f : Nat → UInt8} {a : Nat} {l m : List UInt8} (h : Bys f a l) (k : Bys f (a + l.length) m) : Bys f a (l ++ m) := by
  intro j hj
  by_cases h1 : j < l.length
  · rw [List.getElem_append_left h1]; exact h j h1
  · rw [List.getElem_append_right (by omega)]
    have := k (j - l.length) (by simp at hj; omega)
    rw [← this]
    congr 1
    omega
theorem Bys.pre {f : Nat → UInt8} {a : Nat} {l m : List UInt8} (h : Bys f a m) (p : l <+: m) : Bys f a l := by
  obtain ⟨t, rfl⟩ := p
  exact h.left
theorem Bys.congr {f g : Nat → UInt8} {a : Nat} {l : List UInt8} (h : Bys f a l) (k : ∀ j, j < l.length → g (a + j) = f (a + j)) : Bys g a l :=
  fun j hj => (k j hj).trans (h j hj)

theorem bys_put (f : Nat → UInt8) (a : Nat) (s : ByteArray) : Bys (putF f a s.size (sAt s)) a s.data.toList := by
  intro j hj
  have hs : j < s.size := by rw [Array.length_toList] at hj; exact hj
  rw [putF_in _ _ _ _ (by omega)]
  unfold sAt
  rw [Nat.add_sub_cancel_left, List.getD_eq_getElem?_getD, List.getElem?_eq_getElem hj]
  rfl

theorem numAt_bys {f : Nat → UInt8} {a v : Nat} (h : Bys f a (eightB v)) (hv : v < 18446744073709551616) : numAt f a = v := by
  have e : numAt f a = num (byteOf v) 8 := num_congr fun j hj => by
    have := h j (by rw [eightB_len]; exact hj)
    rw [this]
    simp [eightB]
  rw [e, num_byteOf]
  exact Nat.mod_eq_of_lt hv

theorem strF_bys {f : Nat → UInt8} {a : Nat} {s : ByteArray} (h : Bys f a s.data.toList) : strF f a s.size = s := by
  apply ByteArray.ext
  apply Array.ext'
  apply List.ext_getElem
  · show ((List.range s.size).map _).length = _
    rw [List.length_map, List.length_range, Array.length_toList]; rfl
  · intro i h1 h2
    have := h i h2
    simp only [strF, List.getElem_map, List.getElem_range] at h1 ⊢
    exact this

/-! ### The slots and the texts of a row -/

theorem slotsS_pre (fr : Nat) (H : List UInt8) (vs : List V) (k m : Nat) (h : k ≤ m) : (slotsS fr H (vs.take k)).1 <+: (slotsS fr H (vs.take m)).1 ∧ (slotsS fr H (vs.take k)).2 <+: (slotsS fr H (vs.take m)).2 := by
  induction m with
  | zero => obtain rfl : k = 0 := by omega
            exact ⟨List.prefix_refl _, List.prefix_refl _⟩
  | succ m ih =>
    by_cases hk : k = m + 1
    · subst hk; exact ⟨List.prefix_refl _, List.prefix_refl _⟩
    · obtain ⟨h1, h2⟩ := ih (by omega)
      by_cases hm : m < vs.length
      · rw [slotsS_take _ _ _ _ hm]
        exact ⟨h1.trans (List.prefix_append _ _), h2.trans (List.prefix_append _ _)⟩
      · rw [List.take_of_length_le (l := vs) (i := m + 1) (by omega)]
        rw [List.take_of_length_le (l := vs) (i := m) (by omega)] at h1 h2
        exact ⟨h1, h2⟩
theorem slotsS_len8 (fr : Nat) (H : List UInt8) (vs : List V) (k : Nat) (hk : k ≤ vs.length) : (slotsS fr H (vs.take k)).1.length = 8 * k := by
  induction k with
  | zero => simp [slotsS]
  | succ k ih =>
    rw [slotsS_take _ _ _ _ (by omega)]
    simp only [stepS, List.length_append, eightB_len, ih (by omega)]
    omega
theorem slotsS_all (fr : Nat) (H : List UInt8) (vs : List V) (k : Nat) (h : vs.length ≤ k) : slotsS fr H (vs.take k) = slotsS fr H vs := by rw [List.take_of_length_le h]
theorem slotsS_heap0 (fr : Nat) (H : List UInt8) (vs : List V) : H <+: (slotsS fr H vs).2 := by
  have := (slotsS_pre fr H vs 0 vs.length (Nat.zero_le _)).2
  rw [slotsS_all _ _ _ vs.length (Nat.le_refl _)] at this
  simpa [slotsS] using this

/-- A value's slot lies behind the slots ahead of it. -/
theorem bys_slot {f : Nat → UInt8} {a fr : Nat} {H : List UInt8} {vs : List V} (h : Bys f a (slotsS fr H vs).1) {k : Nat} (hk : k < vs.length) :
    Bys f (a + 8 * k) (eightB (slotN (fr + (slotsS fr H (vs.take k)).2.length) vs[k].n vs[k].s)) := by
  have h1 := (slotsS_pre fr H vs (k + 1) vs.length (by omega)).1
  rw [slotsS_all _ _ _ vs.length (Nat.le_refl _), slotsS_take _ _ _ _ hk] at h1
  have h2 := (h.pre h1).right
  rw [slotsS_len8 _ _ _ _ (by omega)] at h2
  exact h2
/-- A value's text lies behind the texts ahead of it. -/
theorem bys_text {f : Nat → UInt8} {fr : Nat} {H : List UInt8} {vs : List V} (h : Bys f fr (slotsS fr H vs).2) {k : Nat} (hk : k < vs.length) :
    Bys f (fr + (slotsS fr H (vs.take k)).2.length) vs[k].s.data.toList := by
  have h1 := (slotsS_pre fr H vs (k + 1) vs.length (by omega)).2
  rw [slotsS_all _ _ _ vs.length (Nat.le_refl _), slotsS_take _ _ _ _ hk] at h1
  exact (h.pre h1).right

theorem nullsF_bit (vs : List V) (n k : Nat) (hk : k < n) : nullsF vs n / 2 ^ k % 2 = if (vs[k]?.map V.z).getD false = true then 1 else 0 := by
  induction n with
  | zero => omega
  | succ n ih =>
    simp only [nullsF]
    by_cases h : k = n
    · subst h
      have hlt := nullsF_lt vs k
      have hp : 0 < 2 ^ k := Nat.pow_pos (by decide)
      split
      · rw [Nat.add_div_right _ hp, Nat.div_eq_of_lt hlt]
      · rw [Nat.add_zero, Nat.div_eq_of_lt hlt]
    · rw [← ih (by omega)]
      split
      · have e : (2 : Nat) ^ n = 2 ^ k * (2 ^ (n - k - 1) * 2) := by
          rw [← Nat.pow_succ, ← Nat.pow_add]
          congr 1
          omega
        rw [e, Nat.add_mul_div_left _ _ (Nat.pow_pos (by decide)), Nat.mul_comm _ 2, Nat.add_mul_mod_self_left]
      · rfl

theorem i64_back (n : Int) (h0 : -9223372036854775808 ≤ n) (h1 : n ≤ 9223372036854775807) : IntKind.i64.wrap (((n % 18446744073709551616).toNat : Nat) : Int) = n := by
  rw [IntKind.wrap_i64]
  omega

theorem fits_parts {t : Int × Int} {v : V} (h : fitsV t.1 t.2 true v.z v.n v.s = true) : (v.z = true → v.n = 0 ∧ v.s = ⟨#[]⟩) ∧ (v.z = false → t.1 = 3 → v.n = 0 ∧ v.s.size ≤ 200) ∧ (v.z = false → t.1 ≠ 3 → v.s = ⟨#[]⟩) := by
  unfold fitsV at h
  simp only [Bool.and_eq_true, Bool.true_and] at h
  obtain ⟨-, h⟩ := h
  refine ⟨fun hz => ?_, fun hz h3 => ?_, fun hz h3 => ?_⟩
  · rw [if_pos hz] at h
    simp at h
    exact ⟨h.1, str_empty (by rw [h.2]; rfl)⟩
  · rw [if_neg (by simp [hz]), if_pos h3] at h
    simp at h
    exact h
  · rw [if_neg (by simp [hz]), if_neg h3] at h
    simp at h
    exact str_empty (by rw [h.1]; rfl)

/-- A value that was put is read. -/
theorem value_read {f : Nat → UInt8} {nP a fr : Nat} {H : List UInt8} {vs : List V} {ts : List (Int × Int)} (hlen : vs.length = ts.length) (h64 : ts.length ≤ 64) (hok : ∀ v ∈ vs, v.ok)
    (hrow : Bys f a (rowB fr H vs)) (hheap : Bys f fr (slotsS fr H vs).2) (hroom : fr + (slotsS fr H vs).2.length ≤ 65536 * nP) (hnP : nP ≤ 256)
    {k : Nat} (hk : k < ts.length) (hf : fitI ts vs k = true) : valAt f nP a ts[k] k = some (vs[k]'(by omega)) := by
  have hkv : k < vs.length := by omega
  rw [fitI_at hk hkv] at hf
  have hvo := hok vs[k] (List.getElem_mem hkv)
  unfold rowB at hrow
  have hN : numAt f a = nullsF vs vs.length := numAt_bys hrow.left (Nat.lt_of_lt_of_le (nullsF_lt vs vs.length) (Nat.le_trans (Nat.pow_le_pow_right (by decide) (show vs.length ≤ 64 by omega)) (by decide)))
  have hs := bys_slot hrow.right hkv
  have ht := bys_text hheap hkv
  have hpre := (slotsS_pre fr H vs (k + 1) vs.length (by omega)).2.length_le
  rw [slotsS_all _ _ _ vs.length (Nat.le_refl _), slotsS_take _ _ _ _ hkv] at hpre
  simp only [stepS, List.length_append, Array.length_toList] at hpre
  have hsz : vs[k].s.data.size = vs[k].s.size := rfl
  have hbit := nullsF_bit vs vs.length k hkv
  rw [← hN, List.getElem?_eq_getElem hkv] at hbit
  obtain ⟨p1, p2, p3⟩ := fits_parts hf
  have hfs := fits_size hf
  generalize ts[k] = t at *
  generalize hv : vs[k] = v at *
  generalize (slotsS fr H (vs.take k)).2.length = hl at *
  have hsl := slotN_lt (fr + hl) v.n v.s (by omega) hfs
  have hn := numAt_bys hs hsl
  rw [eightB_len] at hn
  have hn : numAt f (a + 8 * (k + 1)) = slotN (fr + hl) v.n v.s := by rw [← hn]; congr 1; omega
  refine valAt_some (t := t) ?_ hf
  cases hz : v.z with
  | true =>
    rw [rawAt_one (by rw [hbit]; simp [hz])]
    obtain ⟨q1, q2⟩ := p1 hz
    obtain ⟨z, n, s⟩ := v
    simp at hz q1 q2
    rw [hz, q1, q2]
  | false =>
    rw [rawAt_zero (by rw [hbit]; simp [hz]), hn]
    unfold getP
    by_cases h3 : t.1 = 3
    · rw [if_neg (by simp [h3])]
      obtain ⟨q1, q2⟩ := p2 hz h3
      obtain ⟨z, n, s⟩ := v
      simp only at hz q1 q2 ht hpre hsz ⊢
      subst hz q1
      by_cases h0 : s.size = 0
      · obtain rfl := str_empty h0
        have e : slotN (fr + hl) 0 ⟨#[]⟩ = 0 := rfl
        rw [e]
        have hb : hasB nP (((0 : Nat) / 256 : Nat) : Int) (((0 : Nat) % 256 : Nat) : Int) = true := decide_eq_true (by omega)
        rw [if_pos hb, hb]
        rfl
      · have e : slotN (fr + hl) 0 s = (fr + hl) * 256 + s.size := by unfold slotN; rw [if_neg h0]
        have e1 : slotN (fr + hl) 0 s / 256 = fr + hl := by rw [e]; omega
        have e2 : slotN (fr + hl) 0 s % 256 = s.size := by rw [e]; omega
        rw [e1, e2]
        have hb : hasB nP ((fr + hl : Nat) : Int) (s.size : Int) = true := decide_eq_true (by omega)
        rw [if_pos hb, hb, strF_bys ht]
    · rw [if_pos h3]
      have hs0 := p3 hz h3
      obtain ⟨z, n, s⟩ := v
      simp only at hz hs0 ⊢
      subst hz hs0
      have e : slotN (fr + hl) n ⟨#[]⟩ = (n % 18446744073709551616).toNat := rfl
      rw [e, i64_back n hvo.1.1 hvo.1.2]

theorem valsTo_read {f : Nat → UInt8} {nP a fr : Nat} {H : List UInt8} {vs : List V} {ts : List (Int × Int)} (hlen : vs.length = ts.length) (h64 : ts.length ≤ 64) (hok : ∀ v ∈ vs, v.ok)
    (hrow : Bys f a (rowB fr H vs)) (hheap : Bys f fr (slotsS fr H vs).2) (hroom : fr + (slotsS fr H vs).2.length ≤ 65536 * nP) (hnP : nP ≤ 256) (hf : ∀ i, i < ts.length → fitI ts vs i = true) (k : Nat) (hk : k ≤ ts.length) :
    valsTo f nP a ts k = some (vs.take k) := by
  induction k with
  | zero => rfl
  | succ k ih =>
    simp only [valsTo]
    rw [ih (by omega), List.getElem?_eq_getElem (show k < ts.length by omega)]
    simp only
    rw [value_read hlen h64 hok hrow hheap hroom hnP (by omega) (hf k (by omega)), List.take_succ_eq_append_getElem (by omega)]
    rfl

/-- A row that was put is read. -/
theorem row_read {f : Nat → UInt8} {nP a fr : Nat} {H : List UInt8} {vs : List V} {ts : List (Int × Int)} (hR : rowOK ts vs = true) (h64 : ts.length ≤ 64) (hok : ∀ v ∈ vs, v.ok)
    (hrow : Bys f a (rowB fr H vs)) (hheap : Bys f fr (slotsS fr H vs).2) (hin : a + 8 * (ts.length + 1) ≤ 65536 * nP) (hroom : fr + (slotsS fr H vs).2.length ≤ 65536 * nP) (hnP : nP ≤ 256) : rowAns f nP a ts = some vs := by
  obtain ⟨hlen, hf⟩ := rowOK_fit hR
  unfold rowAns rowVals
  rw [if_pos ⟨h64, hin⟩, valsTo_read hlen h64 hok hrow hheap hroom hnP hf _ (Nat.le_refl _), List.take_of_length_le (by omega)]

/-! ### Many rows -/

theorem rowB_len8 (fr : Nat) (H : List UInt8) (vs : List V) : (rowB fr H vs).length = 8 * (vs.length + 1) := by
  have h := slotsS_len8 fr H vs vs.length (Nat.le_refl _)
  rw [slotsS_all _ _ _ _ (Nat.le_refl _)] at h
  unfold rowB
  rw [List.length_append, eightB_len, h]
  omega
theorem putS_pre (fr : Nat) (rs : List (List V)) (k m : Nat) (h : k ≤ m) : (putS fr (rs.take k)).1 <+: (putS fr (rs.take m)).1 ∧ (putS fr (rs.take k)).2 <+: (putS fr (rs.take m)).2 := by
  induction m with
  | zero => obtain rfl : k = 0 := by omega
            exact ⟨List.prefix_refl _, List.prefix_refl _⟩
  | succ m ih =>
    by_cases hk : k = m + 1
    · subst hk; exact ⟨List.prefix_refl _, List.prefix_refl _⟩
    · obtain ⟨h1, h2⟩ := ih (by omega)
      by_cases hm : m < rs.length
      · rw [putS_take _ _ _ hm]
        exact ⟨h1.trans (List.prefix_append _ _), h2.trans (slotsS_heap0 _ _ _)⟩
      · rw [List.take_of_length_le (l := rs) (i := m + 1) (by omega)]
        rw [List.take_of_length_le (l := rs) (i := m) (by omega)] at h1 h2
        exact ⟨h1, h2⟩
theorem putS_len8 (fr n : Nat) (rs : List (List V)) (hn : ∀ i (h : i < rs.length), rs[i].length = n) (k : Nat) (hk : k ≤ rs.length) : (putS fr (rs.take k)).1.length = 8 * (n + 1) * k := by
  induction k with
  | zero => simp [putS]
  | succ k ih =>
    rw [putS_take _ _ _ (by omega)]
    show ((putS fr (rs.take k)).1 ++ _).length = _
    rw [List.length_append, ih (by omega), rowB_len8, hn k (by omega), Nat.mul_succ (8 * (n + 1)) k]

/-- Where the rows' bytes lie, each row's bytes lie, and the texts. -/
theorem putB_bys {f : Nat → UInt8} {at_ n : Nat} {rs : List (List V)} (hn : ∀ i (h : i < rs.length), rs[i].length = n) (h : Bys f at_ (putB at_ n rs)) {i : Nat} (hi : i < rs.length) :
    ∃ H, Bys f (at_ + 8 * (n + 1) * i) (rowB (at_ + 8 * (n + 1) * rs.length) H rs[i]) ∧ Bys f (at_ + 8 * (n + 1) * rs.length) (slotsS (at_ + 8 * (n + 1) * rs.length) H rs[i]).2 ∧
      (slotsS (at_ + 8 * (n + 1) * rs.length) H rs[i]).2.length ≤ (putS (at_ + 8 * (n + 1) * rs.length) rs).2.length := by
  unfold putB at h
  obtain ⟨fr, hfr⟩ : ∃ fr, at_ + 8 * (n + 1) * rs.length = fr := ⟨_, rfl⟩
  rw [hfr] at h ⊢
  have h1 := putS_pre fr rs (i + 1) rs.length (by omega)
  rw [List.take_of_length_le (l := rs) (Nat.le_refl _), putS_take _ _ _ hi] at h1
  have hl := putS_len8 fr n rs hn rs.length (Nat.le_refl _)
  rw [List.take_of_length_le (Nat.le_refl _)] at hl
  have h2 := (h.left.pre h1.1).right
  have h3 := h.right
  rw [hl, hfr] at h3
  rw [putS_len8 fr n rs hn i (by omega)] at h2
  exact ⟨_, h2, h3.pre h1.2, h1.2.length_le⟩

theorem putB_len (at_ n : Nat) (rs : List (List V)) (hn : ∀ i (h : i < rs.length), rs[i].length = n) : (putB at_ n rs).length = 8 * (n + 1) * rs.length + (putS (at_ + 8 * (n + 1) * rs.length) rs).2.length := by
  have hl := putS_len8 (at_ + 8 * (n + 1) * rs.length) n rs hn rs.length (Nat.le_refl _)
  rw [List.take_of_length_le (Nat.le_refl _)] at hl
  unfold putB
  rw [List.length_append, hl]

/-- Rows that were put are there, one by one. -/
theorem rows_read {f : Nat → UInt8} {nP at_ : Nat} {ts : List (Int × Int)} {rs : List (List V)} (h64 : ts.length ≤ 64) (hok : ∀ vs ∈ rs, ∀ v ∈ vs, v.ok) (hR : ∀ vs ∈ rs, rowOK ts vs = true)
    (h : Bys f at_ (putB at_ ts.length rs)) (hroom : at_ + (putB at_ ts.length rs).length ≤ 65536 * nP) (hnP : nP ≤ 256) {i : Nat} (hi : i < rs.length) : rowAns f nP (at_ + 8 * (ts.length + 1) * i) ts = some rs[i] := by
  have hn : ∀ i (h : i < rs.length), rs[i].length = ts.length := fun i h => (rowOK_fit (hR _ (List.getElem_mem h))).1
  rw [putB_len _ _ _ hn] at hroom
  obtain ⟨H, h1, h2, h3⟩ := putB_bys hn h hi
  have hm : 8 * (ts.length + 1) * i + 8 * (ts.length + 1) ≤ 8 * (ts.length + 1) * rs.length := by
    rw [← Nat.mul_succ]
    exact Nat.mul_le_mul_left _ hi
  exact row_read (hR _ (List.getElem_mem hi)) h64 (hok _ (List.getElem_mem hi)) h1 h2 (by omega) (by omega) hnP
end Go.Proofs.Ytagpnalhilgcpaa
