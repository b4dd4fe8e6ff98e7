/-
  mem's functions get and put: which bytes are copied out, and in, for every argument.
-/
import Derived.Test.YtagpnalhilgcpaaMemC
import Derived.Deep.QuietTactic
import Derived.BigQuiet
import Derived.Deep.RegionLaw
namespace Go.Proofs.Ytagpnalhilgcpaa
open Go.RowKit
set_option linter.unusedVariables false

def lenOf : Value → Nat | .slice _ n _ => n | _ => 0

/-- The row's cells behind k bytes copied out. -/
def Got (arr arr' : Array Value) (f : Nat → UInt8) (at_ off k : Nat) : Prop :=
  arr'.size = arr.size ∧ ∀ o, arr'[o]? = if off ≤ o ∧ o < off + k then some (bv (f (at_ + (o - off)))) else arr[o]?

theorem Got.zero {arr arr' : Array Value} {f : Nat → UInt8} {at_ off k c len : Nat} (h : Got arr arr' f at_ off k) (hk : k + c ≤ len) (hz : ∀ i, i < len → arr[off + i]? = some (bv 0)) (hf : ∀ j, j < c → f (at_ + k + j) = 0) :
    Got arr arr' f at_ off (k + c) := by
  refine ⟨h.1, fun o => ?_⟩
  rw [h.2 o]
  by_cases h1 : off ≤ o ∧ o < off + k
  · rw [if_pos h1, if_pos (by omega)]
  · rw [if_neg h1]
    by_cases h2 : off ≤ o ∧ o < off + (k + c)
    · rw [if_pos h2]
      have e1 := hz (o - off) (by omega)
      have e2 := hf (o - off - k) (by omega)
      rw [show off + (o - off) = o from by omega] at e1
      rw [show at_ + k + (o - off - k) = at_ + (o - off) from by omega] at e2
      rw [e1, e2]
    · rw [if_neg h2]

theorem Got.copy {arr arr' : Array Value} {f : Nat → UInt8} {at_ off k c : Nat} (h : Got arr arr' f at_ off k) (hfit : off + k + c ≤ arr.size) :
    Got arr (splice arr'.toList (off + k) (rowOf f (at_ + k) c)).toArray f at_ off (k + c) := by
  have hl : off + k + (rowOf f (at_ + k) c).length ≤ arr'.toList.length := by rw [rowOf_len]; simpa [h.1] using hfit
  refine ⟨by simp only [List.size_toArray]; rw [length_splice _ _ _ hl]; simpa using h.1, fun o => ?_⟩
  rw [List.getElem?_toArray, splice_get _ _ _ hl]
  simp only [rowOf_len]
  by_cases h1 : off + k ≤ o ∧ o < off + k + c
  · rw [if_pos h1, if_pos (by omega)]
    rw [rowOf_get _ _ _ (by omega)]
    rw [show at_ + k + (o - (off + k)) = at_ + (o - off) from by omega]
  · rw [if_neg h1, Array.getElem?_toList, h.2 o]
    by_cases h2 : off ≤ o ∧ o < off + k
    · rw [if_pos h2, if_pos (by omega)]
    · rw [if_neg h2, if_neg (by omega)]

theorem size_u8 : (Try.prog.info? 5).map (·.size) = some 1 := by kernel_rfl

set_option maxRecDepth 100000 in
set_option maxHeartbeats 1000000 in
theorem get_any (w : World) (b : Nat) (most : Int) (sv : Value) (ps : List (Option Nat)) (f : Nat → UInt8) (at_ g off len cap : Nat) (T : TypeId) (arr : Array Value) (h0m : IsMem w b most sv ps f) (hps : ps.length ≤ 256)
    (hat : at_ + len ≤ 65536 * ps.length) (hg : w.heap[g]? = some (.cells arr T (0, 0))) (hlc : len ≤ cap) (hfit : off + len ≤ arr.size) (hz : ∀ i, i < len → arr[off + i]? = some (bv 0)) (hgf : g ∉ foot b sv ps) :
    Calls Try.prog 38 #[.pointer (some ⟨b, 0, none⟩), .int .u64 at_, .slice (some ⟨g, off, none⟩) len cap] w fun e w' => e = .returned (.tuple #[]) ∧ Mods [g] w w' ∧
      ∃ arr', w'.heap[g]? = some (.cells arr' T (0, 0)) ∧ Got arr arr' f at_ off len := by
  have hN := neq_bs
  go_enter Try.func38, Try.ntmps38
  go_wp2_with fail
  go_loopw [1, 2] (fun t1 t2 wr => ∃ (k : Nat) (ad : Option Addr), k ≤ len ∧ t1 = .int .u64 ((at_ + k : Nat) : Int) ∧ t2 = .slice ad (len - k) (cap - k) ∧ (k < len → ad = some ⟨g, off + k, none⟩) ∧ Mods [g] w wr ∧
      ∃ arr', wr.heap[g]? = some (.cells arr' T (0, 0)) ∧ Got arr arr' f at_ off k) (fun _ t2 _ => lenOf t2)
  case atStart => exact ⟨0, _, Nat.zero_le _, rfl, rfl, fun _ => rfl, Mods.refl _ _, arr, hg, rfl, fun o => by rw [if_neg (by omega)]⟩
  case round =>
    obtain ⟨k, ad, hk, rfl, rfl, had, hm, arr', hg', hgot⟩ := hrel
    by_cases hlt : k < len
    · obtain rfl := had hlt
      clear had
      have h' := h0m.mods hm (fun x hx => by simp; exact fun e => hgf (e ▸ hx))
      have hal : at_ + k < 65536 * ps.length := by omega
      have hA2 : (at_ + k) / 65536 < ps.length := by omega
      obtain ⟨x, hx⟩ : ∃ x, ps[(at_ + k) / 65536]? = some x := ⟨_, List.getElem?_eq_getElem hA2⟩
      have ha64 : at_ + k < 18446744073709551616 := by omega
      generalize hak : at_ + k = a at *
      have HA := Lib.hid hak
      have HG := Lib.hid hgot
      have HX := Lib.hid hx
      clear hak hgot hx
      go_wp2_with fail
      · obtain ⟨c, hc, c1, c2, c3⟩ : ∃ c : Nat, 65536 - (a : Int) % 65536 = (c : Int) ∧ 0 < c ∧ c ≤ len - k ∧ a % 65536 + c ≤ 65536 := ⟨65536 - a % 65536, by omega, by omega, by omega, by omega⟩
        have c4 : c ≤ cap - k := by omega
        have c5 : a % 65536 ≤ 65536 := by omega
        have c6 : ¬ (65536 = a % 65536) := by omega
        rw [hc]
        clear hc
        refine (page_read _ b most sv ps f a x h' HX.out ha64).mono ?_
        rintro e w1 ⟨rfl, rfl⟩
        cases x with
        | none =>
          simp only [pv]
          go_wp2_with fail
          go_quiet (fail)
          go_wp2_with fail
          refine ⟨⟨k + c, _, by omega, congrArg _ (by have := HA.out; omega), by rw [Nat.sub_sub, Nat.sub_sub], fun hl => by first | (rw [if_neg (by omega), Nat.add_assoc]; done) | rw [Nat.add_assoc], hm.drewN _, arr', hg', ?_⟩, by simp only [lenOf]; omega⟩
          refine HG.out.zero (by omega) hz fun j hj => ?_
          have e := h0m.zero _ (a % 65536 + j) HX.out (by omega)
          have ea := HA.out
          rwa [show 65536 * (a / 65536) + (a % 65536 + j) = at_ + k + j from by omega] at e
        | some pg =>
          obtain ⟨parr, q1, q2, q3⟩ := h'.page _ _ HX.out
          simp only [pv]
          have d1 : (0 : Int) ≤ (a : Int) % 65536 := by omega
          have d2 : (a : Int) % 65536 ≤ 65536 := by omega
          have d3 : ((a : Int) % 65536).toNat = a % 65536 := by omega
          go_wp2_with fail
          have r1 : (rowOf f (at_ + k) c).length = Nat.min (65536 - a % 65536) c := by rw [rowOf_len]; exact (Nat.min_eq_right (by omega)).symm
          have r2 : ∀ j v, (rowOf f (at_ + k) c)[j]? = some v → wr.drew.cell? ((⟨pg, a % 65536, none⟩ : Addr).add j) = some v := by
            intro j v hv
            obtain ⟨hj, rfl⟩ := rowOf_some hv
            rw [addr_add]
            show wr.cell? _ = _
            rw [cell_of_heap q1, q3 _ (by omega)]
            have ea := HA.out
            exact congrArg some (congrArg bv (congrArg f (by omega)))
          have r3 : off + k + (rowOf f (at_ + k) c).length ≤ arr'.size := by rw [rowOf_len, HG.out.1]; omega
          have R := Lib.hid (And.intro r1 (And.intro r2 r3))
          clear r1 r2 r3
          go_region_law (refine step_cp rfl (.tmp 27) (.tmp 30) 47 47 rfl 5 Try.underlying47 size_u8 g (off + k) c (cap - k) ⟨pg, a % 65536, none⟩ (65536 - a % 65536) (65536 - a % 65536) (by kernel_rfl) (by kernel_rfl) arr' T hg' (rowOf f (at_ + k) c) R.out.1 R.out.2.1 R.out.2.2 (rowOf_one _ _ _) ?_)
          go_wp2_with fail
          go_quiet (fail)
          go_wp2_with fail
          refine ⟨⟨k + c, _, by omega, congrArg _ (by have := HA.out; omega), by rw [Nat.sub_sub, Nat.sub_sub], fun hl => by first | (rw [if_neg (by omega), Nat.add_assoc]; done) | rw [Nat.add_assoc], (hm.drew.setRow (.inl (by simp)) _).drewN _, _, setRow_heap _ _ _ _ _ _ hg', HG.out.copy (by omega)⟩, by simp only [lenOf]; omega⟩
      · obtain ⟨c, hc, c1, c2, c3⟩ : ∃ c : Nat, ((len - k : Nat) : Int) = (c : Int) ∧ 0 < c ∧ c ≤ len - k ∧ a % 65536 + c ≤ 65536 := ⟨len - k, rfl, by omega, by omega, by omega⟩
        have c4 : c ≤ cap - k := by omega
        have c5 : a % 65536 ≤ 65536 := by omega
        have c6 : ¬ (65536 = a % 65536) := by omega
        rw [hc]
        clear hc
        refine (page_read _ b most sv ps f a x h' HX.out ha64).mono ?_
        rintro e w1 ⟨rfl, rfl⟩
        cases x with
        | none =>
          simp only [pv]
          go_wp2_with fail
          go_quiet (fail)
          go_wp2_with fail
          refine ⟨⟨k + c, _, by omega, congrArg _ (by have := HA.out; omega), by rw [Nat.sub_sub, Nat.sub_sub], fun hl => by first | (rw [if_neg (by omega), Nat.add_assoc]; done) | rw [Nat.add_assoc], hm.drewN _, arr', hg', ?_⟩, by simp only [lenOf]; omega⟩
          refine HG.out.zero (by omega) hz fun j hj => ?_
          have e := h0m.zero _ (a % 65536 + j) HX.out (by omega)
          have ea := HA.out
          rwa [show 65536 * (a / 65536) + (a % 65536 + j) = at_ + k + j from by omega] at e
        | some pg =>
          obtain ⟨parr, q1, q2, q3⟩ := h'.page _ _ HX.out
          simp only [pv]
          have d1 : (0 : Int) ≤ (a : Int) % 65536 := by omega
          have d2 : (a : Int) % 65536 ≤ 65536 := by omega
          have d3 : ((a : Int) % 65536).toNat = a % 65536 := by omega
          go_wp2_with fail
          have r1 : (rowOf f (at_ + k) c).length = Nat.min (65536 - a % 65536) c := by rw [rowOf_len]; exact (Nat.min_eq_right (by omega)).symm
          have r2 : ∀ j v, (rowOf f (at_ + k) c)[j]? = some v → wr.drew.cell? ((⟨pg, a % 65536, none⟩ : Addr).add j) = some v := by
            intro j v hv
            obtain ⟨hj, rfl⟩ := rowOf_some hv
            rw [addr_add]
            show wr.cell? _ = _
            rw [cell_of_heap q1, q3 _ (by omega)]
            have ea := HA.out
            exact congrArg some (congrArg bv (congrArg f (by omega)))
          have r3 : off + k + (rowOf f (at_ + k) c).length ≤ arr'.size := by rw [rowOf_len, HG.out.1]; omega
          have R := Lib.hid (And.intro r1 (And.intro r2 r3))
          clear r1 r2 r3
          go_region_law (refine step_cp rfl (.tmp 27) (.tmp 30) 47 47 rfl 5 Try.underlying47 size_u8 g (off + k) c (cap - k) ⟨pg, a % 65536, none⟩ (65536 - a % 65536) (65536 - a % 65536) (by kernel_rfl) (by kernel_rfl) arr' T hg' (rowOf f (at_ + k) c) R.out.1 R.out.2.1 R.out.2.2 (rowOf_one _ _ _) ?_)
          go_wp2_with fail
          go_quiet (fail)
          go_wp2_with fail
          refine ⟨⟨k + c, _, by omega, congrArg _ (by have := HA.out; omega), by rw [Nat.sub_sub, Nat.sub_sub], fun hl => by first | (rw [if_neg (by omega), Nat.add_assoc]; done) | rw [Nat.add_assoc], (hm.drew.setRow (.inl (by simp)) _).drewN _, _, setRow_heap _ _ _ _ _ _ hg', HG.out.copy (by omega)⟩, by simp only [lenOf]; omega⟩
    · obtain rfl : k = len := by omega
      go_wp2_with fail
      go_end0
      exact ⟨rfl, hm, arr', hg', hgot⟩
/-- What 'put' leaves. -/
def PutPost (w : World) (b : Nat) (most : Int) (sv : Value) (ps : List (Option Nat)) (f : Nat → UInt8) (w' : World) : Prop :=
  Mods (foot b sv ps) w w' ∧ ∃ ps', IsMem w' b most sv ps' f ∧ ps'.length = ps.length ∧ ∀ x ∈ foot b sv ps', x ∈ foot b sv ps ∨ w.heap.size ≤ x

set_option maxRecDepth 100000 in
set_option maxHeartbeats 1000000 in
theorem put_any (w : World) (b : Nat) (most : Int) (sv : Value) (ps : List (Option Nat)) (f s : Nat → UInt8) (at_ g off len cap : Nat) (h0m : IsMem w b most sv ps f) (hps : ps.length ≤ 256)
    (hat : at_ + len ≤ 65536 * ps.length) (hlc : len ≤ cap) (hs : ∀ i, i < len → w.cell? ⟨g, off + i, none⟩ = some (bv (s i))) (hgf : g ∉ foot b sv ps) (hgw : g < w.heap.size) (hlen : len ≤ 16777216) :
    Calls Try.prog 39 #[.pointer (some ⟨b, 0, none⟩), .int .u64 at_, .slice (some ⟨g, off, none⟩) len cap] w fun e w' => e = .returned (.tuple #[]) ∧ PutPost w b most sv ps (putF f at_ len s) w' := by
  go_enter Try.func39, Try.ntmps39
  go_wp2_with fail
  go_loopw [1, 2] (fun t1 t2 wr => ∃ (k : Nat) (ad : Option Addr), k ≤ len ∧ t1 = .int .u64 ((at_ + k : Nat) : Int) ∧ t2 = .slice ad (len - k) (cap - k) ∧ (k < len → ad = some ⟨g, off + k, none⟩) ∧ PutPost w b most sv ps (putF f at_ k s) wr) (fun _ t2 _ => lenOf t2)
  case atStart => exact ⟨0, _, Nat.zero_le _, rfl, rfl, fun _ => rfl, Mods.refl _ _, ps, by rw [putF_zero]; exact h0m, rfl, fun x hx => .inl hx⟩
  case round =>
    obtain ⟨k, ad, hk, rfl, rfl, had, hpost⟩ := hrel
    by_cases hlt : k < len
    · obtain rfl := had hlt
      clear had
      obtain ⟨hm, ps1, hmem, hl1, hf1⟩ := hpost
      have hal : at_ + k < 65536 * ps.length := by omega
      have hA2 : (at_ + k) / 65536 < ps1.length := by omega
      have ha64 : at_ + k < 18446744073709551616 := by omega
      generalize hak : at_ + k = a at *
      have HA := Lib.hid (And.intro hak hl1)
      clear hak hl1
      go_wp2_with fail
      refine (page_write _ b most sv ps1 (putF f at_ k s) a hmem hA2 ha64).mono ?_
      rintro e w1 ⟨pg, ps2, rfl, hmem2, hpg, hl2, hm2, hf2⟩
      have HL := Lib.hid (And.intro hpg hl2)
      clear hpg hl2
      obtain ⟨arr, q1, q2, q3⟩ := hmem2.page _ _ HL.out.1
      have HR := Lib.hid (And.intro q2 q3)
      clear q2 q3
      obtain ⟨c, c0, c1, c2, c3, c4⟩ : ∃ c : Nat, c = Nat.min (len - k) (65536 - a % 65536) ∧ 0 < c ∧ c ≤ len - k ∧ c ≤ 65536 - a % 65536 ∧ a % 65536 + c ≤ 65536 := by
        refine ⟨_, rfl, ?_, Nat.min_le_left _ _, Nat.min_le_right _ _, ?_⟩
        · rw [Nat.lt_min]; omega
        · have := Nat.min_le_right (len - k) (65536 - a % 65536)
          show a % 65536 + min (len - k) (65536 - a % 65536) ≤ 65536
          omega
      have d1 : (0 : Int) ≤ (a : Int) % 65536 := by omega
      have d2 : (a : Int) % 65536 ≤ 65536 := by omega
      have d3 : ((a : Int) % 65536).toNat = a % 65536 := by omega
      have d6 : ¬ (65536 = a % 65536) := by omega
      have c6 : c ≤ cap - k := by omega
      have c7 : (c : Int) ≤ 16777216 := by omega
      have r1 : (rowOf s k c).length = Nat.min (len - k) (65536 - a % 65536) := by rw [rowOf_len]; exact c0
      have r2 : ∀ j v, (rowOf s k c)[j]? = some v → w1.cell? ((⟨g, off + k, none⟩ : Addr).add j) = some v := by
        intro j v hv
        obtain ⟨hj, rfl⟩ := rowOf_some hv
        rw [addr_add, Nat.add_assoc]
        refine hm2.cell (hm.cell (hs (k + j) (by omega)) hgf) (fun hc => ?_)
        rcases hf1 g hc with h1 | h1
        · exact hgf h1
        · omega
      have r3 : a % 65536 + (rowOf s k c).length ≤ arr.size := by rw [rowOf_len, HR.out.1]; omega
      have R := Lib.hid (And.intro r1 (And.intro r2 r3))
      have hrl := rowOf_len s k c
      clear r1 r2 r3 c0
      go_wp2_with (refine wpList_cp rfl (.tmp 15) (.tmp 16) 47 47 rfl 5 Try.underlying47 size_u8 pg (a % 65536) (65536 - a % 65536) (65536 - a % 65536) ⟨g, off + k, none⟩ (len - k) (cap - k) rfl rfl arr 5 q1 (rowOf s k c) R.out.1 R.out.2.1 R.out.2.2 (rowOf_one _ _ _) ?_)
      go_quiet (fail)
      go_wp2_with fail
      have hak := HA.out.1
      have hpf : pg ∈ foot b sv ps ∨ w.heap.size ≤ pg := by
        have hsz := hm.size
        rcases hf2 pg (mem_foot_page HL.out.1) with h1 | h1
        · exact hf1 pg h1
        · exact .inr (by omega)
      have W := hmem2.write HL.out.1 q1 HR.out.1 HR.out.2 s (a % 65536) k c c4
      have ea : 65536 * (a / 65536) + a % 65536 = at_ + k := by omega
      simp only [ea, putF_step] at W
      refine ⟨⟨k + c, _, by omega, congrArg _ (by omega), by rw [Nat.sub_sub, Nat.sub_sub], fun hl => by first | (rw [if_neg (by omega), Nat.add_assoc]; done) | rw [Nat.add_assoc],
        ((hm.trans hm2 hf1).setRow hpf _).drewN _, ps2, W.mods ((Mods.refl [] _).drewN _) (by simp), ?_, fun x hx => ?_⟩, by simp only [lenOf]; omega⟩
      · have := HL.out.2; have := HA.out.2; omega
      · have hsz := hm.size
        rcases hf2 x hx with h1 | h1
        · exact hf1 x h1
        · exact .inr (by omega)
    · obtain rfl : k = len := by omega
      go_wp2_with fail
      go_end0
      exact ⟨rfl, hpost⟩

end Go.Proofs.Ytagpnalhilgcpaa
