/-
  lex.keys, walked: the map of the words; what the calls read of Go's own variables. No condition but that these variables hold what their initialisers lay.
-/
import Derived.Test.YtpokbepenacnpaaGreatDoorMLy
import Derived.Test.YtpokbepenacnpaaGreatDoorShelf
import Derived.Lib.SmallJoins
import Derived.Deep.QuietTactic
import Derived.BigQuiet
import Derived.IntWalk
import Derived.Handy
namespace Go.Proofs.YtpokbepenacnpaaGreatDoor
open Go.RowKit
set_option linter.unusedVariables false

/-- What the calls read of Go's own variables. -/
def Tabs (w : World) : Prop := Lib.TabIs Tryz.prog w "strings.asciiSpace" .u8 Lib.asciiSpaceTab ∧ ∃ ev, w.cell? ⟨12, 0, none⟩ = some ev ∧ (ev = .nilIface ∨ ∃ te pe, ev = .iface te pe)

theorem Tabs.mods {w w' : World} (h : Tabs w) (hM : Mods [] w w') : Tabs w' := by
  obtain ⟨h1, ev, h2, h3⟩ := h
  exact ⟨Joins.tab_stays (g := 1) (by kernel_rfl) h1 (hM.below _ (Nat.le_refl _) (by simp)) (Nat.le_refl _), ev, hM.cell h2 (by simp), h3⟩

def kwText : ByteArray := ⟨#[65, 78, 68, 32, 65, 83, 32, 65, 83, 67, 32, 66, 89, 32, 67, 79, 85, 78, 84, 32, 68, 69, 83, 67, 32, 70, 65, 76, 83, 69, 32, 70, 82, 79, 77, 32, 71, 82, 79, 85, 80, 32, 73, 83, 32, 74, 79, 73, 78, 32, 76, 73, 77, 73, 84, 32, 77, 65, 88, 32, 77, 73, 78, 32, 78, 79, 84, 32, 78, 85, 76, 76, 32, 79, 70, 70, 83, 69, 84, 32, 79, 78, 32, 79, 82, 32, 79, 82, 68, 69, 82, 32, 83, 69, 76, 69, 67, 84, 32, 83, 85, 77, 32, 84, 82, 85, 69, 32, 87, 72, 69, 82, 69]⟩
theorem kw_fields : Lib.fields kwText.data.toList = keyWords := by kernel_rfl
theorem kw_ascii : ∀ (j : Nat) b, kwText.data.toList[j]? = some b → b.toNat < 128 := by
  have h : (kwText.data.toList.all fun b => decide (b.toNat < 128)) = true := by kernel_rfl
  intro j b hb
  simpa using List.all_eq_true.1 h b (List.mem_of_getElem? hb)
theorem kw_new (k : Nat) (hk : k < 24) : keyWords[k]'(by exact hk) ∉ keyWords.take k := by
  have h : ((List.range 24).all fun k => !((keyWords.take k).contains (keyWords.getD k []))) = true := by kernel_rfl
  have := List.all_eq_true.1 h k (List.mem_range.2 hk)
  rw [show keyWords.getD k [] = keyWords[k]'(by exact hk) by rw [List.getD, List.getElem?_eq_getElem (by exact hk)]; rfl] at this
  simpa using this

/-- The cells of the words. -/
def kwCells : Array Value := (keyWords.map fun l => Value.string ⟨l.toArray⟩).toArray

set_option maxRecDepth 100000 in
set_option maxHeartbeats 1000000 in
theorem keys_any (w : World) (hT : Tabs w) :
    Calls Tryz.prog 55 #[] w fun e w' => ∃ mb, e = .returned (.map (some mb)) ∧ KeyMap w' mb ∧ w.heap.size ≤ mb ∧ Mods [] w w' := by
  have hM1 := (Mods.refl [] w).alloc (.map #[] 0)
  have hF := Tryz.strings_Fields kwText (w.alloc (.map #[] 0)) (by decide) kw_ascii (hT.mods hM1).1
  rw [kw_fields] at hF
  have hb0 := heap_alloc_new w (.map #[] 0)
  have hMA := hM1.alloc (.cells kwCells 9)
  have hb1 : ((w.alloc (.map #[] 0)).alloc (.cells kwCells 9)).heap[w.heap.size]? = some (.map #[] 0) := (Mods.refl [] _).alloc (.cells kwCells 9) |>.heap hb0 (by simp)
  have hg1 := heap_alloc_new (w.alloc (.map #[] 0)) (.cells kwCells 9)
  change Calls _ _ _ _ (fun e w' => e = .returned (.slice (some ⟨(w.alloc (.map #[] 0)).heap.size, 0, none⟩) 24 24) ∧ w' = (w.alloc (.map #[] 0)).alloc (.cells kwCells 9)) at hF
  rw [size_alloc] at hg1 hF
  clear hT hM1 hb0
  have hmm : (Instr.makeMap 147 none).run Tryz.prog w = .ok (.map (some w.heap.size)) (w.alloc (.map #[] 0)) := by rfl
  go_enter Tryz.func55, Tryz.ntmps55
  go_wp2_with fail
  refine hF.mono ?_
  rintro e w2 ⟨rfl, rfl⟩
  clear hF
  go_wp2_with fail
  generalize (w.alloc (.map #[] 0)).alloc (.cells kwCells 9) = w2 at *
  generalize hmb : w.heap.size = mb at *
  have HMB := Lib.hid hmb
  clear hmb
  go_loopw [7] (fun t7 wr => ∃ k : Nat, k ≤ 24 ∧ t7 = .int .i64 k ∧ Mods [] w wr ∧ wr.heap[mb]? = some (.map (entriesOf (keyWords.take k)) k) ∧ wr.heap[mb + 1]? = some (.cells kwCells 9 (0, 0))) (fun t7 _ => 24 - (intOf t7).toNat)
  case atStart => exact ⟨0, by omega, rfl, hMA, hb1, hg1⟩
  case round =>
    clear hMA hb1 hg1
    obtain ⟨k, hk, rfl, hM, hb, hg⟩ := hrel
    by_cases hk24 : k < 24
    · have hw : kwCells[k]? = some (.string ⟨(keyWords[k]'(by exact hk24)).toArray⟩) := by
        show ((keyWords.map fun l => Value.string ⟨l.toArray⟩).toArray)[k]? = _
        rw [List.getElem?_toArray, List.getElem?_map, List.getElem?_eq_getElem (by exact hk24)]; rfl
      have hc := (cell_of_heap hg k).trans hw
      have hnew := find_new (keyWords.take k) ⟨(keyWords[k]'(by exact hk24)).toArray⟩ (kw_new k hk24)
      have hup := run_update_at (P := Tryz.prog) 147 9 205 .string Tryz.underlying147 Tryz.underlying9 wr mb _ k hb (.string ⟨(keyWords[k]'(by exact hk24)).toArray⟩) (.agg #[]) trivial hnew
      have e1 : (entriesOf (keyWords.take k)).push { key := .string ⟨(keyWords[k]'(by exact hk24)).toArray⟩, val := .agg #[], born := k } = entriesOf (keyWords.take (k + 1)) := by
        have := entries_snoc (keyWords.take k) (keyWords[k]'(by exact hk24))
        rw [List.length_take, Nat.min_eq_left (show k ≤ keyWords.length from Nat.le_of_lt hk24)] at this
        rw [this, List.take_succ_eq_append_getElem (by exact hk24)]
      rw [e1] at hup
      have HB := Lib.hid (setHeap_same (o' := .map (entriesOf (keyWords.take (k + 1))) (k + 1)) hb)
      have HG := Lib.hid ((((Mods.refl [mb] wr).setHeap (r := mb) (.inl (by simp)) (.map (entriesOf (keyWords.take (k + 1))) (k + 1)))).heap hg (by simp))
      have HM := Lib.hid (hM.setHeap (r := mb) (.inr (by rw [HMB.out]; exact Nat.le_refl _)) (.map (entriesOf (keyWords.take (k + 1))) (k + 1)))
      clear hw hnew hb hg hM e1
      go_wp2_with fail
      go_roundw
      case measure => simp [intOf]; omega
      case rel => exact ⟨k + 1, by omega, by go_num, HM.out, HB.out, HG.out⟩
    · obtain rfl : k = 24 := by omega
      have hk : KeyMap wr mb := ⟨24, hb⟩
      clear hb hg
      go_wp2_with fail
      go_ret
      exact ⟨mb, rfl, hk, by rw [HMB.out]; exact Nat.le_refl _, hM⟩
end Go.Proofs.YtpokbepenacnpaaGreatDoor

namespace Go.Proofs.YtpokbepenacnpaaGreatDoor
open Go.RowKit
set_option linter.unusedVariables false

/-- A scanner over a text, in a block. -/
structure Scan (w : World) (b : Nat) (s : ByteArray) : Prop where
  row : ∃ arr T mb, w.heap[b]? = some (.cells arr T (0, 0)) ∧ arr[0]? = some (.string s) ∧ (∀ j, j < 256 → arr[1 + j]? = some (.int .u8 (kindB j : Int))) ∧ arr[257]? = some (.map (some mb)) ∧ KeyMap w mb

theorem Scan.mods {w w' : World} {b : Nat} {s : ByteArray} (h : Scan w b s) (hM : Mods [] w w') : Scan w' b s := by
  obtain ⟨arr, T, mb, h1, h2, h3, h4, h5⟩ := h.row
  exact ⟨arr, T, mb, hM.heap h1 (by simp), h2, h3, h4, h5.mods hM (by simp)⟩
theorem Scan.text {w : World} {b : Nat} {s : ByteArray} (h : Scan w b s) : w.cell? ⟨b, 0, none⟩ = some (.string s) := by
  obtain ⟨arr, T, mb, h1, h2, -⟩ := h.row
  rw [cell_of_heap h1]; exact h2
theorem Scan.kind {w : World} {b : Nat} {s : ByteArray} (h : Scan w b s) (j : Nat) (hj : j < 256) : w.cell? ⟨b, 1 + j, none⟩ = some (.int .u8 (kindB j : Int)) := by
  obtain ⟨arr, T, mb, h1, h2, h3, -⟩ := h.row
  rw [cell_of_heap h1]; exact h3 j hj
theorem Scan.keys {w : World} {b : Nat} {s : ByteArray} (h : Scan w b s) : ∃ mb, w.cell? ⟨b, 257, none⟩ = some (.map (some mb)) ∧ KeyMap w mb := by
  obtain ⟨arr, T, mb, h1, h2, h3, h4, h5⟩ := h.row
  exact ⟨mb, by rw [cell_of_heap h1]; exact h4, h5⟩

theorem tw_len {α : Type} (p : α → Bool) : ∀ (l : List α) (k : Nat), (∀ j, j < k → ∃ x, l[j]? = some x ∧ p x = true) → (l[k]? = none ∨ ∃ x, l[k]? = some x ∧ p x = false) → (l.takeWhile p).length = k
  | [], 0, _, _ => rfl
  | [], k + 1, h, _ => by obtain ⟨x, hx, -⟩ := h 0 (by omega); simp at hx
  | a :: l, 0, _, h => by
    rcases h with h | ⟨x, hx, hp⟩
    · simp at h
    · simp at hx; subst hx; simp [hp]
  | a :: l, k + 1, h, h2 => by
    obtain ⟨x, hx, hp⟩ := h 0 (by omega)
    simp at hx; subst hx
    rw [List.takeWhile_cons, if_pos hp, List.length_cons, tw_len p l k (fun j hj => by simpa using h (j + 1) (by omega)) (by simpa using h2)]

/-- How many bytes of some kinds stand from a place on. -/
def runL (p : UInt8 → Bool) (s : ByteArray) (at_ : Nat) : Nat := ((s.data.toList.drop at_).takeWhile p).length
theorem runL_le (p : UInt8 → Bool) (s : ByteArray) (at_ : Nat) (h : at_ ≤ s.size) : at_ + runL p s at_ ≤ s.size := by
  have h1 := len_takeWhile_le p (s.data.toList.drop at_)
  have h2 : (s.data.toList.drop at_).length = s.size - at_ := by rw [List.length_drop]; rfl
  unfold runL; omega

/-- A mask and the bytes that it is of. -/
def Mask (m : Nat) (p : UInt8 → Bool) : Prop := m < 256 ∧ ∀ c : UInt8, (p c = true → ¬ bits .and .u8 (kindB c.toNat : Int) (m : Int) = 0) ∧ (p c = false → bits .and .u8 (kindB c.toNat : Int) (m : Int) = 0)

theorem kind_let (c : UInt8) : (isLet c = true ∧ kindB c.toNat = 2) ∨ (isLet c = false ∧ isDig c = true ∧ kindB c.toNat = 4) ∨ (isLet c = false ∧ isDig c = false ∧ isBl c = true ∧ kindB c.toNat = 1) ∨ (isLet c = false ∧ isDig c = false ∧ isBl c = false ∧ kindB c.toNat = 0) := by
  simp only [isLet, isDig, isBl, kindB]
  generalize c.toNat = n
  by_cases h1 : (97 ≤ n ∧ n ≤ 122) ∨ (65 ≤ n ∧ n ≤ 90) ∨ n = 95
  · left
    rw [if_pos h1]
    simp; omega
  · right
    rw [if_neg h1]
    by_cases h2 : 48 ≤ n ∧ n ≤ 57
    · left
      rw [if_pos h2]
      simp; omega
    · right
      rw [if_neg h2]
      by_cases h3 : n = 32 ∨ n = 9 ∨ n = 10 ∨ n = 13
      · left; rw [if_pos h3]; simp; omega
      · right; rw [if_neg h3]; simp; omega
theorem bl_not {c : UInt8} (h : isLet c = true ∨ isDig c = true) : isBl c = false := by
  rcases h with h | h
  · exact let_bl h
  · exact (dig_let h).2
theorem mask_LD : Mask 6 isLD := by
  refine ⟨by decide, fun c => ?_⟩
  rcases kind_let c with ⟨h1, h2⟩ | ⟨h1, h2, h3⟩ | ⟨h1, h2, h3, h4⟩ | ⟨h1, h2, h3, h4⟩ <;> simp only [isLD, Bool.true_or, Bool.false_or, Bool.or_false, *] <;> decide
theorem mask_dig : Mask 4 isDig := by
  refine ⟨by decide, fun c => ?_⟩
  rcases kind_let c with ⟨h1, h2⟩ | ⟨h1, h2, h3⟩ | ⟨h1, h2, h3, h4⟩ | ⟨h1, h2, h3, h4⟩
  · have : isDig c = false := by
      cases hd : isDig c with
      | false => rfl
      | true => rw [(dig_let hd).1] at h1; cases h1
    simp only [*]; decide
  all_goals simp only [*]; decide
theorem mask_let : Mask 2 isLet := by
  refine ⟨by decide, fun c => ?_⟩
  rcases kind_let c with ⟨h1, h2⟩ | ⟨h1, h2, h3⟩ | ⟨h1, h2, h3, h4⟩ | ⟨h1, h2, h3, h4⟩ <;> simp only [*] <;> decide
theorem mask_bl : Mask 1 isBl := by
  refine ⟨by decide, fun c => ?_⟩
  rcases kind_let c with ⟨h1, h2⟩ | ⟨h1, h2, h3⟩ | ⟨h1, h2, h3, h4⟩ | ⟨h1, h2, h3, h4⟩
  · have := bl_not (.inl h1); simp only [*]; decide
  · have := bl_not (.inr h2); simp only [*]; decide
  all_goals simp only [*]; decide

theorem s_at (s : ByteArray) (k : Nat) (h : k < s.size) : s.data.toList[k]? = some s[k] := Lib.data_getElem? s k h

set_option maxRecDepth 100000 in
set_option maxHeartbeats 1000000 in
theorem run_any (w : World) (b : Nat) (s : ByteArray) (hS : Scan w b s) (hs : s.size ≤ 9223372036854775807) (at_ : Nat) (hat : at_ ≤ s.size) (m : Nat) (p : UInt8 → Bool) (hm : Mask m p) :
    Calls Tryz.prog 56 #[.pointer (some ⟨b, 0, none⟩), .int .i64 at_, .int .u8 m] w fun e w' => e = .returned (.int .i64 (runL p s at_)) ∧ Mods [] w w' := by
  have HM := Lib.hid hm
  have HS := Lib.hid hS
  clear hm hS
  go_enter Tryz.func56, Tryz.ntmps56
  go_wp2_with fail
  go_loopw [7] (fun t7 wr => ∃ k : Nat, at_ + k ≤ s.size ∧ t7 = .int .i64 k ∧ Mods [] w wr ∧ Hid (∀ j, j < k → ∃ x, s.data.toList[at_ + j]? = some x ∧ p x = true)) (fun t7 _ => s.size - (intOf t7).toNat)
  case atStart => exact ⟨0, by omega, rfl, Mods.refl _ _, Lib.hid (fun j hj => by omega)⟩
  case round =>
    obtain ⟨k, hk, rfl, hM, hP⟩ := hrel
    have hSr := HS.out.mods hM
    have c0 := hSr.text
    have e1 : IntKind.i64.wrap ((at_ : Int) + (k : Int)) = (at_ : Int) + (k : Int) := IntWalk.i64_in _ (by omega)
    by_cases hlt : at_ + k < s.size
    · have e2 : (0 : Int) ≤ (at_ : Int) + (k : Int) := by omega
      have e3 : ((at_ : Int) + (k : Int)).toNat = at_ + k := by omega
      have hd : decide ((at_ : Int) + (k : Int) < (s.size : Int)) = true := by simp; omega
      have hx := s_at s (at_ + k) hlt
      obtain ⟨x, hx'⟩ : ∃ x, s[at_ + k] = x := ⟨_, rfl⟩
      rw [hx'] at hx
      have hx256 := UInt8.toNat_lt x
      have hkd := hSr.kind x.toNat (by omega)
      have hxz : (x.toNat : Int) < 256 := by omega
      have HX := Lib.hid hx
      cases hpx : p x with
      | true =>
        have hbit : (bits .and .u8 (kindB x.toNat : Int) (m : Int) != 0) = true := by rw [bne_iff_ne]; exact (HM.out.2 x).1 hpx
        have HPX := Lib.hid hpx
        clear hx hpx
        go_wp2_with fail
        go_quiet (fail)
        have hMy := hM.drewN nq
        generalize wr.drewN nq = wy at *
        clear e1 e2 e3
        go_wp2_with fail
        go_roundw
        case measure => simp [intOf]; omega
        case rel =>
          refine ⟨k + 1, by omega, by go_num, hMy, Lib.hid (fun j hj => ?_)⟩
          by_cases hjk : j = k
          · subst hjk; exact ⟨x, HX.out, HPX.out⟩
          · exact hP.out j (by omega)
      | false =>
        have hbit : (bits .and .u8 (kindB x.toNat : Int) (m : Int) != 0) = false := by rw [bne_eq_false_iff_eq]; exact (HM.out.2 x).2 hpx
        have fin : runL p s at_ = k := tw_len p _ k (fun j hj => by rw [List.getElem?_drop]; exact hP.out j hj) (.inr ⟨x, by rw [List.getElem?_drop]; exact HX.out, hpx⟩)
        have FIN := Lib.hid fin
        clear hx hpx fin
        go_wp2_with fail
        go_quiet (fail)
        have hMy := hM.drewN nq
        generalize wr.drewN nq = wy at *
        clear e1 e2 e3
        go_wp2_with fail
        go_ret
        exact ⟨ret_int (congrArg Int.ofNat FIN.out.symm), hMy⟩
    · have hd : decide ((at_ : Int) + (k : Int) < (s.size : Int)) = false := by simp; omega
      have fin : runL p s at_ = k := tw_len p _ k (fun j hj => by rw [List.getElem?_drop]; exact hP.out j hj) (.inl (by rw [List.getElem?_drop, List.getElem?_eq_none]; show s.size ≤ _; omega))
      have FIN := Lib.hid fin
      clear fin
      go_wp2_with fail
      go_quiet (fail)
      have hMy := hM.drewN nq
      generalize wr.drewN nq = wy at *
      clear e1
      go_wp2_with fail
      go_ret
      exact ⟨ret_int (congrArg Int.ofNat FIN.out.symm), hMy⟩
end Go.Proofs.YtpokbepenacnpaaGreatDoor

namespace Go.Proofs.YtpokbepenacnpaaGreatDoor
open Go.RowKit
set_option linter.unusedVariables false

/-- The cells of a token. -/
abbrev tokCells (kind at_ : Int) (s : ByteArray) (n scale : Int) : Array Value := #[.int .i64 kind, .int .i64 at_, .string s, .int .i64 n, .int .i64 scale]
theorem tok_one (k a : Int) (s : ByteArray) (n c : Int) : (tokCells k a s n c).all (·.oneCell') = true := by simp [Value.oneCell']
/-- A token and how many bytes it takes, handed back. -/
def tokV (o : Option (TokC × Nat)) (at_ : Nat) : Value :=
  match o with
  | none => .tuple #[.agg (tokCells 0 0 ⟨#[]⟩ 0 0), .int .i64 0]
  | some (t, n) => .tuple #[.agg (tokCells t.kind at_ ⟨t.s.toArray⟩ t.n t.scale), .int .i64 n]

def TokPost (w : World) (o : Option (TokC × Nat)) (at_ : Nat) (e : Ending) (w' : World) : Prop := e = .returned (tokV o at_) ∧ Mods [] w w'

theorem results_cell_two {P : Program} {fn : Func} {p q : Tmp} {ty : TypeId} (h : fn.results = #[.cell p ty, .tmp q]) (tmps : Array Value) (w : World) (g : Nat) (t : TypeId) (cs : Array Value) (fr : Nat × Nat) (d : TypeDesc)
    (hp : tmps.getD p undef = .pointer (some ⟨g, 0, none⟩)) (hg : w.heap[g]? = some (.cells cs t fr))
    (hu : P.underlying ty = some d) (hd : (match d with | .struct _ | .array _ _ => true | _ => false) = true) (hi : (P.info? ty).map (·.size) = some cs.size) (v : Value) (hq : tmps.getD q undef = v) :
    (results fn tmps).run P w = .ok (.tuple #[.agg cs, v]) w := by
  have hp' : tmps[p]?.getD undef = .pointer (some ⟨g, 0, none⟩) := by simpa using hp
  have hq' : tmps[q]?.getD undef = v := by simpa using hq
  simp [results, h, hp', hq', asAddr, run_loadVar_row w g t ty cs fr d hg hu hd hi]

theorem ext_list (s : ByteArray) (a n : Nat) : (s.extract a (a + n)).data.toList = (s.data.toList.drop a).take n := by
  rw [Lib.extract_data, Nat.add_sub_cancel_left]
theorem take_tw {α : Type} (p : α → Bool) (l : List α) : l.take (l.takeWhile p).length = l.takeWhile p := by
  induction l with
  | nil => rfl
  | cons a l ih => rw [List.takeWhile_cons]; split <;> simp_all
theorem bytes_eq {a b : ByteArray} (h : a.data.toList = b.data.toList) : a = b := by
  obtain ⟨⟨x⟩⟩ := a; obtain ⟨⟨y⟩⟩ := b
  simp at h; rw [h]
theorem bytes_of {a : ByteArray} {l : List UInt8} (h : a.data.toList = l) : a = ⟨l.toArray⟩ := bytes_eq (by simpa using h)

set_option maxRecDepth 100000 in
set_option maxHeartbeats 1000000 in
theorem word_any (w : World) (b : Nat) (s : ByteArray) (hS : Scan w b s) (hs : s.size ≤ 4096) (at_ : Nat) (hat : at_ ≤ s.size) :
    Calls Tryz.prog 112 #[.pointer (some ⟨b, 0, none⟩), .int .i64 at_] w (TokPost w (wordL (s.data.toList.drop at_)) at_) := by
  obtain ⟨n, hn⟩ : ∃ n, runL isLD s at_ = n := ⟨_, rfl⟩
  have hn1 := runL_le isLD s at_ hat
  rw [hn] at hn1
  have hWl : (s.extract at_ (at_ + n)).data.toList = (s.data.toList.drop at_).takeWhile isLD := by rw [ext_list, ← hn]; exact take_tw _ _
  have hWs : (s.extract at_ (at_ + n)).size = n := by
    have e1 : (s.extract at_ (at_ + n)).data.toList.length = n := by rw [hWl]; exact hn
    exact e1
  have HWL := Lib.hid hWl
  have HWS := Lib.hid hWs
  have HN := Lib.hid hn
  obtain ⟨U, hU⟩ : ∃ U : ByteArray, U = ⟨(Lib.toUpperA (s.extract at_ (at_ + n)).data.toList).toArray⟩ := ⟨_, rfl⟩
  have hUl : U.data.toList = ((s.data.toList.drop at_).takeWhile isLD).map upc := by rw [hU]; show Lib.toUpperA _ = _; rw [toUpperA_upc, hWl]
  have HUL := Lib.hid hUl
  have hup := fun w1 => (Tryz.strings_ToUpper_ascii (s.extract at_ (at_ + n)) w1 (by rw [hWs]; omega) (fun j x hx => by
    rw [hWl] at hx
    exact LD_ascii (mem_tw (List.mem_of_getElem? hx)))).mono (fun e w' h => (⟨h.1.trans (by rw [hU]), Mods.of_below h.2 (Nat.le_refl _) []⟩ : e = .returned (.string U) ∧ Mods [] w1 w'))
  clear hWl hWs hU hUl
  have hrb := heap_alloc_new w (.cells (tokCells 0 0 ⟨#[]⟩ 0 0) 75)
  have hM0 := (Mods.refl [] w).alloc (.cells (tokCells 0 0 ⟨#[]⟩ 0 0) 75)
  have hS0 := hS.mods hM0
  clear hS
  go_enter Tryz.func112, Tryz.ntmps112
  go_wp2_with fail
  generalize w.alloc (.cells (tokCells 0 0 ⟨#[]⟩ 0 0) 75) = w0 at *
  generalize hrbn : w.heap.size = rb at *
  have HRB := Lib.hid hrbn
  clear hrbn
  refine (run_any w0 b s hS0 (by omega) at_ hat 6 isLD mask_LD).mono ?_
  rintro e w1 ⟨rfl, hM1⟩
  rw [hn]
  clear hn
  have hS1 := hS0.mods hM1
  have hrb1 := hM1.heap hrb (by simp)
  have hMw1 := hM0.trans hM1 (by simp)
  have c0 := hS1.text
  have hki : (at_ : Int) + (n : Int) ≤ (s.size : Int) := by omega
  clear hS0 hrb hM0 hM1
  go_wp2_with fail
  refine (hup w1).mono ?_
  rintro e w2 ⟨rfl, hM2⟩
  have hS2 := hS1.mods hM2
  have hrb2 := hM2.heap hrb1 (by simp)
  have hMw2 := hMw1.trans hM2 (by simp)
  obtain ⟨mb, c257, hkm⟩ := hS2.keys
  have hlook := hkm.look 147 9 205 Tryz.underlying147 Tryz.underlying9 (fun w => by kernel_rfl) U
  rw [HUL.out] at hlook
  obtain ⟨K, hK⟩ : ∃ K, isKey (((s.data.toList.drop at_).takeWhile isLD).map upc) = K := ⟨_, rfl⟩
  rw [hK] at hlook
  have HK := Lib.hid hK
  have fin := Lib.hid (show ∀ k, isKey (((s.data.toList.drop at_).takeWhile isLD).map upc) = k → wordL (s.data.toList.drop at_) = if k = true then some (⟨1, U.data.toList, 0, 0⟩, n) else if 40 < n then none else some (⟨2, (s.extract at_ (at_ + n)).data.toList, 0, 0⟩, n) by
    intro k hk
    have e1 : ((s.data.toList.drop at_).takeWhile isLD).length = n := HN.out
    unfold wordL
    rw [hk, e1, HUL.out, HWL.out])
  have hinfo : (Tryz.prog.info? 75).map (·.size) = some 5 := by kernel_rfl
  have HM2 := Lib.hid hM2
  clear hK hS1 hS2 hrb1 hMw1 hkm hM2
  have hrb3 := ((Mods.refl [] w2).alloc (.cells #[] 205)).heap hrb2 (by simp)
  have hMw3 := hMw2.alloc (.cells #[] 205)
  clear hrb2 hMw2
  have ends : ∀ (o : Option (TokC × Nat)) (k : Bool), isKey (((s.data.toList.drop at_).takeWhile isLD).map upc) = k → (if k = true then some (⟨1, U.data.toList, 0, 0⟩, n) else if 40 < n then none else some (⟨2, (s.extract at_ (at_ + n)).data.toList, 0, 0⟩, n)) = o → wordL (s.data.toList.drop at_) = o := fun o k h1 h2 => (fin.out k h1).trans h2
  have HE := Lib.hid ends
  clear ends
  cases K with
  | true =>
    go_wp2_with (refine wpList_store_row rfl 75 (.tmp 4) (.tmp 37) rfl rb (tokCells 1 at_ U 0 0) rfl rfl 75 _ hrb3 hinfo rfl (tok_one _ _ _ _ _) ?_)
    refine bodyPost_ret (results_cell_two rfl _ _ rb 75 (tokCells 1 at_ U 0 0) (0, 0) _ rfl (row_set_same _ hrb3) Tryz.underlying75 rfl hinfo _ rfl) rfl ?_
    rw [HE.out _ true HK.out rfl]
    exact ⟨rfl, hMw3.setRow (.inr (by rw [HRB.out]; exact Nat.le_refl _)) _⟩
  | false =>
    by_cases h40 : 40 < n
    · have h40z : (40 : Int) < (n : Int) := by omega
      have e := HE.out none false HK.out (by rw [if_neg (by decide), if_pos h40])
      go_wp2_with (refine wpList_store_row rfl 75 (.tmp 4) (.tmp 41) rfl rb (tokCells 0 0 ⟨#[]⟩ 0 0) rfl rfl 75 _ hrb3 hinfo rfl (tok_one _ _ _ _ _) ?_)
      refine bodyPost_ret (results_cell_two rfl _ _ rb 75 (tokCells 0 0 ⟨#[]⟩ 0 0) (0, 0) _ rfl (row_set_same _ hrb3) Tryz.underlying75 rfl hinfo _ rfl) rfl ?_
      rw [e]
      exact ⟨rfl, hMw3.setRow (.inr (by rw [HRB.out]; exact Nat.le_refl _)) _⟩
    · have h40z : ¬ (40 : Int) < (n : Int) := by omega
      have e := Lib.hid (HE.out _ false HK.out (by rw [if_neg (by decide), if_neg h40]))
      go_wp2_with (refine wpList_store_row rfl 75 (.tmp 4) (.tmp 44) rfl rb (tokCells 2 at_ (s.extract at_ (at_ + n)) 0 0) rfl rfl 75 _ hrb3 hinfo rfl (tok_one _ _ _ _ _) ?_)
      refine bodyPost_ret (results_cell_two rfl _ _ rb 75 (tokCells 2 at_ (s.extract at_ (at_ + n)) 0 0) (0, 0) _ rfl (row_set_same _ hrb3) Tryz.underlying75 rfl hinfo _ rfl) rfl ?_
      rw [e.out]
      exact ⟨rfl, hMw3.setRow (.inr (by rw [HRB.out]; exact Nat.le_refl _)) _⟩
end Go.Proofs.YtpokbepenacnpaaGreatDoor
