/-
  A scanner's method word, walked. No condition but that Go's own variables hold what they were laid with.
-/
import Derived.Test.YtgbpoaimbjlamaaGreatDoorLxT
import Derived.Handy
namespace Go.Proofs.YtgbpoaimbjlamaaGreatDoor
open Go.RowKit
set_option linter.unusedVariables false

/-- The cells of a token. -/
abbrev tokCells (kind at_ : Int) (s : ByteArray) (n scale : Int) : Array Value := #[.int .i64 kind, .int .i64 at_, .string s, .int .i64 n, .int .i64 scale]
theorem tok_one (k a : Int) (s : ByteArray) (n c : Int) : (tokCells k a s n c).all (·.oneCell') = true := by simp [Value.oneCell']
/-- A token and how many bytes it takes, handed back. -/
def tokV (o : Option (TokC × Nat)) (at_ : Nat) : Value :=
  match o with
  | none => .tuple #[.agg (tokCells 0 0 ⟨#[]⟩ 0 0), .int .i64 0]
  | some (t, n) => .tuple #[.agg (tokCells t.kind at_ ⟨t.s.toArray⟩ t.n t.scale), .int .i64 n]

def TokPost (w : World) (o : Option (TokC × Nat)) (at_ : Nat) (e : Ending) (w' : World) : Prop := e = .returned (tokV o at_) ∧ Mods [] w w'

theorem results_cell_two {P : Program} {fn : Func} {p q : Tmp} {ty : TypeId} (h : fn.results = #[.cell p ty, .tmp q]) (tmps : Array Value) (w : World) (g : Nat) (t : TypeId) (cs : Array Value) (fr : Nat × Nat) (d : TypeDesc)
    (hp : tmps.getD p undef = .pointer (some ⟨g, 0, none⟩)) (hg : w.heap[g]? = some (.cells cs t fr))
    (hu : P.underlying ty = some d) (hd : (match d with | .struct _ | .array _ _ => true | _ => false) = true) (hi : (P.info? ty).map (·.size) = some cs.size) (v : Value) (hq : tmps.getD q undef = v) :
    (results fn tmps).run P w = .ok (.tuple #[.agg cs, v]) w := by
  have hp' : tmps[p]?.getD undef = .pointer (some ⟨g, 0, none⟩) := by simpa using hp
  have hq' : tmps[q]?.getD undef = v := by simpa using hq
  simp [results, h, hp', hq', asAddr, run_loadVar_row w g t ty cs fr d hg hu hd hi]

theorem ext_list (s : ByteArray) (a n : Nat) : (s.extract a (a + n)).data.toList = (s.data.toList.drop a).take n := by
  rw [Lib.extract_data, Nat.add_sub_cancel_left]
theorem take_tw {α : Type} (p : α → Bool) (l : List α) : l.take (l.takeWhile p).length = l.takeWhile p := by
  induction l with
  | nil => rfl
  | cons a l ih => rw [List.takeWhile_cons]; split <;> simp_all
theorem bytes_eq {a b : ByteArray} (h : a.data.toList = b.data.toList) : a = b := by
  obtain ⟨⟨x⟩⟩ := a; obtain ⟨⟨y⟩⟩ := b
  simp at h; rw [h]
theorem bytes_of {a : ByteArray} {l : List UInt8} (h : a.data.toList = l) : a = ⟨l.toArray⟩ := bytes_eq (by simpa using h)

set_option maxRecDepth 100000 in
set_option maxHeartbeats 1000000 in
theorem word_any (w : World) (b : Nat) (s : ByteArray) (hS : Scan w b s) (hs : s.size ≤ 4096) (at_ : Nat) (hat : at_ ≤ s.size) :
    Calls Tryz.prog 57 #[.pointer (some ⟨b, 0, none⟩), .int .i64 at_] w (TokPost w (wordL (s.data.toList.drop at_)) at_) := by
  obtain ⟨n, hn⟩ : ∃ n, runL isLD s at_ = n := ⟨_, rfl⟩
  have hn1 := runL_le isLD s at_ hat
  rw [hn] at hn1
  have hWl : (s.extract at_ (at_ + n)).data.toList = (s.data.toList.drop at_).takeWhile isLD := by rw [ext_list, ← hn]; exact take_tw _ _
  have hWs : (s.extract at_ (at_ + n)).size = n := by
    have e1 : (s.extract at_ (at_ + n)).data.toList.length = n := by rw [hWl]; exact hn
    exact e1
  have HWL := Lib.hid hWl
  have HWS := Lib.hid hWs
  have HN := Lib.hid hn
  obtain ⟨U, hU⟩ : ∃ U : ByteArray, U = ⟨(Lib.toUpperA (s.extract at_ (at_ + n)).data.toList).toArray⟩ := ⟨_, rfl⟩
  have hUl : U.data.toList = ((s.data.toList.drop at_).takeWhile isLD).map upc := by rw [hU]; show Lib.toUpperA _ = _; rw [toUpperA_upc, hWl]
  have HUL := Lib.hid hUl
  have hup := fun w1 => (Tryz.strings_ToUpper_ascii (s.extract at_ (at_ + n)) w1 (by rw [hWs]; omega) (fun j x hx => by
    rw [hWl] at hx
    exact LD_ascii (mem_tw (List.mem_of_getElem? hx)))).mono (fun e w' h => (⟨h.1.trans (by rw [hU]), Mods.of_below h.2 (Nat.le_refl _) []⟩ : e = .returned (.string U) ∧ Mods [] w1 w'))
  clear hWl hWs hU hUl
  have hrb := heap_alloc_new w (.cells (tokCells 0 0 ⟨#[]⟩ 0 0) 56)
  have hM0 := (Mods.refl [] w).alloc (.cells (tokCells 0 0 ⟨#[]⟩ 0 0) 56)
  have hS0 := hS.mods hM0
  clear hS
  go_enter Tryz.func57, Tryz.ntmps57
  go_wp2_with fail
  generalize w.alloc (.cells (tokCells 0 0 ⟨#[]⟩ 0 0) 56) = w0 at *
  generalize hrbn : w.heap.size = rb at *
  have HRB := Lib.hid hrbn
  clear hrbn
  refine (run_any w0 b s hS0 (by omega) at_ hat 6 isLD mask_LD).mono ?_
  rintro e w1 ⟨rfl, hM1⟩
  rw [hn]
  clear hn
  have hS1 := hS0.mods hM1
  have hrb1 := hM1.heap hrb (by simp)
  have hMw1 := hM0.trans hM1 (by simp)
  have c0 := hS1.text
  have hki : (at_ : Int) + (n : Int) ≤ (s.size : Int) := by omega
  clear hS0 hrb hM0 hM1
  go_wp2_with fail
  refine (hup w1).mono ?_
  rintro e w2 ⟨rfl, hM2⟩
  have hS2 := hS1.mods hM2
  have hrb2 := hM2.heap hrb1 (by simp)
  have hMw2 := hMw1.trans hM2 (by simp)
  obtain ⟨mb, c257, hkm⟩ := hS2.keys
  have hlook := hkm.look 73 9 110 Tryz.underlying73 Tryz.underlying9 (fun w => by kernel_rfl) U
  rw [HUL.out] at hlook
  obtain ⟨K, hK⟩ : ∃ K, isKey (((s.data.toList.drop at_).takeWhile isLD).map upc) = K := ⟨_, rfl⟩
  rw [hK] at hlook
  have HK := Lib.hid hK
  have fin := Lib.hid (show ∀ k, isKey (((s.data.toList.drop at_).takeWhile isLD).map upc) = k → wordL (s.data.toList.drop at_) = if k = true then some (⟨1, U.data.toList, 0, 0⟩, n) else if 40 < n then none else some (⟨2, (s.extract at_ (at_ + n)).data.toList, 0, 0⟩, n) by
    intro k hk
    have e1 : ((s.data.toList.drop at_).takeWhile isLD).length = n := HN.out
    unfold wordL
    rw [hk, e1, HUL.out, HWL.out])
  have hinfo : (Tryz.prog.info? 56).map (·.size) = some 5 := by kernel_rfl
  have HM2 := Lib.hid hM2
  clear hK hS1 hS2 hrb1 hMw1 hkm hM2
  have hrb3 := ((Mods.refl [] w2).alloc (.cells #[] 110)).heap hrb2 (by simp)
  have hMw3 := hMw2.alloc (.cells #[] 110)
  clear hrb2 hMw2
  have ends : ∀ (o : Option (TokC × Nat)) (k : Bool), isKey (((s.data.toList.drop at_).takeWhile isLD).map upc) = k → (if k = true then some (⟨1, U.data.toList, 0, 0⟩, n) else if 40 < n then none else some (⟨2, (s.extract at_ (at_ + n)).data.toList, 0, 0⟩, n)) = o → wordL (s.data.toList.drop at_) = o := fun o k h1 h2 => (fin.out k h1).trans h2
  have HE := Lib.hid ends
  clear ends
  cases K with
  | true =>
    go_wp2_with (refine wpList_store_row rfl 56 (.tmp 4) (.tmp 37) rfl rb (tokCells 1 at_ U 0 0) rfl rfl 56 _ hrb3 hinfo rfl (tok_one _ _ _ _ _) ?_)
    refine bodyPost_ret (results_cell_two rfl _ _ rb 56 (tokCells 1 at_ U 0 0) (0, 0) _ rfl (row_set_same _ hrb3) Tryz.underlying56 rfl hinfo _ rfl) rfl ?_
    rw [HE.out _ true HK.out rfl]
    exact ⟨rfl, hMw3.setRow (.inr (by rw [HRB.out]; exact Nat.le_refl _)) _⟩
  | false =>
    by_cases h40 : 40 < n
    · have h40z : (40 : Int) < (n : Int) := by omega
      have e := HE.out none false HK.out (by rw [if_neg (by decide), if_pos h40])
      go_wp2_with (refine wpList_store_row rfl 56 (.tmp 4) (.tmp 41) rfl rb (tokCells 0 0 ⟨#[]⟩ 0 0) rfl rfl 56 _ hrb3 hinfo rfl (tok_one _ _ _ _ _) ?_)
      refine bodyPost_ret (results_cell_two rfl _ _ rb 56 (tokCells 0 0 ⟨#[]⟩ 0 0) (0, 0) _ rfl (row_set_same _ hrb3) Tryz.underlying56 rfl hinfo _ rfl) rfl ?_
      rw [e]
      exact ⟨rfl, hMw3.setRow (.inr (by rw [HRB.out]; exact Nat.le_refl _)) _⟩
    · have h40z : ¬ (40 : Int) < (n : Int) := by omega
      have e := Lib.hid (HE.out _ false HK.out (by rw [if_neg (by decide), if_neg h40]))
      go_wp2_with (refine wpList_store_row rfl 56 (.tmp 4) (.tmp 44) rfl rb (tokCells 2 at_ (s.extract at_ (at_ + n)) 0 0) rfl rfl 56 _ hrb3 hinfo rfl (tok_one _ _ _ _ _) ?_)
      refine bodyPost_ret (results_cell_two rfl _ _ rb 56 (tokCells 2 at_ (s.extract at_ (at_ + n)) 0 0) (0, 0) _ rfl (row_set_same _ hrb3) Tryz.underlying56 rfl hinfo _ rfl) rfl ?_
      rw [e.out]
      exact ⟨rfl, hMw3.setRow (.inr (by rw [HRB.out]; exact Nat.le_refl _)) _⟩
end Go.Proofs.YtgbpoaimbjlamaaGreatDoor
