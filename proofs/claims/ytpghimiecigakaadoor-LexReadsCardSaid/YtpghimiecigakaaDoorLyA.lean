/-
  lex.All and lex.Key, walked: the tokens of any text. No condition but that Go's own variables hold what they were laid with.
-/
import Derived.Test.YtpghimiecigakaaDoorLxZ
namespace Go.Proofs.YtpghimiecigakaaDoor
open Go.RowKit
set_option linter.unusedVariables false

def tokC1 (t : Tok) : List Value := [.int .i64 t.kind, .int .i64 t.pos, .string ⟨t.s.toArray⟩, .int .i64 t.n, .int .i64 t.scale]
def toksC (ts : List Tok) : List Value := ts.flatMap tokC1
theorem toksC_snoc (ts : List Tok) (t : Tok) : toksC (ts ++ [t]) = toksC ts ++ tokC1 t := by simp [toksC]
theorem toksC_len (ts : List Tok) : (toksC ts).length = ts.length * 5 := by
  induction ts with
  | nil => rfl
  | cons t ts ih => simp [toksC, tokC1] at ih ⊢; omega

/-- The tokens that are collected, in a slice of the call's own. -/
def ToksOwn (T : TypeId) (w wr : World) (t : Value) (ts : List Tok) : Prop :=
  Mods [] w wr ∧ wr.ownsRow 0 T 5 t ts.length (toksC ts) ∧ ∀ g, t.ownBlock = some g → w.heap.size ≤ g
theorem ToksOwn.start (T : TypeId) (w : World) : ToksOwn T w w (.slice none 0 0) [] := ⟨Mods.refl _ _, World.ownsRow_nil _ _ _ _, fun g hg => by cases hg⟩
theorem ToksOwn.quiet {T : TypeId} {w wr w' : World} {t : Value} {ts : List Tok} (h : ToksOwn T w wr t ts) (hM : Mods [] wr w') : ToksOwn T w w' t ts :=
  ⟨h.1.trans hM (by simp), ownsRow_mods h.2.1 hM (by simp), h.2.2⟩
theorem ToksOwn.push {T : TypeId} {w wr w' : World} {t : Value} {ts : List Tok} (h : ToksOwn T w wr t ts) {u : Tok} {g cap : Nat} (hown : w'.ownsRow 0 T 5 (.slice (some ⟨g, 0, none⟩) (ts.length + 1) cap) (ts.length + 1) (toksC ts ++ tokC1 u))
    (hM : Mods t.ownBlock.toList wr w') (hg : t.ownBlock = some g ∨ wr.heap.size ≤ g) : ToksOwn T w w' (.slice (some ⟨g, 0, none⟩) (ts.length + 1) cap) (ts ++ [u]) := by
  obtain ⟨h1, -, h5⟩ := h
  refine ⟨h1.trans hM (fun x hx => .inr (h5 x (by simpa using hx))), ?_, fun g' hg' => ?_⟩
  · rw [toksC_snoc]; simpa using hown
  · obtain rfl : g = g' := by simpa [Value.ownBlock] using hg'
    rcases hg with h | h
    · exact h5 g h
    · have := h1.size; omega
theorem ToksOwn.base {T : TypeId} {w wa wr : World} {t : Value} {ts : List Tok} (h : ToksOwn T wa wr t ts) (hM : Mods [] w wa) : ToksOwn T w wr t ts :=
  ⟨hM.trans h.1 (by simp), h.2.1, fun g hg => Nat.le_trans hM.size (h.2.2 g hg)⟩
theorem ToksOwn.slice {T : TypeId} {w wr : World} {t : Value} {ts : List Tok} (h : ToksOwn T w wr t ts) : ∃ ao cap, t = .slice ao ts.length cap := by
  rcases h.2.1.2 with ⟨hv, h0⟩ | ⟨g, cap, cur, hv, _⟩
  · exact ⟨none, 0, by rw [hv, h0]⟩
  · exact ⟨_, _, hv⟩

/-- What lex.All, and the document's, hand back. -/
def AllPost (T : TypeId) (w : World) (s : ByteArray) (e : Ending) (w' : World) : Prop :=
  if 4096 < s.size then e = .returned (.tuple #[.slice none 0 0, .int .i64 0, .int .i64 5]) ∧ Mods [] w w'
  else match lexAll s.data.toList with
    | .bad p => e = .returned (.tuple #[.slice none 0 0, .int .i64 p, .int .i64 8]) ∧ Mods [] w w'
    | .good ts => ∃ t, e = .returned (.tuple #[t, .int .i64 0, .int .i64 0]) ∧ ToksOwn T w w' t ts

theorem cells_new5 (w : World) (x y z u v : Value) (t : TypeId) : ∀ j q, ([x, y, z, u, v] : List Value)[j]? = some q → (w.alloc (.cells #[x, y, z, u, v] t)).cell? ((⟨w.heap.size, 0, none⟩ : Addr).add j) = some q := by
  intro j q hq
  rw [addr_add, cell_of_heap (heap_alloc_new w _), Nat.zero_add]
  simpa using hq

theorem cells_new5b (w : World) (A : Obj) (x y z u v : Value) (t : TypeId) : ∀ j q, ([x, y, z, u, v] : List Value)[j]? = some q → ((w.alloc A).alloc (.cells #[x, y, z, u, v] t)).cell? ((⟨w.heap.size + 1, 0, none⟩ : Addr).add j) = some q := by
  have := cells_new5 (w.alloc A) x y z u v t
  rw [size_alloc] at this
  exact this
theorem tokC1_one (t : Tok) : ∀ u ∈ tokC1 t, u.oneCell' = true := by
  intro u hu; simp [tokC1] at hu; rcases hu with rfl | rfl | rfl | rfl | rfl <;> rfl

theorem lex_step {l : List UInt8} {p : Nat} {t : TokC} {n k : Nat} (h : tokL (l.drop p) = some (t, n)) (hk : ((l.drop (p + n)).takeWhile isBl).length = k) : lexG (l.drop p) p = (lexG (l.drop (p + n + k)) (p + n + k)).pre [t.put p] := by
  rw [lexG_good p h, List.drop_drop, dropWhile_eq_drop, hk, List.drop_drop]

set_option maxRecDepth 100000 in
set_option maxHeartbeats 4000000 in
theorem all_any (w : World) (hT : Tabs w) (s : ByteArray) (hs : s.size ≤ 9223372036854775807) :
    Calls Tryd.prog 5 #[.string s] w (AllPost 32 w s) := by
  obtain ⟨i0, hi, hz0, hz1, hz2⟩ := info_parts (show (Tryd.prog.info? 32).map (fun i => (i.zero, i.size, i.bytes)) = some (some (.agg (tokCells 0 0 ⟨#[]⟩ 0 0)), 5, 48) by kernel_rfl)
  by_cases hbig : 4096 < s.size
  · have hbz : (4096 : Int) < (s.size : Int) := by omega
    have fin : ∀ w', Mods [] w w' → AllPost 32 w s (.returned (.tuple #[.slice none 0 0, .int .i64 0, .int .i64 5])) w' := fun w' h => by unfold AllPost; rw [if_pos hbig]; exact ⟨rfl, h⟩
    have FIN := Lib.hid fin
    clear fin hbig
    go_enter Tryd.func5, Tryd.ntmps5
    go_wp2_with fail
    go_returns
    exact FIN.out _ (Mods.refl _ _)
  · have hbz : ¬ (4096 : Int) < (s.size : Int) := by omega
    have hs4 : s.size ≤ 4096 := by omega
    have finb : ∀ p w', lexAll s.data.toList = .bad p → Mods [] w w' → AllPost 32 w s (.returned (.tuple #[.slice none 0 0, .int .i64 p, .int .i64 8])) w' := fun p w' hl h => by unfold AllPost; rw [if_neg hbig, hl]; exact ⟨rfl, h⟩
    have fing : ∀ ts t w', lexAll s.data.toList = .good ts → ToksOwn 32 w w' t ts → AllPost 32 w s (.returned (.tuple #[t, .int .i64 0, .int .i64 0])) w' := fun ts t w' hl h => by unfold AllPost; rw [if_neg hbig, hl]; exact ⟨t, rfl, h⟩
    have FINB := Lib.hid finb
    have FING := Lib.hid fing
    clear finb fing hbig
    go_enter Tryd.func5, Tryd.ntmps5
    go_wp2_with fail
    refine (kinds_any _).mono ?_
    rintro e w1 ⟨arr, rfl, harr, hkd, hM1⟩
    have HKD := Lib.hid hkd
    have HARR := Lib.hid harr
    clear hkd harr
    go_wp2_with fail
    refine (keys_any _ (hT.mods hM1)).mono ?_
    rintro e w2 ⟨mb, rfl, hkm, hmb, hM2⟩
    obtain ⟨C, hC1, hC2, hC3, hC4, hC5⟩ := built_scan s arr mb HARR.out
    have hMw2 := hM1.trans hM2 (by simp)
    have hMA := (Mods.refl [] w2).alloc (.cells C 40)
    have hSc : Scan (w2.alloc (.cells C 40)) w2.heap.size s := ⟨_, _, mb, heap_alloc_new w2 _, hC3, fun j hj => by rw [hC4 j hj]; exact HKD.out j hj, hC5, hkm.mods hMA (by simp)⟩
    have HSc := Lib.hid hSc
    clear hC3 hC4 hC5 hSc hkm HKD HARR
    go_wp2_with (refine wpList_built rfl 40 #[(0, .tmp 11), (1, .tmp 12), (2, .tmp 13)] rfl [(0, .string s), (1, .agg arr), (2, .map (some mb))] (by simp only [List.map_toArray, List.map_cons, List.map_nil]; rfl) C hC1 ?_)
    clear hC1
    have hM3 := hMw2.trans hMA (by simp)
    have HSc2 := HSc.out
    generalize w2.alloc (.cells C 40) = w3 at *
    generalize w2.heap.size = sb at *
    have hrun0 := run_any w3 sb s HSc2 hs 0 (by omega) 1 isBl mask_bl
    rw [show ((0 : Nat) : Int) = 0 from rfl] at hrun0
    have hp0 := runL_le isBl s 0 (by omega)
    have hst : lexAll s.data.toList = (lexG (s.data.toList.drop (runL isBl s 0)) (runL isBl s 0)).pre [] := by
      rw [Lexed.pre_nil]
      unfold lexAll
      rw [dropWhile_eq_drop]; rfl
    have HST := Lib.hid hst
    have hT3 := hT.mods hM3
    clear hst hMw2 hM1 hM2 hMA hT HSc hC2
    refine hrun0.mono ?_
    rintro e w4 ⟨rfl, hM4⟩
    obtain ⟨p0, hp0e⟩ : ∃ p0, runL isBl s 0 = p0 := ⟨_, rfl⟩
    rw [hp0e] at HST hp0 ⊢
    have hT4 := hT3.mods hM4
    have hSc4 := HSc2.mods hM4
    have hM04 := hM3.trans hM4 (by simp)
    clear hrun0 hp0e HSc2 hT3 hM3 hM4
    go_wp2_with fail
    go_loopw [2, 3] (fun t2 t3 wr => ∃ (p : Nat) (ts : List Tok), p ≤ s.size ∧ t3 = .int .i64 p ∧ ts.length ≤ p ∧ Hid (ToksOwn 32 w4 wr t2 ts) ∧ Hid (lexAll s.data.toList = (lexG (s.data.toList.drop p) p).pre ts)) (fun _ t3 _ => s.size - (intOf t3).toNat)
    case atStart => exact ⟨p0, [], by omega, rfl, by simp, Lib.hid (ToksOwn.start _ _), HST⟩
    case round =>
      clear HST
      obtain ⟨p, ts, hp, rfl, hts, HO, HL⟩ := hrel
      obtain ⟨hMr, hown, hblk⟩ := HO.out
      obtain ⟨ao, cap, rfl⟩ := HO.out.slice
      have hSr := hSc4.mods hMr
      have hTr := hT4.mods hMr
      have hMwr := hM04.trans hMr (by simp)
      by_cases hps : p < s.size
      · have hcall := token_any wr sb s hSr hTr hs4 p hps
        have hdl : (s.data.toList.drop p).length = s.size - p := by rw [List.length_drop]; rfl
        have hdne : s.data.toList.drop p ≠ [] := by intro h; rw [h] at hdl; simp at hdl; omega
        have hpz : (p : Int) < (s.size : Int) := by omega
        have HO2 := HO
        cases htk : tokL (s.data.toList.drop p) with
        | none =>
          rw [htk] at hcall
          have fin := Lib.hid (fun w' => FINB.out p w' (HL.out.trans (by rw [lexG_bad p hdne htk]; rfl)))
          clear htk hdl hdne hown hblk HL HO HO2
          go_wp2_with fail
          refine hcall.mono ?_
          rintro e w5 ⟨rfl, hM5⟩
          simp only [tokV]
          clear hcall
          go_wp2_with fail
          go_returns
          exact fin.out _ ((hMwr.trans hM5 (by simp)).alloc _)
        | some x =>
          obtain ⟨t, n⟩ := x
          rw [htk] at hcall
          have hn := tokL_le htk
          rw [hdl] at hn
          have hn0 : ((n : Int) == 0) = false := by rw [beq_eq_false_iff_ne]; omega
          have hn1 : ¬ (n : Int) = 0 := by omega
          obtain ⟨k, hk⟩ : ∃ k, runL isBl s (p + n) = k := ⟨_, rfl⟩
          have hk1 := runL_le isBl s (p + n) (by omega)
          rw [hk] at hk1
          have hstep := Lib.hid (lex_step htk hk)
          have hrun := fun W (hW : Scan W sb s) => run_any W sb s hW hs (p + n) (by omega) 1 isBl mask_bl
          rw [hk, show ((p + n : Nat) : Int) = (p : Int) + (n : Int) by omega] at hrun
          have HRUN := Lib.hid hrun
          clear htk hdl hdne hown hblk hk hrun
          go_wp2_with fail
          refine hcall.mono ?_
          rintro e w5 ⟨rfl, hM5⟩
          simp only [tokV]
          have HO5 := Lib.hid (HO.out.quiet hM5)
          have hown5 := HO5.out.2.1
          have hT5 := hTr.mods hM5
          have hS5 := hSr.mods hM5
          clear hcall hSr hTr HO HO2 hMr
          go_wp2_with (at_builtin; refine wpList_app _ rfl _ _ 23 rfl 32 i0 _ 5 48 Tryd.underlying23 hi hz0 hz1 hz2 rfl (by decide) (.slice ao ts.length cap) ts.length (toksC ts) rfl ((hown5.alloc _).alloc _) ⟨w5.heap.size + 1, 0, none⟩ 1 1 (tokC1 (t.put p)) rfl rfl ?c1 (tokC1_one _) (by decide) ?c3 ?c4 ?_)
          case c1 => exact cells_new5b _ _ _ _ _ _ _ _
          case c3 => unfold maxLen; omega
          case c4 => omega
          intro g cap2 w7 hown7 hM7 hg7
          have hAA := ((Mods.refl [] w5).alloc (.cells (tokCells t.kind p ⟨t.s.toArray⟩ t.n t.scale) 32)).alloc (.cells (tokCells t.kind p ⟨t.s.toArray⟩ t.n t.scale) 32)
          have hO7 := (HO5.out.quiet hAA).push hown7 hM7 (by rw [size_alloc, size_alloc]; exact hg7)
          have hM47 := hO7.1
          have hS7 := hSc4.mods hM47
          have HO7 := Lib.hid hO7
          clear hown7 hM7 hg7 hAA hO7 hown5 hS5 hT5 HO5 hM5 hM47
          go_wp2_with fail
          refine (HRUN.out w7 hS7).mono ?_
          rintro e w8 ⟨rfl, hM8⟩
          have HO8 := Lib.hid (HO7.out.quiet hM8)
          clear HO7 hM8 hS7
          go_wp2_with fail
          go_roundw
          case measure => simp [intOf]; omega
          case rel => exact ⟨p + n + k, ts ++ [t.put p], by omega, by go_num, by rw [List.length_append]; simp; omega, HO8, Lib.hid (by rw [HL.out, hstep.out, Lexed.pre_pre])⟩
      · obtain rfl : p = s.size := by omega
        have hdn : s.data.toList.drop s.size = [] := List.drop_of_length_le (Nat.le_refl _)
        have fin := Lib.hid (fun t w' => FING.out (ts ++ [⟨0, s.size, [], 0, 0⟩]) t w' (HL.out.trans (by rw [hdn, lexG_nil]; rfl)))
        clear hdn hps hblk HL
        go_wp2_with (at_builtin; refine wpList_app _ rfl _ _ 23 rfl 32 i0 _ 5 48 Tryd.underlying23 hi hz0 hz1 hz2 rfl (by decide) (.slice ao ts.length cap) ts.length (toksC ts) rfl (hown.alloc _) ⟨wr.heap.size, 0, none⟩ 1 1 (tokC1 ⟨0, s.size, [], 0, 0⟩) rfl rfl ?c1 (tokC1_one _) (by decide) ?c3 ?c4 ?_)
        case c1 => exact cells_new5 _ _ _ _ _ _ _
        case c3 => unfold maxLen; omega
        case c4 => omega
        intro g cap2 w7 hown7 hM7 hg7
        have hAA := (Mods.refl [] wr).alloc (.cells (tokCells 0 s.size ⟨#[]⟩ 0 0) 32)
        have hO7 := Lib.hid ((HO.out.quiet hAA).push hown7 hM7 (by rw [size_alloc]; exact hg7))
        clear hown7 hM7 hg7 hAA
        go_wp2_with fail
        go_returns
        exact fin.out _ _ (hO7.out.base hM04)
end Go.Proofs.YtpghimiecigakaaDoor
