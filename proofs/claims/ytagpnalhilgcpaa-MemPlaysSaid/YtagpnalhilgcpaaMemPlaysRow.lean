/-
  The statement of the law MemPlays: for every argument it returns true, and every argument reads afterwards as before. No condition.
-/
import Derived.Test.YtagpnalhilgcpaaLawS
import Derived.Test.YtagpnalhilgcpaaMemPlays
namespace Go.Proofs.Ytagpnalhilgcpaa.memPlays
open Go.ChangeShapes Go.WideShapes Go.ChangeAt Go.RowKit Go.Deep
set_option linter.unusedVariables false

theorem hone : ∃ fs : Array Field, Try.prog.underlying 44 = some (.struct fs) ∧ oneCellFields Try.prog fs = true ∧ fs.size = 6 ∧ fs.map (·.type) = #[5, 30, 4, 3, 30, 9] :=
  ⟨_, Try.underlying44, by kernel_rfl, by kernel_rfl, by kernel_rfl⟩

set_option maxRecDepth 100000 in
theorem deeds {H : Type} {enc : TypeId × Value → H} {W : World} {v : Value} {d : DataW H} {p : List MemPlace} (hval : Value.okWide Try.prog W .any 0 39 v) (h : DataW.Trod enc Try.prog W 0 (fun _ => true) true 39 v d p) :
    ∃ ao len cap, v = .slice ao len cap ∧ DeedsIn W ao len := by
  have hC : Try.prog.cellsOf 44 = 6 := by kernel_rfl
  obtain ⟨fs, hs, h1, h6, hty⟩ := hone
  obtain ⟨ao, len, cap, hv, hlen, hel⟩ := slice_elems Try.underlying39 (Nat.lt_of_lt_of_eq (by decide : 0 < 6) hC.symm) hval h
  refine ⟨ao, len, cap, hv, hlen, fun h0 => ?_⟩
  obtain ⟨b, off, hao, hi⟩ := hel h0
  refine ⟨b, off, hao, fun i hil => ?_⟩
  obtain ⟨cs, n, x, hcl, hcells, ht⟩ := hi i hil
  rw [hC] at hcells
  have fld : ∀ (j : Nat) (t : TypeId), (#[5, 30, 4, 3, 30, 9] : Array TypeId)[j]? = some t → ∃ (v : Value) (m : Nat) (y : DataW H × List MemPlace), cs[j]? = some v ∧ DataW.trod enc Try.prog W 0 (fun _ => true) true m t [v] = some y := by
    intro j t hj
    rw [← hty, Array.getElem?_map] at hj
    obtain ⟨f, hf, rfl⟩ := Option.map_eq_some_iff.1 hj
    exact struct_field hs h1 (hC.trans h6.symm) ht hf
  obtain ⟨v0, m0, y0, c0, t0⟩ := fld 0 _ rfl
  obtain ⟨v1, m1, y1, c1, t1⟩ := fld 1 _ rfl
  obtain ⟨v2, m2, y2, c2, t2⟩ := fld 2 _ rfl
  obtain ⟨v3, m3, y3, c3, t3⟩ := fld 3 _ rfl
  obtain ⟨v4, m4, y4, c4, t4⟩ := fld 4 _ rfl
  obtain ⟨v5, m5, y5, c5, t5⟩ := fld 5 _ rfl
  obtain ⟨K, rfl, hK⟩ := cell_u8 Try.underlying5 t0
  obtain ⟨A, rfl, hA⟩ := cell_u64 Try.underlying30 t1
  obtain ⟨F, rfl⟩ := cell_bool Try.underlying4 t2
  obtain ⟨S, rfl, hS⟩ := cell_i64 Try.underlying3 t3
  obtain ⟨N, rfl, hN⟩ := cell_u64 Try.underlying30 t4
  obtain ⟨s, rfl, hs5⟩ := cell_string Try.underlying9 t5
  refine ⟨K, A, F, S, N, s, hK, hA, hS, hN, hs5, fun j hj => ?_⟩
  rw [hcells j hj]
  rcases j with _ | _ | _ | _ | _ | _ | j
  · exact c0
  · exact c1
  · exact c2
  · exact c3
  · exact c4
  · exact c5
  · omega

set_option maxRecDepth 100000 in
theorem lifted (os : Os) (started : os.Started) (H : Type) (enc : TypeId × Value → H) :
    ReturnsInHanded {} Try.checked os 5 .any (Rows.memPlaysSpec.pre6 enc Try.prog Try.f5 Rows.memPlaysRow.domain false) (Rows.memPlaysSpec.post enc Try.prog Try.f5 false true false false) := by
  refine returnsInHanded_of_change_sized (C := Try.checked) ownKnob_none started (by kernel_rfl) Try.func5
    (ChangeSpec.witness6 (enc := enc) (C := Try.checked) false ⟨#[], #[.int .i64 0, .int .i64 0, .slice none 0 0], []⟩ 8 (by kernel_rfl) (by kernel_rfl) (by kernel_rfl) (by kernel_rfl)) ?_
  intro W base args ds gs before hval0 hW hcnd hsz0 _
  have hval : ∀ (j : Nat) t v, Try.f5.params[j]? = some t → args[j]? = some v → Value.okWide Try.prog W .any base t v := hval0
  have hW' := hW
  obtain ⟨p, q, hA0, hV, rfl, hfz, hnd⟩ := hW
  have hA : DataW.TrodAll enc Try.prog W 0 (fun _ => true) true Try.f5.params.toList args.toList ds p := hA0
  rw [Try.params5] at hA hval
  obtain ⟨v0, vs0, d0, ds0, p0, q0, hargs, rfl, rfl, h0, r0⟩ := trodAll_cons hA
  obtain ⟨v1, vs1, d1, ds1, p1, q1, rfl, rfl, rfl, h1, r1⟩ := trodAll_cons r0
  obtain ⟨v2, vs2, d2, ds2, p2, q2, rfl, rfl, rfl, h2, r2⟩ := trodAll_cons r1
  obtain ⟨rfl, rfl, rfl⟩ := trodAll_nil r2
  obtain rfl : args = #[v0, v1, v2] := by cases args; simp_all
  obtain ⟨rfl, rfl⟩ := trodVars_none hV
  obtain ⟨a0, rfl, rfl, rfl, w0⟩ := open_int Try.underlying3 (hval 0 3 v0 rfl rfl) h0
  obtain ⟨a1, rfl, rfl, rfl, w1⟩ := open_int Try.underlying3 (hval 1 3 v1 rfl rfl) h1
  have hv2 := hval 2 39 v2 rfl rfl
  obtain ⟨ao, len, cap, rfl, hD⟩ := deeds (by first | exact hv2 | simpa [Value.okWide] using hv2) h2
  refine (memPlays_walk a0 a1 (wf_i64 w0) (wf_i64 w1) ao len cap W hD).mono fun e W' ⟨he, hM⟩ => ?_
  subst he
  exact ⟨_, rfl, law_post hW' hM (by kernel_rfl) rfl (by kernel_rfl) rfl rfl rfl⟩

theorem over : Rows.memPlaysRow.holds Try.pinned (OpenSpec.ofChange Rows.memPlaysSpec) :=
  OpenClaim.holds_of_wide 5 Try.f5 rfl rfl rfl rfl rfl rfl rfl ⟨rfl, rfl, rfl, rfl, rfl⟩ rfl rfl rfl rfl rfl (by kernel_rfl) Try.func5 (by kernel_rfl)
    (of_decide_eq_true (by kernel_rfl)) (by unfold Func.isWrapper; first | (rw [if_pos (by decide +kernel)]; kernel_rfl) | (rw [if_neg (by decide +kernel)]; exact ⟨rfl, rfl⟩))
    (fun os started H enc _ => lifted os started H enc)

/-- THE STATEMENT. -/
theorem proved : Rows.MemPlaysSaid :=
  over
#print axioms proved
end Go.Proofs.Ytagpnalhilgcpaa.memPlays
