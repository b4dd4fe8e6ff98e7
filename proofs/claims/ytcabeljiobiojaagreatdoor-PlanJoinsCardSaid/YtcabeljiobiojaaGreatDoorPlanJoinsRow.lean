/-
  The statement of the law PlanJoins: for every argument it returns true, and every argument reads afterwards as before. No condition.
-/
import Derived.Test.YtcabeljiobiojaaGreatDoorPjSq1
import Derived.Test.YtcabeljiobiojaaGreatDoorPrZ
set_option linter.unusedVariables false
namespace Go.Proofs.YtcabeljiobiojaaGreatDoor.planJoins
open Go.ChangeShapes Go.WideShapes Go.ChangeAt Go.RowKit
open Go.ChangeMaps (open_string)
set_option maxRecDepth 100000 in
theorem lifted (os:Os) (started:os.Started) (H:Type) (enc:TypeId × Value → H) :
  ReturnsInHanded {} Tryz.checked os 4 .any (fun w args => (Rows.planJoinsSpec.pre enc Tryz.prog Tryz.f4 Rows.planJoinsRow.domain false w args ∧ laidMetH Tryz.prog Rows.planJoinsRow.laid w) ∧ sizedMet enc Tryz.prog Tryz.f4 (OpenSpec.ofChange Rows.planJoinsSpec) false w args) (Rows.planJoinsSpec.post enc Tryz.prog Tryz.f4 false true false false):=by
 refine returnsInHanded_of_change_and (C:= Tryz.checked) (X:=fun w _ => laidMetH Tryz.prog Rows.planJoinsRow.laid w) (fun _ _ _ hh h => h.of_heap hh) zcF started BV Tryz.func4
  (ChangeSpec.witness_shaped (enc:=enc) (C:= Tryz.checked) (os:=os) (X:=fun w _ => laidMetH Tryz.prog Rows.planJoinsRow.laid w) false (World.laidAll Tryz.prog os laidL) #[.slice none 0 0,.slice none 0 0] 8 (World.laidAll_os _ _ _)
   (zeN os _) BV BV BV (zgk os _)) ?_
 intro W base args ds gs before hval0 hW hcnd hsz0 hL _;have hval:∀ (j:Nat) t v,Tryz.f4.params[j]? = some t → args[j]? = some v → Value.okWide Tryz.prog W .any base t v:=hval0;have hsz:(DataW.weightsEach Tryz.prog (Tryz.f4.params.toList ++ Rows.planJoinsSpec.plain.varTypes Tryz.prog) (ds ++ gs)).all (· ≤ reachBytes)=true:=hsz0;have hW':=hW;obtain ⟨p,q,hA0,hV,rfl,hfz,hnd⟩:=hW;have hA:DataW.TrodAll enc Tryz.prog W 0 (fun _ => true) true Tryz.f4.params.toList args.toList ds p:=hA0;rw [Tryz.params4] at hA hval hsz;obtain ⟨v0,vs0,d0,ds0,p0,q0,hargs,rfl,rfl,h0,r0⟩:=trodAll_cons hA;obtain ⟨v1,vs1,d1,ds1,p1,q1,rfl,rfl,rfl,h1,r1⟩:=trodAll_cons r0;obtain ⟨rfl,rfl,rfl⟩:=trodAll_nil r1;obtain rfl:args = #[v0,v1]:=by cases args; simp_all
 obtain ⟨rfl,rfl⟩:=trodVars_none hV;have hv0:=hval 0 22 v0 rfl rfl;obtain ⟨a0,l0,c0,X0,rfl,b0,I0⟩:=zq5 (by first | exact hv0 | simpa [Value.okWide] using hv0) h0;have hv1:=hval 1 22 v1 rfl rfl;obtain ⟨a1,l1,c1,X1,rfl,b1,I1⟩:=zq5 (by first | exact hv1 | simpa [Value.okWide] using hv1) h1;refine (ztB W (zh3 hL) a0 l0 c0 X0 b0.1 I0 a1 l1 c1 X1 b1.1 I1).mono fun e W' ⟨he,hM⟩ => ?_;subst he;exact ⟨_,rfl,zgj hW' hM BV rfl BV rfl rfl rfl⟩
theorem over:Rows.planJoinsRow.holds Tryz.pinned (OpenSpec.ofChange Rows.planJoinsSpec):=
 OpenClaim.holds_of_wide 4 Tryz.f4 rfl rfl rfl rfl rfl rfl rfl ⟨rfl,rfl,rfl,rfl,rfl⟩ rfl rfl rfl rfl rfl BV Tryz.func4 BV
  (of_decide_eq_true BV) (by unfold Func.isWrapper; first | (rw [if_pos (by decide +kernel)]; kernel_rfl) | (rw [if_neg (by decide +kernel)]; exact ⟨rfl,rfl⟩))
  (fun os started H enc _ => lifted os started H enc)
theorem proved:Rows.PlanJoinsCardSaid:=
 Claim7.holds_tied_plain_at .later [] Rows.planJoinsCard.laidKinds true Rows.planJoinsCard.stood.harness Rows.planJoinsCard.stood.looks over (fun _ h => by cases h) BV (fun _ h => by cases h) planJoins_row_tie rfl ⟨rfl,rfl⟩ BV rfl
  (fun f fn hf hfn => by
   obtain rfl:f = 4:=Option.some.inj ((show Tryz.prog.funcNamed Rows.planJoinsRow.func=some 4 by kernel_rfl).symm.trans hf) |>.symm;obtain rfl:fn = Tryz.f4:=(Option.some.inj (Tryz.func4.symm.trans hfn)).symm
   exact ⟨by kernel_rfl,fun j t ht => by
    rw [Tryz.params4] at ht;have hm:t ∈ [22, 22]:=by simpa using Array.mem_of_getElem? ht
    have hall:([22, 22].all fun u => !Tryz.prog.wantsStandIn u)=true:=by kernel_rfl
    exact (show Tryz.prog.wantsStandIn t=false by simpa using List.all_eq_true.1 hall t hm)⟩)
  BV
#print axioms proved
end Go.Proofs.YtcabeljiobiojaaGreatDoor.planJoins
