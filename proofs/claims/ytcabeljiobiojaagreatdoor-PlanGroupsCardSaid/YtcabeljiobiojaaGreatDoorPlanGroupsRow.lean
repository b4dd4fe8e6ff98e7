/-
  The statement of the law PlanGroups: for every argument it returns true, and every argument reads afterwards as before. No condition.
-/
import Derived.Test.YtcabeljiobiojaaGreatDoorQ47
import Derived.Test.YtcabeljiobiojaaGreatDoorPrZ
set_option linter.unusedVariables false
namespace Go.Proofs.YtcabeljiobiojaaGreatDoor.planGroups
open Go.ChangeShapes Go.WideShapes Go.ChangeAt Go.RowKit
open Go.ChangeMaps (open_string)
set_option maxRecDepth 100000 in
theorem lifted (os:Os) (started:os.Started) (H:Type) (enc:TypeId × Value → H) :
  ReturnsInHanded {} Tryz.checked os 3 .any (fun w args => (Rows.planGroupsSpec.pre enc Tryz.prog Tryz.f3 Rows.planGroupsRow.domain false w args ∧ laidMetH Tryz.prog Rows.planGroupsRow.laid w) ∧ sizedMet enc Tryz.prog Tryz.f3 (OpenSpec.ofChange Rows.planGroupsSpec) false w args) (Rows.planGroupsSpec.post enc Tryz.prog Tryz.f3 false true false false):=by
 refine returnsInHanded_of_change_and (C:= Tryz.checked) (X:=fun w _ => laidMetH Tryz.prog Rows.planGroupsRow.laid w) (fun _ _ _ hh h => h.of_heap hh) zcF started AC Tryz.func3
  (ChangeSpec.witness_shaped (enc:=enc) (C:= Tryz.checked) (os:=os) (X:=fun w _ => laidMetH Tryz.prog Rows.planGroupsRow.laid w) false (World.laidAll Tryz.prog os laidL) #[.slice none 0 0] 8 (World.laidAll_os _ _ _)
   (zeN os _) AC AC AC (zgk os _)) ?_
 intro W base args ds gs before hval0 hW hcnd hsz0 hL _;have hval:∀ (j:Nat) t v,Tryz.f3.params[j]? = some t → args[j]? = some v → Value.okWide Tryz.prog W .any base t v:=hval0;have hsz:(DataW.weightsEach Tryz.prog (Tryz.f3.params.toList ++ Rows.planGroupsSpec.plain.varTypes Tryz.prog) (ds ++ gs)).all (· ≤ reachBytes)=true:=hsz0;have hW':=hW;obtain ⟨p,q,hA0,hV,rfl,hfz,hnd⟩:=hW;have hA:DataW.TrodAll enc Tryz.prog W 0 (fun _ => true) true Tryz.f3.params.toList args.toList ds p:=hA0;rw [Tryz.params3] at hA hval hsz;obtain ⟨v0,vs0,d0,ds0,p0,q0,hargs,rfl,rfl,h0,r0⟩:=trodAll_cons hA;obtain ⟨rfl,rfl,rfl⟩:=trodAll_nil r0;obtain rfl:args = #[v0]:=by cases args; simp_all
 obtain ⟨rfl,rfl⟩:=trodVars_none hV;have hv0:=hval 0 22 v0 rfl rfl;obtain ⟨a0,l0,c0,X0,rfl,b0,I0⟩:=zq5 (by first | exact hv0 | simpa [Value.okWide] using hv0) h0;refine (zsn W (zh3 hL) a0 l0 c0 X0 b0.1 I0).mono fun e W' ⟨he,hM⟩ => ?_;subst he;exact ⟨_,rfl,zgj hW' hM AC rfl AC rfl rfl rfl⟩
theorem over:Rows.planGroupsRow.holds Tryz.pinned (OpenSpec.ofChange Rows.planGroupsSpec):=
 OpenClaim.holds_of_wide 3 Tryz.f3 rfl rfl rfl rfl rfl rfl rfl ⟨rfl,rfl,rfl,rfl,rfl⟩ rfl rfl rfl rfl rfl AC Tryz.func3 AC
  (of_decide_eq_true AC) (by unfold Func.isWrapper; first | (rw [if_pos (by decide +kernel)]; kernel_rfl) | (rw [if_neg (by decide +kernel)]; exact ⟨rfl,rfl⟩))
  (fun os started H enc _ => lifted os started H enc)
theorem proved:Rows.PlanGroupsCardSaid:=
 Claim7.holds_tied_plain_at .later [] Rows.planGroupsCard.laidKinds true Rows.planGroupsCard.stood.harness Rows.planGroupsCard.stood.looks over (fun _ h => by cases h) AC (fun _ h => by cases h) planGroups_row_tie rfl ⟨rfl,rfl⟩ AC rfl
  (fun f fn hf hfn => by
   obtain rfl:f = 3:=Option.some.inj ((show Tryz.prog.funcNamed Rows.planGroupsRow.func=some 3 by kernel_rfl).symm.trans hf) |>.symm;obtain rfl:fn = Tryz.f3:=(Option.some.inj (Tryz.func3.symm.trans hfn)).symm
   exact ⟨by kernel_rfl,fun j t ht => by
    rw [Tryz.params3] at ht;have hm:t ∈ [22]:=by simpa using Array.mem_of_getElem? ht
    have hall:([22].all fun u => !Tryz.prog.wantsStandIn u)=true:=by kernel_rfl
    exact (show Tryz.prog.wantsStandIn t=false by simpa using List.all_eq_true.1 hall t hm)⟩)
  AC
#print axioms proved
end Go.Proofs.YtcabeljiobiojaaGreatDoor.planGroups
