/-
  The statement of the law PlanSorts: for every argument it returns true, and every argument reads afterwards as before. No condition.
-/
import Derived.Test.YtebljciefhfgbaaGreatDoorQ47
set_option linter.unusedVariables false
namespace Go.Proofs.YtebljciefhfgbaaGreatDoor.planSorts
open Go.ChangeShapes Go.WideShapes Go.ChangeAt Go.RowKit
open Go.ChangeMaps (open_string)
set_option maxRecDepth 100000 in
theorem lifted (os:Os) (started:os.Started) (H:Type) (enc:TypeId × Value → H) :
  ReturnsInHanded {} Tryz.checked os 3 .any (fun w args => (Rows.planSortsSpec.pre enc Tryz.prog Tryz.f3 Rows.planSortsRow.domain false w args ∧ laidMetH Tryz.prog Rows.planSortsRow.laid w) ∧ sizedMet enc Tryz.prog Tryz.f3 (OpenSpec.ofChange Rows.planSortsSpec) false w args) (Rows.planSortsSpec.post enc Tryz.prog Tryz.f3 false true false false):=by
 refine returnsInHanded_of_change_and (C:= Tryz.checked) (X:=fun w _ => laidMetH Tryz.prog Rows.planSortsRow.laid w) (fun _ _ _ hh h => h.of_heap hh) zcF started AC Tryz.func3
  (ChangeSpec.witness_shaped (enc:=enc) (C:= Tryz.checked) (os:=os) (X:=fun w _ => laidMetH Tryz.prog Rows.planSortsRow.laid w) false (World.laidAll Tryz.prog os laidL) #[.slice none 0 0,.int .u8 0,.int .u8 0,.bool false] 8 (World.laidAll_os _ _ _)
   (zeN os _) AC AC AC (zgk os _)) ?_
 intro W base args ds gs before hval0 hW hcnd hsz0 hL _;have hval:∀ (j:Nat) t v,Tryz.f3.params[j]? = some t → args[j]? = some v → Value.okWide Tryz.prog W .any base t v:=hval0;have hsz:(DataW.weightsEach Tryz.prog (Tryz.f3.params.toList ++ Rows.planSortsSpec.plain.varTypes Tryz.prog) (ds ++ gs)).all (· ≤ reachBytes)=true:=hsz0;have hW':=hW;obtain ⟨p,q,hA0,hV,rfl,hfz,hnd⟩:=hW;have hA:DataW.TrodAll enc Tryz.prog W 0 (fun _ => true) true Tryz.f3.params.toList args.toList ds p:=hA0;rw [Tryz.params3] at hA hval hsz;obtain ⟨v0,vs0,d0,ds0,p0,q0,hargs,rfl,rfl,h0,r0⟩:=trodAll_cons hA;obtain ⟨v1,vs1,d1,ds1,p1,q1,rfl,rfl,rfl,h1,r1⟩:=trodAll_cons r0;obtain ⟨v2,vs2,d2,ds2,p2,q2,rfl,rfl,rfl,h2,r2⟩:=trodAll_cons r1;obtain ⟨v3,vs3,d3,ds3,p3,q3,rfl,rfl,rfl,h3,r3⟩:=trodAll_cons r2;obtain ⟨rfl,rfl,rfl⟩:=trodAll_nil r3;obtain rfl:args = #[v0,v1,v2,v3]:=by cases args; simp_all
 obtain ⟨rfl,rfl⟩:=trodVars_none hV;have hv0:=hval 0 22 v0 rfl rfl;obtain ⟨a0,l0,c0,X0,rfl,b0,I0⟩:=zq5 (by first | exact hv0 | simpa [Value.okWide] using hv0) h0;obtain ⟨a1,rfl,rfl,rfl,w1⟩:=open_int Tryz.underlying5 (hval 1 5 v1 rfl rfl) h1;obtain ⟨n1,rfl,b1⟩:=znW w1;obtain ⟨a2,rfl,rfl,rfl,w2⟩:=open_int Tryz.underlying5 (hval 2 5 v2 rfl rfl) h2;obtain ⟨n2,rfl,b2⟩:=znW w2;obtain ⟨a3,rfl,rfl,rfl⟩:=open_bool Tryz.underlying4 (hval 3 4 v3 rfl rfl) h3;refine (zpN W (zh3 hL) a0 l0 c0 X0 b0.1 I0 n1 b1 n2 b2 a3).mono fun e W' ⟨he,hM⟩ => ?_;subst he;exact ⟨_,rfl,zgj hW' hM AC rfl AC rfl rfl rfl⟩
theorem over:Rows.planSortsRow.holds Tryz.pinned (OpenSpec.ofChange Rows.planSortsSpec):=
 OpenClaim.holds_of_wide 3 Tryz.f3 rfl rfl rfl rfl rfl rfl rfl ⟨rfl,rfl,rfl,rfl,rfl⟩ rfl rfl rfl rfl rfl AC Tryz.func3 AC
  (of_decide_eq_true AC) (by unfold Func.isWrapper; first | (rw [if_pos (by decide +kernel)]; kernel_rfl) | (rw [if_neg (by decide +kernel)]; exact ⟨rfl,rfl⟩))
  (fun os started H enc _ => lifted os started H enc)
theorem proved:Rows.PlanSortsCardSaid:=
 Claim7.holds_tied_plain_at .later [] Rows.planSortsCard.laidKinds true Rows.planSortsCard.stood.harness Rows.planSortsCard.stood.looks over (fun _ h => by cases h) AC (fun _ h => by cases h) planSorts_row_tie rfl ⟨rfl,rfl⟩ AC rfl
  (fun f fn hf hfn => by
   obtain rfl:f = 3:=Option.some.inj ((show Tryz.prog.funcNamed Rows.planSortsRow.func=some 3 by kernel_rfl).symm.trans hf) |>.symm;obtain rfl:fn = Tryz.f3:=(Option.some.inj (Tryz.func3.symm.trans hfn)).symm
   exact ⟨by kernel_rfl,fun j t ht => by
    rw [Tryz.params3] at ht;have hm:t ∈ [22, 5, 5, 4]:=by simpa using Array.mem_of_getElem? ht
    have hall:([22, 5, 5, 4].all fun u => !Tryz.prog.wantsStandIn u)=true:=by kernel_rfl
    exact (show Tryz.prog.wantsStandIn t=false by simpa using List.all_eq_true.1 hall t hm)⟩)
  AC
#print axioms proved
end Go.Proofs.YtebljciefhfgbaaGreatDoor.planSorts
