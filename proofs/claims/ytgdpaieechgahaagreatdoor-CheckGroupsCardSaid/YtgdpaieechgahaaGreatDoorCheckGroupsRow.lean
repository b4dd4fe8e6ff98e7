/-
  The statement of the law CheckGroups: for every argument it returns true, and every argument reads afterwards as before. No condition.
-/
import Derived.Test.YtgdpaieechgahaaGreatDoorQ47
set_option linter.unusedVariables false
namespace Go.Proofs.YtgdpaieechgahaaGreatDoor.checkGroups
open Go.ChangeShapes Go.WideShapes Go.ChangeAt Go.RowKit
open Go.ChangeMaps (open_string)
theorem zg1 {a:Int} (h:(Lit.int .u16 a).wf=true):∃ n:Nat,a=(n:Int) ∧ n < 65536:=by
 have:0 ≤ a ∧ a ≤ 65535:=by simpa [Lit.wf,IntKind.min,IntKind.max,IntKind.signed,IntKind.bits] using h
 exact ⟨a.toNat,by omega,by omega⟩
set_option maxRecDepth 100000 in
theorem lifted (os:Os) (started:os.Started) (H:Type) (enc:TypeId × Value → H) :
  ReturnsInHanded {} Tryz.checked os 5 .any (fun w args => (Rows.checkGroupsSpec.pre enc Tryz.prog Tryz.f5 Rows.checkGroupsRow.domain false w args ∧ laidMetH Tryz.prog Rows.checkGroupsRow.laid w) ∧ sizedMet enc Tryz.prog Tryz.f5 (OpenSpec.ofChange Rows.checkGroupsSpec) false w args) (Rows.checkGroupsSpec.post enc Tryz.prog Tryz.f5 false true false false):=by
 refine returnsInHanded_of_change_and (C:= Tryz.checked) (X:=fun w _ => laidMetH Tryz.prog Rows.checkGroupsRow.laid w) (fun _ _ _ hh h => h.of_heap hh) zcF started (by kernel_rfl) Tryz.func5
  (ChangeSpec.witness_shaped (enc:=enc) (C:= Tryz.checked) (os:=os) (X:=fun w _ => laidMetH Tryz.prog Rows.checkGroupsRow.laid w) false (World.laidAll Tryz.prog os laidL) #[.int .u16 0,.int .u16 0,.int .u8 0] 8 (World.laidAll_os _ _ _)
   (zeN os _) (by kernel_rfl) (by kernel_rfl) (by kernel_rfl) (zgk os _)) ?_
 intro W base args ds gs before hval0 hW hcnd hsz0 hL _;have hval:∀ (j:Nat) t v,Tryz.f5.params[j]? = some t → args[j]? = some v → Value.okWide Tryz.prog W .any base t v:=hval0;have hsz:(DataW.weightsEach Tryz.prog (Tryz.f5.params.toList ++ Rows.checkGroupsSpec.plain.varTypes Tryz.prog) (ds ++ gs)).all (· ≤ reachBytes)=true:=hsz0;have hW':=hW;obtain ⟨p,q,hA0,hV,rfl,hfz,hnd⟩:=hW;have hA:DataW.TrodAll enc Tryz.prog W 0 (fun _ => true) true Tryz.f5.params.toList args.toList ds p:=hA0;rw [Tryz.params5] at hA hval hsz;obtain ⟨v0,vs0,d0,ds0,p0,q0,hargs,rfl,rfl,h0,r0⟩:=trodAll_cons hA;obtain ⟨v1,vs1,d1,ds1,p1,q1,rfl,rfl,rfl,h1,r1⟩:=trodAll_cons r0;obtain ⟨v2,vs2,d2,ds2,p2,q2,rfl,rfl,rfl,h2,r2⟩:=trodAll_cons r1;obtain ⟨rfl,rfl,rfl⟩:=trodAll_nil r2;obtain rfl:args = #[v0,v1,v2]:=by cases args; simp_all
 obtain ⟨rfl,rfl⟩:=trodVars_none hV;obtain ⟨a0,rfl,rfl,rfl,w0⟩:=open_int Tryz.underlying35 (hval 0 35 v0 rfl rfl) h0;obtain ⟨n0,rfl,b0⟩:=zg1 w0;obtain ⟨a1,rfl,rfl,rfl,w1⟩:=open_int Tryz.underlying35 (hval 1 35 v1 rfl rfl) h1;obtain ⟨n1,rfl,b1⟩:=zg1 w1;obtain ⟨a2,rfl,rfl,rfl,w2⟩:=open_int Tryz.underlying5 (hval 2 5 v2 rfl rfl) h2;obtain ⟨n2,rfl,b2⟩:=znW w2;refine (zek W (zh3 hL) n0 b0 n1 b1 n2 b2).mono fun e W' ⟨he,hM⟩ => ?_;subst he;exact ⟨_,rfl,zgj hW' hM (by kernel_rfl) rfl (by kernel_rfl) rfl rfl rfl⟩
theorem over:Rows.checkGroupsRow.holds Tryz.pinned (OpenSpec.ofChange Rows.checkGroupsSpec):=
 OpenClaim.holds_of_wide 5 Tryz.f5 rfl rfl rfl rfl rfl rfl rfl ⟨rfl,rfl,rfl,rfl,rfl⟩ rfl rfl rfl rfl rfl (by kernel_rfl) Tryz.func5 (by kernel_rfl)
  (of_decide_eq_true (by kernel_rfl)) (by unfold Func.isWrapper; first | (rw [if_pos (by decide +kernel)]; kernel_rfl) | (rw [if_neg (by decide +kernel)]; exact ⟨rfl,rfl⟩))
  (fun os started H enc _ => lifted os started H enc)
theorem proved:Rows.CheckGroupsCardSaid:=
 Claim7.holds_tied_plain_at .later [] Rows.checkGroupsCard.laidKinds true Rows.checkGroupsCard.stood.harness Rows.checkGroupsCard.stood.looks over (fun _ h => by cases h) (by kernel_rfl) (fun _ h => by cases h) checkGroups_row_tie rfl ⟨rfl,rfl⟩ (by kernel_rfl) rfl
  (fun f fn hf hfn => by
   obtain rfl:f = 5:=Option.some.inj ((show Tryz.prog.funcNamed Rows.checkGroupsRow.func=some 5 by kernel_rfl).symm.trans hf) |>.symm;obtain rfl:fn = Tryz.f5:=(Option.some.inj (Tryz.func5.symm.trans hfn)).symm
   exact ⟨by kernel_rfl,fun j t ht => by
    rw [Tryz.params5] at ht;have hm:t ∈ [35, 35, 5]:=by simpa using Array.mem_of_getElem? ht
    have hall:([35, 35, 5].all fun u => !Tryz.prog.wantsStandIn u)=true:=by kernel_rfl
    exact (show Tryz.prog.wantsStandIn t=false by simpa using List.all_eq_true.1 hall t hm)⟩)
  (by kernel_rfl)
#print axioms proved
end Go.Proofs.YtgdpaieechgahaaGreatDoor.checkGroups
