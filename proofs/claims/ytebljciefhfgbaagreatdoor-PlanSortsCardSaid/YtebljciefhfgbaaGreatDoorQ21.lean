/-
  The rule of check.typed for what is reckoned of two numbers, walked. No condition.
-/
import Derived.Test.YtebljciefhfgbaaGreatDoorQ20
set_option linter.unusedVariables false
set_option maxRecDepth 100000
set_option maxHeartbeats 4000000
namespace Go.Proofs.YtebljciefhfgbaaGreatDoor
open Go.RowKit
theorem yfs {p:Prop} (h:p:=by
  have hw3:Mods [] w w3:=HK.out.1;have hMw:Mods [sb] w wr:=(hw3.mono (L':=[sb])).trans hMr
  have hold:∀ p v,w.cell? p=some v → wr.cell? p=some v:=fun p v h => hMw.cell h (by
   have:=zD h;have:=HB.out
   simp; omega)
  first
  |guard_hyp gFJ
   have hV:CkVars wr:=⟨⟨hold _ _ HH.out.1.1.1,hold _ _ HH.out.1.1.2⟩,hold _ _ HH.out.1.2.1,hold _ _ HH.out.1.2.2⟩;have hw0:Mods [] w wr:=hMw.mono (by have:=HB.out; simp; omega);rw [zew HH.out.2.2.1 hn2] at hrow;have htc:wr.cell? ⟨tb,0,none⟩ = some (.slice (some ⟨sb,0,none⟩) 2 2):=za (hMr.heap HK.out.2.2.2.2 AE) 0;have hTT:TwoT wr tb (ts.getD 0 tyNone) (ts.getD 1 tyNone):=⟨sb,za (hMr.heap HK.out.2.2.2.2 AE) 0,za hrow 0,za hrow 1,za hrow 2,za hrow 3⟩;have hO:=hMr.heap HK.out.2.1 AE;have hR:=hMr.heap HK.out.2.2.1 AE;have c0:wr.cell? ⟨ob,0,none⟩ = some (.string S):=za hO 0;have hmm:=@run_makeMap Tryz.prog;have hu:=fun (w:World) (es:Array MapEntry) (c:Nat) (k:ByteArray) (v:Value) => zZ (P:= Tryz.prog) 254 9 253 .string Tryz.underlying254 Tryz.underlying9 w es c (.string k) v AH;have i1:=fun w => hu w #[] 0 ⟨oAll.toArray⟩ (.func (.func 134) #[] #[]) rfl;have i2:=fun w => hu w ((zO ob tb).take 1).toArray 1 ⟨oNeg.toArray⟩ (.func (.func 135) #[] #[zh tb]) rfl;have i3:=fun w => hu w ((zO ob tb).take 2).toArray 2 ⟨oMin.toArray⟩ (.func (.func 137) #[] #[zh tb]) rfl;have i4:=fun w => hu w ((zO ob tb).take 3).toArray 3 ⟨oIs.toArray⟩ (.func (.func 138) #[] #[]) rfl;have i5:=fun w => hu w ((zO ob tb).take 4).toArray 4 ⟨oNot.toArray⟩ (.func (.func 139) #[] #[zh tb]) rfl;have i6:=fun w => hu w ((zO ob tb).take 5).toArray 5 ⟨oAnd.toArray⟩ (.func (.func 140) #[] #[zh tb]) rfl;have i7:=fun w => hu w ((zO ob tb).take 6).toArray 6 ⟨oPlus.toArray⟩ (.func (.func 141) #[] #[zh ob,zh tb]) rfl;simp [zO,zaH,zh,oAll,oNeg,oMin,oIs,oNot,oAnd,oPlus] at i1 i2 i3 i4 i5 i6 i7;have HQ:=QH (AI hV (AI hw0 (AI hTT (AI hO (AI hR (AI hrow htc))))));clear hold hw3 hMw hMr hrow hV hw0 hTT hO hR hu htc;go_upto_region 8 with fail;clear i1 i2 i3 i4 i5 i6 i7;have hMm:=(QM [] wr).alloc (.map (zO ob tb).toArray 7);have hm1:=QN wr (.map (zO ob tb).toArray 7);have c1:=hMm.cell c0;change Code.wp _ _ _ _ (wr.alloc (.map (zO ob tb).toArray 7));generalize wr.alloc (.map (zO ob tb).toArray 7)=w6 at *;obtain ⟨m1,hm1e⟩:=EX (wr.heap.size);rw [hm1e] at hm1 ⊢;have hu:=fun (w:World) (es:Array MapEntry) (c:Nat) (k:ByteArray) (v:Value) => zZ (P:= Tryz.prog) 255 9 9 .string Tryz.underlying255 Tryz.underlying9 w es c (.string k) v AH;have j1:=fun w => hu w #[] 0 ⟨oCount.toArray⟩ (zaH oAll) rfl;have j2:=fun w => hu w (sameE.take 1).toArray 1 ⟨oSum.toArray⟩ (zaH oNeg) rfl;have j3:=fun w => hu w (sameE.take 2).toArray 2 ⟨oMax.toArray⟩ (zaH oMin) rfl;have j4:=fun w => hu w (sameE.take 3).toArray 3 ⟨oIsNot.toArray⟩ (zaH oIs) rfl;have j5:=fun w => hu w (sameE.take 4).toArray 4 ⟨oOr.toArray⟩ (zaH oAnd) rfl;have j6:=fun w => hu w (sameE.take 5).toArray 5 ⟨oMinus.toArray⟩ (zaH oPlus) rfl;have j7:=fun w => hu w (sameE.take 6).toArray 6 ⟨oTimes.toArray⟩ (zaH oPlus) rfl;have j8:=fun w => hu w (sameE.take 7).toArray 7 ⟨oOver.toArray⟩ (zaH oPlus) rfl;simp [sameE,zaH,oCount,oAll,oSum,oNeg,oMax,oMin,oIsNot,oIs,oOr,oAnd,oMinus,oPlus,oTimes,oOver] at j1 j2 j3 j4 j5 j6 j7 j8;have HM:=QH (AI hMm (AI hm1 hm1e));have d0:=((QM [] w6).alloc (.map sameE.toArray 8)).cell c1;clear hMm hm1 hu hm1e c0;go_upto_region 9 with fail;clear j1 j2 j3 j4 j5 j6 j7 j8 hmm;have hMn:=(QM [] w6).alloc (.map sameE.toArray 8);have hm2:=QN w6 (.map sameE.toArray 8);change Code.wp _ _ _ _ (w6.alloc (.map sameE.toArray 8));generalize w6.alloc (.map sameE.toArray 8)=w7 at *;generalize w6.heap.size=m2 at *;clear c1;have hMx:Mods [] wr w7:=HM.out.1.trans hMn;have hm1:=hMn.heap HM.out.2.1;have hV7:=HQ.out.1.later hMx;have hT7:=HQ.out.2.2.1.later hMx;have hR7:=hMx.heap HQ.out.2.2.2.2.1;have hw7:=HQ.out.2.1.trans hMx
   first
   |guard_hyp gFj
    obtain ⟨hop,har⟩:=HP.out;generalize ts.getD 0 tyNone=A at hT7 har HRR HQ;generalize ts.getD 1 tyNone=B at hT7 har HRR HQ;have hrbw:w.heap.size ≤ rb:=by have:=HB.out; omega
    rcases hop with rfl | rfl | rfl | rfl | rfl
    ·obtain rfl:S = ⟨#[99,111,117,110,116,97,108,108]⟩:=HH.out.2.2.2.2.2.symm;have l1:(Instr.lookup 255 (.map (some m2)) (.string ⟨#[99,111,117,110,116,97,108,108]⟩) true).run Tryz.prog w7 = .ok (.tuple #[.string ⟨#[]⟩,.bool false]) w7:=zs 255 9 9 .string Tryz.underlying255 Tryz.underlying9 hm2 (.string ⟨#[99,111,117,110,116,97,108,108]⟩) (.string ⟨#[]⟩) (fun w => by kernel_rfl) AH none rfl;have gFB:=QH trivial;exact yfp
    ·obtain rfl:S = ⟨#[99,111,117,110,116]⟩:=HH.out.2.2.2.2.2.symm;have l1:(Instr.lookup 255 (.map (some m2)) (.string ⟨#[99,111,117,110,116]⟩) true).run Tryz.prog w7 = .ok (.tuple #[.string ⟨#[99,111,117,110,116,97,108,108]⟩,.bool true]) w7:=zs 255 9 9 .string Tryz.underlying255 Tryz.underlying9 hm2 (.string ⟨#[99,111,117,110,116]⟩) (.string ⟨#[]⟩) (fun w => by kernel_rfl) AH (some (0,zaH oAll)) rfl;have gFC:=QH trivial;exact yfp
    ·obtain rfl:S = ⟨#[110,101,103]⟩:=HH.out.2.2.2.2.2.symm;have l1:(Instr.lookup 255 (.map (some m2)) (.string ⟨#[110,101,103]⟩) true).run Tryz.prog w7 = .ok (.tuple #[.string ⟨#[]⟩,.bool false]) w7:=zs 255 9 9 .string Tryz.underlying255 Tryz.underlying9 hm2 (.string ⟨#[110,101,103]⟩) (.string ⟨#[]⟩) (fun w => by kernel_rfl) AH none rfl;have gFv:=QH trivial;exact yfm
    ·obtain rfl:S = ⟨#[115,117,109]⟩:=HH.out.2.2.2.2.2.symm;have l1:(Instr.lookup 255 (.map (some m2)) (.string ⟨#[115,117,109]⟩) true).run Tryz.prog w7 = .ok (.tuple #[.string ⟨#[110,101,103]⟩,.bool true]) w7:=zs 255 9 9 .string Tryz.underlying255 Tryz.underlying9 hm2 (.string ⟨#[115,117,109]⟩) (.string ⟨#[]⟩) (fun w => by kernel_rfl) AH (some (1,zaH oNeg)) rfl;have gFw:=QH trivial;exact yfm
    ·obtain rfl:S = ⟨#[109,105,110]⟩:=HH.out.2.2.2.2.2.symm;have l1:(Instr.lookup 255 (.map (some m2)) (.string ⟨#[109,105,110]⟩) true).run Tryz.prog w7 = .ok (.tuple #[.string ⟨#[]⟩,.bool false]) w7:=zs 255 9 9 .string Tryz.underlying255 Tryz.underlying9 hm2 (.string ⟨#[109,105,110]⟩) (.string ⟨#[]⟩) (fun w => by kernel_rfl) AH none rfl;have gFx:=QH trivial;exact yfn
   |guard_hyp gFk
    obtain ⟨hop,har⟩:=HP.out;generalize ts.getD 0 tyNone=A at hT7 har HRR HQ;generalize ts.getD 1 tyNone=B at hT7 har HRR HQ;have hrbw:w.heap.size ≤ rb:=by have:=HB.out; omega
    rcases hop with rfl | rfl | rfl | rfl | rfl
    ·obtain rfl:S = ⟨#[109,97,120]⟩:=HH.out.2.2.2.2.2.symm;have l1:(Instr.lookup 255 (.map (some m2)) (.string ⟨#[109,97,120]⟩) true).run Tryz.prog w7 = .ok (.tuple #[.string ⟨#[109,105,110]⟩,.bool true]) w7:=zs 255 9 9 .string Tryz.underlying255 Tryz.underlying9 hm2 (.string ⟨#[109,97,120]⟩) (.string ⟨#[]⟩) (fun w => by kernel_rfl) AH (some (2,zaH oMin)) rfl;have gFy:=QH trivial;exact yfn
    ·obtain rfl:S = ⟨#[105,115,110,117,108,108]⟩:=HH.out.2.2.2.2.2.symm;have l1:(Instr.lookup 255 (.map (some m2)) (.string ⟨#[105,115,110,117,108,108]⟩) true).run Tryz.prog w7 = .ok (.tuple #[.string ⟨#[]⟩,.bool false]) w7:=zs 255 9 9 .string Tryz.underlying255 Tryz.underlying9 hm2 (.string ⟨#[105,115,110,117,108,108]⟩) (.string ⟨#[]⟩) (fun w => by kernel_rfl) AH none rfl;have gFD:=QH trivial;exact yfq
    ·obtain rfl:S = ⟨#[110,111,116,110,117,108,108]⟩:=HH.out.2.2.2.2.2.symm;have l1:(Instr.lookup 255 (.map (some m2)) (.string ⟨#[110,111,116,110,117,108,108]⟩) true).run Tryz.prog w7 = .ok (.tuple #[.string ⟨#[105,115,110,117,108,108]⟩,.bool true]) w7:=zs 255 9 9 .string Tryz.underlying255 Tryz.underlying9 hm2 (.string ⟨#[110,111,116,110,117,108,108]⟩) (.string ⟨#[]⟩) (fun w => by kernel_rfl) AH (some (3,zaH oIs)) rfl;have gFE:=QH trivial;exact yfq
    ·obtain rfl:S = ⟨#[110,111,116]⟩:=HH.out.2.2.2.2.2.symm;have l1:(Instr.lookup 255 (.map (some m2)) (.string ⟨#[110,111,116]⟩) true).run Tryz.prog w7 = .ok (.tuple #[.string ⟨#[]⟩,.bool false]) w7:=zs 255 9 9 .string Tryz.underlying255 Tryz.underlying9 hm2 (.string ⟨#[110,111,116]⟩) (.string ⟨#[]⟩) (fun w => by kernel_rfl) AH none rfl;have l2:(Instr.lookup 254 (.map (some m1)) (.string ⟨#[110,111,116]⟩) true).run Tryz.prog w7 = .ok (.tuple #[.func (.func 139) #[] #[.pointer (some ⟨tb,0,none⟩)],.bool true]) w7:=zs 254 9 253 .string Tryz.underlying254 Tryz.underlying9 hm1 (.string ⟨#[110,111,116]⟩) .nilFunc (fun w => by kernel_rfl) AH (some (4,.func (.func 139) #[] #[.pointer (some ⟨tb,0,none⟩)])) rfl;have hcall:Calls Tryz.prog 139 #[zh tb] w7 (RuleRes (zx oNot A B) w7):=(zmO w7 hV7 tb A B hT7).mono fun e w9 h => RuleRes.of (o:=if A=tyBool then some tyBool else none) (t:=tyBool) zaz zej h;obtain ⟨ok,hok⟩:=EX ((zx oNot A B).isSome);exact yfi
    ·obtain rfl:S = ⟨#[97,110,100]⟩:=HH.out.2.2.2.2.2.symm;have l1:(Instr.lookup 255 (.map (some m2)) (.string ⟨#[97,110,100]⟩) true).run Tryz.prog w7 = .ok (.tuple #[.string ⟨#[]⟩,.bool false]) w7:=zs 255 9 9 .string Tryz.underlying255 Tryz.underlying9 hm2 (.string ⟨#[97,110,100]⟩) (.string ⟨#[]⟩) (fun w => by kernel_rfl) AH none rfl;have gFz:=QH trivial;exact yfo
   |guard_hyp gFl
    obtain ⟨hop,har⟩:=HP.out;generalize ts.getD 0 tyNone=A at hT7 har HRR HQ;generalize ts.getD 1 tyNone=B at hT7 har HRR HQ;have hrbw:w.heap.size ≤ rb:=by have:=HB.out; omega
    rcases hop with rfl | rfl | rfl | rfl | rfl
    ·obtain rfl:S = ⟨#[111,114]⟩:=HH.out.2.2.2.2.2.symm;have l1:(Instr.lookup 255 (.map (some m2)) (.string ⟨#[111,114]⟩) true).run Tryz.prog w7 = .ok (.tuple #[.string ⟨#[97,110,100]⟩,.bool true]) w7:=zs 255 9 9 .string Tryz.underlying255 Tryz.underlying9 hm2 (.string ⟨#[111,114]⟩) (.string ⟨#[]⟩) (fun w => by kernel_rfl) AH (some (4,zaH oAnd)) rfl;have gFA:=QH trivial;exact yfo
    ·obtain rfl:S = ⟨#[43]⟩:=HH.out.2.2.2.2.2.symm;have l1:(Instr.lookup 255 (.map (some m2)) (.string ⟨#[43]⟩) true).run Tryz.prog w7 = .ok (.tuple #[.string ⟨#[]⟩,.bool false]) w7:=zs 255 9 9 .string Tryz.underlying255 Tryz.underlying9 hm2 (.string ⟨#[43]⟩) (.string ⟨#[]⟩) (fun w => by kernel_rfl) AH none rfl;have gFr:=QH trivial;exact yfl
    ·obtain rfl:S = ⟨#[45]⟩:=HH.out.2.2.2.2.2.symm;have l1:(Instr.lookup 255 (.map (some m2)) (.string ⟨#[45]⟩) true).run Tryz.prog w7 = .ok (.tuple #[.string ⟨#[43]⟩,.bool true]) w7:=zs 255 9 9 .string Tryz.underlying255 Tryz.underlying9 hm2 (.string ⟨#[45]⟩) (.string ⟨#[]⟩) (fun w => by kernel_rfl) AH (some (5,zaH oPlus)) rfl;have gFs:=QH trivial;exact yfl
    ·obtain rfl:S = ⟨#[42]⟩:=HH.out.2.2.2.2.2.symm;have l1:(Instr.lookup 255 (.map (some m2)) (.string ⟨#[42]⟩) true).run Tryz.prog w7 = .ok (.tuple #[.string ⟨#[43]⟩,.bool true]) w7:=zs 255 9 9 .string Tryz.underlying255 Tryz.underlying9 hm2 (.string ⟨#[42]⟩) (.string ⟨#[]⟩) (fun w => by kernel_rfl) AH (some (6,zaH oPlus)) rfl;have gFt:=QH trivial;exact yfl
    ·obtain rfl:S = ⟨#[47]⟩:=HH.out.2.2.2.2.2.symm;have l1:(Instr.lookup 255 (.map (some m2)) (.string ⟨#[47]⟩) true).run Tryz.prog w7 = .ok (.tuple #[.string ⟨#[43]⟩,.bool true]) w7:=zs 255 9 9 .string Tryz.underlying255 Tryz.underlying9 hm2 (.string ⟨#[47]⟩) (.string ⟨#[]⟩) (fun w => by kernel_rfl) AH (some (7,zaH oPlus)) rfl;have gFu:=QH trivial;exact yfl
   |guard_hyp gFm
    obtain ⟨hrel,har⟩:=HP.out;generalize ts.getD 0 tyNone=A at hT7 har HRR HQ;generalize ts.getD 1 tyNone=B at hT7 har HRR HQ;have hrbw:w.heap.size ≤ rb:=by have:=HB.out; omega
    obtain ⟨f1,f2⟩:=zk8 ob tb hrel;have hv:=zjL A B hrel;rw [HH.out.2.2.2.2.2] at f1 f2;have l1:(Instr.lookup 255 (.map (some m2)) (.string S) true).run Tryz.prog w7 = .ok (.tuple #[.string ⟨#[]⟩,.bool false]) w7:=zs 255 9 9 .string Tryz.underlying255 Tryz.underlying9 hm2 (.string S) (.string ⟨#[]⟩) (fun w => by kernel_rfl) AH none f1;have l2:(Instr.lookup 254 (.map (some m1)) (.string S) true).run Tryz.prog w7 = .ok (.tuple #[.nilFunc,.bool false]) w7:=zs 254 9 253 .string Tryz.underlying254 Tryz.underlying9 hm1 (.string S) .nilFunc (fun w => by kernel_rfl) AH none f2;have ht0:=hMx.cell HQ.out.2.2.2.2.2.2;have hs7:=hMx.heap HQ.out.2.2.2.2.2.1;have gb : 0 ≠ rb:=by have:=zD HH.out.1.1.1;change 0 < w.heap.size at this;omega
    have nt:tb ≠ rb:=by have:=HB.out; omega
    have ns:sb ≠ rb:=by have:=HB.out; omega
    have FF:Hid (∀ bb,(∀ k:zay (zdL w7 rb #[.int .i64 4,.int .i64 0] bb),k.val.cell? ⟨0, 0,none⟩ = some (.int .i64 4)) ∧ (∀ k:zay (zdL w7 rb #[.int .i64 4,.int .i64 0] bb),k.val.cell? ⟨0, 1,none⟩ = some (.int .i64 0)) ∧ (∀ k:zay (zdL w7 rb #[.int .i64 4,.int .i64 0] bb),k.val.cell? ⟨tb,0,none⟩ = some (.slice (some ⟨sb,0,none⟩) 2 2)) ∧
      (∀ k:zay (zdL w7 rb #[.int .i64 4,.int .i64 0] bb),k.val.cell? ⟨sb,0,none⟩ = some (.int .i64 A.k)) ∧ (∀ k:zay (zdL w7 rb #[.int .i64 4,.int .i64 0] bb),k.val.cell? ⟨sb,1,none⟩ = some (.int .i64 A.s)) ∧ (∀ k:zay (zdL w7 rb #[.int .i64 4,.int .i64 0] bb),k.val.cell? ⟨sb,2,none⟩ = some (.int .i64 B.k)) ∧ (∀ k:zay (zdL w7 rb #[.int .i64 4,.int .i64 0] bb),k.val.cell? ⟨sb,3,none⟩ = some (.int .i64 B.s)) ∧
      (∀ k:zay (zdL w7 rb #[.int .i64 4,.int .i64 0] bb),Calls Tryz.prog 136 #[tyA A] k.val fun e w' => e = .returned (.bool A.num) ∧ ∃ k':zay (zdL w7 rb #[.int .i64 4,.int .i64 0] bb),w'=k'.val) ∧ (∀ k:zay (zdL w7 rb #[.int .i64 4,.int .i64 0] bb),Calls Tryz.prog 136 #[tyA B] k.val fun e w' => e = .returned (.bool B.num) ∧ ∃ k':zay (zdL w7 rb #[.int .i64 4,.int .i64 0] bb),w'=k'.val)):=
     QH fun bb => ⟨zcn hV7.1.1 gb bb,zcn hV7.1.2 gb bb,zcn ht0 nt bb,zcn (za hs7 0) ns bb,zcn (za hs7 1) ns bb,zcn (za hs7 2) ns bb,zcn (za hs7 3) ns bb,
      fun k => (zdh A k.val).mono fun e w' h => ⟨h.1,⟨w',k.mods.trans h.2⟩,rfl⟩,fun k => (zdh B k.val).mono fun e w' h => ⟨h.1,⟨w',k.mods.trans h.2⟩,rfl⟩⟩
    have HW:=QH (AI hv hw7);clear hv f1 f2 hm1 hm2 hV7 hT7 ht0 hs7 hMx gb nt ns har hrel hw7;obtain ⟨A1,A2⟩:=A;obtain ⟨B1,B2⟩:=B;generalize hna:(⟨A1,A2⟩ : Ty).num=na at FF HW;generalize hnb:(⟨B1,B2⟩ : Ty).num=nb at FF HW;have HN:=QH (AI hna hnb);clear hna hnb;unfold tyA at FF;simp only at FF;go_upto_region 15 with fail;clear l1 l2;have htri:(A1=B1 ∧ A2=B2) ∨ (A1=B1 ∧ ¬ A2=B2) ∨ ¬ A1=B1:=by omega
    rcases htri with ⟨rfl,rfl⟩ | ⟨rfl,h2⟩ | h2
    ·have gDf:=QH trivial;exact yej
    ·have hne:(⟨A1,A2⟩ : Ty) ≠ ⟨A1,B2⟩:=fun h => h2 (by injection h);exact yaf
    ·have hne:(⟨A1,A2⟩ : Ty) ≠ ⟨B1,B2⟩:=fun h => h2 (by injection h);exact yaf
  |guard_hyp gFK
   have e0:=hold _ _ (hcells i hiu);obtain ⟨nb,hu,e1,e2⟩:=HH.out.2.2.2.2.1 i hiu hit;rw [hu] at e0;have e1:=hold _ _ e1;have e2:=hold _ _ e2;have e3:wr.cell? ⟨tb,0,none⟩ = some (.slice (some ⟨sb,0,none⟩) 2 2):=za (hMr.heap HK.out.2.2.2.2 AE) 0;have hg:ts[i]=ts.getD i tyNone:=by simp [hit]
   rw [hg] at e1 e2;unfold zh at e0;clear hold hcells hu hg hw3 hMw;have q0:=za hrow 0;have q1:=za hrow 1;have q2:=za hrow 2;have q3:=za hrow 3;have f0:=zc hrow 0;have f1:=zc hrow 1;have f2:=zc hrow 2;have f3:=zc hrow 3;have hi2:i=0 ∨ i=1:=by omega
   obtain ⟨T,hT⟩:=EX (ts.getD i tyNone);rw [hT] at e1 e2;have HR:=QH (AI hrow (AI hMr hT));clear hrow hMr hT;rcases hi2 with rfl | rfl
   ·go_upto_region 5 with fail;go_still_tail 7,AC;change wpList _ _ _ _ _ wr.drew;have hz:wr.drew.heap=wr.heap:=rfl;have HZ:=QH (AI hz (show Mods [sb] wr wr.drew from (QM _ _).drew));have HT:wr.drew.there sb 0 2:=fun j hj => by
     have hj2:j=0 ∨ j=1:=by omega
     rcases hj2 with rfl | rfl
     ·exact ⟨(congrArg Option.isSome q0).trans rfl,f0⟩
     ·exact ⟨(congrArg Option.isSome q1).trans rfl,f1⟩
    generalize wr.drew=wd at *;clear hz e0 e1 e2 e3;refine wpList_store_mid rfl 62 (.tmp 30) (.tmp 29) rfl sb 0 #[.int .i64 T.k,.int .i64 T.s] rfl rfl HT zk (zA _ _) ?_;go_wp2_with fail;go_roundg (n - (0 + 1))
    case measure => omega
    case rel =>refine ⟨0 + 1,by omega,by go_num,?_,((HR.out.2.1.trans HZ.out.2).setCell (.inl AB) _).setCell (.inl AB) _⟩;have h0:=HR.out.1;rw [← HZ.out.1] at h0;have h2:=zb (zb h0 0 (.int .i64 T.k)) 1 (.int .i64 T.s);exact h2.trans (by rw [← HR.out.2.2]; rfl)
   ·go_upto_region 5 with fail;go_still_tail 7,AC;change wpList _ _ _ _ _ wr.drew;have hz:wr.drew.heap=wr.heap:=rfl;have HZ:=QH (AI hz (show Mods [sb] wr wr.drew from (QM _ _).drew));have HT:wr.drew.there sb 2 2:=fun j hj => by
     have hj2:j=0 ∨ j=1:=by omega
     rcases hj2 with rfl | rfl
     ·exact ⟨(congrArg Option.isSome q2).trans rfl,f2⟩
     ·exact ⟨(congrArg Option.isSome q3).trans rfl,f3⟩
    generalize wr.drew=wd at *;clear hz e0 e1 e2 e3;refine wpList_store_mid rfl 62 (.tmp 30) (.tmp 29) rfl sb 2 #[.int .i64 T.k,.int .i64 T.s] rfl rfl HT zk (zA _ _) ?_;go_wp2_with fail;go_roundg (n - (1 + 1))
    case measure => omega
    case rel =>refine ⟨1 + 1,by omega,by go_num,?_,((HR.out.2.1.trans HZ.out.2).setCell (.inl AB) _).setCell (.inl AB) _⟩;have h0:=HR.out.1;rw [← HZ.out.1] at h0;have h2:=zb (zb h0 2 (.int .i64 T.k)) 3 (.int .i64 T.s);exact h2.trans (by rw [← HR.out.2.2]; rfl)
 ):p:=h
theorem yej {p:Prop} (h:p:=by
  apply zz AC 20 _ rfl 62 (.tmp 4) (.tmp 58) rfl rfl rfl AC AC rb #[.int .i64 4,.int .i64 0] _ _ hR7 zk rfl (zA 4 0)
  case hwalk =>exact yct
  case hxa => rfl
  case hya => rfl
  first
  |guard_hyp gDf
   case hend =>have gBJ:=QH trivial;exact ydA
  |guard_hyp gDg
   case hend =>have gBK:=QH trivial;exact ydA
  |guard_hyp gDh
   case hend =>have gBL:=QH trivial;exact ydA
  |guard_hyp gDi
   case hend =>have gBM:=QH trivial;exact ydA
 ):p:=h
theorem yfr {p:Prop} (h:p:=by
  obtain ⟨S,hS⟩:=EX ((⟨op.toArray⟩ : ByteArray):ByteArray);rw [hS];obtain ⟨RR,hRR⟩:=EX (RuleRes (zx op (ts.getD 0 tyNone) (ts.getD 1 tyNone)) w);rw [hRR];have HRR:=QH hRR;clear hRR;have HH:=QH (AI hV (AI hn (AI htn (AI hao (AI hts hS)))))
  first
  |guard_hyp gFF
   have HP:=QH (AI hop har);clear hV hn htn hao hts hS hop har;have gFn:=QH trivial;exact yfk
  |guard_hyp gFG
   have HP:=QH (AI hop har);clear hV hn htn hao hts hS hop har;have gFo:=QH trivial;exact yfk
  |guard_hyp gFH
   have HP:=QH (AI hop har);clear hV hn htn hao hts hS hop har;have gFp:=QH trivial;exact yfk
  |guard_hyp gFI
   have HP:=QH (AI hrel har);clear hV hn htn hao hts hS hrel har;have gFq:=QH trivial;exact yfk
 ):p:=h
theorem yea {p:Prop} (h:p:=by
  intro bb;obtain ⟨F1,F2,F3,F4,F5,F6,K⟩:=HH.out;have F1:=F1 bb;have F2:=F2 bb;have F3:=F3 bb;have F4:=F4 bb;have F5:=F5 bb
  first
  |guard_hyp gCO
   have F6:∀ k:zay (zdL (w.alloc (.cells #[.int .i64 0,.int .i64 0] 62)) w.heap.size #[.int .i64 t.k,.int .i64 t.s] bb),k.val.cell? ⟨ob,0,none⟩ = some (.string ⟨#[43]⟩):=F6 bb;exact yaY
  |guard_hyp gCP
   have F6:∀ k:zay (zdL (w.alloc (.cells #[.int .i64 0,.int .i64 0] 62)) w.heap.size #[.int .i64 t.k,.int .i64 t.s] bb),k.val.cell? ⟨ob,0,none⟩ = some (.string ⟨#[45]⟩):=F6 bb;exact yaY
  |guard_hyp gCQ
   have F6:∀ k:zay (zdL (w.alloc (.cells #[.int .i64 0,.int .i64 0] 62)) w.heap.size #[.int .i64 t.k,.int .i64 t.s] bb),k.val.cell? ⟨ob,0,none⟩ = some (.string ⟨#[42]⟩):=F6 bb;exact yaY
  |guard_hyp gCR
   have F6:∀ k:zay (zdL (w.alloc (.cells #[.int .i64 0,.int .i64 0] 62)) w.heap.size #[.int .i64 t.k,.int .i64 t.s] bb),k.val.cell? ⟨ob,0,none⟩ = some (.string ⟨#[47]⟩):=F6 bb;exact yaY
 ):p:=h
theorem yfq {p:Prop} (h:p:=by
  have l2:(Instr.lookup 254 (.map (some m1)) (.string ⟨#[105,115,110,117,108,108]⟩) true).run Tryz.prog w7 = .ok (.tuple #[.func (.func 138) #[] #[],.bool true]) w7:=zs 254 9 253 .string Tryz.underlying254 Tryz.underlying9 hm1 (.string ⟨#[105,115,110,117,108,108]⟩) .nilFunc (fun w => by kernel_rfl) AH (some (3,.func (.func 138) #[] #[])) rfl
  first
  |guard_hyp gFD
   have hcall:Calls Tryz.prog 138 #[] w7 (RuleRes (zx oIs A B) w7):=(zhs w7 hV7).mono fun e w9 h => RuleRes.of (t:=tyBool) rfl (fun u h => by cases h; rfl) h;obtain ⟨ok,hok⟩:=EX ((zx oIs A B).isSome);exact yfi
  |guard_hyp gFE
   have hcall:Calls Tryz.prog 138 #[] w7 (RuleRes (zx oIsNot A B) w7):=(zhs w7 hV7).mono fun e w9 h => RuleRes.of (t:=tyBool) rfl (fun u h => by cases h; rfl) h;obtain ⟨ok,hok⟩:=EX ((zx oIsNot A B).isSome);exact yfi
 ):p:=h
theorem yfp {p:Prop} (h:p:=by
  have l2:(Instr.lookup 254 (.map (some m1)) (.string ⟨#[99,111,117,110,116,97,108,108]⟩) true).run Tryz.prog w7 = .ok (.tuple #[.func (.func 134) #[] #[],.bool true]) w7:=zs 254 9 253 .string Tryz.underlying254 Tryz.underlying9 hm1 (.string ⟨#[99,111,117,110,116,97,108,108]⟩) .nilFunc (fun w => by kernel_rfl) AH (some (0,.func (.func 134) #[] #[])) rfl
  first
  |guard_hyp gFB
   have hcall:Calls Tryz.prog 134 #[] w7 (RuleRes (zx oAll A B) w7):=(ziT w7 hV7).mono fun e w9 h => RuleRes.of (t:=tyInt) rfl (fun u h => by cases h; rfl) h;obtain ⟨ok,hok⟩:=EX ((zx oAll A B).isSome);exact yfi
  |guard_hyp gFC
   have hcall:Calls Tryz.prog 134 #[] w7 (RuleRes (zx oCount A B) w7):=(ziT w7 hV7).mono fun e w9 h => RuleRes.of (t:=tyInt) rfl (fun u h => by cases h; rfl) h;obtain ⟨ok,hok⟩:=EX ((zx oCount A B).isSome);exact yfi
 ):p:=h
theorem yfo {p:Prop} (h:p:=by
  have l2:(Instr.lookup 254 (.map (some m1)) (.string ⟨#[97,110,100]⟩) true).run Tryz.prog w7 = .ok (.tuple #[.func (.func 140) #[] #[.pointer (some ⟨tb,0,none⟩)],.bool true]) w7:=zs 254 9 253 .string Tryz.underlying254 Tryz.underlying9 hm1 (.string ⟨#[97,110,100]⟩) .nilFunc (fun w => by kernel_rfl) AH (some (5,.func (.func 140) #[] #[.pointer (some ⟨tb,0,none⟩)])) rfl
  first
  |guard_hyp gFz
   have hcall:Calls Tryz.prog 140 #[zh tb] w7 (RuleRes (zx oAnd A B) w7):=(ziV w7 hV7 tb A B hT7).mono fun e w9 h => RuleRes.of (o:=if A=tyBool ∧ B=tyBool then some tyBool else none) (t:=tyBool) (by rw [zaz,Bool.decide_and]) zej h;obtain ⟨ok,hok⟩:=EX ((zx oAnd A B).isSome);exact yfi
  |guard_hyp gFA
   have hcall:Calls Tryz.prog 140 #[zh tb] w7 (RuleRes (zx oOr A B) w7):=(ziV w7 hV7 tb A B hT7).mono fun e w9 h => RuleRes.of (o:=if A=tyBool ∧ B=tyBool then some tyBool else none) (t:=tyBool) (by rw [zaz,Bool.decide_and]) zej h;obtain ⟨ok,hok⟩:=EX ((zx oOr A B).isSome);exact yfi
 ):p:=h
theorem yfn {p:Prop} (h:p:=by
  have l2:(Instr.lookup 254 (.map (some m1)) (.string ⟨#[109,105,110]⟩) true).run Tryz.prog w7 = .ok (.tuple #[.func (.func 137) #[] #[.pointer (some ⟨tb,0,none⟩)],.bool true]) w7:=zs 254 9 253 .string Tryz.underlying254 Tryz.underlying9 hm1 (.string ⟨#[109,105,110]⟩) .nilFunc (fun w => by kernel_rfl) AH (some (2,.func (.func 137) #[] #[.pointer (some ⟨tb,0,none⟩)])) rfl
  first
  |guard_hyp gFx
   have hcall:Calls Tryz.prog 137 #[zh tb] w7 (RuleRes (zx oMin A B) w7):=(zht w7 tb A B hT7).mono fun e w9 h => RuleRes.of (t:=A) rfl (fun u h => by cases h; rfl) h;obtain ⟨ok,hok⟩:=EX ((zx oMin A B).isSome);exact yfi
  |guard_hyp gFy
   have hcall:Calls Tryz.prog 137 #[zh tb] w7 (RuleRes (zx oMax A B) w7):=(zht w7 tb A B hT7).mono fun e w9 h => RuleRes.of (t:=A) rfl (fun u h => by cases h; rfl) h;obtain ⟨ok,hok⟩:=EX ((zx oMax A B).isSome);exact yfi
 ):p:=h
theorem yfm {p:Prop} (h:p:=by
  have l2:(Instr.lookup 254 (.map (some m1)) (.string ⟨#[110,101,103]⟩) true).run Tryz.prog w7 = .ok (.tuple #[.func (.func 135) #[] #[.pointer (some ⟨tb,0,none⟩)],.bool true]) w7:=zs 254 9 253 .string Tryz.underlying254 Tryz.underlying9 hm1 (.string ⟨#[110,101,103]⟩) .nilFunc (fun w => by kernel_rfl) AH (some (1,.func (.func 135) #[] #[.pointer (some ⟨tb,0,none⟩)])) rfl
  first
  |guard_hyp gFv
   have hcall:Calls Tryz.prog 135 #[zh tb] w7 (RuleRes (zx oNeg A B) w7):=(ziU w7 tb A B hT7).mono fun e w9 h => RuleRes.of (o:=if A.num=true then some A else none) (t:=A) (by rw [zaz]; cases A.num <;> rfl) zej h;obtain ⟨ok,hok⟩:=EX ((zx oNeg A B).isSome);exact yfi
  |guard_hyp gFw
   have hcall:Calls Tryz.prog 135 #[zh tb] w7 (RuleRes (zx oSum A B) w7):=(ziU w7 tb A B hT7).mono fun e w9 h => RuleRes.of (o:=if A.num=true then some A else none) (t:=A) (by rw [zaz]; cases A.num <;> rfl) zej h;obtain ⟨ok,hok⟩:=EX ((zx oSum A B).isSome);exact yfi
 ):p:=h
theorem ydA {p:Prop} (h:p:=by
  intro wz hMz;have hr4:=hMz.heap (zi (w:=w7.drew) #[.int .i64 4,.int .i64 0] hR7);have hfin:Mods [] w wz:=((HW.out.2.drew).setRow (.inr hrbw) #[.int .i64 4,.int .i64 0]).trans hMz;clear hMz FF hR7;go_wp2_with fail;refine bodyPost_ret (zg rfl _ _ rb 62 #[.int .i64 4,.int .i64 0] (0,0) _ rfl hr4 Tryz.underlying62 rfl zk _ rfl) rfl ?_;rw [← HRR.out,HW.out.1];refine ⟨⟨tyBool,?_,zej⟩,hfin⟩
  first
  |guard_hyp gBJ
   rw [zaz,decide_eq_true (by first | exact .inl rfl | exact .inl trivial)];rfl
  |guard_hyp gBK
   rw [zaz,decide_eq_false (fun h => h.elim hne (fun h => by have q1:=h.1; have q2:=HN.out.1; first | (rw [q1] at q2; cases q2) | cases q1))];rfl
  |guard_hyp gBL
   rw [zaz,decide_eq_false (fun h => h.elim hne (fun h => by have q1:=h.2; have q2:=HN.out.2; first | (rw [q1] at q2; cases q2) | cases q1))];rfl
  |guard_hyp gBM
   rw [zaz,decide_eq_true (by first | exact .inr ⟨HN.out.1,HN.out.2⟩ | exact .inr ⟨rfl,rfl⟩ | exact .inr ⟨trivial,trivial⟩ | exact .inr trivial | simp)];rfl
 ):p:=h
theorem yfl {p:Prop} (h:p:=by
  have l2:(Instr.lookup 254 (.map (some m1)) (.string ⟨#[43]⟩) true).run Tryz.prog w7 = .ok (.tuple #[.func (.func 141) #[] #[.pointer (some ⟨ob,0,none⟩),.pointer (some ⟨tb,0,none⟩)],.bool true]) w7:=zs 254 9 253 .string Tryz.underlying254 Tryz.underlying9 hm1 (.string ⟨#[43]⟩) .nilFunc (fun w => by kernel_rfl) AH (some (6,.func (.func 141) #[] #[.pointer (some ⟨ob,0,none⟩),.pointer (some ⟨tb,0,none⟩)])) rfl
  first
  |guard_hyp gFr
   have hcall:Calls Tryz.prog 141 #[zh ob,zh tb] w7 (RuleRes (zx oPlus A B) w7):=zcQ w7 ob tb 43 AD d0 A B (har AB).1 (har AB).2 hT7;obtain ⟨ok,hok⟩:=EX ((zx oPlus A B).isSome);exact yfi
  |guard_hyp gFs
   have hcall:Calls Tryz.prog 141 #[zh ob,zh tb] w7 (RuleRes (zx oMinus A B) w7):=zcQ w7 ob tb 45 AD d0 A B (har AB).1 (har AB).2 hT7;obtain ⟨ok,hok⟩:=EX ((zx oMinus A B).isSome);exact yfi
  |guard_hyp gFt
   have hcall:Calls Tryz.prog 141 #[zh ob,zh tb] w7 (RuleRes (zx oTimes A B) w7):=zcQ w7 ob tb 42 AD d0 A B (har AB).1 (har AB).2 hT7;obtain ⟨ok,hok⟩:=EX ((zx oTimes A B).isSome);exact yfi
  |guard_hyp gFu
   have hcall:Calls Tryz.prog 141 #[zh ob,zh tb] w7 (RuleRes (zx oOver A B) w7):=zcQ w7 ob tb 47 AD d0 A B (har AB).1 (har AB).2 hT7;obtain ⟨ok,hok⟩:=EX ((zx oOver A B).isSome);exact yfi
 ):p:=h
theorem yfk {p:Prop} (h:p:=by
  have hmk:=zgL;go_enter Tryz.func99, Tryz.ntmps99;go_wp2_with fail;have hM1:=(((QM [] w).alloc (.cells #[.string S] 9)).alloc (.cells #[.int .i64 0,.int .i64 0] 62)).alloc (.cells #[.int .i64 0,.int .i64 0,.int .i64 0,.int .i64 0] 62);have hM3:=hM1.alloc (.cells #[.slice (some ⟨w.heap.size + 1 + 1,0,none⟩) 2 2] 252);have k0:=((((QM [] (w.alloc (.cells #[.string S] 9))).alloc (.cells #[.int .i64 0,.int .i64 0] 62)).alloc (.cells #[.int .i64 0,.int .i64 0,.int .i64 0,.int .i64 0] 62)).alloc (.cells #[.slice (some ⟨w.heap.size + 1 + 1,0,none⟩) 2 2] 252)).heap (QN w _);have k1:=(((QM [] ((w.alloc (.cells #[.string S] 9)).alloc (.cells #[.int .i64 0,.int .i64 0] 62))).alloc (.cells #[.int .i64 0,.int .i64 0,.int .i64 0,.int .i64 0] 62)).alloc (.cells #[.slice (some ⟨w.heap.size + 1 + 1,0,none⟩) 2 2] 252)).heap (QN (w.alloc (.cells #[.string S] 9)) _) AB;have k2:=((QM [] (((w.alloc (.cells #[.string S] 9)).alloc (.cells #[.int .i64 0,.int .i64 0] 62)).alloc (.cells #[.int .i64 0,.int .i64 0,.int .i64 0,.int .i64 0] 62))).alloc (.cells #[.slice (some ⟨w.heap.size + 1 + 1,0,none⟩) 2 2] 252)).heap (QN ((w.alloc (.cells #[.string S] 9)).alloc (.cells #[.int .i64 0,.int .i64 0] 62)) _) AB;have k3:=QN (((w.alloc (.cells #[.string S] 9)).alloc (.cells #[.int .i64 0,.int .i64 0] 62)).alloc (.cells #[.int .i64 0,.int .i64 0,.int .i64 0,.int .i64 0] 62)) (.cells #[.slice (some ⟨w.heap.size + 1 + 1,0,none⟩) 2 2] 252);simp only [zl] at k1 k2 k3;generalize (((w.alloc (.cells #[.string S] 9)).alloc (.cells #[.int .i64 0,.int .i64 0] 62)).alloc (.cells #[.int .i64 0,.int .i64 0,.int .i64 0,.int .i64 0] 62)).alloc (.cells #[.slice (some ⟨w.heap.size + 1 + 1,0,none⟩) 2 2] 252)=w3 at *;clear hM1 hmk;obtain ⟨ob,hob⟩:=EX (w.heap.size);obtain ⟨rb,hrb⟩:=EX (ob + 1);obtain ⟨sb,hsb⟩:=EX (rb + 1);obtain ⟨tb,htb⟩:=EX (sb + 1);simp only [hob,hrb,hsb,htb] at k0 k1 k2 k3;rw [hob,hrb,hsb,htb];have HB:=QH (AI hob (AI hrb (AI hsb htb)));have HK:=QH (AI hM3 (AI k0 (AI k1 (AI k2 k3))));have n1:sb ≠ ob:=by omega
  have n2:sb ≠ rb:=by omega
  have n3:sb ≠ tb:=by omega
  clear hob hrb hsb htb hM3 k0 k1 k2 k3;go_loopg [19] n (fun gk t19 wr => ∃ i:Nat,i + gk=n ∧ t19 = .int .i64 i ∧ wr.heap[sb]? = some (.cells (tRow ts i) 62 (0,0)) ∧ Mods [sb] w3 wr)
  case atStart => exact ⟨0,by omega,rfl,HK.out.2.2.2.1,QM _ _⟩
  obtain ⟨i,hin,rfl,hrow,hMr⟩:=hrel;by_cases hlt:i < n
  ·exact yac
  first
  |guard_hyp gFn
   ·have gFj:=QH trivial;exact yfj
  |guard_hyp gFo
   ·have gFk:=QH trivial;exact yfj
  |guard_hyp gFp
   ·have gFl:=QH trivial;exact yfj
  |guard_hyp gFq
   ·have gFm:=QH trivial;exact yfj
 ):p:=h
theorem yfa {p:Prop} (h:p:=by
  go_enter Tryz.func141, Tryz.ntmps141;go_upto_region 1 with fail;apply zz AC 11 _ rfl 62 (.tmp 2) (.tmp 13) rfl rfl rfl AC AC w.heap.size #[.int .i64 t.k,.int .i64 t.s] _ _ hr zk rfl (zA t.k t.s)
  first
  |guard_hyp gEX
   case hwalk =>have gCO:=QH trivial;exact yea
   case hxa => rfl
   case hya => rfl
   case hend =>exact yeZ
  |guard_hyp gEY
   case hwalk =>have gCP:=QH trivial;exact yea
   case hxa => rfl
   case hya => rfl
   case hend =>exact yeZ
  |guard_hyp gEZ
   case hwalk =>have gCQ:=QH trivial;exact yea
   case hxa => rfl
   case hya => rfl
   case hend =>exact yeZ
  |guard_hyp gE0
   case hwalk =>have gCR:=QH trivial;exact yea
   case hxa => rfl
   case hya => rfl
   case hend =>exact yeZ
 ):p:=h
theorem yfj {p:Prop} (h:p:=by
  obtain rfl:n=i:=by omega
  have gFJ:=QH trivial;exact yfs
 ):p:=h
theorem yfi {p:Prop} (h:p:=by
  try unfold zh at hcall
  have HOK:=QH hok;clear hok har hm1 hm2 hV7 hT7;go_wp2_with fail;(with_reducible refine hcall.mono ?_);intro e w8 hres;obtain ⟨⟨t,he,htu⟩,hM8⟩:=hres;rw [HOK.out] at he;subst he;unfold tyA;have hr8:=hM8.heap hR7;have HT:=QH htu;clear hcall l1 l2 htu;go_wp2_with (refine wpList_store_row rfl 62 (.tmp 4) (.tmp 80) rfl rb #[.int .i64 t.k,.int .i64 t.s] rfl rfl 62 _ hr8 zk rfl (zA _ _) ?_);refine bodyPost_ret (zg rfl _ _ rb 62 #[.int .i64 t.k,.int .i64 t.s] (0,0) _ rfl (zi _ hr8) Tryz.underlying62 rfl zk _ rfl) rfl ?_;rw [← HRR.out];exact ⟨⟨t,by rw [HOK.out]; rfl,HT.out⟩,(hw7.trans hM8).setRow (.inr hrbw) _⟩
 ):p:=h
theorem yac {p:Prop} (h:p:=by
  obtain ⟨c,rfl,hcells⟩:=HH.out.2.2.2.1 AA;have hiu:i < us.length:=by rw [HH.out.2.1]; exact hlt
  have hit:i < ts.length:=by rw [HH.out.2.2.1]; exact hlt
  have gFK:=QH trivial;exact yfs
 ):p:=h
theorem yeZ {p:Prop} (h:p:=by
  intro wz hMz;have hr4:=hMz.heap (zi (w:=(w.alloc (.cells #[.int .i64 0,.int .i64 0] 62)).drew) #[.int .i64 t.k,.int .i64 t.s] hr) AB;have hfin:Mods [] w wz:=((HZ.out.drew).setRow (g:=w.heap.size) (.inr (LR _)) #[.int .i64 t.k,.int .i64 t.s]).trans hMz;clear hMz HZ HH hr;generalize w.heap.size=gb at *;go_wp2_with fail;refine bodyPost_ret (zg rfl _ _ gb 62 #[.int .i64 t.k,.int .i64 t.s] (0,0) _ rfl hr4 Tryz.underlying62 rfl zk _ rfl) rfl ?_;exact HFIN.out wz hfin
 ):p:=h
theorem yaY {p:Prop} (h:p:=by
  have HK:=QH (K bb);clear K;dsimp only [nop,List.set];(repeat go_big_quiet_step (exact HK.out _));refine QW ?_;exact rfl
 ):p:=h
def RuleRes (o:Option Ty) (w:World) (e:Ending) (w':World):Prop:=(∃ t:Ty,e = .returned (.tuple #[tyA t,.bool o.isSome]) ∧ ∀ u,o=some u → t=u) ∧ Mods [] w w'
def arithV (o:Option Ty):Value:=match o with | none => .tuple #[tyA tyNone,.bool false] | some t => .tuple #[tyA t,.bool true]
theorem zia (o:Option Ty):∃ t:Ty,arithV o = .tuple #[tyA t,.bool o.isSome] ∧ ∀ u,o=some u → t=u:=by
 cases o with
 | none => exact ⟨tyNone,rfl,fun u h => by cases h⟩
 | some t => exact ⟨t,rfl,fun u h => by cases h; rfl⟩
theorem zcQ (w:World) (ob tb op:Nat) (hop:op=43 ∨ op=45 ∨ op=42 ∨ op=47) (hob:w.cell? ⟨ob,0,none⟩ = some (.string ⟨#[UInt8.ofNat op]⟩)) (a b:Ty) (ha:a.Right) (hb:b.Right) (h:TwoT w tb a b) :
  Calls Tryz.prog 141 #[zh ob,zh tb] w (RuleRes (zb7 (UInt8.ofNat op) a b) w):=by
 have gE5:=QH trivial;exact yfb
def tRow (ts:List Ty) (i:Nat):Array Value:=
 #[.int .i64 (if 0 < i then (ts.getD 0 tyNone).k else 0:Nat),.int .i64 (if 0 < i then (ts.getD 0 tyNone).s else 0:Nat),.int .i64 (if 1 < i then (ts.getD 1 tyNone).k else 0:Nat),.int .i64 (if 1 < i then (ts.getD 1 tyNone).s else 0:Nat)]
theorem zs {P:Program} (T kt et:TypeId) (d:TypeDesc) (hT:P.underlying T=some (.map kt et)) (hk:P.underlying kt=some d) {w:World} {mb:Nat} {es:Array MapEntry} {clock:Nat} (hb:w.heap[mb]? = some (.map es clock)) (k:Value) (z:Value)
  (hz:∀ w,(zeroValue et).run P w = .ok z w) (hkey:MapKept.IsKey d k) (r:Option (Nat × Value)) (hf:Instr.findNow d k es.toList 0=some r) :
  (Instr.lookup T (.map (some mb)) k true).run P w = .ok (.tuple #[(r.map (·.2)).getD z,.bool r.isSome]) w:=by
 exact ycL
theorem RuleRes.of {o:Option Ty} {w:World} {t:Ty} {b:Bool} {e:Ending} {w':World} (hb:o.isSome=b) (ho:∀ u,o=some u → t=u) (h:e = .returned (.tuple #[tyA t,.bool b]) ∧ Mods [] w w'):RuleRes o w e w':=
 ⟨⟨t,by rw [hb]; exact h.1,ho⟩,h.2⟩
theorem zaz {p:Prop} [Decidable p] {t:Ty}:(if p then some t else none).isSome=decide p:=by by_cases h:p <;> simp [h]
theorem zej {p:Prop} [Decidable p] {t:Ty}:∀ u,(if p then some t else none)=some u → t=u:=by intro u h; by_cases hp:p <;> simp [hp] at h; exact h
theorem zcn {w:World} {g:Nat} {cells:Array Value} {p:Addr} {v:Value} (hv:w.cell? p=some v) (hne:p.block ≠ g) (b:Bool) (k:zay (zdL w g cells b)):k.val.cell? p=some v:=by
 have h1:Mods [g] w (zdL w g cells b):=by
  unfold zdL;split
  ·exact ((QM _ w).drew).setRow (.inl AB) _
  ·exact (QM _ w).drew
 exact k.mods.cell (h1.cell hv AW)
def zaH (l:Bs):Value:=.string ⟨l.toArray⟩
def zO (ob tb:Nat):List MapEntry:=[⟨zaH oAll,.func (.func 134) #[] #[],0⟩,⟨zaH oNeg,.func (.func 135) #[] #[zh tb],1⟩,⟨zaH oMin,.func (.func 137) #[] #[zh tb],2⟩,⟨zaH oIs,.func (.func 138) #[] #[],3⟩,⟨zaH oNot,.func (.func 139) #[] #[zh tb],4⟩,⟨zaH oAnd,.func (.func 140) #[] #[zh tb],5⟩,⟨zaH oPlus,.func (.func 141) #[] #[zh ob,zh tb],6⟩]
def sameE:List MapEntry:=[⟨zaH oCount,zaH oAll,0⟩,⟨zaH oSum,zaH oNeg,1⟩,⟨zaH oMax,zaH oMin,2⟩,⟨zaH oIsNot,zaH oIs,3⟩,⟨zaH oOr,zaH oAnd,4⟩,⟨zaH oMinus,zaH oPlus,5⟩,⟨zaH oTimes,zaH oPlus,6⟩,⟨zaH oOver,zaH oPlus,7⟩]
theorem zew {ts:List Ty} {n:Nat} (h:ts.length=n) (hn:n ≤ 2):tRow ts n = #[.int .i64 (ts.getD 0 tyNone).k,.int .i64 (ts.getD 0 tyNone).s,.int .i64 (ts.getD 1 tyNone).k,.int .i64 (ts.getD 1 tyNone).s]:=by
 have h3:n=0 ∨ n=1 ∨ n=2:=by omega
 rcases h3 with rfl | rfl | rfl
 ·obtain rfl:=List.length_eq_zero_iff.1 h; rfl
 ·obtain ⟨a,rfl⟩:=List.length_eq_one_iff.1 h; rfl
 ·match ts,h with
  | [a,b],_ => rfl
theorem zk8 (ob tb:Nat) {op:Bs} (h:op ∈ rels):Instr.findNow .string (.string ⟨op.toArray⟩) sameE.toArray.toList 0=some none ∧ Instr.findNow .string (.string ⟨op.toArray⟩) (zO ob tb).toArray.toList 0=some none:=by simp only [rels,List.mem_cons,List.not_mem_nil,or_false] at h;rcases h with rfl | rfl | rfl | rfl | rfl | rfl <;> exact ⟨rfl,rfl⟩
theorem zjL (a b:Ty) {op:Bs} (h:op ∈ rels):zx op a b=if a=b ∨ (a.num=true ∧ b.num=true) then some tyBool else none:=by simp only [rels,List.mem_cons,List.not_mem_nil,or_false] at h;rcases h with rfl | rfl | rfl | rfl | rfl | rfl <;> rfl
theorem zgL (w:World):(Instr.makeSlice 252 (.int .i64 2) (.int .i64 2)).run Tryz.prog w = .ok (.slice (some ⟨w.heap.size,0,none⟩) 2 2) (w.alloc (.cells #[.int .i64 0,.int .i64 0,.int .i64 0,.int .i64 0] 62)):=by kernel_rfl
theorem zeJ (w:World) (hV:CkVars w) (op:Bs) (us:List Value) (ts:List Ty) (n:Nat) (hn:us.length=n) (htn:ts.length=n) (hn2:n ≤ 2) (ao:Option Addr) (cap:Nat)
  (hao:0 < n → ∃ c,ao=some ⟨c,0,none⟩ ∧ ∀ i (hi:i < us.length),w.cell? ⟨c,i,none⟩ = some us[i])
  (hop:op=oAll ∨ op=oCount ∨ op=oNeg ∨ op=oSum ∨ op=oMin)
  (har:(op=oPlus ∨ op=oMinus ∨ op=oTimes ∨ op=oOver) → (ts.getD 0 tyNone).Right ∧ (ts.getD 1 tyNone).Right)
  (hts:∀ i (hi:i < us.length) (hx:i < ts.length),∃ nb,us[i]=zh nb ∧ w.cell? ⟨nb,1,none⟩ = some (.int .i64 ts[i].k) ∧ w.cell? ⟨nb,2,none⟩ = some (.int .i64 ts[i].s)) :
  Calls Tryz.prog 99 #[.string ⟨op.toArray⟩,.slice ao n cap] w (RuleRes (zx op (ts.getD 0 tyNone) (ts.getD 1 tyNone)) w):=by
 have gFF:=QH trivial;exact yfr
end Go.Proofs.YtebljciefhfgbaaGreatDoor
