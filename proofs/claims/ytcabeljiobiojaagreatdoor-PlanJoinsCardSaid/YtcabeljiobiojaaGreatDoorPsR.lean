/-
  The map literal of parse's primary, in whatever order it is filled. No condition.
-/
import Derived.Test.YtcabeljiobiojaaGreatDoorQ08
import Derived.Test.YtcabeljiobiojaaGreatDoorMapF
import Derived.DeepKeys4
set_option linter.unusedVariables false
namespace Go.Proofs.YtcabeljiobiojaaGreatDoor
open Go.RowKit
set_option maxRecDepth 100000
theorem BB {p:Prop} (h:p:=by simpa using he):p:=h
theorem AV {p:Prop} (h:p:=by rw [a]; decide):p:=h
theorem yed {p:Prop} (h:p:=by
  go_enter Tryz.func223, Tryz.ntmps223;go_wp2_with fail;(with_reducible refine hnow.mono ?_);rintro e w1 ⟨rfl,hM1⟩;clear hnow;obtain ⟨t,ht⟩:=EX (s.now)
  first
  |clear gCY
   rw [ht] at k1 k2 k3 hwn ⊢;have gAY:=QH trivial;exact ydh
  |clear gCZ
   rw [ht] at hmap ⊢;have gAZ:=QH trivial;exact ydh
 ):p:=h
theorem ydX {p:Prop} (h:p:=by
  intro f W hI hd K hK;obtain ⟨mb,h44,hB,hg⟩:=(hd ⟨0,.data⟩ AB rfl:zdk pb _ 0 f W)
  first
  |clear gCC
   have hk:f 45=za1 1 [84,82,85,69]:=hd ⟨1,.data⟩ AB rfl;have hv:zdk pb _ 3 f W:=hd ⟨3,.data⟩ AB rfl;obtain ⟨l,hl⟩:=za8 1 AD [84,82,85,69] AD;obtain ⟨W',hr,hS,hH,hMm⟩:=zaY zav Tryz.underlying352 BegG.kept hg hl (v:=f 47) (.inl ⟨rfl,hv⟩);refine zbp (w':=W') rfl ?_ (hK undef W' (hMm _ hI hB) hS ⟨mb,h44,hH⟩);show (Instr.mapUpdate 352 (f 44) (f 45) (f 47)).run Tryz.prog W=_;rw [h44,hk,hr]
  |clear gCD
   have hk:f 48=za1 1 [70,65,76,83,69]:=hd ⟨5,.data⟩ AB rfl;have hv:zdk pb _ 7 f W:=hd ⟨7,.data⟩ AB rfl;obtain ⟨l,hl⟩:=za8 1 AD [70,65,76,83,69] AD;obtain ⟨W',hr,hS,hH,hMm⟩:=zaY zav Tryz.underlying352 BegG.kept hg hl (v:=f 50) (.inr (.inl ⟨rfl,hv⟩));refine zbp (w':=W') rfl ?_ (hK undef W' (hMm _ hI hB) hS ⟨mb,h44,hH⟩);show (Instr.mapUpdate 352 (f 44) (f 48) (f 50)).run Tryz.prog W=_;rw [h44,hk,hr]
  |clear gCE
   have hk:f 51=za1 1 [78,85,76,76]:=hd ⟨9,.data⟩ AB rfl;have hv:zdk pb _ 11 f W:=hd ⟨11,.data⟩ AB rfl;obtain ⟨l,hl⟩:=za8 1 AD [78,85,76,76] AD;obtain ⟨W',hr,hS,hH,hMm⟩:=zaY zav Tryz.underlying352 BegG.kept hg hl (v:=f 53) (.inr (.inr (.inl ⟨rfl,hv⟩)));refine zbp (w':=W') rfl ?_ (hK undef W' (hMm _ hI hB) hS ⟨mb,h44,hH⟩);show (Instr.mapUpdate 352 (f 44) (f 51) (f 53)).run Tryz.prog W=_;rw [h44,hk,hr]
  |clear gCF
   have hk:f 54=za1 5 [40]:=hd ⟨13,.data⟩ AB rfl;have hv:zdk pb _ 15 f W:=hd ⟨15,.data⟩ AB rfl;obtain ⟨l,hl⟩:=za8 5 AD [40] AD;obtain ⟨W',hr,hS,hH,hMm⟩:=zaY zav Tryz.underlying352 BegG.kept hg hl (v:=f 56) (.inr (.inr (.inr (.inl ⟨rfl,hv⟩))));refine zbp (w':=W') rfl ?_ (hK undef W' (hMm _ hI hB) hS ⟨mb,h44,hH⟩);show (Instr.mapUpdate 352 (f 44) (f 54) (f 56)).run Tryz.prog W=_;rw [h44,hk,hr]
  |clear gCG
   have hk:f 57=za1 1 [67,79,85,78,84]:=hd ⟨17,.data⟩ AB rfl;have hv:zdk pb _ 19 f W:=hd ⟨19,.data⟩ AB rfl;obtain ⟨l,hl⟩:=za8 1 AD [67,79,85,78,84] AD;obtain ⟨W',hr,hS,hH,hMm⟩:=zaY zav Tryz.underlying352 BegG.kept hg hl (v:=f 59) (.inr (.inr (.inr (.inr (.inl ⟨rfl,hv⟩)))));refine zbp (w':=W') rfl ?_ (hK undef W' (hMm _ hI hB) hS ⟨mb,h44,hH⟩);show (Instr.mapUpdate 352 (f 44) (f 57) (f 59)).run Tryz.prog W=_;rw [h44,hk,hr]
  |clear gCH
   have hk:f 60=za1 1 [83,85,77]:=hd ⟨21,.data⟩ AB rfl;have hv:zdk pb _ 23 f W:=hd ⟨23,.data⟩ AB rfl;obtain ⟨l,hl⟩:=za8 1 AD [83,85,77] AD;obtain ⟨W',hr,hS,hH,hMm⟩:=zaY zav Tryz.underlying352 BegG.kept hg hl (v:=f 62) (.inr (.inr (.inr (.inr (.inr (.inl ⟨rfl,hv⟩))))));refine zbp (w':=W') rfl ?_ (hK undef W' (hMm _ hI hB) hS ⟨mb,h44,hH⟩);show (Instr.mapUpdate 352 (f 44) (f 60) (f 62)).run Tryz.prog W=_;rw [h44,hk,hr]
  |clear gCI
   have hk:f 63=za1 1 [77,73,78]:=hd ⟨25,.data⟩ AB rfl;have hv:zdk pb _ 27 f W:=hd ⟨27,.data⟩ AB rfl;obtain ⟨l,hl⟩:=za8 1 AD [77,73,78] AD;obtain ⟨W',hr,hS,hH,hMm⟩:=zaY zav Tryz.underlying352 BegG.kept hg hl (v:=f 65) (.inr (.inr (.inr (.inr (.inr (.inr (.inl ⟨rfl,hv⟩)))))));refine zbp (w':=W') rfl ?_ (hK undef W' (hMm _ hI hB) hS ⟨mb,h44,hH⟩);show (Instr.mapUpdate 352 (f 44) (f 63) (f 65)).run Tryz.prog W=_;rw [h44,hk,hr]
  |clear gCJ
   have hk:f 66=za1 1 [77,65,88]:=hd ⟨29,.data⟩ AB rfl;have hv:zdk pb _ 31 f W:=hd ⟨31,.data⟩ AB rfl;obtain ⟨l,hl⟩:=za8 1 AD [77,65,88] AD;obtain ⟨W',hr,hS,hH,hMm⟩:=zaY zav Tryz.underlying352 BegG.kept hg hl (v:=f 68) (.inr (.inr (.inr (.inr (.inr (.inr (.inr (⟨rfl,hv⟩))))))));refine zbp (w':=W') rfl ?_ (hK undef W' (hMm _ hI hB) hS ⟨mb,h44,hH⟩);show (Instr.mapUpdate 352 (f 44) (f 66) (f 68)).run Tryz.prog W=_;rw [h44,hk,hr]
 ):p:=h
theorem ydV {p:Prop} (h:p:=by
  have HF:=QH hF;unfold zh at *;clear hF hk hk1 hk2 hk1' hk2' ca cp cq ha hp hq;go_wp2_with fail;(with_reducible refine hc.mono ?_);rintro e w5 ⟨b,rfl,hr⟩;clear hc;unfold zh;go_wp2_with fail;go_ret
  first
  |clear gCx
   exact (PRes.congr (F:=fun s:PS => ((Tree.leaf { op:=oBool,pos:=s.now.pos,n:=1 },s.next):Tree × PS)) HF.out ⟨b,rfl,hr⟩).earlier HPc.out.2
  |clear gCy
   exact (PRes.congr (F:=fun s:PS => ((Tree.leaf { op:=oBool,pos:=s.now.pos,n:=0 },s.next):Tree × PS)) HF.out ⟨b,rfl,hr⟩).earlier HPc.out.2
  |clear gCz
   exact (PRes.congr (F:=fun s:PS => ((Tree.leaf { op:=oNull,pos:=s.now.pos,n:=0 },s.next):Tree × PS)) HF.out ⟨b,rfl,hr⟩).earlier HPc.out.2
 ):p:=h
theorem ydh {p:Prop} (h:p:=by
  have HT:=QH ht;clear ht;have ht1:=QN w1 (.cells #[.int .i64 t.kind,.int .i64 t.pos,.string ⟨t.s.toArray⟩,.int .i64 t.n,.int .i64 t.scale] 92);have hMt:=(QM [] w1).alloc (.cells #[.int .i64 t.kind,.int .i64 t.pos,.string ⟨t.s.toArray⟩,.int .i64 t.n,.int .i64 t.scale] 92);have hMw:=hM1.trans hMt;have e3':=hMw.cell e3
  first
  |clear gAY
   have z3:((t.kind:Int) == 3)=false:=by rw [beq_eq_false_iff_ne]; omega
   have z4:((t.kind:Int) == 4)=false:=by rw [beq_eq_false_iff_ne]; omega
   have z2:((t.kind:Int) == 2)=false:=by rw [beq_eq_false_iff_ne]; omega
   go_upto_region 13 with fail;clear hMt hM1 e3 e3' z3 z4 z2;generalize w1.alloc (.cells #[.int .i64 t.kind,.int .i64 t.pos,.string ⟨t.s.toArray⟩,.int .i64 t.n,.int .i64 t.scale] 92)=w2 at *;generalize w1.heap.size=tb at *;go_cut [4] (fun s4 wx => BegAt w2 pb s4 wx)
   case first =>
    rename_i J K1 hJ hK1
    refine zjD AC [4,44,45,46,47,48,49,50,51,52,53,54,55,56,57,58,59,60,61,62,63,64,65,66,67,68,69] BegL AC (fun W => Mods [] w2 W) (MStep Tryz.prog 350 (BegG pb w2.heap.size)) (zdk pb w2.heap.size) (QM _ _).drew
     (fun i f f' W W' _ _ hS hL hF => zjo pb _ i f f' W W' hS hL hF) (allOps ?_) ?_
    ·simp only [AllOps];refine ⟨?_,?_,?_,?_,?_,?_,?_,?_,?_,?_,?_,?_,?_,?_,?_,?_,?_,?_,?_,?_,?_,?_,?_,?_,?_,?_,?_,?_,?_,?_,?_,?_,?_,?_,?_,trivial⟩
     ·intro f W hI hd K hK;refine ziF (.map (some W.heap.size)) (w':=W.alloc (.map #[] 0)) AC ?_;exact hK _ _ (hI.alloc _) (MStep.of_mods ((QM [] _).alloc _)) ⟨W.heap.size,rfl,hI.size,#[],0,QN _ _,by simp⟩
     ·intro f W hI hd K hK;refine zaf (za1 1 [84,82,85,69]) AC ?_;exact hK _ _ hI (MStep.of_mods (QM [] _)) rfl
     ·exact yaA
     ·intro f W hI hd K hK;have h46:f 46=zh pb:=hd ⟨2,.data⟩ AB rfl;refine zgd (fn:= 224) #[f 46,.string ⟨#[98,111,111,108]⟩,.int .i64 1] AC ?_;rw [h46];refine (zdb W pb oBool 1).mono ?_;exact ybc
     ·have gCC:=QH trivial;exact ydX
     ·intro f W hI hd K hK;refine zaf (za1 1 [70,65,76,83,69]) AC ?_;exact hK _ _ hI (MStep.of_mods (QM [] _)) rfl
     ·exact yaA
     ·intro f W hI hd K hK;have h46:f 49=zh pb:=hd ⟨6,.data⟩ AB rfl;refine zgd (fn:= 224) #[f 49,.string ⟨#[98,111,111,108]⟩,.int .i64 0] AC ?_;rw [h46];refine (zdb W pb oBool 0).mono ?_;exact ybc
     ·have gCD:=QH trivial;exact ydX
     ·intro f W hI hd K hK;refine zaf (za1 1 [78,85,76,76]) AC ?_;exact hK _ _ hI (MStep.of_mods (QM [] _)) rfl
     ·exact yaA
     ·intro f W hI hd K hK;have h46:f 52=zh pb:=hd ⟨10,.data⟩ AB rfl;refine zgd (fn:= 224) #[f 52,.string ⟨#[110,117,108,108]⟩,.int .i64 0] AC ?_;rw [h46];refine (zdb W pb oNull 0).mono ?_;exact ybc
     ·have gCE:=QH trivial;exact ydX
     ·intro f W hI hd K hK;refine zaf (za1 5 [40]) AC ?_;exact hK _ _ hI (MStep.of_mods (QM [] _)) rfl
     ·exact yaA
     ·intro f W hI hd K hK;have h46:f 55=zh pb:=hd ⟨14,.data⟩ AB rfl;refine zaf (.func (.func 225) #[f 55] #[]) AC ?_;rw [h46];exact hK _ _ hI (MStep.of_mods (QM [] _)) rfl
     ·have gCF:=QH trivial;exact ydX
     ·intro f W hI hd K hK;refine zaf (za1 1 [67,79,85,78,84]) AC ?_;exact hK _ _ hI (MStep.of_mods (QM [] _)) rfl
     ·exact yaA
     ·intro f W hI hd K hK;have h46:f 58=zh pb:=hd ⟨18,.data⟩ AB rfl;refine zaf (.func (.func 226) #[f 58] #[]) AC ?_;rw [h46];exact hK _ _ hI (MStep.of_mods (QM [] _)) rfl
     ·have gCG:=QH trivial;exact ydX
     ·intro f W hI hd K hK;refine zaf (za1 1 [83,85,77]) AC ?_;exact hK _ _ hI (MStep.of_mods (QM [] _)) rfl
     ·exact yaA
     ·intro f W hI hd K hK;have h46:f 61=zh pb:=hd ⟨22,.data⟩ AB rfl;refine zaf (.func (.func 226) #[f 61] #[]) AC ?_;rw [h46];exact hK _ _ hI (MStep.of_mods (QM [] _)) rfl
     ·have gCH:=QH trivial;exact ydX
     ·intro f W hI hd K hK;refine zaf (za1 1 [77,73,78]) AC ?_;exact hK _ _ hI (MStep.of_mods (QM [] _)) rfl
     ·exact yaA
     ·intro f W hI hd K hK;have h46:f 64=zh pb:=hd ⟨26,.data⟩ AB rfl;refine zaf (.func (.func 226) #[f 64] #[]) AC ?_;rw [h46];exact hK _ _ hI (MStep.of_mods (QM [] _)) rfl
     ·have gCI:=QH trivial;exact ydX
     ·intro f W hI hd K hK;refine zaf (za1 1 [77,65,88]) AC ?_;exact hK _ _ hI (MStep.of_mods (QM [] _)) rfl
     ·exact yaA
     ·intro f W hI hd K hK;have h46:f 67=zh pb:=hd ⟨30,.data⟩ AB rfl;refine zaf (.func (.func 226) #[f 67] #[]) AC ?_;rw [h46];exact hK _ _ hI (MStep.of_mods (QM [] _)) rfl
     ·have gCJ:=QH trivial;exact ydX
     ·intro f W hI hd K hK;refine zaf (f 44) AC ?_;exact hK _ _ hI (MStep.of_mods (QM [] _)) rfl
     ·intro f W hI hd K hK;have h69:f 69=f 44:=hd ⟨33,.data⟩ AB rfl;refine zaf (f 69) AC ?_;exact hK _ _ hI (MStep.of_mods (QM [] _)) h69
    ·intro f W hI hF;obtain ⟨mb,h44,hB,hg⟩:=(hF 0 AD:zdk pb _ 0 f W);have h4:f 4=f 44:=(hF 34 AD:zdk pb _ 34 f W);have g0:MapHas W mb (za1 1 [84,82,85,69]):=by obtain ⟨m2,h2,h3⟩:=(hF 4 AD:zdk pb _ 4 f W); rw [h44] at h2; cases h2; exact h3
     have g1:MapHas W mb (za1 1 [70,65,76,83,69]):=by obtain ⟨m2,h2,h3⟩:=(hF 8 AD:zdk pb _ 8 f W); rw [h44] at h2; cases h2; exact h3
     have g2:MapHas W mb (za1 1 [78,85,76,76]):=by obtain ⟨m2,h2,h3⟩:=(hF 12 AD:zdk pb _ 12 f W); rw [h44] at h2; cases h2; exact h3
     have g3:MapHas W mb (za1 5 [40]):=by obtain ⟨m2,h2,h3⟩:=(hF 16 AD:zdk pb _ 16 f W); rw [h44] at h2; cases h2; exact h3
     have g4:MapHas W mb (za1 1 [67,79,85,78,84]):=by obtain ⟨m2,h2,h3⟩:=(hF 20 AD:zdk pb _ 20 f W); rw [h44] at h2; cases h2; exact h3
     have g5:MapHas W mb (za1 1 [83,85,77]):=by obtain ⟨m2,h2,h3⟩:=(hF 24 AD:zdk pb _ 24 f W); rw [h44] at h2; cases h2; exact h3
     have g6:MapHas W mb (za1 1 [77,73,78]):=by obtain ⟨m2,h2,h3⟩:=(hF 28 AD:zdk pb _ 28 f W); rw [h44] at h2; cases h2; exact h3
     have g7:MapHas W mb (za1 1 [77,65,88]):=by obtain ⟨m2,h2,h3⟩:=(hF 32 AD:zdk pb _ 32 f W); rw [h44] at h2; cases h2; exact h3
     have hA:BegAt w2 pb (f 4) W:=⟨mb,h4.trans h44,hI,hg,g0,g1,g2,g3,g4,g5,g6,g7⟩;refine hK1 _ _ (Met.intro (hJ _ _ ?_));(repeat apply Exists.intro);exact ⟨hA,rfl⟩
   case rest =>
    obtain ⟨mb,rfl,hM3,hg,g0,g1,g2,g3,g4,g5,g6,g7⟩:=hcut;have hMc:=hMw.trans hM3;have hP3:=HB.out.1.later hMc;have ht3:=hM3.heap ht1;have q0:wc.cell? ⟨tb,0,none⟩ = some (.int .i64 t.kind):=za ht3 0;have q2:wc.cell? ⟨tb,2,none⟩ = some (.string ⟨t.s.toArray⟩):=za ht3 2;obtain ⟨l,hl⟩:=za8 t.kind AA t.s AA;have hs2:=hMw.size;have HPc:=QH (AI hP3 hMc);have HG:=QH (AI g0 (AI g1 (AI g2 (AI g3 (AI g4 (AI g5 (AI g6 g7)))))));have hlook:=zjm zav Tryz.underlying352 hg hl (z:=.nilFunc) (fun w => by kernel_rfl);clear hP3 hMc ht3 ht1 hM3 hl hg g0 g1 g2 g3 g4 g5 g6 g7 hMw;rcases hlook with ⟨v,hlk,hv⟩ | ⟨hlk,hno⟩
    ·rcases hv with ⟨hk,hv⟩ | ⟨hk,hv⟩ | ⟨hk,hv⟩ | ⟨hk,hv⟩ | ⟨hk,hv⟩ | ⟨hk,hv⟩ | ⟨hk,hv⟩ | ⟨hk,hv⟩
     ·obtain ⟨hk1,hk2⟩:=zbV hk;have hk1':s.now.kind=1:=by rw [HT.out]; exact hk1
      have hk2':s.now.s=wTrue:=by rw [HT.out]; exact hk2
      obtain ⟨a,p,q,rfl,ca,cp,cq,ha,hp,hq⟩:=hv;have hF:(fun s:PS => ((Tree.leaf { op:=oBool,pos:=s.now.pos,n:=1 },s.next):Tree × PS)) s=zo (subOf f) s:=(HF0.out.tr hk1' hk2').symm;have hc:=zdc wc pb tg f s HPc.out.1 (HPc.out.1.wfTail AA) oBool 1 a p q ca cp cq AA AA AA;have gCx:=QH trivial;exact ydV
     ·obtain ⟨hk1,hk2⟩:=zbV hk;have hk1':s.now.kind=1:=by rw [HT.out]; exact hk1
      have hk2':s.now.s=wFalse:=by rw [HT.out]; exact hk2
      obtain ⟨a,p,q,rfl,ca,cp,cq,ha,hp,hq⟩:=hv;have hF:(fun s:PS => ((Tree.leaf { op:=oBool,pos:=s.now.pos,n:=0 },s.next):Tree × PS)) s=zo (subOf f) s:=(HF0.out.fa hk1' hk2').symm;have hc:=zdc wc pb tg f s HPc.out.1 (HPc.out.1.wfTail AA) oBool 0 a p q ca cp cq AA AA AA;have gCy:=QH trivial;exact ydV
     ·obtain ⟨hk1,hk2⟩:=zbV hk;have hk1':s.now.kind=1:=by rw [HT.out]; exact hk1
      have hk2':s.now.s=wNull:=by rw [HT.out]; exact hk2
      obtain ⟨a,p,q,rfl,ca,cp,cq,ha,hp,hq⟩:=hv;have hF:(fun s:PS => ((Tree.leaf { op:=oNull,pos:=s.now.pos,n:=0 },s.next):Tree × PS)) s=zo (subOf f) s:=(HF0.out.nu hk1' hk2').symm;have hc:=zdc wc pb tg f s HPc.out.1 (HPc.out.1.wfTail AA) oNull 0 a p q ca cp cq AA AA AA;have gCz:=QH trivial;exact ydV
     ·obtain ⟨hk1,hk2⟩:=zbV hk;have hk1':s.now.kind=5:=by rw [HT.out]; exact hk1
      have hk2':s.now.s=wOpen:=by rw [HT.out]; exact hk2
      have hF:zaE (subOf f) s=zo (subOf f) s:=(HF0.out.br hk1' hk2').symm;have hc:=HC.out.1 AA wc HPc.out.1;exact ycz
     ·obtain ⟨hk1,hk2⟩:=zbV hk;have hk1':s.now.kind=1:=by rw [HT.out]; exact hk1
      have hk2':s.now.s=wCount:=by rw [HT.out]; exact hk2
      exact yap
     ·obtain ⟨hk1,hk2⟩:=zbV hk;have hk1':s.now.kind=1:=by rw [HT.out]; exact hk1
      have hk2':s.now.s=wSum:=by rw [HT.out]; exact hk2
      exact yap
     ·obtain ⟨hk1,hk2⟩:=zbV hk;have hk1':s.now.kind=1:=by rw [HT.out]; exact hk1
      have hk2':s.now.s=wMin:=by rw [HT.out]; exact hk2
      exact yap
     ·obtain ⟨hk1,hk2⟩:=zbV hk;have hk1':s.now.kind=1:=by rw [HT.out]; exact hk1
      have hk2':s.now.s=wMax:=by rw [HT.out]; exact hk2
      exact yap
    ·have hF:=HF0.out.no (fun h => hno (by
      rw [HT.out] at h;obtain ⟨h1,h2⟩:=h;obtain ⟨g0,g1,g2,g3,g4,g5,g6,g7⟩:=HG.out;rw [h1]
      rcases h2 with h2 | h2 | h2 | h2 | h2 | h2 | h2 <;> rw [h2] <;> assumption)) (fun h => hno (by
      rw [HT.out] at h;obtain ⟨h1,h2⟩:=h;rw [h1,h2]
      exact HG.out.2.2.2.1))
     have hfl:=zds wc pb tg s f HPc.out.1;have he8:(s.fail 8).e ≠ 0:=by unfold PS.fail; rw [if_pos he]; simp
     have HF:=QH hF;unfold zh at *;clear hF hno;go_wp2_with fail;(with_reducible refine hfl.mono ?_);rintro e w5 ⟨rfl,hM5,hP5⟩;clear hfl;have hz:=(QM [] w5).alloc (.cells #[.string ⟨#[]⟩,.int .i64 0,.string ⟨#[]⟩,.string ⟨#[]⟩,.int .i64 0,.int .i64 0,.string ⟨#[]⟩,.slice none 0 0] 171);have hfin:PRes pb tg f (zo (subOf f)) s w (.returned (.pointer (some ⟨w5.heap.size,0,none⟩))) _:=⟨w5.heap.size,rfl,(HPc.out.2.mono (L':=[pb])).trans (hM5.trans (hz.mono (L':=[pb]) AB) AB),by rw [HF.out]; exact hP5.later hz,by rw [HF.out]; exact fun h => absurd h he8⟩;have HFIN:=QH hfin;clear hfin hz hP5 hM5;go_wp2_with fail;go_ret;exact HFIN.out
  |clear gAZ
   go_upto_region 2 with fail;generalize w1.alloc (.cells #[.int .i64 t.kind,.int .i64 t.pos,.string ⟨t.s.toArray⟩,.int .i64 t.n,.int .i64 t.scale] 92)=w2 at *;have htw:=hM1.size;generalize w1.heap.size=tb at *;have hP2:=HP.out.later hMw;have x0:w2.cell? ⟨tb,0,none⟩ = some (.int .i64 t.kind):=za ht1 0;clear hMt hM1;by_cases he:s.e=0
   ·have z0:((s.e:Int) != 0)=false:=by rw [bne_eq_false_iff_eq]; omega
    by_cases h3:t.kind=3
    ·have hF:=zmB (sub:=subOf f) he (by rw [HT.out]; exact h3);have hnx:=za9 w2 pb tg s f hP2 (hP2.wfTail (by rw [HT.out]; omega));have z3:((t.kind:Int) == 3)=true:=by rw [beq_iff_eq]; omega
     have HF:=QH hF;unfold zh at hnx;clear hF hP2 hmap h3 e3;go_wp2_with fail;(with_reducible refine hnx.mono ?_);rintro e w5 ⟨rfl,hM5,hP5⟩;clear hnx;have ht5:=hM5.heap ht1 AE;have x1:w5.cell? ⟨tb,1,none⟩ = some (.int .i64 t.pos):=za ht5 1;have x3:w5.cell? ⟨tb,3,none⟩ = some (.int .i64 t.n):=za ht5 3;have x4:w5.cell? ⟨tb,4,none⟩ = some (.int .i64 t.scale):=za ht5 4;have hz:=(QM [] w5).alloc (.cells #[.string ⟨#[110,117,109,98,101,114]⟩,.int .i64 t.pos,.string ⟨#[]⟩,.string ⟨#[]⟩,.int .i64 t.n,.int .i64 t.scale,.string ⟨#[]⟩,.slice none 0 0] 171);have hn:=QN w5 (.cells #[.string ⟨#[110,117,109,98,101,114]⟩,.int .i64 t.pos,.string ⟨#[]⟩,.string ⟨#[]⟩,.int .i64 t.n,.int .i64 t.scale,.string ⟨#[]⟩,.slice none 0 0] 171);exact yaL
    have z3:((t.kind:Int) == 3)=false:=by rw [beq_eq_false_iff_ne]; omega
    by_cases h4:t.kind=4
    ·have hF:=zkI (sub:=subOf f) he (by rw [HT.out]; exact h4);have hnx:=za9 w2 pb tg s f hP2 (hP2.wfTail (by rw [HT.out]; omega));have z4:((t.kind:Int) == 4)=true:=by rw [beq_iff_eq]; omega
     have HF:=QH hF;unfold zh at hnx;clear hF hP2 hmap h3 h4 e3;go_wp2_with fail;(with_reducible refine hnx.mono ?_);rintro e w5 ⟨rfl,hM5,hP5⟩;clear hnx;have ht5:=hM5.heap ht1 AE;have x1:w5.cell? ⟨tb,1,none⟩ = some (.int .i64 t.pos):=za ht5 1;have x3:w5.cell? ⟨tb,2,none⟩ = some (.string ⟨t.s.toArray⟩):=za ht5 2;have hz:=(QM [] w5).alloc (.cells #[.string ⟨#[116,101,120,116]⟩,.int .i64 t.pos,.string ⟨#[]⟩,.string ⟨#[]⟩,.int .i64 0,.int .i64 0,.string ⟨t.s.toArray⟩,.slice none 0 0] 171);have hn:=QN w5 (.cells #[.string ⟨#[116,101,120,116]⟩,.int .i64 t.pos,.string ⟨#[]⟩,.string ⟨#[]⟩,.int .i64 0,.int .i64 0,.string ⟨t.s.toArray⟩,.slice none 0 0] 171);exact yaL
    have z4:((t.kind:Int) == 4)=false:=by rw [beq_eq_false_iff_ne]; omega
    by_cases h2:t.kind=2
    ·have hF:zY s=zo (subOf f) s:=(zkJ (sub:=subOf f) he (by rw [HT.out]; exact h2)).symm;have hcl:=zdW w2 pb tg s f hP2;have z2:((t.kind:Int) == 2)=true:=by rw [beq_iff_eq]; omega
     have HF:=QH (AI hF hMw);unfold zh at hcl;clear hF hP2 hmap h3 h4 h2 e3 hMw;go_wp2_with fail;(with_reducible refine hcl.mono ?_);rintro e w5 ⟨b,rfl,hr⟩;unfold zh;go_wp2_with fail;go_ret;exact (PRes.congr HF.out.1 ⟨b,rfl,hr⟩).earlier HF.out.2
    ·exact absurd ⟨he,h3,h4,h2⟩ hmap
   ·have hF:=zmA (sub:=subOf f) he;have z0:((s.e:Int) != 0)=true:=by rw [bne_iff_ne]; omega
    have hz:=(QM [] w2).alloc (.cells #[.string ⟨#[]⟩,.int .i64 0,.string ⟨#[]⟩,.string ⟨#[]⟩,.int .i64 0,.int .i64 0,.string ⟨#[]⟩,.slice none 0 0] 171);have hfin:PRes pb tg f (zo (subOf f)) s w (.returned (.pointer (some ⟨w2.heap.size,0,none⟩))) _:=⟨w2.heap.size,rfl,(hMw.trans hz).mono (L':=[pb]),by rw [hF]; exact hP2.later hz,by rw [hF]; exact fun h => absurd h he⟩;have HFIN:=QH hfin;clear hfin hz hF hP2 hmap;go_wp2_with fail;go_ret;exact HFIN.out
 ):p:=h
theorem ydf {p:Prop} (h:p:=by
  have k3 : Tryz.prog.cellsOf 9 = 1:=by kernel_rfl
  obtain ⟨m,hm⟩ : ∃ m,Tryz.prog.types.size=m + 1:=⟨Tryz.prog.types.size - 1,by have:0 < Tryz.prog.types.size:=of_decide_eq_true AC; omega⟩;unfold keyOf
  first
  |clear gAT
   rw [Tryz.underlying350, hc,hm];simp only [h1,h2,Bool.and_self,if_true];simp [Program.keyLits,Tryz.underlying350, Tryz.underlying3, Tryz.underlying9, k1,k2,k3,hi,hs2]
  |clear gAU
   rw [Tryz.underlying211, hc,hm];simp only [h1,h2,Bool.and_self,if_true];simp [Program.keyLits,Tryz.underlying211, Tryz.underlying3, Tryz.underlying9, k1,k2,k3,hi,hs2]
  |clear gAV
   rw [Tryz.underlying177, hc,hm];simp only [h1,h2,Bool.and_self,if_true];simp [Program.keyLits,Tryz.underlying177, Tryz.underlying9, k1,k3,hs1,hs2]
 ):p:=h
theorem ycz {p:Prop} (h:p:=by
  rw [hv] at hlk;have HF:=QH hF;unfold zh at *;clear hF hk hk1 hk2 hk1' hk2' hv;go_wp2_with fail;(with_reducible refine hc.mono ?_);rintro e w5 ⟨b,rfl,hr⟩;clear hc;unfold zh;go_wp2_with fail;go_ret;exact (PRes.congr HF.out ⟨b,rfl,hr⟩).earlier HPc.out.2
 ):p:=h
theorem yap {p:Prop} (h:p:=by
  have hF:zK (subOf f) s=zo (subOf f) s:=(HF0.out.ag hk1' (by rw [hk2']; decide)).symm;have hc:=HC.out.2 AA (by rw [hk2']; decide) (by rw [hk2']; decide) wc HPc.out.1;exact ycz
 ):p:=h
theorem yaA {p:Prop} (h:p:=by
  intro f W hI hd K hK;refine zaf (zh pb) AC ?_;exact hK _ _ hI (MStep.of_mods (QM [] _)) rfl
 ):p:=h
theorem yaD {p:Prop} (h:p:=by
  obtain ⟨mb,h1,h2⟩:=h; exact ⟨mb,by rw [← hL 44 AB]; exact h1,h2.step hS⟩
 ):p:=h
theorem ybc {p:Prop} (h:p:=by
  rintro e W' ⟨a,p,q,rfl,hM,c1,c2,c3,g1,g2,g3,-⟩;have hs:=hI.size;exact ⟨_,rfl,hK _ _ (hI.trans hM) (MStep.of_mods hM) ⟨a,p,q,rfl,c1,c2,c3,by omega,by omega,by omega⟩⟩
 ):p:=h
open Go.Maps
section
variable {P:Program} {o:Oper} {a:Act} {w w':World} {K:Act → World → Prop} {Q:Exit → Act → World → Prop} {v:Value}
theorem ziF (v:Value) (hr:(execOp a.eval o).run P w = .ok (.value v) w') (h:K (a.put o.dst v) w'):Oper.wp P o a w K Q:=by unfold Oper.wp; rw [hr]; exact h
theorem zaf (v:Value) (hr:(execOp a.eval o).run P w = .ok (.value v) w) (h:K (a.put o.dst v) w):Oper.wp P o a w K Q:=ziF v hr h
theorem znT (hr:(execOp a.eval o).run P w = .ok .skip w') (h:K (a.put o.dst undef) w'):Oper.wp P o a w K Q:=by unfold Oper.wp; rw [hr]; exact h
theorem zbp {T:TypeId} {m k x:Operand} (ho:o.op = .insert T m k x) (hr:(Instr.mapUpdate T (a.eval m) (a.eval k) (a.eval x)).run P w = .ok () w') (h:K (a.put o.dst undef) w'):Oper.wp P o a w K Q:=by refine znT ?_ h;simp only [execOp,ho,Sem.run_bind,Sem.run_pure,hr,Result.andThen_ok]
theorem zgd {fn:FuncId} (args:Array Value) (hr:(execOp a.eval o).run P w = .ok (.enter fn args) w) (hc:Calls P fn args w fun e w' => ∃ v,e = .returned v ∧ K (a.put o.dst v) w'):Oper.wp P o a w K Q:=by unfold Oper.wp; rw [hr];refine Calls.mono hc ?_;rintro e w' ⟨v,rfl,h⟩;exact h
end
def AllOps (R:Nat → Oper → Prop):Nat → List Oper → Prop
 | _,[] => True
 | i,o :: l => R i o ∧ AllOps R (i + 1) l
theorem AllOps.at {R:Nat → Oper → Prop}:∀ {l:List Oper} {n:Nat},AllOps R n l → ∀ (i:Nat) (o:Oper),l[i]? = some o → R (n + i) o:=by
 intro l
 induction l with
 | nil => intro n _ i o h; simp at h
 | cons x l ih =>
  intro n h i o hi
  cases i with
  | zero => simp at hi; subst hi; exact h.1
  | succ i => rw [show n + (i + 1)=n + 1 + i by omega]; exact ih h.2 i o BA
theorem allOps {R:Nat → Oper → Prop} {l:List Oper} (h:AllOps R 0 l):∀ (i:Nat) (o:Oper),l.toArray[i]? = some o → R i o:=fun i o hi => by
 have:=h.at i o BA
 rwa [Nat.zero_add] at this
theorem zjn:laidOutB Tryz.prog=true:=by kernel_rfl
theorem zkj:WideMaps.KeyLaw Tryz.prog 350:=deep_law_laid zjn (m:=3) AD (of_decide_eq_true AC) AC AC
theorem zav:Keyed Tryz.prog 350:=Keyed.of_law zkj
abbrev za1 (k:Nat) (s:Bs):Value:=.agg #[.int .i64 k,.string ⟨s.toArray⟩]
theorem za8 (t:Nat) (ht:t ≤ 9223372036854775807) (s:Bs) (hs:s.length ≤ 9223372036854775807):∃ l,keyOf Tryz.prog 350 (za1 t s)=some l:=by
 have h1 : Tryz.prog.keyType 350 = true:=by kernel_rfl
 have h2:Value.formed Tryz.prog 350 (za1 t s)=true:=by kernel_rfl
 have hi:(Lit.int .i64 (t:Int)).wf=true:=by
  have h0:(-9223372036854775808:Int) ≤ t:=by omega
  have h1:(t:Int) ≤ 9223372036854775807:=by omega
  simp [Lit.wf]; exact ⟨h0,h1⟩
 have hc:(za1 t s).cells.toList=[.int .i64 t,.string ⟨s.toArray⟩]:=by simp [Value.cells]
 have hs2:(⟨s.toArray⟩ : ByteArray).size ≤ maxLen:=by unfold maxLen; show s.toArray.size ≤ _; simp; omega
 have k1 : Tryz.prog.cellsOf 350 = 2:=by kernel_rfl
 have k2 : Tryz.prog.cellsOf 3 = 1:=by kernel_rfl
 have gAT:=QH trivial;exact ydf
def Clo (pb B:Nat) (w:World) (v:Value) (op:Bs) (n:Nat):Prop:=
 ∃ a p q,v = .func (.func 227) #[] #[zh a,zh p,zh q] ∧ w.cell? ⟨a,0,none⟩ = some (.string ⟨op.toArray⟩) ∧ w.cell? ⟨p,0,none⟩ = some (zh pb) ∧ w.cell? ⟨q,0,none⟩ = some (.int .i64 n) ∧ B ≤ a ∧ B ≤ p ∧ B ≤ q
theorem Clo.kept {pb B:Nat} {w w':World} {v:Value} {op:Bs} {n:Nat} (h:Clo pb B w v op n) (hK:Kept w w'):Clo pb B w' v op n:=by obtain ⟨a,p,q,h1,h2,h3,h4,h5⟩:=h;exact ⟨a,p,q,h1,hK.cell h2,hK.cell h3,hK.cell h4,h5⟩
def BegG (pb B:Nat) (k v:Value) (w:World):Prop:=
 (k=za1 1 [84,82,85,69] ∧ Clo pb B w v oBool 1) ∨ (k=za1 1 [70,65,76,83,69] ∧ Clo pb B w v oBool 0) ∨ (k=za1 1 [78,85,76,76] ∧ Clo pb B w v oNull 0) ∨ (k=za1 5 [40] ∧ v = .func (.func 225) #[zh pb] #[]) ∨ (k=za1 1 [67,79,85,78,84] ∧ v = .func (.func 226) #[zh pb] #[]) ∨ (k=za1 1 [83,85,77] ∧ v = .func (.func 226) #[zh pb] #[]) ∨ (k=za1 1 [77,73,78] ∧ v = .func (.func 226) #[zh pb] #[]) ∨ (k=za1 1 [77,65,88] ∧ v = .func (.func 226) #[zh pb] #[])
theorem BegG.kept {pb B:Nat}:∀ k v w w',Kept w w' → BegG pb B k v w → BegG pb B k v w':=by
 intro k v w w' hK h;rcases h with ⟨h1,h2⟩ | ⟨h1,h2⟩ | ⟨h1,h2⟩ | h
 ·exact .inl ⟨h1,h2.kept hK⟩
 ·exact .inr (.inl ⟨h1,h2.kept hK⟩)
 ·exact .inr (.inr (.inl ⟨h1,h2.kept hK⟩))
 ·exact .inr (.inr (.inr h))
def zdk (pb B:Nat) (i:Nat) (f:Nat → Value) (w:World):Prop:=
 match i with
 | 0 => ∃ mb,f 44 = .map (some mb) ∧ B ≤ mb ∧ MapGood Tryz.prog 350 (BegG pb B) w mb
 | 1 => f 45=za1 1 [84,82,85,69]
 | 2 => f 46=zh pb
 | 3 => Clo pb B w (f 47) oBool 1
 | 4 => ∃ mb,f 44 = .map (some mb) ∧ MapHas w mb (za1 1 [84,82,85,69])
 | 5 => f 48=za1 1 [70,65,76,83,69]
 | 6 => f 49=zh pb
 | 7 => Clo pb B w (f 50) oBool 0
 | 8 => ∃ mb,f 44 = .map (some mb) ∧ MapHas w mb (za1 1 [70,65,76,83,69])
 | 9 => f 51=za1 1 [78,85,76,76]
 | 10 => f 52=zh pb
 | 11 => Clo pb B w (f 53) oNull 0
 | 12 => ∃ mb,f 44 = .map (some mb) ∧ MapHas w mb (za1 1 [78,85,76,76])
 | 13 => f 54=za1 5 [40]
 | 14 => f 55=zh pb
 | 15 => f 56 = .func (.func 225) #[zh pb] #[]
 | 16 => ∃ mb,f 44 = .map (some mb) ∧ MapHas w mb (za1 5 [40])
 | 17 => f 57=za1 1 [67,79,85,78,84]
 | 18 => f 58=zh pb
 | 19 => f 59 = .func (.func 226) #[zh pb] #[]
 | 20 => ∃ mb,f 44 = .map (some mb) ∧ MapHas w mb (za1 1 [67,79,85,78,84])
 | 21 => f 60=za1 1 [83,85,77]
 | 22 => f 61=zh pb
 | 23 => f 62 = .func (.func 226) #[zh pb] #[]
 | 24 => ∃ mb,f 44 = .map (some mb) ∧ MapHas w mb (za1 1 [83,85,77])
 | 25 => f 63=za1 1 [77,73,78]
 | 26 => f 64=zh pb
 | 27 => f 65 = .func (.func 226) #[zh pb] #[]
 | 28 => ∃ mb,f 44 = .map (some mb) ∧ MapHas w mb (za1 1 [77,73,78])
 | 29 => f 66=za1 1 [77,65,88]
 | 30 => f 67=zh pb
 | 31 => f 68 = .func (.func 226) #[zh pb] #[]
 | 32 => ∃ mb,f 44 = .map (some mb) ∧ MapHas w mb (za1 1 [77,65,88])
 | 33 => f 69=f 44
 | 34 => f 4=f 44
 | _ => True
def BegL (i:Nat):List Nat:=
 match i with
 | 0 => [44]
 | 1 => [45]
 | 2 => [46]
 | 3 => [47]
 | 4 => [44]
 | 5 => [48]
 | 6 => [49]
 | 7 => [50]
 | 8 => [44]
 | 9 => [51]
 | 10 => [52]
 | 11 => [53]
 | 12 => [44]
 | 13 => [54]
 | 14 => [55]
 | 15 => [56]
 | 16 => [44]
 | 17 => [57]
 | 18 => [58]
 | 19 => [59]
 | 20 => [44]
 | 21 => [60]
 | 22 => [61]
 | 23 => [62]
 | 24 => [44]
 | 25 => [63]
 | 26 => [64]
 | 27 => [65]
 | 28 => [44]
 | 29 => [66]
 | 30 => [67]
 | 31 => [68]
 | 32 => [44]
 | 33 => [69,44]
 | 34 => [4,44]
 | _ => []
theorem zjo (pb B:Nat):∀ (i:Nat) (f f':Nat → Value) (w w':World),MStep Tryz.prog 350 (BegG pb B) w w' → (∀ s ∈ BegL i,f s=f' s) → zdk pb B i f w → zdk pb B i f' w':=by
 intro i f f' w w' hS hL h;unfold zdk at h ⊢;unfold BegL at hL;split at h
 ·obtain ⟨mb,h1,h2,h3⟩:=h; exact ⟨mb,by rw [← hL 44 AB]; exact h1,h2,h3.step hS (fun k v => BegG.kept k v _ _ hS.kept)⟩
 ·exact (hL 45 AB).symm.trans h
 ·exact (hL 46 AB).symm.trans h
 ·rw [← hL 47 AB]; exact h.kept hS.kept
 ·exact yaD
 ·exact (hL 48 AB).symm.trans h
 ·exact (hL 49 AB).symm.trans h
 ·rw [← hL 50 AB]; exact h.kept hS.kept
 ·exact yaD
 ·exact (hL 51 AB).symm.trans h
 ·exact (hL 52 AB).symm.trans h
 ·rw [← hL 53 AB]; exact h.kept hS.kept
 ·exact yaD
 ·exact (hL 54 AB).symm.trans h
 ·exact (hL 55 AB).symm.trans h
 ·exact (hL 56 AB).symm.trans h
 ·exact yaD
 ·exact (hL 57 AB).symm.trans h
 ·exact (hL 58 AB).symm.trans h
 ·exact (hL 59 AB).symm.trans h
 ·exact yaD
 ·exact (hL 60 AB).symm.trans h
 ·exact (hL 61 AB).symm.trans h
 ·exact (hL 62 AB).symm.trans h
 ·exact yaD
 ·exact (hL 63 AB).symm.trans h
 ·exact (hL 64 AB).symm.trans h
 ·exact (hL 65 AB).symm.trans h
 ·exact yaD
 ·exact (hL 66 AB).symm.trans h
 ·exact (hL 67 AB).symm.trans h
 ·exact (hL 68 AB).symm.trans h
 ·exact yaD
 ·exact (hL 69 AB).symm.trans (h.trans (hL 44 AB))
 ·exact (hL 4 AB).symm.trans (h.trans (hL 44 AB))
 ·trivial
def BegAt (W0:World) (pb:Nat) (s4:Value) (wx:World):Prop:=
 ∃ mb,s4 = .map (some mb) ∧ Mods [] W0 wx ∧ MapGood Tryz.prog 350 (BegG pb W0.heap.size) wx mb ∧ MapHas wx mb (za1 1 [84,82,85,69]) ∧ MapHas wx mb (za1 1 [70,65,76,83,69]) ∧ MapHas wx mb (za1 1 [78,85,76,76]) ∧ MapHas wx mb (za1 5 [40]) ∧ MapHas wx mb (za1 1 [67,79,85,78,84]) ∧ MapHas wx mb (za1 1 [83,85,77]) ∧ MapHas wx mb (za1 1 [77,73,78]) ∧ MapHas wx mb (za1 1 [77,65,88])
theorem PRes.congr {pb tg f:Nat} {F F':PF} {s:PS} {w w':World} {e:Ending} (hF:F s=F' s) (h:PRes pb tg f F s w e w'):PRes pb tg f F' s w e w':=by unfold PRes at *;rw [← hF];exact h
theorem zbV {k k':Nat} {s s':Bs} (h:za1 k s=za1 k' s'):k=k' ∧ s=s':=by simp only [Value.agg.injEq,Array.mk.injEq,List.cons.injEq,Value.int.injEq,Value.string.injEq,ByteArray.mk.injEq,and_true,true_and] at h;exact ⟨by omega,h.2⟩
structure PrimWords (sub:Option Lvl) (s:PS):Prop where
 tr:s.now.kind=1 → s.now.s=wTrue → zo sub s=(.leaf { op:=oBool,pos:=s.now.pos,n:=1 },s.next)
 fa:s.now.kind=1 → s.now.s=wFalse → zo sub s=(.leaf { op:=oBool,pos:=s.now.pos },s.next)
 nu:s.now.kind=1 → s.now.s=wNull → zo sub s=(.leaf { op:=oNull,pos:=s.now.pos },s.next)
 br:s.now.kind=5 → s.now.s=wOpen → zo sub s=zaE sub s
 ag:s.now.kind=1 → (s.now.s=wCount ∨ s.now.s=wSum ∨ s.now.s=wMin ∨ s.now.s=wMax) → zo sub s=zK sub s
 no:¬ (s.now.kind=1 ∧ (s.now.s=wTrue ∨ s.now.s=wFalse ∨ s.now.s=wNull ∨ s.now.s=wCount ∨ s.now.s=wSum ∨ s.now.s=wMin ∨ s.now.s=wMax)) → ¬ (s.now.kind=5 ∧ s.now.s=wOpen) → zo sub s=(emp,s.fail 8)
theorem zjp {sub:Option Lvl} {s:PS} (he:s.e=0) (k1:s.now.kind ≠ 3) (k2:s.now.kind ≠ 4) (k3:s.now.kind ≠ 2):PrimWords sub s:=by
 have h0:zo sub s=if s.now.kind=1 ∧ s.now.s=wTrue then (.leaf { op:=oBool,pos:=s.now.pos,n:=1 },s.next)
  else if s.now.kind=1 ∧ s.now.s=wFalse then (.leaf { op:=oBool,pos:=s.now.pos },s.next)
  else if s.now.kind=1 ∧ s.now.s=wNull then (.leaf { op:=oNull,pos:=s.now.pos },s.next)
  else if s.now.kind=5 ∧ s.now.s=wOpen then zaE sub s
  else if s.now.kind=1 ∧ (s.now.s=wCount ∨ s.now.s=wSum ∨ s.now.s=wMin ∨ s.now.s=wMax) then zK sub s
  else (emp,s.fail 8):=by
  unfold zo;rw [if_neg BB,if_neg k1,if_neg k2,if_neg k3]
 refine ⟨fun a b => ?_,fun a b => ?_,fun a b => ?_,fun a b => ?_,fun a b => ?_,fun a b => ?_⟩
 ·rw [h0,if_pos ⟨a,b⟩]
 ·rw [h0,b,if_neg AV,if_pos ⟨a,rfl⟩]
 ·rw [h0,b,if_neg AV,if_neg AV,if_pos ⟨a,rfl⟩]
 ·rw [h0,b,if_neg AV,if_neg AV,if_neg AV,if_pos ⟨a,rfl⟩]
 ·rw [h0];rcases b with b | b | b | b <;> rw [b,if_neg AV,if_neg AV,if_neg AV,if_neg AV,if_pos AV]
 ·rw [h0,if_neg (fun h => a ⟨h.1,.inl h.2⟩),if_neg (fun h => a ⟨h.1,.inr (.inl h.2)⟩),if_neg (fun h => a ⟨h.1,.inr (.inr (.inl h.2))⟩),if_neg b,if_neg (fun h => a ⟨h.1,.inr (.inr (.inr h.2))⟩)]
set_option maxRecDepth 100000 in
set_option maxHeartbeats 4000000 in
theorem zhM (w:World) (pb tg:Nat) (f:Nat) (s:PS) (h:PSt w pb tg s f) (he:s.e=0) (k1:s.now.kind ≠ 3) (k2:s.now.kind ≠ 4) (k3:s.now.kind ≠ 2)
  (hbr:s.now.kind ≠ 0 → ∀ W,PSt W pb tg s f → Calls Tryz.prog 225 #[zh pb] W (PRes pb tg f (zaE (subOf f)) s W))
  (hag:s.now.kind ≠ 0 → s.now.s.length ≤ 1000 → (∀ b ∈ s.now.s,b.toNat < 128) → ∀ W,PSt W pb tg s f → Calls Tryz.prog 226 #[zh pb] W (PRes pb tg f (zK (subOf f)) s W)) :
  Calls Tryz.prog 223 #[zh pb] w (PRes pb tg f (zo (subOf f)) s w):=by
 have hpw:=h.lt;have hwn:s.now.kind ≤ 5 ∧ s.now.s.length ≤ 5000:=by obtain ⟨l,-,-,h3,-⟩:=h; exact h3.now
 have HF0:=QH (zjp (sub:=subOf f) he k1 k2 k3);have HC:=QH (AI hbr hag);have hnow:=zaO w pb tg s f h;obtain ⟨off,cap,hb,-⟩:=h.tok;have e3:w.cell? ⟨pb,3,none⟩ = some (.int .i64 s.e):=za hb 3;rw [he] at e3;have HB:=QH (AI h hb);unfold zh at *;clear h hb hbr hag;have gCY:=QH trivial;exact yed
end Go.Proofs.YtcabeljiobiojaaGreatDoor
