/-
  check.expr, walked: of an operator that is no aggregate. No condition but that Go's own variables hold what they were laid with.
-/
import Derived.Test.YtgdpaieechgahaaGreatDoorQ28
import Derived.Outline
set_option linter.unusedVariables false
namespace Go.Proofs.YtgdpaieechgahaaGreatDoor
open Go.RowKit
set_option maxRecDepth 100000 in
set_option maxHeartbeats 8000000 in
theorem zma (w:World) (hV:CkVars w) (sb:Nat) (cv:Value) (mb d pos e:Nat) (env:List EC) (hd:d ≤ 1000000) (hsg : 0 ≠ sb ∧ 2 ≠ sb) (hS:Scope w sb cv mb d pos e env) (xb:Nat) (t:Tree) (hOp:OpT t) (va:Value) (hx:w.heap[xb]? = some (.cells (hdC t.hd va).toArray 133 (0,0))) (hne:xb ≠ sb)
  (hcn:zS t.hd=none) (hnc:t.hd.op ≠ oColumn) (hag:aggOpB t.hd.op=false) (us:List Value) (n:Nat) (hn:t.args.length=n) (hun:us.length=n) (hn2:n ≤ 2) (ao:Option Addr) (hva:va = .slice ao n n)
  (hao:0 < n → ∃ c,ao=some ⟨c,0,none⟩ ∧ c ≠ sb ∧ ∀ i (hi:i < us.length),w.cell? ⟨c,i,none⟩ = some us[i])
  (hsub:∀ i (hi:i < us.length) (ha:i < t.args.length) W pos' e',Mods [sb] w W → zaX W sb cv mb (zy d t.hd) pos' e' → Calls Tryz.prog 56 #[zh sb,us[i]] W (ERes W sb cv mb (zy d t.hd) pos' e' env (zq env t.args[i] (zy d t.hd))))
  (hop:t.hd.op=oAll ∨ t.hd.op=oCount ∨ t.hd.op=oNeg ∨ t.hd.op=oSum ∨ t.hd.op=oMin ∨ t.hd.op=oMax ∨ t.hd.op=oIs ∨ t.hd.op=oIsNot ∨ t.hd.op=oNot ∨ t.hd.op=oAnd ∨ t.hd.op=oOr ∨ t.hd.op=oPlus ∨ t.hd.op=oMinus ∨ t.hd.op=oTimes ∨ t.hd.op=oOver ∨ t.hd.op ∈ rels)
  (hri:(t.hd.op=oPlus ∨ t.hd.op=oMinus ∨ t.hd.op=oTimes ∨ t.hd.op=oOver) → ∀ xs,zcY env (zy d t.hd) t.args = .ok xs → (zcy xs 0).Right ∧ (zcy xs 1).Right) :
  Calls Tryz.prog 56 #[zh sb,zh xb] w (ERes w sb cv mb d pos e env (zq env t d)):=by
 have HSB:=QH hsg;clear hsg;have hc:=zbX w hV xb t.hd va hx;rw [hcn] at hc;have hdd:zy d t.hd=d:=by unfold zy; rw [hag]; rfl
 rw [hdd] at hsub hri;have x0:=za hx 0;change w.cell? _=some (.string ⟨t.hd.op.toArray⟩) at x0;obtain ⟨S,hSS⟩:=EX ((⟨t.hd.op.toArray⟩ : ByteArray):ByteArray);have hnc2:(t.hd.op == [99,111,108,117,109,110])=false:=zhq hnc;have hnc3:¬ S = ⟨#[99,111,108,117,109,110]⟩:=fun h => hnc (show t.hd.op=([99,111,108,117,109,110]:List UInt8) from by have:=congrArg (fun b:ByteArray => b.data.toList) (hSS.trans h); simpa using this);have hnc4:(S.toList == [99,111,108,117,109,110])=false:=by rw [← hSS,ByteArray.toList_eq]; exact hnc2
 have hnc5:¬ S.toList=[99,111,108,117,109,110]:=by rw [beq_eq_false_iff_ne] at hnc4; exact hnc4
 have hgg:=fun W => zan W t.hd.op;rw [hag,hSS] at hgg;rw [hSS] at x0;obtain ⟨PP,hPP⟩:=EX (ERes w sb cv mb d pos e env (zq env t d));rw [hPP];have HH:=QH (AI hPP (AI hS (AI hx (AI hV (AI hsub (AI hop (AI hri (AI hSS (AI hdd (AI hOp (AI hag (AI hn (AI hun (AI hao hva))))))))))))));clear hPP hS hx hV hsub hop hri hSS hdd hOp hag hn hun hcn hnc hnc2;unfold zh at *;have HGG:=QH hgg;clear hgg hao hva;go_enter Tryz.func56, Tryz.ntmps56;go_wp2_with fail;(with_reducible refine hc.mono ?_);rintro r w1 ⟨hM1,rfl⟩;have y0:=hM1.cell x0;clear hc x0;have hz2:=(QM [] w1).alloc (.cells #[.string S,.int .i64 0,.int .i64 0,.int .i64 0,.bool false,.int .i64 0,.string ⟨#[]⟩,.slice none 0 0] 63);have hnb:=QN w1 (.cells #[.string S,.int .i64 0,.int .i64 0,.int .i64 0,.bool false,.int .i64 0,.string ⟨#[]⟩,.slice none 0 0] 63);have y2:=hz2.cell y0;have hS2:=HH.out.2.1.later (hM1.trans hz2);have hxz:=hM1.size;have hgg:=HGG.out (w1.alloc (.cells #[.string S,.int .i64 0,.int .i64 0,.int .i64 0,.bool false,.int .i64 0,.string ⟨#[]⟩,.slice none 0 0] 63));have H2:=QH (AI hM1 (AI hz2 (AI hnb (AI hS2 hxz))));clear hM1 hz2 hnb hS2 hxz HGG;go_wp2_with fail;(with_reducible refine hgg.mono ?_);rintro r w3 ⟨rfl,hM3⟩;obtain ⟨hM1,hz2,hnb,hS2,hxz⟩:=H2.out;have hS3:=hS2.later hM3;have hnb3:=hM3.heap hnb;have hMw3:=(hM1.trans hz2).trans hM3;obtain ⟨nb,hnbe⟩:=EX (w1.heap.size);rw [hnbe] at hnb3 hxz;rw [hnbe];have st3:=hS3.st;have s2:=za st3 2;change w3.cell? _=some (.int .i64 d) at s2;have gs2:=zc st3 2;have hMs:Mods [sb] w3 (w3.setCell ⟨sb,2,none⟩ (.int .i64 ((d:Int)))):=(QM _ _).setCell (.inl (by simp)) _;have st4:zaX (w3.setCell ⟨sb,2,none⟩ (.int .i64 ((d:Int)))) sb cv mb (d) pos e:=zb st3 2 (.int .i64 ((d:Int)));have hMw4:Mods [sb] w (w3.setCell ⟨sb,2,none⟩ (.int .i64 ((d:Int)))):=(hMw3.mono (L':=[sb])).trans hMs;have hsbw:sb < w.heap.size:=zj HH.out.2.1.st;have hnsb:nb ≠ sb:=by omega
 have hnb4:=hMs.heap hnb3 (by simpa using hnsb);have hx4:=hMw4.heap HH.out.2.2.1 (by simpa using hne);have y4:=za hx4 7;rw [show (hdC t.hd va).toArray[7]? = some va from rfl,HH.out.2.2.2.2.2.2.2.2.2.2.2.2.2.2] at y4
 have hST:OpI w sb cv mb (d) pos e env t.args t.hd.op nb 0 (.slice none 0 0) [] pos e (w3.setCell ⟨sb,2,none⟩ (.int .i64 ((d:Int)))):=
  ⟨rfl,zaP _ _ _,st4,hMw4,hxz,by rw [hnb4,← HH.out.2.2.2.2.2.2.2.1]; rfl,⟨rfl,.inl ⟨rfl,rfl⟩⟩,fun g he => by simp [Value.ownBlock] at he,hsbw,fun _ => rfl,fun _ xs hxs => by
   simp only [List.take_zero,zcY,Chk.ok.injEq] at hxs;subst hxs
   exact ⟨rfl,fun j hx => by simp at hx⟩⟩
 have H4:=QH (AI hST (AI hsbw (AI hnsb hxz)));clear hST st4 hMw4 hMs hnb4 hx4 hMw3 hnb3 hS3 hnbe hM3 hgg H2 hM1 hz2 hnb hS2 st3 hxz y0 y2;go_wp2_with fail;go_loopg [75] n (fun gk t75 wr => ∃ (i:Nat) (av:Value) (vs:List Value) (p1 e1:Nat),i + gk=n ∧ t75 = .int .i64 i ∧ OpI w sb cv mb (d) pos e env t.args t.hd.op nb i av vs p1 e1 wr)
 case atStart => exact ⟨0,_,_,_,_,by omega,rfl,H4.out.1⟩
 clear s2 gs2 y4 H4;obtain ⟨i,av,vs,p1,e1,hin,rfl,hI⟩:=hrel;by_cases hlt:i < n
 ·obtain ⟨c,rfl,hcs,hcells⟩:=HH.out.2.2.2.2.2.2.2.2.2.2.2.2.2.1 (by omega);have hiu:i < us.length:=by rw [HH.out.2.2.2.2.2.2.2.2.2.2.2.2.1]; exact hlt
  have hia:i < t.args.length:=by rw [HH.out.2.2.2.2.2.2.2.2.2.2.2.1]; exact hlt
  have k0:=hI.mods.cell (hcells i hiu) (by simpa using hcs);have hca:=HH.out.2.2.2.2.1 i hiu hia;obtain ⟨u,hu⟩:=EX (us[i]);obtain ⟨a,hae⟩:=EX (t.args[i]);rw [hu] at k0 hca;rw [hae] at hca;have hat:t.args[i]? = some a:=by rw [List.getElem?_eq_getElem hia,hae]
  have a7:=za hI.node 7;change wr.cell? _=some av at a7;have hnsb:nb ≠ sb:=by have:=hI.nbl; have:=hI.sbl; omega
  obtain ⟨i0,hi,hz0,hz1,hz2⟩:=info_parts (show (Tryz.prog.info? 41).map (fun i => (i.zero,i.size,i.bytes))=some (some (.pointer none),1,8) by kernel_rfl);have HI:=QH (AI hI (AI hat hca));have HU:=QH (AI hi (AI hz0 (AI hz1 hz2)));clear hI hat hca hu hae hcells hcs hi hz0 hz1 hz2;go_upto_region 17 with fail;apply zr (by kernel_rfl) [0,1,2,3,4,5,6,10,11] [(7,[]),(8,[]),(9,[]),(12,[])] false (by kernel_rfl) (fun y => y.cell? ⟨nb,7,none⟩ = some av)
  case hC => exact a7
  case hwalk =>intro y hy;change wpQuiet _ _ _ _ [_,_,_,_,_,_,_,_,_] _;(repeat go_big_quiet_step (fail));refine QW ?_;exact rfl
  case hrun =>
   change zct _ _ _ _ _ [(_,[]),(_,[]),(_,[]),(_,[])] _ _;refine zv fun R1 hR1 => ?_;have hcl:=HI.out.2.2 wr.drew p1 e1 HI.out.1.mods.drew HI.out.1.st;unfold zh at hcl;go_wp2_with fail;(with_reducible refine hcl.mono ?_);rintro r w2 ⟨b,rfl,hb,hM2,hst2,hk2⟩;have hC2:=hM2.cell (show wr.drew.cell? ⟨nb,7,none⟩ = some av from a7) (by simpa using hnsb);have hown2:=zm (zm HI.out.1.own ((QM [] wr).drew) (by simp)) hM2 (fun g he => by have h1:=HI.out.1.blk g he; have h2:=HI.out.1.sbl; simp; omega);have hnav:nb ∉ av.ownBlock.toList:=fun hm => (HI.out.1.blk nb (by simpa using hm)).2 rfl;have hC3:=((QM [] w2).alloc (.cells #[.pointer (some ⟨b,0,none⟩)] 41)).cell hC2;have hnode3:=((QM [] w2).alloc (.cells #[.pointer (some ⟨b,0,none⟩)] 41)).heap (hM2.heap (show wr.drew.heap[nb]? = _ from HI.out.1.node) (by simpa using hnsb));have H2:=QH (AI hM2 (AI hst2 (AI hk2 (AI hown2 (AI hnav (AI hC3 hnode3))))));(try unfold zh);clear hcl hM2 hst2 hk2 hb hown2 hnav hC3 hnode3;go_wp2_with fail;refine zd (hR1 _ _ (.inr hC2) ?_);clear hR1 R1;refine zv fun R2 hR2 => ?_;go_wp2_with fail;refine zd (hR2 _ _ (.inr H2.out.2.2.2.2.2.1) ?_);clear hC2 hR2 R2;refine zv fun R3 hR3 => ?_;obtain ⟨hi,hz0,hz1,hz2⟩:=HU.out;have hown2:=H2.out.2.2.2.1;go_wp2_with (at_builtin; refine zw _ rfl _ _ 43 rfl 41 i0 _ 1 8 Tryz.underlying43 hi hz0 hz1 hz2 rfl (by decide) av i vs rfl (hown2.alloc _) ⟨w2.heap.size,0,none⟩ 1 1 [.pointer (some ⟨b,0,none⟩)] rfl rfl ?c1 ?c2 (by decide) ?c3 ?c4 ?_)
   case c2 => rfl
   case c3 => unfold maxLen; omega
   case c4 => omega
   intro g' cap2 w5 hown5 hM5 hg5;have hC5:=hM5.cell H2.out.2.2.2.2.2.1 H2.out.2.2.2.2.1;have hstep:=OpI.step HI.out.1 HI.out.2.1 (b:=b) (((QM [] wr).drew.mono (L':=[sb])).trans H2.out.1) H2.out.2.1 (fun he1 m hm L hL => H2.out.2.2.1 he1 m hm L hL) hown5 hM5 (by rw [zl]; exact hg5);have hn5:=zc (hM5.heap H2.out.2.2.2.2.2.2 H2.out.2.2.2.2.1) 7;have H5:=QH hstep;clear hstep hown5 hM5 hg5 hi hz0 hz1 hz2 hown2 a7;go_wp2_with fail;refine zd (hR3 _ _ (.inr hC5) ?_);clear hR3 R3;refine zv fun R4 hR4 => ?_;go_wp2_with fail;refine zd (hR4 _ _ (by simp) ?_);clear hR4 R4;refine zI ?_;go_wp2_with fail;go_roundg (n - (i + 1))
   case measure => omega
   case rel => exact ⟨i + 1,_,_,_,_,by omega,by go_num,H5.out⟩
 ·obtain rfl:n=i:=by omega
  have hchk:=hI.chk;rw [List.take_of_length_le (by rw [HH.out.2.2.2.2.2.2.2.2.2.2.2.1]; exact LR _)] at hchk;have hkids:=hI.kids;rw [List.take_of_length_le (by rw [HH.out.2.2.2.2.2.2.2.2.2.2.2.1]; exact LR _)] at hkids;have s2:=za hI.st 2;change wr.cell? _=some (.int .i64 ((d:Int))) at s2;have gs2:=zc hI.st 2;have hM6:Mods [sb] wr (wr.setCell ⟨sb,2,none⟩ (.int .i64 d)):=(QM _ _).setCell (.inl (by simp)) _;have st6:zaX (wr.setCell ⟨sb,2,none⟩ (.int .i64 d)) sb cv mb d p1 e1:=zb hI.st 2 (.int .i64 d);have hnsb:nb ≠ sb:=by have:=hI.nbl; have:=hI.sbl; omega
  have c4:=za st6 4;change World.cell? _ _=some (Value.int .i64 (e1:Nat)) at c4;have hMw6:=hI.mods.trans hM6;have HI:=QH (AI hI (AI hchk (AI hkids (AI hM6 (AI st6 hMw6)))));clear hI hchk hkids hM6 st6 hMw6 hlt;by_cases he1:e1=0
  ·obtain ⟨he,hp,xs,hxs⟩:=zaU (ze7 env _ _) (by rw [← he1]; exact HI.out.2.1);have hz1:((e1:Int) != 0)=false:=bne_eq_false_iff_eq.2 (by omega);obtain ⟨hlx,hkd⟩:=HI.out.2.2.1 he xs hxs;have hlv:=HI.out.1.len;have hx6:=HI.out.2.2.2.2.2.heap HH.out.2.2.1 (by simpa using hne);have x0:=za hx6 0;change World.cell? _ _=some (.string ⟨t.hd.op.toArray⟩) at x0;rw [HH.out.2.2.2.2.2.2.2.1] at x0;have x1:=za hx6 1;change World.cell? _ _=some (.int .i64 t.hd.pos) at x1;have hnode6:=HI.out.2.2.2.1.heap HI.out.1.node (by simpa using hnsb);have a7:=za hnode6 7;change World.cell? _ _=some av at a7;have hV6:CkVars (wr.setCell ⟨sb,2,none⟩ (.int .i64 d)):=by
    have hv:=HH.out.2.2.2.1;have hm:=HI.out.2.2.2.2.2;have hg1 : 0 ≠ sb:=HSB.out.1;have hg2 : 2 ≠ sb:=HSB.out.2;exact ⟨⟨hm.cell hv.1.1 (by simpa using hg1),hm.cell hv.1.2 (by simpa using hg1)⟩,hm.cell hv.2.1 (by simpa using hg2),hm.cell hv.2.2 (by simpa using hg2)⟩
   have hown6:=zm HI.out.1.own HI.out.2.2.2.1 (fun g hg => by have h1:=HI.out.1.blk g hg; have h2:=HI.out.1.sbl; simp; omega);obtain ⟨ao2,cap2,hav,-,hao2,hav0⟩:=ziX hown6 hlv;have hkd6:∀ j (hx:j < xs.length) (hv:j < vs.length),∀ L:List Nat,(∀ x ∈ L,x < w.heap.size ∨ x=nb ∨ av.ownBlock=some x) → NAt (wr.setCell ⟨sb,2,none⟩ (.int .i64 d)) L vs[j] xs[j]:=fun j hx hv L hL =>
    ((
     hkd j hx hv (sb :: L) (fun x hx => by
     rcases MC hx with rfl | hx
     ·exact .inl HI.out.1.sbl
     ·exact hL x hx)).mods (HI.out.2.2.2.1.mono)).weaken (fun x hx => CM _ hx)
   have hty:=fun W (hM:Mods [] (wr.setCell ⟨sb,2,none⟩ (.int .i64 d)) W) => zhv W (hV6.later hM) t.hd.op vs (xs.map (fun x:NT => x.hd.t)) n hlv (by rw [List.length_map]; exact hlx) hn2 ao2 cap2 (fun h0 => by
     obtain ⟨c,h1,-,-,-,-,h2⟩:=hao2 h0
     exact ⟨c,h1,fun i hi => hM.cell (h2 i hi)⟩) HH.out.2.2.2.2.2.1 (fun hh => HH.out.2.2.2.2.2.2.1 hh xs hxs) (fun i hi hx => by
     rw [List.length_map] at hx;obtain ⟨b,args,h1,-,h2⟩:=(hkd6 i hx hi [] (by simp)).head;refine ⟨b,h1,?_,?_⟩
     ·have:=za (hM.heap h2) 1;rw [this,List.getElem_map]; rfl
     ·have:=za (hM.heap h2) 2
      rw [this,List.getElem_map]; rfl)
   rw [HH.out.2.2.2.2.2.2.2.1,← hav] at hty;obtain ⟨OO,hOO⟩:=EX (zx t.hd.op (zcy xs 0) (zcy xs 1));have hty2:∀ W,Mods [] (wr.setCell ⟨sb,2,none⟩ (.int .i64 d)) W → Calls Tryz.prog 87 #[.string S,av] W (RuleRes OO W):=fun W hM => by rw [← hOO]; exact hty W hM
   have HT:=QH (AI hOO (AI hty2 (AI hkd6 (AI hnode6 (AI hown6 (AI hxs (AI he (AI hp (AI hlx (AI hlv he1))))))))));have HA:=QH (AI hav (AI hao2 hav0));clear hOO hty hty2 hkd6 hnode6 hown6 hxs he hp hlx hlv hav hao2 hav0 hkd hV6 hx6 he1;have HSZ:Hid ((wr.setCell ⟨sb,2,none⟩ (.int .i64 d)).heap.size=wr.heap.size):=QH (by simp [World.setCell]);have hxl:xb < (wr.setCell ⟨sb,2,none⟩ (.int .i64 d)).heap.size:=zD x0;have hnl:nb < (wr.setCell ⟨sb,2,none⟩ (.int .i64 d)).heap.size:=zD a7;go_upto_region 22 with fail;clear s2 gs2;generalize wr.setCell ⟨sb,2,none⟩ (.int .i64 d)=w6 at *;go_cut [12,13] from 106 to 117 (fun s12 s13 wx => CutT w6 OO s12 s13 wx)
   case first =>
    apply zfb (by kernel_rfl) [0,1,2,3,4,5,6,7] (.two 8 [9,10,11] (.one 12 [] (.one 13 [14] .fin)) 12 [] (.one 8 [9,10,11] (.one 13 [14] .fin))) true (by kernel_rfl) (fun y => y.cell? ⟨xb,0,none⟩ = some (.string S) ∧ y.cell? ⟨nb,7,none⟩ = some av)
    case hC => exact ⟨x0,a7⟩
    case hwalk =>rintro y ⟨hy0,hy7⟩;change wpQuiet _ _ _ _ [_,_,_,_,_,_,_,_] _;(repeat go_big_quiet_step (fail));refine QW ?_;exact rfl
    case hrun =>
     change segT _ _ _ _ _ (.two _ [_,_,_] (.one _ [] (.one _ [_] .fin)) _ [] (.one _ [_,_,_] (.one _ [_] .fin))) _ _;refine ziW ?_ ?_
     ·refine zbD fun R1 hR1 => ?_;have hcl:=HT.out.2.1 w6.drew (QM _ _).drew;go_wp2_with fail;(with_reducible refine hcl.mono ?_);intro r w7 hres;obtain ⟨⟨tt,rfl,htt⟩,hM7⟩:=hres;clear hcl;unfold tyA;obtain ⟨ok,hok⟩:=EX (OO.isSome);rw [hok];have HO:=QH (AI hok (AI htt hM7));have x7:=hM7.cell (show w6.drew.cell? _=_ from x0);have a77:=hM7.cell (show w6.drew.cell? _=_ from a7);have hs7:w6.heap.size ≤ w7.heap.size:=hM7.size;clear hok htt hM7;go_wp2_with fail;refine zd ?_;apply hR1 _ _ (.inr ⟨x7,a77⟩)
      ·intro y hy;change wpQuiet _ _ _ _ [_,_,_] _;(repeat go_big_quiet_step (fail));refine QW ?_;exact rfl
      ·clear hR1 R1;refine zbY (zdC fun R2 hR2 => ?_);go_wp2_with fail;have hM8:=(QM [] w7).alloc (.cells #[.int .i64 0,.int .i64 0] 26);have hb8:=QN w7 (.cells #[.int .i64 0,.int .i64 0] 26);have x8:=hM8.cell x7;have a8:=hM8.cell a77;refine zd (hR2 _ _ (.inr ⟨x8,a8⟩) ?_);clear hR2 R2;refine zbY (zbD fun R3 hR3 => ?_);go_wp2_with (refine wpList_store_row rfl 26 (.tmp 12) (.tmp 116) rfl w7.heap.size #[.int .i64 tt.k,.int .i64 tt.s] rfl rfl 26 _ hb8 zk rfl (zA _ _) ?_);have hM9:Mods [] w7 ((w7.alloc (.cells #[.int .i64 0,.int .i64 0] 26)).setRow w7.heap.size #[.int .i64 tt.k,.int .i64 tt.s]):=hM8.setRow (.inr (LR _)) _;have hb9:=zi #[.int .i64 tt.k,.int .i64 tt.s] hb8;refine zd ?_;apply hR3 _ _ (.inr ⟨hM9.cell x7,hM9.cell a77⟩)
       ·intro y hy;change wpQuiet _ _ _ _ [_] (Act.mk _ _);(repeat go_big_quiet_step (fail));refine QW ?_;exact rfl
       ·refine zex ?_;clear hR3 R3;go_wp2_with fail
        go_meet
        exact ⟨w7.heap.size,tt,rfl,by rw [HO.out.1],hs7,hb9,((QM [] w6).drew.trans HO.out.2.2).trans hM9,HO.out.2.1⟩
     ·refine zdC fun R1 hR1 => ?_;go_wp2_with fail;have hM8:Mods [] w6 (w6.drew.alloc (.cells #[.int .i64 0,.int .i64 0] 26)):=((QM [] w6).drew).alloc (.cells #[.int .i64 0,.int .i64 0] 26);have hb8:((w6.alloc (.cells #[.int .i64 0,.int .i64 0] 26)).drew).heap[w6.heap.size]? = _:=QN w6 (.cells #[.int .i64 0,.int .i64 0] 26);have hM8d:Mods [] w6 ((w6.alloc (.cells #[.int .i64 0,.int .i64 0] 26)).drew):=((QM [] w6).alloc (.cells #[.int .i64 0,.int .i64 0] 26)).drew;have x8:=hM8d.cell x0;have a8:=hM8d.cell a7;refine zd (hR1 _ _ (.inr ⟨x8,a8⟩) ?_);clear hR1 R1;refine zbY (zbD fun R2 hR2 => ?_);have hcl:=HT.out.2.1 _ hM8d;generalize hw8:(w6.alloc (.cells #[.int .i64 0,.int .i64 0] 26)).drew=w8 at *;clear hw8 hM8;go_wp2_with fail;(with_reducible refine hcl.mono ?_);intro r w7 hres;obtain ⟨⟨tt,rfl,htt⟩,hM7⟩:=hres;clear hcl;unfold tyA;obtain ⟨ok,hok⟩:=EX (OO.isSome);rw [hok];have HO:=QH (AI hok (AI htt (AI hM7 hM8d)));have x7:=hM7.cell x8;have a77:=hM7.cell a8;have hb7:=hM7.heap hb8;clear hok htt hM7 hM8d hb8 x8 a8;go_wp2_with fail;refine zd ?_;apply hR2 _ _ (.inr ⟨x7,a77⟩)
      ·intro y hy;change wpQuiet _ _ _ _ [_,_,_] (Act.mk _ _);(repeat go_big_quiet_step (fail));refine QW ?_;exact rfl
      ·clear hR2 R2;refine zbY (zbD fun R3 hR3 => ?_);go_wp2_with (refine wpList_store_row rfl 26 (.tmp 12) (.tmp 116) rfl w6.heap.size #[.int .i64 tt.k,.int .i64 tt.s] rfl rfl 26 _ hb7 zk rfl (zA _ _) ?_);have hb9:=zi #[.int .i64 tt.k,.int .i64 tt.s] hb7;have hM9:Mods [w6.heap.size] w7 (w7.setRow w6.heap.size #[.int .i64 tt.k,.int .i64 tt.s]):=(QM _ _).setRow (.inl (by simp)) _;refine zd ?_;apply hR3 _ _ (.inr ⟨hM9.cell x7 (by simp; omega),hM9.cell a77 (by simp; omega)⟩)
       ·intro y hy;change wpQuiet _ _ _ _ [_] (Act.mk _ _);(repeat go_big_quiet_step (fail));refine QW ?_;exact rfl
       ·refine zex ?_;clear hR3 R3;go_wp2_with fail
        go_meet
        exact ⟨w6.heap.size,tt,rfl,by rw [HO.out.1],LR _,hb9,(HO.out.2.2.2.trans HO.out.2.2.1).setRow (.inr (LR _)) _,HO.out.2.1⟩
   case rest =>
    obtain ⟨ab,tt,rfl,rfl,hab,hbab,hM7,htt⟩:=hcut;unfold zh;obtain ⟨ok,hok⟩:=EX (OO.isSome);rw [hok];have st7:=hM7.heap HI.out.2.2.2.2.1;have c2:=za st7 2;change World.cell? _ _=some (Value.int .i64 d) at c2;have x17:=hM7.cell x1;have hnode7:=hM7.heap HT.out.2.2.2.1;have hcf:=fun W (h:zaX W sb cv mb d p1 e1) => zF W sb cv mb d p1 e1 h;have HC:=QH (AI hcf (AI hok (AI htt (AI hM7 (AI st7 (AI hbab (AI hab hnode7)))))));clear hcf hok htt hM7 st7 hbab hnode7 x0 x1 a7 c4
    cases ok with
    | true =>
     go_upto_region 23 with fail;apply zr (by kernel_rfl) [0,1,2,3,4,5,6,7,8,9,10,11,12,13,14,15,16,17] [(18,[])] false (by kernel_rfl) (fun y => y.cell? ⟨sb,2,none⟩ = some (.int .i64 d) ∧ y.cell? ⟨xb,1,none⟩ = some (.int .i64 t.hd.pos))
     case hC => exact ⟨c2,x17⟩
     case hwalk =>rintro y ⟨hy2,hy1⟩;change wpQuiet _ _ _ _ [_,_,_,_,_,_,_,_,_,_,_,_,_,_,_,_,_,_] (Act.mk _ _);(repeat go_big_quiet_step (fail));refine QW ?_;exact rfl
     case hrun =>
      change zct _ _ _ _ _ [(_,[])] _ _;refine zv fun R1 hR1 => ?_;have hcl:=HC.out.1 _ (show zaX (World.drew _) sb cv mb d p1 e1 from HC.out.2.2.2.2.1) false 4 t.hd.pos;change Calls _ _ #[.pointer (some ⟨sb,0,none⟩),.bool false,.int .i64 4,.int .i64 t.hd.pos] _ _ at hcl;clear c2 x17;go_wp2_with fail;(with_reducible refine hcl.mono ?_);rintro r w8 ⟨rfl,hM8,st8⟩;clear hcl;have hsb6:sb < ab:=by have h1:=HI.out.1.sbl; have h2:=HI.out.2.2.2.2.2.size; have h3:=HC.out.2.2.2.2.2.2.1; omega
      have hab8:=hM8.heap (show (World.drew _).heap[ab]? = _ from HC.out.2.2.2.2.2.1) (by simp; omega);have hnode8:=hM8.heap (show (World.drew _).heap[nb]? = _ from HC.out.2.2.2.2.2.2.2) (by simpa using hnsb);have q0:=za hab8 0;have q1:=za hab8 1;change w8.cell? _=some (.int .i64 tt.k) at q0;change w8.cell? _=some (.int .i64 tt.s) at q1;have HTH:w8.there nb 1 2:=fun j hj => by
       have hj2:j=0 ∨ j=1:=by omega
       rcases hj2 with rfl | rfl
       ·exact ⟨(congrArg Option.isSome (za hnode8 1)).trans rfl,zc hnode8 1⟩
       ·exact ⟨(congrArg Option.isSome (za hnode8 2)).trans rfl,zc hnode8 2⟩
      have hM9:Mods [nb] w8 (w8.setCells nb 1 [.int .i64 tt.k,.int .i64 tt.s]):=((QM [nb] w8).setCell (p:=⟨nb,1,none⟩) (.inl (by simp)) (.int .i64 tt.k)).setCell (p:=⟨nb,2,none⟩) (.inl (by simp)) (.int .i64 tt.s);have hnode9:(w8.setCells nb 1 [.int .i64 tt.k,.int .i64 tt.s]).heap[nb]? = some (.cells (nhC { op:=t.hd.op,t:=tt } av).toArray 63 (0,0)):=zb (zb hnode8 1 (.int .i64 tt.k)) 2 (.int .i64 tt.s);have hM69:Mods [sb,nb] w6 (w8.setCells nb 1 [.int .i64 tt.k,.int .i64 tt.s]):=(((HC.out.2.2.2.1.drew).mono (L':=[sb,nb])).trans (hM8.mono (L':=[sb,nb]) (by simp))).trans (hM9.mono (L':=[sb,nb]) (by simp));have hfin:PP (.returned (.pointer (some ⟨nb,0,none⟩))) (w8.setCells nb 1 [.int .i64 tt.k,.int .i64 tt.s]):=by
       rw [← HH.out.1];obtain ⟨hOO,-,hkd6,-,-,hxs,he,hp,hlx,hlv,he1⟩:=HT.out;obtain ⟨hav,hao2,hav0⟩:=HA.out;have hE:=zcm env d t HH.out.2.2.2.2.2.2.2.2.2.1;rw [HH.out.2.2.2.2.2.2.2.2.1,hxs] at hE;have hE:zq env t d=zcX d t.hd (zcy xs 0) (zcy xs 1) (fun n => mkN n xs):=hE;have hff:=zdD (d:=d) (h:=t.hd) (a:=zcy xs 0) (b:=zcy xs 1) (mk:=fun n => mkN n xs) (c:=false) (ok:=true) (by rw [hOO]; exact HC.out.2.1) (by rw [HH.out.2.2.2.2.2.2.2.2.2.2.1]; rfl) pos;refine ⟨nb,rfl,HI.out.1.nbl,(HI.out.2.2.2.2.2.trans hM69 (fun x hx => by simp at hx; rcases hx with rfl | rfl; exact .inl (by simp); exact .inr HI.out.1.nbl)),?_,fun _ m hm L hL => ?_⟩
       ·rw [hE,he,hff];have:=hM9.heap st8 (by simpa using hnsb.symm);rw [hp,he1] at this;exact this
       ·rw [hE] at hm;obtain ⟨u,hu,rfl⟩:=zhw hm;have hu2:=HC.out.2.2.1 u (by rw [← hOO]; exact hu);subst hu2;have hnl:nb ∉ L:=fun hx => by have:=hL nb hx; have:=HI.out.1.nbl; omega
        refine zfc hnode9 hnl hlv hlx hn2 (fun h0 => ?_) (fun h0 => ?_) (fun j hx hv => ?_)
        ·exact HI.out.1.zero h0
        ·obtain ⟨c,h1,h2,h3,h4,h5,h6⟩:=hao2 h0;have hb:=HI.out.1.blk c h2;have hs:=HI.out.1.sbl;exact ⟨c,cap2,by rw [hav,h1],fun hx => by have:=hL c hx; omega,h4,h5,fun i hi => hM69.cell (h6 i hi) (by simp; omega)⟩
        ·exact ((hkd6 j hx hv (sb :: nb :: L) (fun x hx => by
          rcases MC hx with rfl | hx
          ·exact .inl HI.out.1.sbl
          rcases MC hx with rfl | hx
          ·exact .inr (.inl rfl)
          ·exact .inl (hL x hx))).mods (hM69.mono)).weaken (fun x hx => CM _ (CM _ hx))
      have HFIN:=QH hfin;clear hfin hM69 hnode9 hM9 hnode8 hab8 st8 hM8 hsb6;go_wp2_with fail;refine zd (hR1 _ _ (by simp) ?_);clear hR1 R1;refine zI ?_;generalize hw9:w8.setCells nb 1 [.int .i64 tt.k,.int .i64 tt.s]=w9 at HFIN;have HW9:=QH hw9;clear hw9;go_wp2_with (refine wpList_store_mid rfl 26 (.tmp 140) (.tmp 138) rfl nb 1 #[.int .i64 tt.k,.int .i64 tt.s] rfl rfl HTH zk (zA _ _) ?_);have hw9:=HW9.out;rw [← hw9] at HFIN;exact HFIN.out
    | false =>
     go_upto_region 23 with fail;apply zr (by kernel_rfl) [0,1,2,3,4,5,6,7,8,9,10,11,12,13,14,15,16,17] [(18,[])] false (by kernel_rfl) (fun y => y.cell? ⟨sb,2,none⟩ = some (.int .i64 d) ∧ y.cell? ⟨xb,1,none⟩ = some (.int .i64 t.hd.pos))
     case hC => exact ⟨c2,x17⟩
     case hwalk =>rintro y ⟨hy2,hy1⟩;change wpQuiet _ _ _ _ [_,_,_,_,_,_,_,_,_,_,_,_,_,_,_,_,_,_] (Act.mk _ _);(repeat go_big_quiet_step (fail));refine QW ?_;exact rfl
     case hrun =>
      change zct _ _ _ _ _ [(_,[])] _ _;refine zv fun R1 hR1 => ?_;have hcl:=HC.out.1 _ (show zaX (World.drew _) sb cv mb d p1 e1 from HC.out.2.2.2.2.1) true 4 t.hd.pos;change Calls _ _ #[.pointer (some ⟨sb,0,none⟩),.bool true,.int .i64 4,.int .i64 t.hd.pos] _ _ at hcl;clear c2 x17;go_wp2_with fail;(with_reducible refine hcl.mono ?_);rintro r w8 ⟨rfl,hM8,st8⟩;clear hcl;have hsb6:sb < ab:=by have h1:=HI.out.1.sbl; have h2:=HI.out.2.2.2.2.2.size; have h3:=HC.out.2.2.2.2.2.2.1; omega
      have hab8:=hM8.heap (show (World.drew _).heap[ab]? = _ from HC.out.2.2.2.2.2.1) (by simp; omega);have hnode8:=hM8.heap (show (World.drew _).heap[nb]? = _ from HC.out.2.2.2.2.2.2.2) (by simpa using hnsb);have q0:=za hab8 0;have q1:=za hab8 1;change w8.cell? _=some (.int .i64 tt.k) at q0;change w8.cell? _=some (.int .i64 tt.s) at q1;have HTH:w8.there nb 1 2:=fun j hj => by
       have hj2:j=0 ∨ j=1:=by omega
       rcases hj2 with rfl | rfl
       ·exact ⟨(congrArg Option.isSome (za hnode8 1)).trans rfl,zc hnode8 1⟩
       ·exact ⟨(congrArg Option.isSome (za hnode8 2)).trans rfl,zc hnode8 2⟩
      have hM9:Mods [nb] w8 (w8.setCells nb 1 [.int .i64 tt.k,.int .i64 tt.s]):=((QM [nb] w8).setCell (p:=⟨nb,1,none⟩) (.inl (by simp)) (.int .i64 tt.k)).setCell (p:=⟨nb,2,none⟩) (.inl (by simp)) (.int .i64 tt.s);have hnode9:(w8.setCells nb 1 [.int .i64 tt.k,.int .i64 tt.s]).heap[nb]? = some (.cells (nhC { op:=t.hd.op,t:=tt } av).toArray 63 (0,0)):=zb (zb hnode8 1 (.int .i64 tt.k)) 2 (.int .i64 tt.s);have hM69:Mods [sb,nb] w6 (w8.setCells nb 1 [.int .i64 tt.k,.int .i64 tt.s]):=(((HC.out.2.2.2.1.drew).mono (L':=[sb,nb])).trans (hM8.mono (L':=[sb,nb]) (by simp))).trans (hM9.mono (L':=[sb,nb]) (by simp));have hfin:PP (.returned (.pointer (some ⟨nb,0,none⟩))) (w8.setCells nb 1 [.int .i64 tt.k,.int .i64 tt.s]):=by
       rw [← HH.out.1];obtain ⟨hOO,-,hkd6,-,-,hxs,he,hp,hlx,hlv,he1⟩:=HT.out;obtain ⟨hav,hao2,hav0⟩:=HA.out;have hE:=zcm env d t HH.out.2.2.2.2.2.2.2.2.2.1;rw [HH.out.2.2.2.2.2.2.2.2.1,hxs] at hE;have hE:zq env t d=zcX d t.hd (zcy xs 0) (zcy xs 1) (fun n => mkN n xs):=hE;have hff:=zdD (d:=d) (h:=t.hd) (a:=zcy xs 0) (b:=zcy xs 1) (mk:=fun n => mkN n xs) (c:=true) (ok:=false) (by rw [hOO]; exact HC.out.2.1) (by rw [HH.out.2.2.2.2.2.2.2.2.2.2.1]; rfl) pos;refine ⟨nb,rfl,HI.out.1.nbl,(HI.out.2.2.2.2.2.trans hM69 (fun x hx => by simp at hx; rcases hx with rfl | rfl; exact .inl (by simp); exact .inr HI.out.1.nbl)),?_,fun _ m hm L hL => ?_⟩
       ·rw [hE,he,hff];have:=hM9.heap st8 (by simpa using hnsb.symm);rw [hp,he1] at this;exact this
       ·rw [hE] at hm;obtain ⟨u,hu,rfl⟩:=zhw hm;have hu2:=HC.out.2.2.1 u (by rw [← hOO]; exact hu);subst hu2;have hnl:nb ∉ L:=fun hx => by have:=hL nb hx; have:=HI.out.1.nbl; omega
        refine zfc hnode9 hnl hlv hlx hn2 (fun h0 => ?_) (fun h0 => ?_) (fun j hx hv => ?_)
        ·exact HI.out.1.zero h0
        ·obtain ⟨c,h1,h2,h3,h4,h5,h6⟩:=hao2 h0;have hb:=HI.out.1.blk c h2;have hs:=HI.out.1.sbl;exact ⟨c,cap2,by rw [hav,h1],fun hx => by have:=hL c hx; omega,h4,h5,fun i hi => hM69.cell (h6 i hi) (by simp; omega)⟩
        ·exact ((hkd6 j hx hv (sb :: nb :: L) (fun x hx => by
          rcases MC hx with rfl | hx
          ·exact .inl HI.out.1.sbl
          rcases MC hx with rfl | hx
          ·exact .inr (.inl rfl)
          ·exact .inl (hL x hx))).mods (hM69.mono)).weaken (fun x hx => CM _ (CM _ hx))
      have HFIN:=QH hfin;clear hfin hM69 hnode9 hM9 hnode8 hab8 st8 hM8 hsb6;go_wp2_with fail;refine zd (hR1 _ _ (by simp) ?_);clear hR1 R1;refine zI ?_;generalize hw9:w8.setCells nb 1 [.int .i64 tt.k,.int .i64 tt.s]=w9 at HFIN;have HW9:=QH hw9;clear hw9;go_wp2_with (refine wpList_store_mid rfl 26 (.tmp 140) (.tmp 138) rfl nb 1 #[.int .i64 tt.k,.int .i64 tt.s] rfl rfl HTH zk (zA _ _) ?_);have hw9:=HW9.out;rw [← hw9] at HFIN;exact HFIN.out
  ·
   have hz1:((e1:Int) != 0)=true:=bne_iff_ne.2 (by omega);have hfin:PP (.returned (.pointer (some ⟨nb,0,none⟩))) (wr.setCell ⟨sb,2,none⟩ (.int .i64 d)):=by rw [← HH.out.1];have hE:=zcm env d t HH.out.2.2.2.2.2.2.2.2.2.1;rw [HH.out.2.2.2.2.2.2.2.2.1] at hE;have hst:=zdA (ze7 env _ _) HI.out.2.1 he1 (f:=fun xs => zcX d t.hd (zcy xs 0) (zcy xs 1) fun n => mkN n xs);rw [← hE] at hst;refine ⟨nb,rfl,HI.out.1.nbl,HI.out.2.2.2.2.2,by rw [hst]; exact HI.out.2.2.2.2.1,fun he m hm => ?_⟩;exfalso;rw [hm,zaP] at hst;simp only [Prod.mk.injEq] at hst;omega
   have HFIN:=QH hfin;clear hfin he1 HI;go_wp2_with fail;exact HFIN.out
end Go.Proofs.YtgdpaieechgahaaGreatDoor
