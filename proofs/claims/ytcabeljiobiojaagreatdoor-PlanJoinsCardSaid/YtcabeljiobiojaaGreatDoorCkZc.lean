/-
  check.items, walked: a star's columns. No condition.
-/
import Derived.Test.YtcabeljiobiojaaGreatDoorQ34
import Derived.Deep.CutBlock
set_option linter.unusedVariables false
namespace Go.Proofs.YtcabeljiobiojaaGreatDoor
open Go.RowKit
set_option maxRecDepth 100000
theorem yeB {p:Prop} (h:p:=by
  have b2:=za hnew 0;change World.cell? _ _=some (.string N) at b2;have HBb2:=QH (Nat.le_of_lt HS.out);clear hz hnew;replace HS:=HS2;clear HS2
  first
  |guard_hyp gD0
   generalize (W2.alloc (.cells #[.string N] 9))=W3 at *;generalize W2.heap.size=k2 at b2 HBb2 ⊢;refine zu (zp fun R hR => ?_);obtain ⟨css,hown,hall⟩:=HK.out.coll.rowI;obtain ⟨hi,hz0,hz1,hz2,-⟩:=HI.out;rw [HW.out.2.2.1] at hown;have hone:=zaW b1;refine zw _ rfl _ _ 46 rfl 51 p0 _ 1 8 Tryz.underlying46 hi hz0 hz1 hz2 rfl AD its i css.flatten rfl hown ⟨k1,0,none⟩ 1 1 [.pointer (some ⟨nb,0,none⟩)] rfl rfl ?c5a ?c5b AD ?c5c ?c5d ?_
   case c5a => exact hone
   case c5b => intro u hu; simp at hu; subst hu; rfl
   case c5c => unfold maxLen; omega
   case c5d => omega
   have gAg:=QH trivial;exact ycQ
  |guard_hyp gD1
   generalize (W0.alloc (.cells #[.string N] 9))=W1 at *;generalize W0.heap.size=k2 at b2 HBb2 ⊢;refine zu (zp fun R hR => ?_);go_wp2_with fail;have hz:Mods [] W1 (W1.alloc (.cells #[.string ⟨#[99,111,108,117,109,110]⟩,.int .i64 a,.int .i64 b,.int .i64 i,.bool false,.int .i64 0,.string ⟨#[]⟩,.slice none 0 0] 80)):=(QM _ _).alloc _;have hnew:=QN W1 (.cells #[.string ⟨#[99,111,108,117,109,110]⟩,.int .i64 a,.int .i64 b,.int .i64 i,.bool false,.int .i64 0,.string ⟨#[]⟩,.slice none 0 0] 80);refine zd (hR _ _ (.inr ⟨hz.cell f6,hz.cell f7,hz.cell f0,hz.cell f1,hz.cell f2⟩) ?_);clear hR R;replace f6:=hz.cell f6;replace f7:=hz.cell f7;replace f0:=hz.cell f0;replace f1:=hz.cell f1;replace f2:=hz.cell f2;replace HK:=QH (HK.out.later hz);have HS2:=QH (show kb < (W1.alloc (.cells #[.string ⟨#[99,111,108,117,109,110]⟩,.int .i64 a,.int .i64 b,.int .i64 i,.bool false,.int .i64 0,.string ⟨#[]⟩,.slice none 0 0] 80)).heap.size from LL HS.out hz.size);replace b2:=hz.cell b2;have HNB:=QH (AI (show (W1.alloc (.cells #[.string ⟨#[99,111,108,117,109,110]⟩,.int .i64 a,.int .i64 b,.int .i64 i,.bool false,.int .i64 0,.string ⟨#[]⟩,.slice none 0 0] 80)).heap[W1.heap.size]? = some (.cells (nhC { op:=oColumn,t:=⟨a,b⟩,col:=i } (.slice none 0 0)).toArray 80 (0,0)) from hnew) (Nat.le_of_lt HS.out));clear hz hnew;replace HS:=HS2;clear HS2;generalize (W1.alloc (.cells #[.string ⟨#[99,111,108,117,109,110]⟩,.int .i64 a,.int .i64 b,.int .i64 i,.bool false,.int .i64 0,.string ⟨#[]⟩,.slice none 0 0] 80))=W2 at *;generalize W1.heap.size=nb at HNB ⊢;have gBH:=QH trivial;exact ydz
  |guard_hyp gD2
   generalize (W1.alloc (.cells #[.string N] 9))=W2 at *;generalize W1.heap.size=k2 at b2 HBb2 ⊢;have gBI:=QH trivial;exact ydz
 ):p:=h
theorem yfL {p:Prop} (h:p:=by
  have hz:=(QM [] wr).alloc (.cells #[.pointer (some ⟨xb,0,none⟩),.string ⟨it.name.toArray⟩] 158);have hbk:=QN wr (.cells #[.pointer (some ⟨xb,0,none⟩),.string ⟨it.name.toArray⟩] 158)
  first
  |guard_hyp gGe
   have hKz:=hK.mak.later hz;have hSz:=hz.heap hK.sc;have hxz:=hz.heap hxr;have y1:=za hxz 1;change World.cell? _ _=some (.int .i64 it.e.hd.pos) at y1;have b0:=za hbk 0;have b1:=za hbk 1;change World.cell? _ _=some (Value.pointer (some ⟨xb,0,none⟩)) at b0;change World.cell? _ _=some (Value.string ⟨it.name.toArray⟩) at b1;obtain ⟨B,hB⟩:=EX (decide (i=64));have zB:((i:Int) == 64)=B:=by
    rw [← hB];by_cases h:i=64
    ·rw [decide_eq_true h,beq_iff_eq]; omega
    ·rw [decide_eq_false h,beq_eq_false_iff_ne]; omega
   have hws:w.heap.size ≤ wr.heap.size:=hMr.size;have HR:=QH (AI hK (AI hKz (AI hSz (AI hxz (AI hXA (AI hi? (AI hXe (AI hB (AI hxn (AI hbk hws))))))))));clear hK hKz hSz hxr hxb hXA hi? hXe hB hxn hbk hMr hcc hcell x0 x1 hit hie hgn hws hxz;clear hPP hEE hEM hX hV hn1e hgr hGr hgl hqb hsr hste hq q1 q0q hitems hz;go_upto_region 9 with fail;generalize wr.alloc (.cells #[.pointer (some ⟨xb,0,none⟩),.string ⟨it.name.toArray⟩] 158)=w3 at *;obtain ⟨kb,hkb⟩:=EX (wr.heap.size);rw [hkb] at b0 b1 HR;rw [hkb];have hc1:=zF w3 sb (.slice ao env.length cap) mb 0 pos 0 HR.out.2.2.1 B 4 it.e.hd.pos;change Calls _ _ #[.pointer (some ⟨sb,0,none⟩),.bool B,.int .i64 4,.int .i64 it.e.hd.pos] _ _ at hc1;go_wp2_with fail;(with_reducible refine hc1.mono ?_);rintro e w4 ⟨rfl,hM4,hS4⟩;clear hc1;obtain ⟨F,hF⟩:=EX (zaa B 4 it.e.hd.pos pos 0);obtain ⟨pf,ef⟩:=F;rw [hF] at hS4;change zaX w4 sb _ mb 0 pf ef at hS4;obtain ⟨hK,hKz,hSz,hxz,hXA,hi?,hXe,hB,hxn,hbk,hws⟩:=HR.out;obtain ⟨hPP,hEE,hEM,hX,hV,hn1e,hgr,hGr,hgl,hqb,hsr,hste,hq,q1,q0q,hitems⟩:=HQ.out;obtain ⟨-,-,-,-,-,-,-,-,hrl,hsl⟩:=HR0.out;have hks:kb ≠ sb:=by omega
   have hK4:=hKz.past hM4 AB hsl hsr;have hXA4:ExprAt 171 103 w4 [sb] (zh xb) it.e:=(hXA.mods hK4.mods).weaken AB;have hSc4:Scope w4 sb (.slice ao env.length cap) mb 0 pf ef env:=⟨hS4,(hEM.mods hK4.mods).weaken AB,(hEE.mods hK4.mods).weaken AB⟩;have he:=hXe.1 w4 pf ef (zh xb) (hV w4 hK4.mods).1 hSc4 hXA4;replace b0:=hM4.cell b0 (by simpa using hks);replace b1:=hM4.cell b1 (by simpa using hks);have HF:=QH (AI hF (AI hK4 hks));clear hF hS4 hK hKz hSz hxz hXA hi? hXe hB hxn hbk hws hPP hEE hEM hX hV hn1e hgr hGr hgl hqb hsr hste hq q1 q0q hitems hrl hsl hks hK4 hXA4 hSc4 hM4 y1 zB c0 c1;unfold zh at he;go_wp2_with fail;(with_reducible refine he.mono ?_);rintro e w5 ⟨nb,rfl,hnb,hM5,hst5,hk5⟩;unfold zh;clear he;obtain ⟨P1,hP1⟩:=EX (zai (zq env it.e 0) pf ef);obtain ⟨p1,e1⟩:=P1;rw [hP1] at hst5;change zaX w5 sb _ mb 0 p1 e1 at hst5;have c4:=za hst5 4;change w5.cell? _=some (.int .i64 (e1:Nat)) at c4;replace b0:=hM5.cell b0 (by simpa using HF.out.2.2);replace b1:=hM5.cell b1 (by simpa using HF.out.2.2);have hK5:=HF.out.2.1.past hM5 AB HR0.out.2.2.2.2.2.2.2.2.2 HQ.out.2.2.2.2.2.2.2.2.2.2.1;have HE:=QH (AI hP1 (AI hst5 (AI hk5 (AI hK5 (AI hnb hM5)))));clear hP1 hst5 hk5 hK5 hnb hM5;by_cases he1:e1=0
   ·subst he1;change w5.cell? _=some (.int .i64 0) at c4;obtain ⟨hP1,hst5,hk5,hK5,hnb,hM5⟩:=HE.out;obtain ⟨hK,hKz,hSz,hxz,hXA,hi?,hXe,hB,hxn,hbk,hws⟩:=HR.out;obtain ⟨h64,⟨hpp,hff⟩,nn,hnn⟩:=zjT (pos:=pos) (by rw [hB,HF.out.1]; exact hP1);rw [hB,HF.out.1] at hff;obtain ⟨rfl,rfl⟩ : pf=pos ∧ ef=0:=by cases hff; exact ⟨rfl,rfl⟩
    subst hpp;have hNA:=hk5 rfl nn hnn;obtain ⟨b',args,hb',hbs,hnd⟩:=(hNA [] AB).head;cases hb';have m0:=za hnd 0;have m3:=za hnd 3;change w5.cell? _=some (.string ⟨nn.hd.op.toArray⟩) at m0;change w5.cell? _=some (.int .i64 nn.hd.col) at m3;obtain ⟨nm,hnm⟩:=EX (nameQ env i it nn);obtain ⟨NM,hNM⟩:=EX ((⟨nm.toArray⟩ : ByteArray):ByteArray);have HN:=QH (AI hnn (AI hNA (AI hnm (AI hNM h64))));clear hP1 hst5 hk5 hK5 hnb hM5 hK hKz hSz hxz hXA hi? hXe hB hxn hbk hws hff hnn hNA hbs hnd hnm hNM h64;obtain ⟨NB,hNB⟩:=EX ((⟨it.name.toArray⟩ : ByteArray):ByteArray);rw [hNB] at b1;have HNB:=QH hNB;clear hNB;go_upto_block 4 with fail;go_cut [11] from 85 to 108 (fun s wx => s = .string NM ∧ Mods [] w5 wx)
    case first =>
     by_cases hname:it.name=[]
     ·have hNs:NB = ⟨#[]⟩:=by rw [← HNB.out,hname]
      subst hNs;obtain ⟨hK,hKz,hSz,hxz,hXA,hi?,hXe,hB,hxn,hbk,hws⟩:=HR.out;by_cases hop:nn.hd.op=oColumn
      ·have hcl:=zoP hXe.2 HN.out.1 hop;obtain ⟨ga,rfl,hgn,-,-,hcc⟩:=HH.out.2.2.1 AA;obtain ⟨e0,-⟩:=hcc nn.hd.col hcl;have e5:=HE.out.2.2.2.1.mods.cell e0 hgn;have s5:=za HE.out.2.1 0;change w5.cell? _=some (.slice (some ⟨ga,0,none⟩) env.length cap) at s5;have hNM:(⟨env[nn.hd.col].name.toArray⟩ : ByteArray)=NM:=by
        rw [← HN.out.2.2.2.1,← HN.out.2.2.1];unfold nameQ;rw [if_neg (by rw [hname]; simp),if_pos hop,List.getD_eq_getElem?_getD,List.getElem?_eq_getElem hcl]; rfl
       rw [hNM] at e5;rw [hop] at m0;change w5.cell? _=some (.string ⟨#[99,111,108,117,109,110]⟩) at m0;obtain ⟨cl,hclz⟩:=EX (nn.hd.col);rw [hclz] at e5 m3 hcl;have hcl2:cl < env.length:=hcl;obtain ⟨ne,hne⟩:=EX (env.length);rw [hne] at s5 hcl;clear hK hKz hSz hxz hXA hi? hXe hB hxn hbk hws hop hcc hgn e0 hNM hname hclz hcl2 hne;go_wp2_with fail;go_quiet (fail);go_wp2_with fail
       go_meet
       exact ⟨rfl,(QM _ _).drewN _⟩
      ·have hit:=zi5 ((i:Int) + 1) AA AA w5 (HQ.out.2.2.2.2.1 w5 HE.out.2.2.2.1.mods).2;have hzc:(nn.hd.op == [99,111,108,117,109,110])=false:=zhq hop;have hzn:¬ nn.hd.op=[99,111,108,117,109,110]:=hop;have hNM:(⟨#[99]⟩ : ByteArray) ++ ⟨(Lib.itoa ((i:Int) + 1)).toArray⟩ = NM:=by
        rw [← HN.out.2.2.2.1,← HN.out.2.2.1];unfold nameQ;rw [if_neg (by rw [hname]; simp),if_neg hop];exact cat2 [99] _
       have HNM:=QH hNM;obtain ⟨IT,hIT⟩:=EX ((⟨(Lib.itoa ((i:Int) + 1)).toArray⟩ : ByteArray):ByteArray);rw [hIT] at hit HNM;have hbig:¬ 9223372036854775807 < 1 + IT.size:=by have:=Lib.itoa_length_le ((i:Int) + 1) AA AA;rw [← hIT];show ¬ 9223372036854775807 < 1 + (Lib.itoa ((i:Int) + 1)).length;omega
       clear hK hKz hSz hxz hXA hi? hXe hB hxn hbk hws hop hNM hname hIT;go_wp2_with fail;(with_reducible refine hit.mono ?_);rintro e w6 ⟨rfl,hM6⟩;clear hit;go_wp2_with fail
       go_meet
       exact ⟨congrArg Value.string HNM.out,hM6⟩
     ·have hNe:NB.toList.isEmpty=false:=by
       rw [← HNB.out,ByteArray.toList_eq]
       cases hq9:it.name with
       | nil => exact absurd hq9 hname
       | cons a l => rfl
      have hNM:NB=NM:=by rw [← HNB.out,← HN.out.2.2.2.1,← HN.out.2.2.1];unfold nameQ;rw [if_pos hname]
      subst hNM;clear hname;go_wp2_with fail
      go_meet
      exact ⟨rfl,QM _ _⟩
    case rest =>
     obtain ⟨rfl,hM6⟩:=hcut;generalize wc=w6 at *;obtain ⟨hP1,hst5,hk5,hK5,hnb,hM5⟩:=HE.out;have hK6:=hK5.later hM6;have hS6:zaX w6 sb _ mb 0 p1 0:=hM6.heap hst5;obtain ⟨hnn,hNA,hnm,hNM,h64⟩:=HN.out;obtain ⟨-,k1,k2,k3,k4,k5,hn0,hs0l,hrl,hsl⟩:=HR0.out;obtain ⟨ns,hns⟩:=EX (n0 ++ r.map (·.1));obtain ⟨ss,hss⟩:=EX (s0l ++ r.map (·.2));obtain ⟨li,hli⟩:=EX (ns.length);have hlen9:=HR.out.1.len;have hlei:=HR.out.1.le;have hli2:li=K + i:=by rw [← hli,← hns,List.length_append,List.length_map,k1,hlen9]
     have hls:ss.length=li:=by rw [← hss,List.length_append,List.length_map,k2,hlen9,hli2]
     have hli3:li ≤ 1064:=by have hn:=HH.out.2.2.2.1; omega
     rw [hns,hss] at hK6;have f6:=za hK6.st 6;have f7:=za hK6.st 7;change w6.cell? _=some its at f6;change w6.cell? _=some nms at f7;have hown4:∀ x,Far w its nms x → x < w4.heap.size:=fun x hx => by
      have hc4:=HF.out.2.1.coll;have hs4:=hc4.size;obtain ⟨css,h1,-⟩:=hc4.rowI;rcases hx with hx | hx | hx
      ·omega
      ·exact (h1.lt x hx).2
      ·exact (hc4.rowN.lt x hx).2
     obtain ⟨ke,hke⟩:=EX (w4.heap.size);rw [hke] at hNA hown4;have hke6:ke ≤ w6.heap.size:=by have h1:=hM5.size; have h2:=hM6.size; omega
     have hNAo:∀ L:List Nat,(∀ x ∈ L,x < ke) → NAt w6 L (zh nb) nn:=fun L hL => (hNA L hL).mods (hM6.mono);have hrb4:rb < ke:=by rw [← hke]; have:=HF.out.2.1.coll.size; omega
     have hmn:MakeN (its.ownBlock.toList ++ nms.ownBlock.toList ++ [rb]) sb (.slice ao env.length cap) mb p1 nb nn [sb,rb] w w6 rb lf rt cn cw g gv vo lim off its nms its nms ns ss:=
      ⟨hK6,hS6,hNAo _ (fun x hx => by
       simp only [List.mem_append,List.mem_singleton,Option.mem_toList] at hx;rcases hx with (hx | hx) | hx
       ·exact hown4 x (.inr (.inl hx))
       ·exact hown4 x (.inr (.inr hx))
       ·omega),hsl,HQ.out.2.2.2.2.2.2.2.2.2.2.1,by simp⟩
     have hzd:=(QM [] w6).drew;have HK:=QH (hmn.later hzd);have HNA:=QH (show ∀ L:List Nat,(∀ x ∈ L,x < ke) → NAt w6.drew L (zh nb) nn from fun L hL => (hNAo L hL).mods (hzd.mono));have HNM:=QH hNM
     have HW:=QH (show (∀ x ∈ its.ownBlock.toList,x < ke) ∧ (∀ x ∈ nms.ownBlock.toList,x < ke) ∧ ns.length=li ∧ ss.length=li ∧ (∀ x,Far w its nms x → x < ke) ∧ (∀ x ∈ its.ownBlock.toList,x ∈ its.ownBlock.toList ++ nms.ownBlock.toList ++ [rb]) ∧ (∀ x ∈ nms.ownBlock.toList,x ∈ its.ownBlock.toList ++ nms.ownBlock.toList ++ [rb]) from
      ⟨fun x hx => hown4 x (.inr (.inl AJ)),fun x hx => hown4 x (.inr (.inr AJ)),hli,hls,hown4,fun x hx => by simp only [List.mem_append]; exact .inl (.inl hx),fun x hx => by simp only [List.mem_append]; exact .inl (.inr hx)⟩)
     have HSW0:=QH (show ke ≤ w6.drew.heap.size from Nat.le_trans hke6 hzd.size);have HND:=QH (QM [] w6.drew);have HL:=QH (AI hns (AI hss (AI hli (AI hls hli2))));clear hK6 hS6 hnn hNA hnm hNM h64 k1 k2 k3 k4 k5 hn0 hs0l hrl hsl hns hss hli hli2 hls hlen9 hlei hown4 hke hke6 hNAo hrb4 hmn hP1 hst5 hk5 hK5 hnb hM5 hM6 HNB b0 b1 c4 m0 m3;go_upto_region 17 with fail;go_cut [] from 109 to 128 (fun wx => ∃ L9 its' nms',MakeN L9 sb (.slice ao env.length cap) mb p1 nb nn [sb,rb] w wx rb lf rt cn cw g gv vo lim off its' nms' its' nms' (ns ++ [nn]) (ss ++ [nm]))
     case first =>
      clear HF HE HR;apply zfv AC [1] [0,2,3,4,5,6,9,10,11,12,13,16,17] (.two 14 [] (.one 7 [] (.one 8 [] (.one 15 [] (.one 18 [] (.one 19 [] (.one 20 [] (.one 21 [] .fin))))))) 7 [] (.two 14 [] (.one 8 [] (.one 15 [] (.one 18 [] (.one 19 [] (.one 20 [] (.one 21 [] .fin)))))) 8 [] (.one 14 [] (.one 15 [] (.one 18 [] (.one 19 [] (.one 20 [] (.one 21 [] .fin)))))))) [18,19,20,21] AC (fun y => y.cell? ⟨rb,6,none⟩ = some its ∧ y.cell? ⟨rb,7,none⟩ = some nms)
      case hC => exact ⟨f6,f7⟩
      case hfree =>exact ych
      case hwalk =>rintro y ⟨y6,y7⟩;change wpQuiet _ _ _ _ [_,_,_,_,_,_,_,_,_,_,_,_,_] (Act.mk _ _);(repeat go_big_quiet_step (fail));refine QW ?_;exact rfl
      case hrun =>
       change segV _ _ _ _ (.two _ _ [] (.one _ _ [] (.one _ _ [] (.one _ _ [] (.one _ _ [] (.one _ _ [] (.one _ _ [] (.one _ _ [] .fin))))))) _ _ [] (.two _ _ [] (.one _ _ [] (.one _ _ [] (.one _ _ [] (.one _ _ [] (.one _ _ [] (.one _ _ [] .fin)))))) _ _ [] (.one _ _ [] (.one _ _ [] (.one _ _ [] (.one _ _ [] (.one _ _ [] (.one _ _ [] .fin)))))))) _ _;change w6.drew.cell? _=some its at f6;change w6.drew.cell? _=some nms at f7;clear hzd;generalize w6.drew=W0 at *;refine zdK ?_ ?_
       ·refine zp fun R hR => ?_;go_wp2_with fail;have hz:Mods [] W0 (W0.alloc (.cells #[.string NM] 9)):=(QM _ _).alloc _;have hnew:=QN W0 (.cells #[.string NM] 9);refine zd (hR _ _ (.inr ⟨hz.cell f6,hz.cell f7⟩) ?_);clear hR R;replace f6:=hz.cell f6;replace f7:=hz.cell f7;replace HK:=QH (HK.out.later hz);replace HND:=QH (HND.out.trans hz);have b2:=za hnew 0;change World.cell? _ _=some (.string NM) at b2;have HBb2:=QH (show ke ≤ W0.heap.size from HSW0.out);have HSW1:=QH (show ke ≤ (W0.alloc (.cells #[.string NM] 9)).heap.size from Nat.le_trans HSW0.out hz.size);clear hz hnew;generalize (W0.alloc (.cells #[.string NM] 9))=W1 at *;generalize W0.heap.size=k2 at b2 HBb2 ⊢;refine zu (zp fun R hR => ?_);go_wp2_with fail;have hz:Mods [] W1 (W1.alloc (.cells #[.pointer (some ⟨nb,0,none⟩)] 51)):=(QM _ _).alloc _;have hnew:=QN W1 (.cells #[.pointer (some ⟨nb,0,none⟩)] 51);refine zd (hR _ _ (.inr ⟨hz.cell f6,hz.cell f7⟩) ?_);clear hR R;replace f6:=hz.cell f6;replace f7:=hz.cell f7;replace HK:=QH (HK.out.later hz);replace HND:=QH (HND.out.trans hz);replace b2:=hz.cell b2;have b1:=za hnew 0;change World.cell? _ _=some (Value.pointer (some ⟨nb,0,none⟩)) at b1;have HBb1:=QH (show ke ≤ W1.heap.size from HSW1.out);have HSW2:=QH (show ke ≤ (W1.alloc (.cells #[.pointer (some ⟨nb,0,none⟩)] 51)).heap.size from Nat.le_trans HSW1.out hz.size);clear hz hnew;generalize (W1.alloc (.cells #[.pointer (some ⟨nb,0,none⟩)] 51))=W2 at *;generalize W1.heap.size=k1 at b1 HBb1 ⊢;refine zu (zp fun R hR => ?_);obtain ⟨css,hown,hall⟩:=HK.out.k.coll.rowI;obtain ⟨hi,hz0,hz1,hz2,-⟩:=HI.out;rw [HW.out.2.2.1] at hown;have hone:=zaW b1;refine zw _ rfl _ _ 46 rfl 51 p0 _ 1 8 Tryz.underlying46 hi hz0 hz1 hz2 rfl AD its li css.flatten rfl hown ⟨k1,0,none⟩ 1 1 [.pointer (some ⟨nb,0,none⟩)] rfl rfl ?d1a ?d1b AD ?d1c ?d1d ?_
        case d1a => exact hone
        case d1b => intro u hu; simp at hu; subst hu; rfl
        case d1c => unfold maxLen; omega
        case d1d => omega
        have gAv:=QH trivial;exact ycV
       ·refine zp fun R hR => ?_;go_wp2_with fail;have hz:Mods [] W0 (W0.alloc (.cells #[.pointer (some ⟨nb,0,none⟩)] 51)):=(QM _ _).alloc _;have hnew:=QN W0 (.cells #[.pointer (some ⟨nb,0,none⟩)] 51);refine zd (hR _ _ (.inr ⟨hz.cell f6,hz.cell f7⟩) ?_);clear hR R;replace f6:=hz.cell f6;replace f7:=hz.cell f7;replace HK:=QH (HK.out.later hz);replace HND:=QH (HND.out.trans hz);have b1:=za hnew 0;change World.cell? _ _=some (Value.pointer (some ⟨nb,0,none⟩)) at b1;have HBb1:=QH (show ke ≤ W0.heap.size from HSW0.out);have HSW1:=QH (show ke ≤ (W0.alloc (.cells #[.pointer (some ⟨nb,0,none⟩)] 51)).heap.size from Nat.le_trans HSW0.out hz.size);clear hz hnew;generalize (W0.alloc (.cells #[.pointer (some ⟨nb,0,none⟩)] 51))=W1 at *;generalize W0.heap.size=k1 at b1 HBb1 ⊢;refine zdK ?_ ?_
        ·refine zp fun R hR => ?_;go_wp2_with fail;have hz:Mods [] W1 (W1.alloc (.cells #[.string NM] 9)):=(QM _ _).alloc _;have hnew:=QN W1 (.cells #[.string NM] 9);refine zd (hR _ _ (.inr ⟨hz.cell f6,hz.cell f7⟩) ?_);clear hR R;replace f6:=hz.cell f6;replace f7:=hz.cell f7;replace HK:=QH (HK.out.later hz);replace HND:=QH (HND.out.trans hz);replace b1:=hz.cell b1;have b2:=za hnew 0;change World.cell? _ _=some (.string NM) at b2;have HBb2:=QH (show ke ≤ W1.heap.size from HSW1.out);have HSW2:=QH (show ke ≤ (W1.alloc (.cells #[.string NM] 9)).heap.size from Nat.le_trans HSW1.out hz.size);clear hz hnew;generalize (W1.alloc (.cells #[.string NM] 9))=W2 at *;generalize W1.heap.size=k2 at b2 HBb2 ⊢;refine zu (zp fun R hR => ?_);obtain ⟨css,hown,hall⟩:=HK.out.k.coll.rowI;obtain ⟨hi,hz0,hz1,hz2,-⟩:=HI.out;rw [HW.out.2.2.1] at hown;have hone:=zaW b1;refine zw _ rfl _ _ 46 rfl 51 p0 _ 1 8 Tryz.underlying46 hi hz0 hz1 hz2 rfl AD its li css.flatten rfl hown ⟨k1,0,none⟩ 1 1 [.pointer (some ⟨nb,0,none⟩)] rfl rfl ?d3a ?d3b AD ?d3c ?d3d ?_
         case d3a => exact hone
         case d3b => intro u hu; simp at hu; subst hu; rfl
         case d3c => unfold maxLen; omega
         case d3d => omega
         have gAw:=QH trivial;exact ycV
        ·refine zp fun R hR => ?_;obtain ⟨css,hown,hall⟩:=HK.out.k.coll.rowI;obtain ⟨hi,hz0,hz1,hz2,-⟩:=HI.out;rw [HW.out.2.2.1] at hown;have hone:=zaW b1;refine zw _ rfl _ _ 46 rfl 51 p0 _ 1 8 Tryz.underlying46 hi hz0 hz1 hz2 rfl AD its li css.flatten rfl hown ⟨k1,0,none⟩ 1 1 [.pointer (some ⟨nb,0,none⟩)] rfl rfl ?d5a ?d5b AD ?d5c ?d5d ?_
         case d5a => exact hone
         case d5b => intro u hu; simp at hu; subst hu; rfl
         case d5c => unfold maxLen; omega
         case d5d => omega
         intro g2 cap2 W2 hown9 hM9 hg9;have gE9:=QH trivial;exact yfd
     case rest =>
      obtain ⟨L9,its',nms',hmn⟩:=hcut;generalize wc=w7 at *;have hst:=hmn.k.st;have c4:=za hst 4;change w7.cell? _=some (.bool g) at c4;have hha:=zgG nn w7 (zh nb) (hmn.na.weaken AB);unfold zh at hha;have hnext:∀ w8,Mods [] w7 w8 → ∀ g2,g2=(g || hasN nn) → ItI w sb rb (.slice ao env.length cap) mb p1 env q n0 s0l lf rt cn cw gr gv vo lim off (i + 1) (w8.setCell ⟨rb,4,none⟩ (.bool g2)):=by
       intro w8 hM8 g2 hg2;obtain ⟨hK,hKz,hSz,hxz,hXA,hi?,hXe,hB,hxn,hbk,hws⟩:=HR.out;obtain ⟨hnn,hNA,hnm,hNM,h64⟩:=HN.out;have hk8:=(hmn.k.later hM8).group g2;refine ⟨r ++ [(nn,nm)],g2,its',nms',?_,?_,?_,?_,?_,?_⟩
       ·rw [List.map_append,List.map_append,← List.append_assoc,← List.append_assoc,HL.out.1,HL.out.2.1];exact hk8
       ·have hM:Mods [rb] w8 (w8.setCell ⟨rb,4,none⟩ (.bool g2)):=(QM _ _).setCell (.inl AB) _;exact hM.heap (hM8.heap hmn.sc) (by simpa using hmn.sne)
       ·rw [← hnm]; exact hK.go.step hi? h64 hnn
       ·rw [List.length_append,hK.len]; rfl
       ·rw [hg2,hK.grp,List.any_append,List.any_cons,List.any_nil,Bool.or_false,Bool.or_assoc]
       ·have:=hK.le; omega
      have HNX:=QH hnext;have z4:=fun w8 (hM8:Mods [] w7 w8) => zc (hM8.heap hst) 4;have HZ:=QH z4;have zf:=z4 w7 (QM _ _);clear hnext hmn HR HE HF HL HN HW HK HNA HNM HSW0 HND hst z4 f6 f7 hzd
      cases g with
      | true =>clear hha;go_wp2_with fail;have HX:=QH (HNX.out w7 (QM _ _) true rfl);exact yeR
      | false =>go_wp2_with fail;(with_reducible refine hha.mono ?_);rintro e w8 ⟨rfl,hM8⟩;clear hha;have c4':=hM8.cell c4;have zf':=HZ.out w8 hM8;have HX:=QH (HNX.out w8 hM8 (hasN nn) rfl);go_wp2_with fail;exact yeR
   ·have z1:((e1:Int) != 0)=true:=bne_iff_ne.2 AA;have hfin:PP (.returned (.tuple #[])) w5:=by
     rw [← HQ.out.1];obtain ⟨hP1,hst5,hk5,hK5,hnb,hM5⟩:=HE.out;obtain ⟨hK,hKz,hSz,hxz,hXA,hi?,hXe,hB,hxn,hbk,hws⟩:=HR.out;have hstop:=zjS (group:=group) hK.go hi? (by rw [hB,HF.out.1]; exact hP1) he1;obtain ⟨k1,k2,-⟩:=HR0.out.2;refine ⟨rfl,hK5.mods,by rw [hstop]; exact hst5,g,its,nms,_,_,hK5.st,hK5.coll,by rw [List.length_append,List.length_append,List.length_map,List.length_map,k1,k2],fun l g2 hl => ?_⟩;rw [hl,zaP] at hstop;cases hstop;exact absurd rfl he1
    have HFIN:=QH hfin;clear hfin;go_wp2_with fail;exact bodyPost_ret (results_none rfl _ _ _) rfl HFIN.out
  |guard_hyp gGf
   have b0:=za hbk 0;change World.cell? _ _=some (Value.pointer (some ⟨xb,0,none⟩)) at b0;have y1:=hz.cell (za hxr 1);change World.cell? _ _=some (.int .i64 it.e.hd.pos) at y1;have m0:=hz.cell (za hnh 0);have m3:=hz.cell (za hnh 3);change World.cell? _ _=some (.string ⟨nd.hd.op.toArray⟩) at m0;change World.cell? _ _=some (.int .i64 nd.hd.col) at m3;replace c6:=hz.cell c6;replace c5:=hz.cell c5;replace hcN:=hz.cell hcN;change World.cell? _ _=some (Value.pointer (some ⟨nb,0,none⟩)) at hcN;obtain ⟨nl,hnl⟩:=EX (ns.length);obtain ⟨gl,hgle⟩:=EX (group.length);obtain ⟨nc,hncol⟩:=EX (nd.hd.col);rw [hnl] at c6 hjn;rw [hgle] at c5;rw [hncol] at m3;have hMz:=hMK.later hz;have hSz:zaX _ sb (.slice ao env.length cap) mb 0 p e:=hz.heap hS;have hGz:=hGw.mods (hz.mono);have hfit:=zoe hce hi? hnd;obtain ⟨A,hA⟩:=EX (aggOpB nd.hd.op);have HV:=QH (AI hMz (AI hSz (AI hGz (AI hfit (AI hA (AI hgle hncol))))));have hjn':(j:Int) < (nl:Int):=by omega
   clear hPP hEE hEM hX hV hn1e hgr hgl hqb hsr hste hq q1 q0q hitems hje hcc hcell x0 x1 hit hi? hxb hxn hMr hxr hnd hNA hnh hgv hGw hz hbk hMz hSz hGz hfit hA hgle hMK hS hce hXA va hgn hgN hncol hnl;go_upto_region 26 with fail;generalize wr.alloc (.cells #[.pointer (some ⟨xb,0,none⟩),.string ⟨it.name.toArray⟩] 158)=w3 at *;obtain ⟨kb,hkb⟩:=EX (wr.heap.size);rw [hkb] at b0;rw [hkb];clear hkb
   cases A with
   | true =>have hA:=HV.out.2.2.2.2.1;have gCf:=QH trivial;exact ydO
   | false =>
    have hA:=HV.out.2.2.2.2.1;by_cases hop:nd.hd.op=oColumn
    ·cases hmem:decide (nc ∈ group) with
     | true =>have gBS:=QH trivial;exact ydD
     | false =>have gBT:=QH trivial;exact ydD
    ·have hp1:(nd.hd.op == [99,111,108,117,109,110])=false:=zhq hop;have hp2:¬ nd.hd.op=[99,111,108,117,109,110]:=hop;have hp3:(nd.hd.op != [99,111,108,117,109,110])=true:=bne_iff_ne.2 hop;have gCg:=QH trivial;exact ydO
 ):p:=h
theorem yff {p:Prop} (h:p:=by
  replace HNB:=QH (AI (hz.heap HNB.out.1) HNB.out.2);have b1:=za hnew 0;change World.cell? _ _=some (Value.pointer (some ⟨nb,0,none⟩)) at b1;have HBb1:=QH (Nat.le_of_lt HS.out);clear hz hnew;replace HS:=HS2;clear HS2
  first
  |guard_hyp gFd
   generalize (W2.alloc (.cells #[.pointer (some ⟨nb,0,none⟩)] 51))=W3 at *;generalize W2.heap.size=k1 at b1 HBb1 ⊢;refine zu (zp fun R hR => ?_);obtain ⟨css,hown,hall⟩:=HK.out.coll.rowI;obtain ⟨hi,hz0,hz1,hz2,-⟩:=HI.out;rw [HW.out.2.2.1] at hown;have hone:=zaW b1
   first
   |guard_hyp gBH
    refine zw _ rfl _ _ 46 rfl 51 p0 _ 1 8 Tryz.underlying46 hi hz0 hz1 hz2 rfl AD its i css.flatten rfl hown ⟨k1,0,none⟩ 1 1 [.pointer (some ⟨nb,0,none⟩)] rfl rfl ?c1a ?c1b AD ?c1c ?c1d ?_
    case c1a => exact hone
    case c1b => intro u hu; simp at hu; subst hu; rfl
    case c1c => unfold maxLen; omega
    case c1d => omega
    have gAe:=QH trivial;exact ycQ
   |guard_hyp gBI
    refine zw _ rfl _ _ 46 rfl 51 p0 _ 1 8 Tryz.underlying46 hi hz0 hz1 hz2 rfl AD its i css.flatten rfl hown ⟨k1,0,none⟩ 1 1 [.pointer (some ⟨nb,0,none⟩)] rfl rfl ?c3a ?c3b AD ?c3c ?c3d ?_
    case c3a => exact hone
    case c3b => intro u hu; simp at hu; subst hu; rfl
    case c3c => unfold maxLen; omega
    case c3d => omega
    have gAf:=QH trivial;exact ycQ
  |guard_hyp gFe
   generalize (W1.alloc (.cells #[.pointer (some ⟨nb,0,none⟩)] 51))=W2 at *;generalize W1.heap.size=k1 at b1 HBb1 ⊢;refine zdK ?_ ?_
   ·refine zp fun R hR => ?_;go_wp2_with fail;have hz:Mods [] W2 (W2.alloc (.cells #[.string N] 9)):=(QM _ _).alloc _;have hnew:=QN W2 (.cells #[.string N] 9);refine zd (hR _ _ (.inr ⟨hz.cell f6,hz.cell f7,hz.cell f0,hz.cell f1,hz.cell f2⟩) ?_);clear hR R;replace f6:=hz.cell f6;replace f7:=hz.cell f7;replace f0:=hz.cell f0;replace f1:=hz.cell f1;replace f2:=hz.cell f2;replace HK:=QH (HK.out.later hz);have HS2:=QH (show kb < (W2.alloc (.cells #[.string N] 9)).heap.size from LL HS.out hz.size);replace b1:=hz.cell b1;replace HNB:=QH (AI (hz.heap HNB.out.1) HNB.out.2);have gD0:=QH trivial;exact yeB
   ·refine zp fun R hR => ?_;obtain ⟨css,hown,hall⟩:=HK.out.coll.rowI;obtain ⟨hi,hz0,hz1,hz2,-⟩:=HI.out;rw [HW.out.2.2.1] at hown;have hone:=zaW b1;refine zw _ rfl _ _ 46 rfl 51 p0 _ 1 8 Tryz.underlying46 hi hz0 hz1 hz2 rfl AD its i css.flatten rfl hown ⟨k1,0,none⟩ 1 1 [.pointer (some ⟨nb,0,none⟩)] rfl rfl ?c7a ?c7b AD ?c7c ?c7d ?_
    case c7a => exact hone
    case c7b => intro u hu; simp at hu; subst hu; rfl
    case c7c => unfold maxLen; omega
    case c7d => omega
    intro g2 cap2 W3 hown9 hM9 hg9;have gE7:=QH trivial;exact yfc
 ):p:=h
theorem yer {p:Prop} (h:p:=by
  change zct _ _ _ _ _ [(_,[_,_,_,_,_,_,_,_,_,_,_,_,_,_,_,_]),(_,[_,_,_]),(_,[])] _ _;refine zP fun R1 hR1 => ?_;have hag:=zan w3.drew oColumn;change Calls _ _ #[.string ⟨#[99,111,108,117,109,110]⟩] _ _ at hag;rw [show aggOpB oColumn=false from rfl] at hag
  first
  |guard_hyp gDB
   have gAi:=QH trivial;exact ycR
  |guard_hyp gDC
   have gAj:=QH trivial;exact ycR
 ):p:=h
theorem yeo {p:Prop} (h:p:=by
  clear hR2 R2;refine zv fun R3 hR3 => ?_;have hcl:=zF w5 sb (.slice ao env.length cap) mb 0 p e (HM5.out.heap HV.out.2.1) true 4 it.e.hd.pos;change Calls _ _ #[.pointer (some ⟨sb,0,none⟩),.bool true,.int .i64 4,.int .i64 it.e.hd.pos] _ _ at hcl;go_wp2_with fail;(with_reducible refine hcl.mono ?_);rintro r w6 ⟨rfl,hM6,hS6⟩;clear hcl
  first
  |guard_hyp gDu
   have hfin:FitI w sb rb (.slice ao env.length cap) mb q group pz ez lf rt cn cw (.slice gao group.length gcap) vo lim off (.slice (some ⟨gN,0,none⟩) ns.length capN) nms ns ss (j + 1) w6:=by
    have hb:offB group nd=true:=by unfold offB;rw [HV.out.2.2.2.2.1];rw [HV.out.2.2.2.2.2.2]; have:=of_decide_eq_false hmem; simp [this]
    exact yaV
   exact yay
  |guard_hyp gDv
   have hfin:FitI w sb rb (.slice ao env.length cap) mb q group pz ez lf rt cn cw (.slice gao group.length gcap) vo lim off (.slice (some ⟨gN,0,none⟩) ns.length capN) nms ns ss (j + 1) w6:=by
    have hb:offB group nd=true:=by unfold offB;rw [HV.out.2.2.2.2.1];simp [hop]
    exact yaV
   exact yay
 ):p:=h
theorem yen {p:Prop} (h:p:=by
  clear hR2 R2;refine zv fun R3 hR3 => ?_;have hcl:=zF w5 sb (.slice ao env.length cap) mb 0 p e (HM5.out.heap HV.out.2.1) false 4 it.e.hd.pos;change Calls _ _ #[.pointer (some ⟨sb,0,none⟩),.bool false,.int .i64 4,.int .i64 it.e.hd.pos] _ _ at hcl;go_wp2_with fail;(with_reducible refine hcl.mono ?_);rintro r w6 ⟨rfl,hM6,hS6⟩;clear hcl
  first
  |guard_hyp gDs
   have hfin:FitI w sb rb (.slice ao env.length cap) mb q group pz ez lf rt cn cw (.slice gao group.length gcap) vo lim off (.slice (some ⟨gN,0,none⟩) ns.length capN) nms ns ss (j + 1) w6:=by
    have hb:offB group nd=false:=by unfold offB;rw [HV.out.2.2.2.2.1];rw [HV.out.2.2.2.2.2.2]; have:=of_decide_eq_true hmem; simp [hop,this]
    exact yaV
   exact yay
  |guard_hyp gDt
   have hfin:FitI w sb rb (.slice ao env.length cap) mb q group pz ez lf rt cn cw (.slice gao group.length gcap) vo lim off (.slice (some ⟨gN,0,none⟩) ns.length capN) nms ns ss (j + 1) w6:=by
    have hb:offB group nd=false:=by unfold offB;rw [HV.out.2.2.2.2.1];simp
    exact yaV
   exact yay
 ):p:=h
theorem yfd {p:Prop} (h:p:=by
  have hlow:=HW.out.1;have nrb:rb ∉ its.ownBlock.toList:=fun hm => Nat.lt_irrefl _ (LL HK.out.k.rbl (HK.out.k.coll.apart _ AH).1);replace f6:=hM9.cell f6 nrb;replace f7:=hM9.cell f7 nrb;replace HK:=QH (HK.out.node hall (fun L hL => (HNA.out L (fun x hx => HW.out.2.2.2.2.1 x (hL x hx))).mods (HND.out.mono)) HW.out.2.2.1 hown9 hM9 hg9 HW.out.2.2.2.2.2.1)
  first
  |guard_hyp gE8
   have HSW3:=QH (show ke ≤ W3.heap.size from Nat.le_trans HSW2.out hM9.size);clear HND;replace b2:=hM9.cell b2 (fun hm => Nat.not_lt.2 HBb2.out (hlow _ hm));clear b1 hown hall hone hown9 hM9 hg9 hlow nrb hi hz0 hz1 hz2;go_wp2_with fail;refine zd (hR _ _ (.inr ⟨f6,f7⟩) ?_);clear hR R;refine zu (zp fun R hR => ?_);obtain ⟨-,-,-,-,hj,hj0,hj1,hj2⟩:=HI.out;have hown:=HK.out.k.coll.rowN;rw [HW.out.2.2.2.1] at hown;have hone:=zaW b2
   first
   |guard_hyp gAv
    refine zw _ rfl _ _ 53 rfl 9 j0 _ 1 16 Tryz.underlying53 hj hj0 hj1 hj2 rfl AD nms li _ rfl hown ⟨k2,0,none⟩ 1 1 [.string NM] rfl rfl ?d2a ?d2b AD ?d2c ?d2d ?_
    case d2a => exact hone
    case d2b => intro u hu; simp at hu; subst hu; rfl
    case d2c => unfold maxLen; omega
    case d2d => omega
    exact yah
   |guard_hyp gAw
    refine zw _ rfl _ _ 53 rfl 9 j0 _ 1 16 Tryz.underlying53 hj hj0 hj1 hj2 rfl AD nms li _ rfl hown ⟨k2,0,none⟩ 1 1 [.string NM] rfl rfl ?d4a ?d4b AD ?d4c ?d4d ?_
    case d4a => exact hone
    case d4b => intro u hu; simp at hu; subst hu; rfl
    case d4c => unfold maxLen; omega
    case d4d => omega
    exact yah
  |guard_hyp gE9
   have HSW2:=QH (show ke ≤ W2.heap.size from Nat.le_trans HSW1.out hM9.size);clear HND;clear b1 hown hall hone hown9 hM9 hg9 hlow nrb hi hz0 hz1 hz2;go_wp2_with fail;refine zd (hR _ _ (.inr ⟨f6,f7⟩) ?_);clear hR R;refine zu (zp fun R hR => ?_);go_wp2_with fail;have hz:Mods [] W2 (W2.alloc (.cells #[.string NM] 9)):=(QM _ _).alloc _;have hnew:=QN W2 (.cells #[.string NM] 9);refine zd (hR _ _ (.inr ⟨hz.cell f6,hz.cell f7⟩) ?_);clear hR R;replace f6:=hz.cell f6;replace f7:=hz.cell f7;replace HK:=QH (HK.out.later hz);have b2:=za hnew 0;change World.cell? _ _=some (.string NM) at b2;have HBb2:=QH (show ke ≤ W2.heap.size from HSW2.out);have HSW3:=QH (show ke ≤ (W2.alloc (.cells #[.string NM] 9)).heap.size from Nat.le_trans HSW2.out hz.size);clear hz hnew;generalize (W2.alloc (.cells #[.string NM] 9))=W3 at *;generalize W2.heap.size=k2 at b2 HBb2 ⊢;refine zu (zp fun R hR => ?_);obtain ⟨-,-,-,-,hj,hj0,hj1,hj2⟩:=HI.out;have hown:=HK.out.k.coll.rowN;rw [HW.out.2.2.2.1] at hown;have hone:=zaW b2;refine zw _ rfl _ _ 53 rfl 9 j0 _ 1 16 Tryz.underlying53 hj hj0 hj1 hj2 rfl AD nms li _ rfl hown ⟨k2,0,none⟩ 1 1 [.string NM] rfl rfl ?d6a ?d6b AD ?d6c ?d6d ?_
   case d6a => exact hone
   case d6b => intro u hu; simp at hu; subst hu; rfl
   case d6c => unfold maxLen; omega
   case d6d => omega
   exact yah
 ):p:=h
theorem ydO {p:Prop} (h:p:=by
  apply zr AC [0,1,2,3,4,26,27,28,29,30] [(5,[6,7,8,9,10,11,12,13,14,15,16,17,18,19,20,21]),(22,[23,24,25]),(31,[])] false AC (fun y => y.cell? ⟨nb,0,none⟩ = some (.string ⟨nd.hd.op.toArray⟩) ∧ y.cell? ⟨nb,3,none⟩ = some (.int .i64 nc) ∧ y.cell? ⟨rb,5,none⟩ = some (.slice gao gl gcap) ∧ y.cell? ⟨kb,0,none⟩ = some (.pointer (some ⟨xb,0,none⟩)) ∧ y.cell? ⟨xb,1,none⟩ = some (.int .i64 it.e.hd.pos))
  case hC => exact ⟨m0,m3,c5,b0,y1⟩
  case hwalk =>exact yaS
  first
  |guard_hyp gCf
   case hrun =>change zct _ _ _ _ _ [(_,[_,_,_,_,_,_,_,_,_,_,_,_,_,_,_,_]),(_,[_,_,_]),(_,[])] _ _;refine zP fun R1 hR1 => ?_;have hag:=zan w3.drew nd.hd.op;rw [hA] at hag;have gAh:=QH trivial;exact ycR
  |guard_hyp gCg
   case hrun =>change zct _ _ _ _ _ [(_,[_,_,_,_,_,_,_,_,_,_,_,_,_,_,_,_]),(_,[_,_,_]),(_,[])] _ _;refine zP fun R1 hR1 => ?_;have hag:=zan w3.drew nd.hd.op;rw [hA] at hag;have gAk:=QH trivial;exact ycR
 ):p:=h
theorem ydM {p:Prop} (h:p:=by
  clear hR1 R1;refine zP fun R2 hR2 => ?_;have hco:=zc2 w4 (HV.out.2.2.1.mods (HM4.out.mono)) HQ.out.2.2.2.2.2.2.2.2.1 nc;rw [hmem,HV.out.2.2.2.2.2.1] at hco;go_wp2_with fail;(with_reducible refine hco.mono ?_);rintro r w5 ⟨rfl,hM5⟩;clear hco;replace m0:=hM5.cell m0;replace m3:=hM5.cell m3;replace c5:=hM5.cell c5;replace b0:=hM5.cell b0;replace y1:=hM5.cell y1;have HM5:=QH (HM4.out.trans hM5);clear hM5;go_wp2_with fail;refine zd ?_;apply hR2 _ w5 (.inr ⟨m0,m3,c5,b0,y1⟩)
  ·exact yaW
  first
  |guard_hyp gCa
   ·have gDs:=QH trivial;exact yen
  |guard_hyp gCb
   ·have gDu:=QH trivial;exact yeo
 ):p:=h
theorem yfc {p:Prop} (h:p:=by
  have hlow:=HW.out.1;have nrb:rb ∉ its.ownBlock.toList:=fun hm => Nat.lt_irrefl _ (LL HK.out.rbl (HK.out.coll.apart _ AH).1);have nkb:kb ∉ its.ownBlock.toList:=fun hm => Nat.lt_irrefl _ (hlow _ hm);replace f6:=hM9.cell f6 nrb;replace f7:=hM9.cell f7 nrb;replace f0:=hM9.cell f0 nkb;replace f1:=hM9.cell f1 nkb;replace f2:=hM9.cell f2 nkb;replace HK:=QH (HK.out.node hall (b:=nb) (n:=.leaf { op:=oColumn,t:=⟨a,b⟩,col:=i }) (fun L hL => ⟨nb,rfl,fun hm => HW.out.2.2.2.2 nb HNB.out.2 (hL nb hm),HNB.out.1⟩) HW.out.2.2.1 hown9 hM9 hg9)
  first
  |guard_hyp gE6
   replace HS:=QH (show kb < W4.heap.size from LL HS.out hM9.size);replace b2:=hM9.cell b2 (fun hm => Nat.not_lt.2 HBb2.out (hlow _ hm));clear b1 hown hall hone hown9 hM9 hg9 hlow nrb nkb hi hz0 hz1 hz2;go_wp2_with fail;refine zd (hR _ _ (.inr ⟨f6,f7,f0,f1,f2⟩) ?_);clear hR R;refine zu (zp fun R hR => ?_);obtain ⟨-,-,-,-,hj,hj0,hj1,hj2⟩:=HI.out;have hown:=HK.out.coll.rowN;rw [HW.out.2.2.2.1] at hown;have hone:=zaW b2
   first
   |guard_hyp gAe
    refine zw _ rfl _ _ 53 rfl 9 j0 _ 1 16 Tryz.underlying53 hj hj0 hj1 hj2 rfl AD nms i _ rfl hown ⟨k2,0,none⟩ 1 1 [.string N] rfl rfl ?c2a ?c2b AD ?c2c ?c2d ?_
    case c2a => exact hone
    case c2b => intro u hu; simp at hu; subst hu; rfl
    case c2c => unfold maxLen; omega
    case c2d => omega
    exact yae
   |guard_hyp gAf
    refine zw _ rfl _ _ 53 rfl 9 j0 _ 1 16 Tryz.underlying53 hj hj0 hj1 hj2 rfl AD nms i _ rfl hown ⟨k2,0,none⟩ 1 1 [.string N] rfl rfl ?c4a ?c4b AD ?c4c ?c4d ?_
    case c4a => exact hone
    case c4b => intro u hu; simp at hu; subst hu; rfl
    case c4c => unfold maxLen; omega
    case c4d => omega
    exact yae
   |guard_hyp gAg
    refine zw _ rfl _ _ 53 rfl 9 j0 _ 1 16 Tryz.underlying53 hj hj0 hj1 hj2 rfl AD nms i _ rfl hown ⟨k2,0,none⟩ 1 1 [.string N] rfl rfl ?c6a ?c6b AD ?c6c ?c6d ?_
    case c6a => exact hone
    case c6b => intro u hu; simp at hu; subst hu; rfl
    case c6c => unfold maxLen; omega
    case c6d => omega
    exact yae
  |guard_hyp gE7
   replace HS:=QH (show kb < W3.heap.size from LL HS.out hM9.size);clear b1 hown hall hone hown9 hM9 hg9 hlow nrb nkb hi hz0 hz1 hz2;go_wp2_with fail;refine zd (hR _ _ (.inr ⟨f6,f7,f0,f1,f2⟩) ?_);clear hR R;refine zu (zp fun R hR => ?_);go_wp2_with fail;have hz:Mods [] W3 (W3.alloc (.cells #[.string N] 9)):=(QM _ _).alloc _;have hnew:=QN W3 (.cells #[.string N] 9);refine zd (hR _ _ (.inr ⟨hz.cell f6,hz.cell f7,hz.cell f0,hz.cell f1,hz.cell f2⟩) ?_);clear hR R;replace f6:=hz.cell f6;replace f7:=hz.cell f7;replace f0:=hz.cell f0;replace f1:=hz.cell f1;replace f2:=hz.cell f2;replace HK:=QH (HK.out.later hz);have HS2:=QH (show kb < (W3.alloc (.cells #[.string N] 9)).heap.size from LL HS.out hz.size);have b2:=za hnew 0;change World.cell? _ _=some (.string N) at b2;have HBb2:=QH (Nat.le_of_lt HS.out);clear hz hnew;replace HS:=HS2;clear HS2;generalize (W3.alloc (.cells #[.string N] 9))=W4 at *;generalize W3.heap.size=k2 at b2 HBb2 ⊢;refine zu (zp fun R hR => ?_);obtain ⟨-,-,-,-,hj,hj0,hj1,hj2⟩:=HI.out;have hown:=HK.out.coll.rowN;rw [HW.out.2.2.2.1] at hown;have hone:=zaW b2;refine zw _ rfl _ _ 53 rfl 9 j0 _ 1 16 Tryz.underlying53 hj hj0 hj1 hj2 rfl AD nms i _ rfl hown ⟨k2,0,none⟩ 1 1 [.string N] rfl rfl ?c8a ?c8b AD ?c8c ?c8d ?_
   case c8a => exact hone
   case c8b => intro u hu; simp at hu; subst hu; rfl
   case c8c => unfold maxLen; omega
   case c8d => omega
   exact yae
 ):p:=h
theorem ydD {p:Prop} (h:p:=by
  rw [hop] at m0;change w3.cell? _=some (.string ⟨#[99,111,108,117,109,110]⟩) at m0;apply zr AC [0,1,2,3,4,26,27,28,29,30] [(5,[6,7,8,9,10,11,12,13,14,15,16,17,18,19,20,21]),(22,[23,24,25]),(31,[])] false AC (fun y => y.cell? ⟨nb,0,none⟩ = some (.string ⟨#[99,111,108,117,109,110]⟩) ∧ y.cell? ⟨nb,3,none⟩ = some (.int .i64 nc) ∧ y.cell? ⟨rb,5,none⟩ = some (.slice gao gl gcap) ∧ y.cell? ⟨kb,0,none⟩ = some (.pointer (some ⟨xb,0,none⟩)) ∧ y.cell? ⟨xb,1,none⟩ = some (.int .i64 it.e.hd.pos))
  case hC => exact ⟨m0,m3,c5,b0,y1⟩
  case hwalk =>exact yaS
  first
  |guard_hyp gBS
   case hrun =>have gDB:=QH trivial;exact yer
  |guard_hyp gBT
   case hrun =>have gDC:=QH trivial;exact yer
 ):p:=h
theorem ydz {p:Prop} (h:p:=by
  refine zu (zp fun R hR => ?_);go_wp2_with fail;have hz:Mods [] W2 (W2.alloc (.cells #[.pointer (some ⟨nb,0,none⟩)] 51)):=(QM _ _).alloc _;have hnew:=QN W2 (.cells #[.pointer (some ⟨nb,0,none⟩)] 51);refine zd (hR _ _ (.inr ⟨hz.cell f6,hz.cell f7,hz.cell f0,hz.cell f1,hz.cell f2⟩) ?_);clear hR R;replace f6:=hz.cell f6;replace f7:=hz.cell f7;replace f0:=hz.cell f0;replace f1:=hz.cell f1;replace f2:=hz.cell f2;replace HK:=QH (HK.out.later hz);have HS2:=QH (show kb < (W2.alloc (.cells #[.pointer (some ⟨nb,0,none⟩)] 51)).heap.size from LL HS.out hz.size);replace b2:=hz.cell b2;have gFd:=QH trivial;exact yff
 ):p:=h
theorem ydr {p:Prop} (h:p:=by
  refine zu (zp fun R hR => ?_);go_wp2_with fail;refine zd (hR _ _ (.inl rfl) ?_);clear hR R;refine zu (zp fun R hR => ?_);go_wp2_with fail;refine zd (hR _ _ (.inl rfl) ?_);clear hR R;refine zu (zp fun R hR => ?_);go_wp2_with fail;refine zd (hR _ _ (.inl rfl) ?_);clear hR R
  first
  |guard_hyp gBn
   have z7:=zc (zb HK.out.st 6 (.slice (some ⟨g2,0,none⟩) (i + 1) cap2)) 7;refine zu (zp fun R hR => ?_);go_wp2_with fail;refine zd (hR _ _ (.inl rfl) ?_);clear hR R z6 z7 f6 f7;refine zcr ?_;have hfin:=zep HK.out.lay hie hnm ha hb hns hss;have HFIN:=QH hfin;clear hfin;go_wp2_with fail;go_roundg (n - (i + 1))
   case measure => omega
   case rel => exact ⟨i + 1,by omega,by go_num,HFIN.out⟩
  |guard_hyp gBo
   have z7:=zc (zb HK.out.k.st 6 (.slice (some ⟨g2,0,none⟩) (li + 1) cap2)) 7;refine zu (zp fun R hR => ?_);go_wp2_with fail;refine zd (hR _ _ (.inl rfl) ?_);clear hR R z6 z7 f6 f7;refine zcr ?_;have hlay:=HK.out.lay;have HLAY:=QH hlay;clear hlay;go_wp2_with fail
   go_meet
   exact ⟨_,_,_,HLAY.out⟩
 ):p:=h
theorem ycV {p:Prop} (h:p:=by
  intro g2 cap2 W3 hown9 hM9 hg9;have gE8:=QH trivial;exact yfd
 ):p:=h
theorem ycR {p:Prop} (h:p:=by
  change w3.drew.cell? _=_ at m0;change w3.drew.cell? _=_ at m3;change w3.drew.cell? _=_ at c5;change w3.drew.cell? _=_ at b0;change w3.drew.cell? _=_ at y1;clear c6 hcN;go_wp2_with fail;(with_reducible refine hag.mono ?_);rintro r w4 ⟨rfl,hM4⟩;clear hag;replace m0:=hM4.cell m0;replace m3:=hM4.cell m3;replace c5:=hM4.cell c5;replace b0:=hM4.cell b0;replace y1:=hM4.cell y1;have hM34:=((QM [] w3).drew).trans hM4;have HM4:=QH hM34;clear hM4 hM34;go_wp2_with fail;refine zd ?_;apply hR1 _ w4 (.inr ⟨m0,m3,c5,b0,y1⟩)
  ·exact yaM
  first
  |guard_hyp gAh
   ·clear hR1 R1;refine zP fun R2 hR2 => ?_;go_wp2_with fail;have HM5:=HM4;generalize w4=w5 at *;refine zd ?_;apply hR2 _ w5 (.inr ⟨m0,m3,c5,b0,y1⟩)
    ·exact yaW
    ·have gDt:=QH trivial;exact yen
  |guard_hyp gAi
   ·have gCa:=QH trivial;exact ydM
  |guard_hyp gAj
   ·have gCb:=QH trivial;exact ydM
  |guard_hyp gAk
   ·clear hR1 R1;refine zP fun R2 hR2 => ?_;go_wp2_with fail;have HM5:=HM4;generalize w4=w5 at *;refine zd ?_;apply hR2 _ w5 (.inr ⟨m0,m3,c5,b0,y1⟩)
    ·exact yaW
    ·have gDv:=QH trivial;exact yeo
 ):p:=h
theorem ycQ {p:Prop} (h:p:=by
  intro g2 cap2 W4 hown9 hM9 hg9;have gE6:=QH trivial;exact yfc
 ):p:=h
theorem yae {p:Prop} (h:p:=by
  intro g3 cap3 W5 hown9 hM9 hg9;have hlow:=HW.out.2.1;have nrb:rb ∉ nms.ownBlock.toList:=fun hm => Nat.lt_irrefl _ (LL HK.out.rbl (HK.out.coll.later _ AH));have nkb:kb ∉ nms.ownBlock.toList:=fun hm => Nat.lt_irrefl _ (hlow _ hm);replace f6:=hM9.cell f6 nrb;replace f7:=hM9.cell f7 nrb;replace f0:=hM9.cell f0 nkb;replace f1:=hM9.cell f1 nkb;replace f2:=hM9.cell f2 nkb;rw [← hN] at hown9;replace HK:=QH (HK.out.name (s:=nm) HW.out.2.2.2.1 hown9 hM9 hg9);clear b2 hown hone hown9 hM9 hg9 hlow nrb nkb hj hj0 hj1 hj2;go_wp2_with fail;refine zd (hR _ _ (.inr ⟨f6,f7,f0,f1,f2⟩) ?_);clear hR R f0 f1 f2;have z6:=zc HK.out.st 6;have gBn:=QH trivial;exact ydr
 ):p:=h
theorem yah {p:Prop} (h:p:=by
  intro g3 cap3 W4 hown9 hM9 hg9;have hlow:=HW.out.2.1;have nrb:rb ∉ nms.ownBlock.toList:=fun hm => Nat.lt_irrefl _ (LL HK.out.k.rbl (HK.out.k.coll.later _ AH));replace f6:=hM9.cell f6 nrb;replace f7:=hM9.cell f7 nrb;rw [← HNM.out] at hown9;replace HK:=QH (HK.out.name (s:=nm) HW.out.2.2.2.1 hown9 hM9 hg9 HW.out.2.2.2.2.2.2);clear b2 hown hone hown9 hM9 hg9 hlow nrb hj hj0 hj1 hj2;go_wp2_with fail;refine zd (hR _ _ (.inr ⟨f6,f7⟩) ?_);clear hR R;have z6:=zc HK.out.k.st 6;have gBo:=QH trivial;exact ydr
 ):p:=h
theorem yay {p:Prop} (h:p:=by
  have HFIN:=QH hfin;clear hfin hM6 hS6;go_wp2_with fail;refine zd (hR3 _ _ AB ?_);clear hR3 R3;refine zI ?_;clear m0 m3 c5 b0 y1;go_wp2_with fail;go_roundg (i - (j + 1))
  case measure => omega
  case rel => exact ⟨j + 1,by omega,by go_num,HFIN.out⟩
 ):p:=h
theorem yaM {p:Prop} (h:p:=by
  rintro y ⟨ym0,ym3,yc5,yb0,yy1⟩;change wpQuiet _ _ _ _ [_,_,_,_,_,_,_,_,_,_,_,_,_,_,_,_] (Act.mk _ _);(repeat go_big_quiet_step (fail));refine QW ?_;exact rfl
 ):p:=h
theorem yaS {p:Prop} (h:p:=by
  rintro y ⟨ym0,ym3,yc5,yb0,yy1⟩;change wpQuiet _ _ _ _ [_,_,_,_,_,_,_,_,_,_] (Act.mk _ _);(repeat go_big_quiet_step (fail));refine QW ?_;exact rfl
 ):p:=h
theorem yaV {p:Prop} (h:p:=by
  exact ⟨_,_,(HV.out.1.later HM5.out).past hM6 AB HR0.out.2.2.2.2.2.2.2.2.2 HQ.out.2.2.2.2.2.2.2.2.2.2.1,hS6,by rw [HV.out.2.2.2.1,hb]⟩
 ):p:=h
theorem yaW {p:Prop} (h:p:=by
  rintro y ⟨ym0,ym3,yc5,yb0,yy1⟩;change wpQuiet _ _ _ _ [_,_,_] (Act.mk _ _);(repeat go_big_quiet_step (fail));refine QW ?_;exact rfl
 ):p:=h
theorem ych {p:Prop} (h:p:=by
  intro y;change wpQuiet _ _ _ _ [_] (Act.mk _ _);(repeat go_big_quiet_step (fail));refine QW ?_;exact rfl
 ):p:=h
theorem yeR {p:Prop} (h:p:=by
  go_roundg (n1 - (i + 1))
  case measure => omega
  case rel => exact ⟨i + 1,by omega,by go_num,HX.out⟩
 ):p:=h
def StarI (w wr:World) (rb:Nat) (lf rt:Int) (cn cw:Value) (gr:Bool) (gv vo:Value) (lim off:Int) (env:List EC) (i:Nat):Prop:=
 Mods [rb] w wr ∧ ∃ its nms,CSt wr rb lf rt cn cw gr gv its nms vo lim off ∧ Coll w wr its nms (((zbi env).take i).map (·.1)) (((zbi env).take i).map (·.2))
theorem zjk {env:List EC} {i:Nat} (h:i < env.length):(zbi env).take (i + 1)=(zbi env).take i ++ [((.leaf { op:=oColumn,t:=env[i].t,col:=i }:NT),env[i].name)]:=by
 have hl:(zbi env).length=env.length:=by simp [zbi]
 rw [List.take_succ_eq_append_getElem AA];congr 2;simp [zbi,List.getD_eq_getElem?_getD,List.getElem?_eq_getElem h]
theorem zep {w W:World} {rb:Nat} {lf rt:Int} {von vwh:Value} {gr:Bool} {gv vo:Value} {lim off:Int} {its nms:Value} {ns:List NT} {ss:List Bs} {env:List EC} {i a b:Nat} {nm:Bs}
  (h:MakeK [rb] w W rb lf rt von vwh gr gv vo lim off its nms its nms (ns ++ [.leaf { op:=oColumn,t:=⟨a,b⟩,col:=i }]) (ss ++ [nm])) (hie:i < env.length) (hnm:env[i].name=nm) (ha:env[i].t.k=a) (hb:env[i].t.s=b) (hns:((zbi env).take i).map (·.1)=ns) (hss:((zbi env).take i).map (·.2)=ss):StarI w W rb lf rt von vwh gr gv vo lim off env (i + 1):=by
 refine ⟨h.mods,_,_,h.st,?_⟩;have hty:env[i].t = ⟨a,b⟩:=by rw [← ha,← hb]
 rw [zjk hie,List.map_append,List.map_append,hns,hss,hty,hnm];exact h.coll
def ItemsRes (w:World) (sb rb:Nat) (cv:Value) (mb pos:Nat) (env:List EC) (q:zt) (group:List Nat) (lf rt:Int) (von vwh gv vo:Value) (lim off:Int) (r:Ending) (w':World):Prop:=
 r = .returned (.tuple #[]) ∧ Mods [sb,rb] w w' ∧ zaX w' sb cv mb 0 (zai (zem q env group) pos 0).1 (zai (zem q env group) pos 0).2 ∧
 ∃ gr' its nms ns ss,CSt w' rb lf rt von vwh gr' gv its nms vo lim off ∧ Coll w w' its nms ns ss ∧ ns.length=ss.length ∧ ∀ l g,zem q env group = .ok (l,g) → gr'=g ∧ ns=l.map (·.1) ∧ ss=l.map (·.2)
theorem EnvCols.weaken {w:World} {L L':List Nat} {cv:Value} {env:List EC} (h:EnvCols w L cv env) (hL:∀ x ∈ L',x ∈ L):EnvCols w L' cv env:=by
 obtain ⟨ao,cap,rfl,h⟩:=h
 exact ⟨ao,cap,rfl,fun h0 => by
  obtain ⟨g,h1,h2,h3⟩:=h h0
  exact ⟨g,h1,fun hm => h2 (hL _ hm),h3⟩⟩
structure ItG (w wr:World) (sb rb:Nat) (cv:Value) (mb pos:Nat) (env:List EC) (q:zt) (n0:List NT) (s0:List Bs) (lf rt:Int) (von vwh:Value) (gr:Bool) (gv vo:Value) (lim off:Int) (i:Nat) (r:List (NT × Bs)) (g:Bool) (its nms:Value):Prop where
 mak:MakeK [sb,rb] w wr rb lf rt von vwh g gv vo lim off its nms its nms (n0 ++ r.map (·.1)) (s0 ++ r.map (·.2))
 sc:zaX wr sb cv mb 0 pos 0
 go:ItemsGo env q.items i r
 len:r.length=i
 grp:g=(gr || r.any (fun x => hasN x.1))
 le:i ≤ 64
def ItI (w:World) (sb rb:Nat) (cv:Value) (mb pos:Nat) (env:List EC) (q:zt) (n0:List NT) (s0:List Bs) (lf rt:Int) (von vwh:Value) (gr:Bool) (gv vo:Value) (lim off:Int) (i:Nat) (wr:World):Prop:=
 ∃ r g its nms,ItG w wr sb rb cv mb pos env q n0 s0 lf rt von vwh gr gv vo lim off i r g its nms
theorem zjl {env:List EC} {K:Nat} {st:Bool} (hK:(if st=true then env.length else 0)=K):(((zbi env).take K).map (·.1)).length=K ∧ (((zbi env).take K).map (·.2)).length=K ∧ (st=false → ((zbi env).take K).map (·.1)=[] ∧ ((zbi env).take K).map (·.2)=[]) ∧ (st=true → (zbi env).take K=zbi env) ∧ K ≤ env.length:=by
 have hsl:(zbi env).length=env.length:=by simp [zbi]
 have hKl:K ≤ env.length:=by rw [← hK]; split <;> omega
 refine ⟨by rw [List.length_map,List.length_take]; omega,by rw [List.length_map,List.length_take]; omega,fun h => ?_,fun h => ?_,hKl⟩
 ·rw [h,if_neg AD] at hK;rw [← hK]; exact ⟨rfl,rfl⟩
 ·rw [h,if_pos rfl] at hK;exact List.take_of_length_le AA
theorem ItemR.block {w:World} {L:List Nat} {b:Nat} {t:Tree} (hA:ExprAt 171 103 w L (zh b) t):∃ va,w.heap[b]? = some (.cells (hdC t.hd va).toArray 171 (0,0)) ∧ b ∉ L:=by
 cases t with
 | leaf h => obtain ⟨b,h1,h2,h3⟩:=hA; cases h1; exact ⟨_,h3,h2⟩
 | un h a => obtain ⟨b,c,u,h1,h2,h3,h4,-⟩:=hA; cases h1; exact ⟨_,h4,h2⟩
 | bin h a d => obtain ⟨b,c,u,x,h1,h2,h3,h4,-⟩:=hA; cases h1; exact ⟨_,h4,h2⟩
structure MakeN (L0:List Nat) (sb:Nat) (cv:Value) (mb pos nb:Nat) (nn:NT) (Md:List Nat) (w W:World) (rb:Nat) (lf rt:Int) (von vwh:Value) (gr:Bool) (gv vo:Value) (lim off:Int) (ci cn its nms:Value) (ns:List NT) (ss:List Bs):Prop where
 k:MakeK Md w W rb lf rt von vwh gr gv vo lim off ci cn its nms ns ss
 sc:zaX W sb cv mb 0 pos 0
 na:NAt W L0 (zh nb) nn
 sbl:sb < w.heap.size
 sne:sb ≠ rb
 rbL:rb ∈ L0
section
variable {L0:List Nat} {sb:Nat} {cv:Value} {mb pos nb:Nat} {nn:NT} {Md:List Nat} {w W:World} {rb:Nat} {lf rt:Int} {von vwh:Value} {gr:Bool} {gv vo:Value} {lim off:Int} {ci cn its nms:Value} {ns:List NT} {ss:List Bs}
theorem MakeN.later (h:MakeN L0 sb cv mb pos nb nn Md w W rb lf rt von vwh gr gv vo lim off ci cn its nms ns ss) {W':World} (hM:Mods [] W W'):MakeN L0 sb cv mb pos nb nn Md w W' rb lf rt von vwh gr gv vo lim off ci cn its nms ns ss:=
 ⟨h.k.later hM,hM.heap h.sc,h.na.mods (hM.mono),h.sbl,h.sne,h.rbL⟩
theorem MakeN.node (h:MakeN L0 sb cv mb pos nb nn Md w W rb lf rt von vwh gr gv vo lim off ci cn its nms ns ss) {W':World} {css:List (List Value)} (hcs:∀ L:List Nat,(∀ x ∈ L,Far w its nms x) → AllR NodR W L css ns) (hn:∀ L:List Nat,(∀ x ∈ L,Far w its nms x) → NAt W L (zh nb) nn) {g cap k:Nat} (hk:ns.length=k)
  (hown:W'.ownsRow 0 51 1 (.slice (some ⟨g,0,none⟩) (k + 1) cap) (k + 1) (css.flatten ++ [zh nb])) (hM:Mods its.ownBlock.toList W W') (hg:its.ownBlock=some g ∨ W.heap.size ≤ g) (hL:∀ x ∈ its.ownBlock.toList,x ∈ L0):MakeN L0 sb cv mb pos nb nn Md w W' rb lf rt von vwh gr gv vo lim off ci cn (.slice (some ⟨g,0,none⟩) (k + 1) cap) nms (ns ++ [nn]) ss:=
 ⟨h.k.node hcs hn hk hown hM hg,hM.heap h.sc (fun hm => Nat.lt_irrefl _ (LL h.sbl (h.k.coll.apart sb AH).1)),h.na.mods (hM.mono (fun y hy => .inl (hL y hy))),h.sbl,h.sne,h.rbL⟩
theorem MakeN.name (h:MakeN L0 sb cv mb pos nb nn Md w W rb lf rt von vwh gr gv vo lim off ci cn its nms ns ss) {W':World} {s:Bs} {g cap k:Nat} (hk:ss.length=k)
  (hown:W'.ownsRow 0 9 1 (.slice (some ⟨g,0,none⟩) (k + 1) cap) (k + 1) ((ss.map fun s => Value.string ⟨s.toArray⟩) ++ [.string ⟨s.toArray⟩])) (hM:Mods nms.ownBlock.toList W W') (hg:nms.ownBlock=some g ∨ W.heap.size ≤ g) (hL:∀ x ∈ nms.ownBlock.toList,x ∈ L0):MakeN L0 sb cv mb pos nb nn Md w W' rb lf rt von vwh gr gv vo lim off ci cn its (.slice (some ⟨g,0,none⟩) (k + 1) cap) ns (ss ++ [s]):=
 ⟨h.k.name hk hown hM hg,hM.heap h.sc (fun hm => Nat.lt_irrefl _ (LL h.sbl (h.k.coll.later sb AH))),h.na.mods (hM.mono (fun y hy => .inl (hL y hy))),h.sbl,h.sne,h.rbL⟩
theorem MakeN.lay (h:MakeN L0 sb cv mb pos nb nn Md w W rb lf rt von vwh gr gv vo lim off ci cn its nms ns ss):MakeN L0 sb cv mb pos nb nn Md w ((W.setCell ⟨rb,6,none⟩ its).setCell ⟨rb,7,none⟩ nms) rb lf rt von vwh gr gv vo lim off its nms its nms ns ss:=by have hM:Mods [rb] W ((W.setCell ⟨rb,6,none⟩ its).setCell ⟨rb,7,none⟩ nms):=((QM _ _).setCell (.inl AB) _).setCell (.inl AB) _;exact ⟨h.k.lay,hM.heap h.sc (by simpa using h.sne),h.na.mods (hM.mono (fun y hy => .inl (by simp at hy; rw [hy]; exact h.rbL))),h.sbl,h.sne,h.rbL⟩
end
def FitI (w:World) (sb rb:Nat) (cv:Value) (mb:Nat) (q:zt) (group:List Nat) (p0 e0:Nat) (lf rt:Int) (von vwh gv vo:Value) (lim off:Int) (its nms:Value) (ns:List NT) (ss:List Bs) (j:Nat) (wr:World):Prop:=
 ∃ p e,MakeK [sb,rb] w wr rb lf rt von vwh true gv vo lim off its nms its nms ns ss ∧ zaX wr sb cv mb 0 p e ∧ zai (fitsQ group (q.items.take j) (ns.take j)) p0 e0=(p,e)
set_option maxRecDepth 100000 in
set_option maxHeartbeats 16000000 in
theorem zkh (w:World) (sb qb rb:Nat) (hsr:sb ≠ rb) (cv:Value) (mb pos:Nat) (env:List EC) (hS:Scope w sb cv mb 0 pos 0 env) (hE:EnvCols w [sb,rb] cv env) (hEM:EnvMap w [sb,rb] mb env) (lf rt:Int) (cn cw:Value) (gr:Bool) (gv vo:Value) (lim off:Int) (hC:CSt w rb lf rt cn cw gr gv (.slice none 0 0) (.slice none 0 0) vo lim off) (hlen:env.length ≤ 1000) (q:zt) (hQ:QIn w [sb,rb] qb q)
  (hX:∀ i ∈ q.items,ExprOk sb cv mb env i.e 0 ∧ formedT i.e=true) (hV:∀ W,Mods [sb,rb] w W → CkVars W ∧ Pow W) (hn1:q.items.length ≤ 100000) (hgr:gr=decide (0 < q.group.length)) (group:List Nat) (hGr:GroupAt w [sb,rb] gv group) (hgl:group.length ≤ 1000000) :
  Calls Tryz.prog 30 #[zh sb,zh qb,zh rb] w (ItemsRes w sb rb cv mb pos env q group lf rt cn cw gv vo lim off):=by
 obtain ⟨hqb,qi,qon,qwh,qg,qo,hq,hI,hOn,hWh,hG,hO⟩:=hQ;replace hqb:qb ≠ sb ∧ qb ≠ rb:=⟨fun h => hqb AR,fun h => hqb AR⟩;obtain ⟨PP,hPP⟩:=EX (ItemsRes w sb rb cv mb pos env q group lf rt cn cw gv vo lim off);rw [hPP];obtain ⟨n,hn⟩:=EX (env.length);have hEE:=hE;obtain ⟨ao,cap,rfl,hcols⟩:=hE;obtain ⟨ao2,cap2,rfl,hitems⟩:=hI;obtain ⟨n1,hn1e⟩:=EX (q.items.length);rw [hn] at hlen;have s0:=za hS.st 0;change w.cell? _=some (.slice ao env.length cap) at s0;have q0:=za hq 0;change w.cell? _=some (.bool q.star) at q0;have q1:=za hq 1;change w.cell? _=some (.slice ao2 q.items.length cap2) at q1;rw [hn1e] at q1 hn1;obtain ⟨st,hste⟩:=EX (q.star);rw [hste] at q0;obtain ⟨K,hK⟩:=EX ((if st=true then env.length else 0));obtain ⟨p0,hp,hp0,hp1,hp2⟩:=info_parts (show (Tryz.prog.info? 51).map (fun i => (i.zero,i.size,i.bytes))=some (some (.pointer none),1,8) by kernel_rfl);obtain ⟨j0,hj,hj0,hj1,hj2⟩:=info_parts (show (Tryz.prog.info? 9).map (fun i => (i.zero,i.size,i.bytes))=some (some (.string ⟨#[]⟩),1,16) by kernel_rfl);have HI:=QH (AI hp (AI hp0 (AI hp1 (AI hp2 (AI hj (AI hj0 (AI hj1 hj2)))))));clear hp hp0 hp1 hp2 hj hj0 hj1 hj2;have HQ:=QH (AI hPP (AI hEE (AI hEM (AI hX (AI hV (AI hn1e (AI hgr (AI hGr (AI hgl (AI hqb (AI hsr (AI hste (AI hq (AI q1 (AI q0 hitems)))))))))))))));rw [hn] at s0;have HH:=QH (AI hS (AI hC (AI hcols (AI hn hK))));clear hS hC hcols hn hK hq hOn hWh hG hO hPP hEE hEM hX hV hn1e hgr hGr hgl hqb hsr hste q1 hitems;unfold zh;go_enter Tryz.func30, Tryz.ntmps30;go_upto_if 18 with fail;go_cut [] from 19 to 54 (fun wx => StarI w wx rb lf rt cn cw gr gv vo lim off env K)
 case first =>
  cases st with
  | true =>
   clear q0;go_wp2_with fail;go_loopg [24] n (fun gk t24 wr => ∃ i:Nat,i + gk=n ∧ t24 = .int .i64 i ∧ StarI w wr rb lf rt cn cw gr gv vo lim off env i)
   case atStart => exact ⟨0,by omega,rfl,QM _ _,_,_,HH.out.2.1,Coll.start _⟩
   obtain ⟨i,hi,rfl,hSt⟩:=hrel;clear s0;by_cases hlt:i < n
   ·obtain ⟨hM,its,nms,hC,hL⟩:=hSt;have hie:i < env.length:=by rw [HH.out.2.2.2.1]; exact hlt
    obtain ⟨g,rfl,hgn,hgc,hgc2,hcc⟩:=HH.out.2.2.1 AA;obtain ⟨x0,x1,x2,nl,x3⟩:=hcc i hie;have hgr:g ∉ [rb]:=fun hm => hgn (by simp at hm; simp [hm]);have k0:=hM.cell x0 hgr;have k1:=hM.cell x1 hgr;have k2:=hM.cell x2 hgr;have k3:=hM.cell x3 hgr;obtain ⟨nm,hnm⟩:=EX (env[i].name);obtain ⟨a,ha⟩:=EX (env[i].t.k);obtain ⟨b,hb⟩:=EX (env[i].t.s);obtain ⟨N,hN⟩:=EX ((⟨nm.toArray⟩ : ByteArray):ByteArray);rw [hnm,hN] at k0;rw [ha] at k1;rw [hb] at k2;have c6:=za hC 6;have c7:=za hC 7;change wr.cell? _=some its at c6;change wr.cell? _=some nms at c7;have hz:=(QM [] wr).alloc (.cells #[.string N,.int .i64 a,.int .i64 b,.bool nl] 61);have hbk:=QN wr (.cells #[.string N,.int .i64 a,.int .i64 b,.bool nl] 61);have hCz:=hz.heap hC;have hLz:=hL.go hz AB;have hF:(∀ x ∈ its.ownBlock.toList,x < wr.heap.size) ∧ (∀ x ∈ nms.ownBlock.toList,x < wr.heap.size) ∧ (∀ x,wr.heap.size ≤ x → ¬ Far w its nms x):=by
     obtain ⟨css,h1,-⟩:=hL.rowI;have q1:∀ x ∈ its.ownBlock.toList,x < wr.heap.size:=fun x hx => (h1.lt x AJ).2;have q2:∀ x ∈ nms.ownBlock.toList,x < wr.heap.size:=fun x hx => (hL.rowN.lt x AJ).2;refine ⟨q1,q2,fun x hx hf => ?_⟩;have h0:=hL.size;rcases hf with h | h | h
     ·omega
     ·have:=q1 x AN; omega
     ·have:=q2 x AN; omega
    have HF:=QH hF;clear hF;have HR:=QH (AI hM (AI hCz (AI hLz (AI hz (AI hbk (AI hnm (AI ha (AI hb (AI hN (AI hie (zj hC)))))))))));have kb0:=za hbk 0;have kb1:=za hbk 1;have kb2:=za hbk 2;change World.cell? _ _=some (.string N) at kb0;change World.cell? _ _=some (Value.int .i64 a) at kb1;change World.cell? _ _=some (Value.int .i64 b) at kb2;have c6z:=hz.cell c6;have c7z:=hz.cell c7;clear hM hC hL hcc x0 x1 x2 x3 hgr hnm ha hb hN hz hbk hCz hLz c6 c7 hgn;go_upto_region 4 with fail;generalize wr.alloc (.cells #[.string N,.int .i64 a,.int .i64 b,.bool nl] 61)=w3 at *;obtain ⟨kb,hkb⟩:=EX (wr.heap.size);rw [hkb] at kb0 kb1 kb2 HR HF;rw [hkb];apply zfv AC [1] [0,2,3,4,5,6,7,8,9,13,14,15,16,17,18,21,22] (.two 19 [] (.one 10 [] (.one 11 [] (.one 12 [] (.one 20 [] (.one 23 [] (.one 24 [] (.one 25 [] (.one 26 [] .fin)))))))) 10 [] (.two 19 [] (.one 11 [] (.one 12 [] (.one 20 [] (.one 23 [] (.one 24 [] (.one 25 [] (.one 26 [] .fin))))))) 11 [] (.two 19 [] (.one 12 [] (.one 20 [] (.one 23 [] (.one 24 [] (.one 25 [] (.one 26 [] .fin)))))) 12 [] (.one 19 [] (.one 20 [] (.one 23 [] (.one 24 [] (.one 25 [] (.one 26 [] .fin))))))))) [23,24,25,26] AC (fun y => y.cell? ⟨rb,6,none⟩ = some its ∧ y.cell? ⟨rb,7,none⟩ = some nms ∧ y.cell? ⟨kb,0,none⟩ = some (.string N) ∧ y.cell? ⟨kb,1,none⟩ = some (.int .i64 a) ∧ y.cell? ⟨kb,2,none⟩ = some (.int .i64 b))
    case hC => exact ⟨c6z,c7z,kb0,kb1,kb2⟩
    case hfree =>exact ych
    case hwalk =>rintro y ⟨y6,y7,y0,y1,y2⟩;change wpQuiet _ _ _ _ [_,_,_,_,_,_,_,_,_,_,_,_,_,_,_,_,_] (Act.mk _ _);(repeat go_big_quiet_step (fail));refine QW ?_;exact rfl
    case hrun =>
     change segV _ _ _ _ (.two _ _ [] (.one _ _ [] (.one _ _ [] (.one _ _ [] (.one _ _ [] (.one _ _ [] (.one _ _ [] (.one _ _ [] (.one _ _ [] .fin)))))))) _ _ [] (.two _ _ [] (.one _ _ [] (.one _ _ [] (.one _ _ [] (.one _ _ [] (.one _ _ [] (.one _ _ [] (.one _ _ [] .fin))))))) _ _ [] (.two _ _ [] (.one _ _ [] (.one _ _ [] (.one _ _ [] (.one _ _ [] (.one _ _ [] (.one _ _ [] .fin)))))) _ _ [] (.one _ _ [] (.one _ _ [] (.one _ _ [] (.one _ _ [] (.one _ _ [] (.one _ _ [] .fin))))))))) _ _;have hzd:=(QM [] w3).drew;have f6:=hzd.cell c6z;have f7:=hzd.cell c7z;have f0:=hzd.cell kb0;have f1:=hzd.cell kb1;have f2:=hzd.cell kb2;obtain ⟨hM,hCz,hLz,hz,hbk,hnm,ha,hb,hN,hie,hrl⟩:=HR.out;have hrw:rb < w.heap.size:=zj HH.out.2.1;have HK:=QH (MakeK.later (W:=w3) (w:=w) ⟨hM.trans (hz.mono (L':=[rb]) AB),hCz,hLz,hrw,List.mem_singleton.2 rfl⟩ hzd);have HS:=QH (show kb < w3.drew.heap.size from LL (zj hbk) hzd.size);have hsl:(zbi env).length=env.length:=by simp [zbi]
     have hki:(((zbi env).take i).map (·.1)).length=i:=by rw [List.length_map,List.length_take,hsl]; omega
     have hks:(((zbi env).take i).map (·.2)).length=i:=by rw [List.length_map,List.length_take,hsl]; omega
     obtain ⟨ns,hns⟩:=EX (((zbi env).take i).map (·.1));obtain ⟨ss,hss⟩:=EX (((zbi env).take i).map (·.2));rw [hns] at HK hki;rw [hss] at HK hks;have HW:=QH (show (∀ x ∈ its.ownBlock.toList,x < kb) ∧ (∀ x ∈ nms.ownBlock.toList,x < kb) ∧ ns.length=i ∧ ss.length=i ∧ (∀ x,kb ≤ x → ¬ Far w its nms x) from ⟨HF.out.1,HF.out.2.1,hki,hks,HF.out.2.2⟩);clear c6z c7z kb0 kb1 kb2 hM hCz hLz hz hbk hzd;generalize w3.drew=W0 at *;refine zdK ?_ ?_
     ·refine zp fun R hR => ?_;go_wp2_with fail;have hz:Mods [] W0 (W0.alloc (.cells #[.string N] 9)):=(QM _ _).alloc _;have hnew:=QN W0 (.cells #[.string N] 9);refine zd (hR _ _ (.inr ⟨hz.cell f6,hz.cell f7,hz.cell f0,hz.cell f1,hz.cell f2⟩) ?_);clear hR R;replace f6:=hz.cell f6;replace f7:=hz.cell f7;replace f0:=hz.cell f0;replace f1:=hz.cell f1;replace f2:=hz.cell f2;replace HK:=QH (HK.out.later hz);have HS2:=QH (show kb < (W0.alloc (.cells #[.string N] 9)).heap.size from LL HS.out hz.size);have gD1:=QH trivial;exact yeB
     ·refine zp fun R hR => ?_;go_wp2_with fail;have hz:Mods [] W0 (W0.alloc (.cells #[.string ⟨#[99,111,108,117,109,110]⟩,.int .i64 a,.int .i64 b,.int .i64 i,.bool false,.int .i64 0,.string ⟨#[]⟩,.slice none 0 0] 80)):=(QM _ _).alloc _;have hnew:=QN W0 (.cells #[.string ⟨#[99,111,108,117,109,110]⟩,.int .i64 a,.int .i64 b,.int .i64 i,.bool false,.int .i64 0,.string ⟨#[]⟩,.slice none 0 0] 80);refine zd (hR _ _ (.inr ⟨hz.cell f6,hz.cell f7,hz.cell f0,hz.cell f1,hz.cell f2⟩) ?_);clear hR R;replace f6:=hz.cell f6;replace f7:=hz.cell f7;replace f0:=hz.cell f0;replace f1:=hz.cell f1;replace f2:=hz.cell f2;replace HK:=QH (HK.out.later hz);have HS2:=QH (show kb < (W0.alloc (.cells #[.string ⟨#[99,111,108,117,109,110]⟩,.int .i64 a,.int .i64 b,.int .i64 i,.bool false,.int .i64 0,.string ⟨#[]⟩,.slice none 0 0] 80)).heap.size from LL HS.out hz.size);have HNB:=QH (AI (show (W0.alloc (.cells #[.string ⟨#[99,111,108,117,109,110]⟩,.int .i64 a,.int .i64 b,.int .i64 i,.bool false,.int .i64 0,.string ⟨#[]⟩,.slice none 0 0] 80)).heap[W0.heap.size]? = some (.cells (nhC { op:=oColumn,t:=⟨a,b⟩,col:=i } (.slice none 0 0)).toArray 80 (0,0)) from hnew) (Nat.le_of_lt HS.out));clear hz hnew;replace HS:=HS2;clear HS2;generalize (W0.alloc (.cells #[.string ⟨#[99,111,108,117,109,110]⟩,.int .i64 a,.int .i64 b,.int .i64 i,.bool false,.int .i64 0,.string ⟨#[]⟩,.slice none 0 0] 80))=W1 at *;generalize W0.heap.size=nb at HNB ⊢;refine zdK ?_ ?_
      ·refine zp fun R hR => ?_;go_wp2_with fail;have hz:Mods [] W1 (W1.alloc (.cells #[.string N] 9)):=(QM _ _).alloc _;have hnew:=QN W1 (.cells #[.string N] 9);refine zd (hR _ _ (.inr ⟨hz.cell f6,hz.cell f7,hz.cell f0,hz.cell f1,hz.cell f2⟩) ?_);clear hR R;replace f6:=hz.cell f6;replace f7:=hz.cell f7;replace f0:=hz.cell f0;replace f1:=hz.cell f1;replace f2:=hz.cell f2;replace HK:=QH (HK.out.later hz);have HS2:=QH (show kb < (W1.alloc (.cells #[.string N] 9)).heap.size from LL HS.out hz.size);replace HNB:=QH (AI (hz.heap HNB.out.1) HNB.out.2);have gD2:=QH trivial;exact yeB
      ·refine zp fun R hR => ?_;go_wp2_with fail;have hz:Mods [] W1 (W1.alloc (.cells #[.pointer (some ⟨nb,0,none⟩)] 51)):=(QM _ _).alloc _;have hnew:=QN W1 (.cells #[.pointer (some ⟨nb,0,none⟩)] 51);refine zd (hR _ _ (.inr ⟨hz.cell f6,hz.cell f7,hz.cell f0,hz.cell f1,hz.cell f2⟩) ?_);clear hR R;replace f6:=hz.cell f6;replace f7:=hz.cell f7;replace f0:=hz.cell f0;replace f1:=hz.cell f1;replace f2:=hz.cell f2;replace HK:=QH (HK.out.later hz);have HS2:=QH (show kb < (W1.alloc (.cells #[.pointer (some ⟨nb,0,none⟩)] 51)).heap.size from LL HS.out hz.size);have gFe:=QH trivial;exact yff
   ·obtain rfl:i=n:=by omega
    have hKi:K=i:=by have h1:=HH.out.2.2.2.2; simp only [if_true] at h1; rw [← h1,HH.out.2.2.2.1]
    have HF:=QH (show StarI w wr rb lf rt cn cw gr gv vo lim off env K from hKi ▸ hSt);clear hSt hKi;go_wp2_with fail
    go_meet
    exact HF.out
  | false =>
   clear q0
   have HF:=QH (show StarI w w rb lf rt cn cw gr gv vo lim off env K from by
    rw [← HH.out.2.2.2.2,if_neg AD]
    exact ⟨QM _ _,_,_,HH.out.2.1,Coll.start _⟩)
   go_wp2_with fail
   go_meet
   exact HF.out
 case rest =>
  obtain ⟨hM0,its0,nms0,hC0,hL0⟩:=hcut;generalize wc=w0 at *;obtain ⟨hS,hC,hcols,hn,hK⟩:=HH.out;obtain ⟨hPP,hEE,hEM,hX,hV,hn1e,hgr,hGr,hgl,hqb,hsr,hste,hq,q1,q0q,hitems⟩:=HQ.out;obtain ⟨k1,k2,k3,k4,k5⟩:=zjl hK;obtain ⟨n0,hn0⟩:=EX (((zbi env).take K).map (·.1));obtain ⟨s0l,hs0l⟩:=EX (((zbi env).take K).map (·.2));rw [hn0,hs0l] at hL0 k3;rw [hn0] at k1;rw [hs0l] at k2;have hrl:rb < w.heap.size:=zj hC;have hsl:sb < w.heap.size:=zj hS.st;have f1:=hM0.cell q1 (by simpa using hqb.2)
  have hI0:ItI w sb rb (.slice ao env.length cap) mb pos env q n0 s0l lf rt cn cw gr gv vo lim off 0 w0:=
   ⟨[],gr,its0,nms0,⟨hM0.mono,hC0,by rw [List.map_nil,List.map_nil,List.append_nil,List.append_nil]; exact hL0,hrl,by simp⟩,hM0.heap hS.st (by simpa using hsr),ItemsGo.start _ _,rfl,by simp,by omega⟩
  have HR0:=QH (AI hI0 (AI k1 (AI k2 (AI k3 (AI k4 (AI k5 (AI hn0 (AI hs0l (AI hrl hsl)))))))));clear hM0 hC0 hL0 hS hC hcols hn hK hPP hEE hEM hX hV hn1e hgr hGr hgl hqb hsr hste hq q1 q0q hitems k1 k2 k3 k4 k5 hI0 hn0 hs0l hrl hsl s0;go_wp2_with fail;go_loopg [60] n1 (fun gk t60 wr => ∃ i:Nat,i + gk=n1 ∧ t60 = .int .i64 i ∧ ItI w sb rb (.slice ao env.length cap) mb pos env q n0 s0l lf rt cn cw gr gv vo lim off i wr)
  case atStart => exact ⟨0,by omega,rfl,HR0.out.1⟩
  obtain ⟨i,hi,rfl,r,g,its,nms,hK⟩:=hrel;clear f1;by_cases hlt:i < n1
  ·obtain ⟨hPP,hEE,hEM,hX,hV,hn1e,hgr,hGr,hgl,hqb,hsr,hste,hq,q1,q0q,hitems⟩:=HQ.out;have hie:i < q.items.length:=by omega
   obtain ⟨gi,rfl,hgn,-,hcc⟩:=hitems AA;obtain ⟨c,⟨xb,rfl,hXA⟩,-,hcell⟩:=hcc i hie;have x0:=hcell 0 _ rfl;have x1:=hcell 1 _ rfl;obtain ⟨it,hit⟩:=EX (q.items[i]);rw [hit] at hXA x1;have hi?:q.items[i]? = some it:=by rw [List.getElem?_eq_getElem hie,hit]
   have hXe:=hX it (by rw [← hit]; exact List.getElem_mem _);obtain ⟨va,hxb,hxn⟩:=ItemR.block hXA;have hMr:=hK.mak.mods;have c0:=hMr.cell x0 hgn;have c1:=hMr.cell x1 hgn;change wr.cell? ⟨gi,i * 2,none⟩ = some (.pointer (some ⟨xb,0,none⟩)) at c0;have hxr:=hMr.heap hxb hxn;have gGe:=QH trivial;exact yfL
  ·obtain rfl:i=n1:=by omega
   clear hi hlt;obtain ⟨hPP,hEE,hEM,hX,hV,hn1e,hgr,hGr,hgl,hqb,hsr,hste,hq,q1,q0q,hitems⟩:=HQ.out;obtain ⟨-,k1,k2,k3,k4,k5,hn0,hs0l,hrl,hsl⟩:=HR0.out;have hfin:za5 env 0 q.items = .ok r:=hK.go.fin AA;obtain ⟨ns,hns⟩:=EX (n0 ++ r.map (·.1));obtain ⟨ss,hss⟩:=EX (s0l ++ r.map (·.2));have hMK:=hK.mak;rw [hns,hss] at hMK;have hr9:=hK.len;have hls:ns.length=ss.length:=by rw [← hns,← hss,List.length_append,List.length_append,List.length_map,List.length_map,k1,k2]
   have hnl:ns.length=K + i:=by rw [← hns,List.length_append,List.length_map,k1,hr9]
   have hgrp:=hK.grp;rw [hgr] at hgrp;have c4:=za hMK.st 4;change wr.cell? _=some (.bool g) at c4;have hsc:=hK.sc;have qr:=hMK.mods.cell q0q (by simpa using hqb);have q1r:=hMK.mods.cell q1 (by simpa using hqb)
   cases g with
   | false =>
    have hfin2:PP (.returned (.tuple #[])) wr:=by
     rw [← hPP];have ha:=zlk (group:=group) hfin hgrp.symm;refine ⟨rfl,hMK.mods,by rw [ha,zaP]; exact hsc,false,its,nms,ns,ss,hMK.st,hMK.coll,hls,fun l g hl => ?_⟩;rw [ha] at hl;cases hl;refine ⟨rfl,?_,?_⟩
     ·rw [← hns,List.map_append];congr 1;rw [hste]
      cases st with
      | true => rw [if_pos rfl,← hn0,k4 rfl]
      | false => rw [(k3 rfl).1]; rfl
     ·rw [← hss,List.map_append];congr 1;rw [hste]
      cases st with
      | true => rw [if_pos rfl,← hs0l,k4 rfl]
      | false => rw [(k3 rfl).2]; rfl
    have HFIN:=QH hfin2;clear hPP hEE hEM hX hV hn1e hgr hGr hgl hqb hsr hste hq q1 q0q hitems k1 k2 k3 k4 k5 hn0 hs0l hrl hsl hfin hns hss hMK hr9 hls hnl hgrp hsc qr q1r hK hfin2;go_wp2_with fail;exact bodyPost_ret (results_none rfl _ _ _) rfl HFIN.out
   | true =>
    have hc1:=zF wr sb (.slice ao env.length cap) mb 0 pos 0 hsc st 4 0;change Calls _ _ #[.pointer (some ⟨sb,0,none⟩),.bool st,.int .i64 4,.int .i64 0] _ _ at hc1;obtain ⟨F,hF⟩:=EX (zaa st 4 0 pos 0);obtain ⟨pz,ez⟩:=F;rw [hF] at hc1;have HZ:=QH (AI hMK (AI hfin (AI hns (AI hss (AI hr9 (AI hls (AI hnl (AI hgrp hF))))))));clear hPP hEE hEM hX hV hn1e hgr hGr hgl hsr hste hq q0q hitems k1 k2 k3 k4 k5 hn0 hs0l hrl hsl hfin hns hss hMK hr9 hls hnl hgrp hsc hK hF;go_wp2_with fail;(with_reducible refine hc1.mono ?_);rintro e w2 ⟨rfl,hM2,hS2⟩;clear hc1;change zaX w2 sb _ mb 0 pz ez at hS2;have hMK2:=HZ.out.1.past hM2 AB HR0.out.2.2.2.2.2.2.2.2.2 HQ.out.2.2.2.2.2.2.2.2.2.2.1;have q2r:=hM2.cell q1r (by simpa using hqb.1);have hF0:FitI w sb rb (.slice ao env.length cap) mb q group pz ez lf rt cn cw gv vo lim off its nms ns ss 0 w2:=⟨pz,ez,hMK2,hS2,by rw [List.take_zero]; exact zaP _ _ _⟩;have HF0:=QH hF0;clear hF0 hMK2 hS2 hM2 q1 qr q1r hqb c4;go_wp2_with fail;go_loopg [157] i (fun gk t157 wr => ∃ j:Nat,j + gk=i ∧ t157 = .int .i64 j ∧ FitI w sb rb (.slice ao env.length cap) mb q group pz ez lf rt cn cw gv vo lim off its nms ns ss j wr)
    case atStart => exact ⟨0,by omega,rfl,HF0.out⟩
    obtain ⟨j,hj,rfl,p,e,hMK,hS,hce⟩:=hrel;clear q2r HF0;by_cases hlt:j < i
    ·obtain ⟨hPP,hEE,hEM,hX,hV,hn1e,hgr,hGr,hgl,hqb,hsr,hste,hq,q1,q0q,hitems⟩:=HQ.out;have hje:j < q.items.length:=by omega
     obtain ⟨gi,rfl,hgn,-,hcc⟩:=hitems AA;obtain ⟨c,⟨xb,rfl,hXA⟩,-,hcell⟩:=hcc j hje;have x0:=hcell 0 _ rfl;have x1:=hcell 1 _ rfl;obtain ⟨it,hit⟩:=EX (q.items[j]);rw [hit] at hXA x1;have hi?:q.items[j]? = some it:=by rw [List.getElem?_eq_getElem hje,hit]
     obtain ⟨va,hxb,hxn⟩:=ItemR.block hXA;have hMr:=hMK.mods;have c0:=hMr.cell x0 hgn;have c1:=hMr.cell x1 hgn;change wr.cell? ⟨gi,j * 2,none⟩ = some (.pointer (some ⟨xb,0,none⟩)) at c0;have hxr:=hMr.heap hxb hxn;have hjn:j < ns.length:=by have:=HZ.out.2.2.2.2.2.2.1; omega
     obtain ⟨nd,hnd⟩ : ∃ nd,ns[j]? = some nd:=⟨_,List.getElem?_eq_getElem hjn⟩;obtain ⟨gN,capN,nb,rfl,hgN,hcN,hNA,-⟩:=hMK.coll.nodeAt hnd;obtain ⟨b',args,hb',-,hnh⟩:=hNA.head;cases hb';obtain ⟨gao,gcap,rfl,hgv⟩:=hGr;have c6:=za hMK.st 6;have c5:=za hMK.st 5;change wr.cell? _=some (.slice (some ⟨gN,0,none⟩) ns.length capN) at c6;change wr.cell? _=some (.slice gao group.length gcap) at c5;have hGw:GroupAt wr [sb,rb] (.slice gao group.length gcap) group:=(show GroupAt w [sb,rb] (.slice gao group.length gcap) group from ⟨_,_,rfl,hgv⟩).mods hMr;have gGf:=QH trivial;exact yfL
    ·obtain rfl:i=j:=by omega
     have hfin2:PP (.returned (.tuple #[])) wr:=by rw [← HQ.out.1];obtain ⟨hMK0,hfin,hns,hss,hr9,hls,hnl,hgrp,hF⟩:=HZ.out;obtain ⟨hPP,hEE,hEM,hX,hV,hn1e,hgr,hGr,hgl,hqb,hsr,hste,hq,q1,q0q,hitems⟩:=HQ.out;obtain ⟨-,k1,k2,k3,k4,k5,hn0,hs0l,hrl,hsl⟩:=HR0.out;obtain ⟨hx1,hx2⟩:=zmY (group:=group) (pos:=pos) (ns:=ns) (ss:=ss) (n0:=n0) (s0:=s0l) (p:=p) (e:=e) hfin hgrp.symm (by rw [hste]; exact k3) hns.symm hss.symm (by rw [hr9,hn1e]) (by rw [hste,hF,hn1e]; exact hce);exact ⟨rfl,hMK.mods,by rw [hx1]; exact hS,true,its,nms,ns,ss,hMK.st,hMK.coll,hls,hx2⟩
     have HFIN:=QH hfin2;clear hfin2 hMK hS hce hlt hj;go_wp2_with fail;exact bodyPost_end (results_none rfl _ _ _) rfl HFIN.out
end Go.Proofs.YtcabeljiobiojaaGreatDoor
