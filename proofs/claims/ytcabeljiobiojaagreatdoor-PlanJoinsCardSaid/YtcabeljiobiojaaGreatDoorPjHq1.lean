/-
  The runner's join of two tables, walked. No condition.
-/
import Derived.Test.YtcabeljiobiojaaGreatDoorQ49
set_option linter.unusedVariables false
namespace Go.Proofs.YtcabeljiobiojaaGreatDoor
open Go.RowKit
set_option maxRecDepth 100000
theorem CB {p:Prop} (h:p:=by simpa using hJ.pne):p:=h
theorem yfX {p:Prop} (h:p:=by
  go_wp2_with fail;(with_reducible refine hky.mono ?_);rintro e wA ⟨rfl,hMA,hRA⟩;clear hky hcell;have hxb:=QN wA (.cells #[.bool false,.int .i64 0,.string ⟨#[]⟩,.bool false,.int .i64 0,.string ⟨#[]⟩,.bool false,.int .i64 0,.string ⟨#[]⟩,.bool false,.int .i64 0,.string ⟨#[]⟩,.bool false,.int .i64 0,.string ⟨#[]⟩,.bool false,.int .i64 0,.string ⟨#[]⟩,.bool false,.int .i64 0,.string ⟨#[]⟩,.bool false,.int .i64 0,.string ⟨#[]⟩] 125)
  first
  |guard_hyp gGn
   have hMx:Mods [] wA ((wA.alloc (.cells #[.bool false,.int .i64 0,.string ⟨#[]⟩,.bool false,.int .i64 0,.string ⟨#[]⟩,.bool false,.int .i64 0,.string ⟨#[]⟩,.bool false,.int .i64 0,.string ⟨#[]⟩,.bool false,.int .i64 0,.string ⟨#[]⟩,.bool false,.int .i64 0,.string ⟨#[]⟩,.bool false,.int .i64 0,.string ⟨#[]⟩,.bool false,.int .i64 0,.string ⟨#[]⟩] 125)).setRow wA.heap.size (zs5 kx1)):=((QM [] wA).alloc _).setRow (.inr (LR _)) _;have hxr:=zi (zs5 kx1) hxb;have HX:=QH (AI hMA (AI hRA (AI hMx hxr)));clear hMA hRA hMx hxr;go_upto_region 9 with (refine wpList_store_row rfl 125 (.tmp 10) (.tmp 70) rfl wA.heap.size (zs5 kx1) rfl rfl 125 _ hxb zs8 rfl (ztr kx1) ?_);obtain ⟨hMA,hRA,hMx,hxr⟩:=HX.out;clear hxb HX;generalize (wA.alloc (.cells #[.bool false,.int .i64 0,.string ⟨#[]⟩,.bool false,.int .i64 0,.string ⟨#[]⟩,.bool false,.int .i64 0,.string ⟨#[]⟩,.bool false,.int .i64 0,.string ⟨#[]⟩,.bool false,.int .i64 0,.string ⟨#[]⟩,.bool false,.int .i64 0,.string ⟨#[]⟩,.bool false,.int .i64 0,.string ⟨#[]⟩,.bool false,.int .i64 0,.string ⟨#[]⟩] 125)).setRow wA.heap.size (zs5 kx1)=wX at *;generalize wA.heap.size=xb at *;have hRX:=hRA.mods hMx BU;obtain ⟨hT,hni,hU,hRr,htk,hok,hk,hlen,hm⟩:=HT.out;have hTX:=(hT.later hMA).later (hMx.mono)
   cases kb with
   | false =>
    have hfin:JRel w2 mb rb kR ps2 (i + 1) wX:=⟨rv9,out,n,hTX,by omega,fun y => by
     rw [htk,List.filter_append];have e:([(Value.slice vo m c,pr)]:List PR).filter (fun p => (kR p.2).2 && decide ((kR p.2).1=y))=[]:=by simp [hk]
     rw [e,List.append_nil]
     exact hU y⟩
    have HF:=QH (AI hRX hfin);clear hfin hRX hRA hRr hT hTX hU hni htk hok hk hlen hm hMA hMx hxr;exact yfT
   | true =>
    have hMy:=(QM [] wX).alloc (.cells #[.slice none 0 0,.slice vo m c] 131);have hly:=zdy wX #[.slice none 0 0,.slice vo m c] 131;obtain ⟨z,born,wb,m2,cs,e2,hMb,hown,hm2,hz,hput⟩:=(hTX.later (hMy.mono)).put hok (.slice vo m c,pr);have hmb2:=hTX.mbl.1;have hszX:=hTX.mods.size;have hm2':m2 ≤ 1000:=by
     rcases hm2 with h | ⟨j,hj,h⟩
     ·omega
     ·have:=hlen j hj; omega
    have hlb:∀ j u,([.slice none 0 0,.slice vo m c]:List Value)[j]? = some u → wb.cell? ((⟨wX.heap.size,0,none⟩ : Addr).add j)=some u:=fun j u hj => hMb.cell (hly j u hj) (by rw [zci]; simp; omega);unfold mapT at e2 hput;obtain ⟨j0,hj,hj0,hj1,hj2⟩:=info_parts (show (Tryz.prog.info? 131).map (fun i => (i.zero,i.size,i.bytes))=some (some (.agg #[.slice none 0 0,.slice none 0 0]),2,48) by kernel_rfl);have hu8 : Tryz.prog.underlying 125 = some (.array 8 35):=by kernel_rfl
    have hlw:∀ y,z.ownBlock=some y → w2.heap.size ≤ y:=fun y hy => (hz y hy).1;have HP:=QH (AI hput (AI hown (AI hlb (AI hMb (AI hMy (AI hlw (AI hRX (AI hmb2 hszX))))))));clear hput hown hlb hMb hMy hly hlw hRX hRA hRr hT hTX hni hMA hMx hm2 hz hm hlen hmb2 hszX;go_wp2_with (first | (refine wpList_load_row rfl 125 (.tmp 10) rfl xb rfl 125 (zs5 kx1) (0,0) _ hxr hu8 rfl zs8 ?_) | (at_builtin; refine zw _ rfl _ _ 129 rfl 131 j0 _ 2 48 Tryz.underlying129 hj hj0 hj1 hj2 rfl BW z m2 cs rfl HP.out.2.1 ⟨wX.heap.size,0,none⟩ 1 1 [.slice none 0 0,.slice vo m c] rfl rfl ?b2 ?b3 BW ?b5 ?b6 ?_))
    case b2 => exact HP.out.2.2.1
    case b3 => intro u hu; simp at hu; rcases hu with rfl | rfl <;> rfl
    case b5 => unfold maxLen; omega
    case b6 => omega
    intro g9 cap9 w9 hown9 hM9 hg9;obtain ⟨hput,-,-,hMb,hMy,hlw,hRX,hmb2,hszX⟩:=HP.out;obtain ⟨w10,e4,hM10,rv10,out10,n10,hT10,hn10,hU10⟩:=hput g9 cap9 w9 hown9 hM9 hg9;have hrbs:rb < w2.heap.size:=hT10.low rb BU;have hrm:rb ≠ mb:=fun h => hT10.mbl.2 (by simp [h])
    have hR10:=(((hRX.mods hMy BU).mods hMb (by simpa using hrm)).mods hM9 (fun hx => by
     have:=hlw rb BZ
     omega)).mods hM10 (by simpa using hrm)
    have hfin:JRel w2 mb rb kR ps2 (i + 1) w10:=⟨rv10,out10,n10,hT10,by have:=HT.out.2.1; omega,fun y => by
     rw [htk,List.filter_append];have e:([(Value.slice vo m c,pr)]:List PR).filter (fun p => (kR p.2).2 && decide ((kR p.2).1=y))=if kx1=y then [(.slice vo m c,pr)] else []:=by
      by_cases hy:kx1=y
      ·simp [hk,hy]
      ·simp [hk,hy]
     rw [e]
     exact hU10 _ hU y⟩
    have HF:=QH (AI hR10 hfin);clear hput hMb hMy hlw hRX hmb2 hszX hM10 hT10 hn10 hU10 hrbs hrm hR10 hfin hown9 hM9 hg9 htk hk hok hU e2 hxr hj hj0 hj1 hj2;exact yfT
  |guard_hyp gGo
   have hMa:Mods [] wA ((wA.alloc (.cells #[.bool false,.int .i64 0,.string ⟨#[]⟩,.bool false,.int .i64 0,.string ⟨#[]⟩,.bool false,.int .i64 0,.string ⟨#[]⟩,.bool false,.int .i64 0,.string ⟨#[]⟩,.bool false,.int .i64 0,.string ⟨#[]⟩,.bool false,.int .i64 0,.string ⟨#[]⟩,.bool false,.int .i64 0,.string ⟨#[]⟩,.bool false,.int .i64 0,.string ⟨#[]⟩] 125)).setRow wA.heap.size (zs5 kx1)):=((QM [] wA).alloc _).setRow (.inr (LR _)) _;have hxr:=zi (zs5 kx1) hxb;have HA:=QH (AI hMA (AI hRA (AI hMa hxr)));clear hMA hRA hMa hxr;go_upto_region 16 with (refine wpList_store_row rfl 125 (.tmp 15) (.tmp 95) rfl wA.heap.size (zs5 kx1) rfl rfl 125 _ hxb zs8 rfl (ztr kx1) ?_);obtain ⟨hMA,hRA,hMa,hxr⟩:=HA.out;clear hxb HA;generalize (wA.alloc (.cells #[.bool false,.int .i64 0,.string ⟨#[]⟩,.bool false,.int .i64 0,.string ⟨#[]⟩,.bool false,.int .i64 0,.string ⟨#[]⟩,.bool false,.int .i64 0,.string ⟨#[]⟩,.bool false,.int .i64 0,.string ⟨#[]⟩,.bool false,.int .i64 0,.string ⟨#[]⟩,.bool false,.int .i64 0,.string ⟨#[]⟩,.bool false,.int .i64 0,.string ⟨#[]⟩] 125)).setRow wA.heap.size (zs5 kx1)=wX at *;generalize wA.heap.size=xb at *;have hRX:=hRA.mods hMa BU;obtain ⟨hC,hRx,hMx,hVx,hok,hk,hfl,hlen,hm,hm1,hcap,hr'⟩:=HX.out;have hMxX:Mods [rb] wr wX:=hMA.trans hMa;have hrc:rb < wc.heap.size:=zj HR.out;have hCX:=hC.later hMxX (fun x hx => by simp at hx; omega);have hMcX:=hMx.trans hMxX (fun y hy => .inl hy);clear hC hRx hMx hMA hRA hMa hrc
   cases kb with
   | false =>
    have e:zs2 kL kR BT us2 pr=[]:=by unfold zs2; rw [hk]; rfl
    rw [e,List.append_nil] at hfl;have HF:=QH (AI hRX (AI hMcX (show RowsC wc wX u6 (((ps1.take (i + 1)).map (·.2)).flatMap (zs2 kL kR BT us2)) by rw [hfl]; exact hCX)));clear hRX hMcX hCX e hfl hlen hm hm1 hok hk hcap hr' hVx hxr hMxX;exact yfQ
   | true =>
    obtain ⟨ks,hks⟩:=EX ((ps2.filter fun p => (kR p.2).2 && decide ((kR p.2).1=kx1)));have hUk:=HT.out.2.1 kx1;rw [hks] at hUk;obtain ⟨qo,qc,hq⟩:=HT.out.1.read hok hUk;obtain ⟨kl,hkl⟩:=EX (ks.length);have hkl1:kl ≤ 1000:=by rw [← hkl,← hks]; exact Nat.le_trans (List.length_filter_le _ _) (by rw [HB.out.2.2.2.2.2.2.2.2.2.1]; exact hl2)
    have eL:=(hq wX (HT.out.1.later hMcX)).1;rw [hkl] at eL;unfold mapT at eL hq;have hu8 : Tryz.prog.underlying 125 = some (.array 8 35):=by kernel_rfl
    have HY:=QH (AI hRX (AI hCX (AI hMcX (AI hVx (AI hk (AI hfl (AI hlen (AI hm (AI hm1 (AI hcap (AI hr' (AI hks (AI hkl hq)))))))))))));clear hRX hCX hMcX hVx hk hfl hlen hm hm1 hcap hr' hks hkl hq hUk hok hMxX;go_upto_region 18 with (refine wpList_load_row rfl 125 (.tmp 15) rfl xb rfl 125 (zs5 kx1) (0,0) _ hxr hu8 rfl zs8 ?_);clear eL hxr;go_loopg [6,104] kl (fun gk t6 t104 wy => ∃ j:Nat,j + gk=kl ∧ t104 = .int .i64 j ∧ RunAt wy rb pb ∧ Mods [rb] wc wy ∧ RowsC wc wy t6 (done ++ ((ks.take j).map fun p => pr ++ p.2.drop 4).filter BT))
    case atStart => exact ⟨0,by omega,rfl,HY.out.1,HY.out.2.2.1,by simpa using HY.out.2.1⟩
    obtain ⟨j,hj,rfl,hRy,hMy,hCy⟩:=hrel;by_cases hltj:j < kl
    ·have hTy:=HT.out.1.later hMy;have hJ:=HH.out.2.1;obtain ⟨-,-,-,hVp,hk,-,hlen,hm,hm1,hcap,hr',hks,hkl,hq⟩:=HY.out;obtain ⟨g,rfl,hg,hgc⟩:=(hq wr hTy).2 (fun h0 => by rw [h0] at hkl; simp at hkl; omega);have hjl:j < ks.length:=by omega
     obtain ⟨hc0,hc1⟩:=hgc j hjl;have hmk:ks[j] ∈ ks:=List.getElem_mem hjl;have htk:ks.take (j + 1)=ks.take j ++ [ks[j]]:=List.take_succ_eq_append_getElem hjl;generalize ks[j]=q at *;obtain ⟨qu,qr⟩:=q;rw [← hks] at hmk;have hin:=(List.mem_filter.1 hmk).1;obtain ⟨ko,kc,hqu,hkcap,hVq⟩:=HB.out.2.2.2.1 _ hin;simp only at hqu hkcap hVq hc1;subst hqu;have hqm:qr ∈ (us.map (zs4 4)).filter BR:=by have:=HB.out.2.2.2.2.2.2.2.1;rw [← this];exact List.mem_map_of_mem (f:=(·.2)) hin
     obtain ⟨r2,hr2,rfl⟩:=List.mem_map.1 (List.mem_filter.1 hqm).1;have hr2l:=hJ.fu.2 r2 hr2;obtain ⟨m2,hm2⟩:=EX (r2.length);have hql:(zs4 4 r2).length=4 + m2:=by unfold zs4; rw [List.length_append,List.length_replicate,hm2]
     rw [hm2] at hr2l;rw [hql] at hc1 hkcap;have hM2y:Mods [mb,rb] w2 wr:=hTy.mods;obtain ⟨tb,vof,rfl,htb,hvs⟩:=(hVq.mods hM2y) (fun h0 => by rw [h0] at hql; simp at hql; omega);have hcv:=zpX hvs;have hap:zph (zs4 4 r2)=zph (List.replicate 4 zeroV0) ++ zph r2:=by unfold zs4 zph; rw [List.flatMap_append]
     have hcv2:∀ k u,(zph r2)[k]? = some u → wr.cell? ⟨tb,vof + 12 + k,none⟩ = some u:=fun k u hu => by
      have h:=hcv (12 + k) u (by
       rw [hap,List.getElem?_append_right (by rw [zpR,List.length_replicate]; omega),zpR,List.length_replicate];rw [show 12 + k - 4 * 3=k by omega]
       exact hu)
      rw [show vof + 12 + k=vof + (12 + k) by omega];exact h
     have hVr:=hVp.mods hM2y;have hMw:Mods [rb] w wr:=HT.out.2.2.1.trans hMy (fun y hy => .inl hy);have hrng:wr.rangeAt g (j * 2) [.slice none 0 0,.slice (some ⟨tb,vof,none⟩) (4 + m2) kc]:=fun k v hv => by
      have hk2:k=0 ∨ k=1:=by have:=(List.getElem?_eq_some_iff.1 hv).1;simp at this; omega
      rcases hk2 with rfl | rfl
      ·simp at hv; subst hv; exact hc0
      ·simp at hv; subst hv; exact hc1
     have hgb:g < wr.heap.size:=by have:=zD hc0; exact this
     have hgs:∀ k,u6.ownBlock=some k → k < wr.heap.size:=fun k hk => by obtain ⟨css',hrow',-⟩:=hCy.row;exact (hrow'.lt k hk).2
     have HQ:=QH (AI hTy (AI hVr (AI hMw (AI hcv2 (AI hr2 (AI htk (AI hRy (AI hMy (AI hCy (AI hm2 hgs))))))))));clear hTy hVr hMw hcv2 htk hRy hMy hCy hq hgc hc0 hc1 hmk hin hVq hqm hql hM2y htb hvs hcv hap hVp hks hkl hjl hk hlen hm hcap hr' hg hgb hJ hm2 hgs hr2;have hki:(Tryz.prog.info? 131).map (·.size)=some 2:=by kernel_rfl
     go_upto_region 20 with (refine wpList_load_mid rfl 131 (.tmp 106) rfl g (j * 2) rfl [.slice none 0 0,.slice (some ⟨tb,vof,none⟩) (4 + m2) kc] _ hrng Tryz.underlying131 rfl hki ?_);obtain ⟨hTy,hVr,hMw,hcv2,hr2,htk,hRy,hMy,hCy,hm2,hgs⟩:=HQ.out;have hJ:=HH.out.2.1;obtain ⟨-,-,-,-,hk,-,hlen,hm,hm1,hcap,hr',-,-,-⟩:=HY.out;have hM5:Mods [] wr (wr.alloc (.cells #[.slice none 0 0,.slice (some ⟨tb,vof,none⟩) (4 + m2) kc] 131)):=(QM [] wr).alloc _;have hxr:=QN wr (.cells #[.slice none 0 0,.slice (some ⟨tb,vof,none⟩) (4 + m2) kc] 131);generalize wr.alloc (.cells #[.slice none 0 0,.slice (some ⟨tb,vof,none⟩) (4 + m2) kc] 131)=w5 at *;have hs5:=hM5.size;have x0:=za hxr 0;have x1:=za hxr 1;change w5.cell? _=some (.slice none 0 0) at x0;change w5.cell? _=some (.slice (some ⟨tb,vof,none⟩) (4 + m2) kc) at x1;obtain ⟨xq,hxq⟩:=EX (wr.heap.size);rw [hxq] at x0 x1 hgs hs5 ⊢;have hR5:=hRy.mods hM5 BU;have r5:=za hR5 0;change w5.cell? _=some (zh pb) at r5;have hMw5:=hMw.trans hM5;have p51:=za (hMw5.heap hJ.plan CB) 1;have p54:=za (hMw5.heap hJ.plan CB) 4;change w5.cell? _=some (.int .i64 4) at p51;change w5.cell? _=some tv at p54;have hcl:=ztY w5.drew vo m c pr hm hm1 hcap ((hVr.mods (hM5.mono (L':=[mb,rb]))).weaken (L':=[]) BU);have hcv5:∀ k u,(zph r2)[k]? = some u → w5.cell? ⟨tb,vof + 12 + k,none⟩ = some u:=fun k u hu => hM5.cell (hcv2 k u hu);have hC5:=hCy.later hM5 BU;have hM5c:=hMy.trans hM5;have HS:=QH (AI hMw5 (AI hR5 (AI hC5 (AI hM5c (AI hcv5 (AI hs5 (AI hgs (AI hxq (AI x0 p54)))))))));have HQm:=QH hm2;have HQ2:=QH (AI hM5 (AI hr2 htk));clear hTy hVr hMw hcv2 hr2 htk hRy hMy hCy hm2 hgs hJ hk hlen hm hcap hr' hM5 hxr hxq hR5 hMw5 hcv5 hC5 hM5c hs5 x0 p54 hrng hki;apply zr BV [0,2,3,4,5,6,7,8,9,10,11] [(1,[]),(12,[13])] true BV (fun y => y.cell? ⟨xq,1,none⟩ = some (.slice (some ⟨tb,vof,none⟩) (4 + m2) kc) ∧ y.cell? ⟨rb,0,none⟩ = some (zh pb) ∧ y.cell? ⟨pb,1,none⟩ = some (.int .i64 4))
     case hC => exact ⟨x1,r5,p51⟩
     case hwalk =>rintro y ⟨y1,y0,y4⟩;unfold zh at y0;change wpQuiet _ _ _ _ [_,_,_,_,_,_,_,_,_,_,_] (Act.mk _ _);(repeat go_big_quiet_step (fail));refine QW ?_;exact rfl
     case hrun =>
      change zct _ _ _ _ _ [(_,[]),(_,[_])] _ _;refine zv fun R1 hR1 => ?_;go_wp2_with fail;(with_reducible refine hcl.mono ?_);rintro e w6 ⟨gc,cc,rfl,hM6,hg6,hown6⟩;clear hcl;go_wp2_with fail;refine zd ?_;refine hR1 _ w6 (.inr ⟨hM6.cell x1,hM6.cell r5,hM6.cell p51⟩) ?_;clear hR1 R1;refine zP fun R2 hR2 => ?_;obtain ⟨i0,hi0,hz0,hz1,hz2⟩:=info_parts zqG;have hcv6:∀ k u,(zph r2)[k]? = some u → w6.cell? ⟨tb,vof + 12 + k,none⟩ = some u:=fun k u hu => hM6.cell (HS.out.2.2.2.2.1 k u hu);have H6:=QH (AI hM6 (AI hown6 (AI hcv6 (AI hg6 (AI x1 (AI r5 p51))))));clear x1 r5 p51 hM6 hown6 hcv6 hg6;go_wp2_with (at_builtin; refine zw _ rfl _ _ 37 rfl 35 i0 _ 3 32 Tryz.underlying37 hi0 hz0 hz1 hz2 rfl BW (.slice (some ⟨gc,0,none⟩) m cc) m (zph pr) rfl H6.out.2.1 ⟨tb,vof + 12,none⟩ m2 (kc - 4) (zph r2) rfl ?a1 ?a2 ?a3 ?a4 ?a5 ?a6 ?_)
      case a1 => rw [zpR,(HQm).out]
      case a2 => exact H6.out.2.2.1
      case a3 => exact zqn r2
      case a5 => unfold maxLen; omega
      case a6 => omega
      intro g7 cap7 w7 hown7 hM7 hg7;obtain ⟨hM6,-,-,hg6,x1,r5,p51⟩:=H6.out;have hM7':Mods [gc] w6 w7:=hM7;have hg6':w5.heap.size ≤ gc:=hg6;have hs6:w5.heap.size ≤ w6.heap.size:=hM6.size;have hg7':w5.heap.size ≤ g7:=by
       rcases hg7 with h | h
       ·have:gc=g7:=by simpa [Value.ownBlock] using h
        omega
       ·omega
      have hM57:Mods [] w5 w7:=(((QM [] w5).drew).trans hM6).trans hM7' (fun x hx => .inr (by simp at hx; omega));have z0:=hM57.cell HS.out.2.2.2.2.2.2.2.2.1;have z1:=hM57.cell x1;have zr:=hM57.cell r5;have zp:=hM57.cell p51;have zt:=hM57.cell HS.out.2.2.2.2.2.2.2.2.2;have hmc:=(zar hown7).2.1;rw [show zph pr ++ zph r2=zph (pr ++ r2) by unfold zph; rw [List.flatMap_append]] at hown7;have H7:=QH (AI hM57 (AI hown7 (AI hg7' (AI hmc zt))));clear hM6 hg6 x1 r5 p51 hM7' hM7 hg6' hs6 hg7' hM57 hown7 hmc hg7 zt H6 hi0 hz0 hz1 hz2;go_wp2_with fail;refine zd ?_;apply hR2 _ w7 (.inr ⟨z1,zr,zp⟩)
      ·rintro y ⟨y1,y0,y4⟩;exact yfU
      clear hR2 R2 z1 zp;refine zI ?_;have heq:=ztW w7;have HZ:=QH zr;clear zr;go_wp2_with fail;(with_reducible refine heq.mono ?_);rintro e w8 ⟨rfl,hM8⟩;clear heq z0;have zr:=hM8.cell HZ.out;have zt:=hM8.cell H7.out.2.2.2.2;unfold zh at zr;have hMw8:=(HS.out.1.trans H7.out.1).trans hM8;have hR8:=(HS.out.2.1.mods H7.out.1 BU).mods hM8 BU;obtain ⟨-,hr2,htk⟩:=HQ2.out;have hr':=HY.out.2.2.2.2.2.2.2.2.2.2.1;have hm:=HY.out.2.2.2.2.2.2.2.1;have hrl:rb < w.heap.size:=HH.out.2.2.2.2.2.2.1;have hls:w.heap.size ≤ w5.heap.size:=HS.out.1.size;have hpl:(pr ++ r2).length=m + m2:=by rw [List.length_append,hm,HQm.out]
      have hval:∀ (W:World) (L:List Nat),Mods [rb] w8 W → g7 ∉ L → ValsIn W (some ⟨g7,0,none⟩) (pr ++ r2) L:=fun W L hW hL => by have h:=((zqe (L:=rb :: L) hpl H7.out.2.1 (by simp; exact ⟨by have:=H7.out.2.2.1; omega,hL⟩)).mods (hM8.mono)).mods (hW.mono (L':=rb :: L) BU);exact h.weaken (fun x hx => CM _ hx)
      have hhd:=HH.out.2.1.hT w8 hMw8 hR8 (.slice (some ⟨g7,0,none⟩) (m + m2) cap7) pr r2 hr' hr2 ⟨_,cap7,by rw [hpl],by rw [hpl]; exact H7.out.2.2.2.1,hval w8 [rb] (QM _ _) (by simp; have:=H7.out.2.2.1; omega)⟩;unfold ztn zh at hhd;have hfl2:done ++ ((ks.take (j + 1)).map fun p => pr ++ p.2.drop 4).filter BT=(done ++ ((ks.take j).map fun p => pr ++ p.2.drop 4).filter BT) ++ (if BT (pr ++ r2)=true then [pr ++ r2] else []):=by
       rw [htk,List.map_append,List.filter_append,List.append_assoc];congr 2;simp only [List.map_cons,List.map_nil,ztT];by_cases hb:BT (pr ++ r2)=true
       ·simp [hb]
       ·simp [hb]
      obtain ⟨D,hD⟩:=EX (BT (pr ++ r2));rw [hD] at hhd hfl2;have H8:=QH (AI hM8 (AI hval (AI hfl2 (AI hpl (AI hrl hls)))));clear hM8 hval hfl2 hpl hrl hls hMw8 hR8 hr2 htk hr' hm hD;go_wp2_with fail;(with_reducible refine hhd.mono ?_);rintro e w9 ⟨rfl,hM9,hR9⟩;clear hhd zr zt;obtain ⟨hM8,hval,hfl2,hpl,hrl,hls⟩:=H8.out;obtain ⟨-,-,hC5,hM5c,-,hs5,hgs,hxq,-,-⟩:=HS.out;have hrc:rb < wc.heap.size:=zj HR.out;have hC9:=((hC5.later H7.out.1 BU).later hM8 BU).later hM9 (fun x hx => by simp at hx; omega);have hMc9:=((hM5c.trans H7.out.1).trans hM8).trans hM9 (fun y hy => .inl hy);have hc5:wc.heap.size ≤ w5.heap.size:=hM5c.size;have hg7:=H7.out.2.2.1;clear hC5 hM5c hM8
      cases D with
      | false =>rw [if_neg BW,List.append_nil] at hfl2;have HF:=QH (AI hR9 (AI hMc9 (show RowsC wc w9 u6 (done ++ ((ks.take (j + 1)).map fun p => pr ++ p.2.drop 4).filter BT) by rw [hfl2]; exact hC9)));clear hR9 hMc9 hC9 hfl2 hval hpl hrl hls hs5 hgs hxq hrc hc5 hg7 hM9;exact yfR
      | true =>
       rw [if_pos rfl] at hfl2;obtain ⟨j0,hj1,hj2,hj3,hj4⟩:=info_parts (show (Tryz.prog.info? 37).map (fun i => (i.zero,i.size,i.bytes))=some (some (.slice none 0 0),1,24) by kernel_rfl);have hMl:=(QM [] w9).alloc (.cells #[.slice (some ⟨g7,0,none⟩) (m + m2) cap7] 37);have hC10:=hC9.later hMl BU;obtain ⟨css,hrow,hall⟩:=hC10.row;have hr:∀ L:List Nat,(∀ x ∈ L,x < wc.heap.size ∨ u6.ownBlock=some x) → RowR (w9.alloc (.cells #[.slice (some ⟨g7,0,none⟩) (m + m2) cap7] 37)) L [.slice (some ⟨g7,0,none⟩) (m + m2) cap7] (pr ++ r2):=fun L hL => by
        have hgL:g7 ∉ L:=fun hx => by
         rcases hL g7 hx with h | h
         ·omega
         ·have:=hgs g7 h;omega
        refine ⟨some ⟨g7,0,none⟩,cap7,by rw [hpl],by rw [hpl]; exact H7.out.2.2.2.1,?_⟩;exact (hval w9 L hM9 hgL).mods (hMl.mono)
       have hlit2:=zdy w9 #[.slice (some ⟨g7,0,none⟩) (m + m2) cap7] 37;obtain ⟨q,hq⟩:=EX ((done ++ ((ks.take j).map fun p => pr ++ p.2.drop 4).filter BT).length);have hqb:q ≤ 1000 * 1000 + 1000:=by rw [← hq,List.length_append];have h1:=HY.out.2.2.2.2.2.2.1;have h2:=List.length_filter_le BT ((ks.take j).map fun p => pr ++ p.2.drop 4);rw [List.length_map,List.length_take] at h2;omega
       rw [hq] at hrow;have hR10:=hR9.mods hMl BU;have HW:=QH (AI hC10 (AI hrow (AI hall (AI hr (AI hlit2 (AI (hMc9.trans hMl) (AI hq (AI hR10 (AI hfl2 hrc)))))))));clear hR9 hMc9 hC9 hfl2 hval hpl hrl hls hs5 hgs hxq hrc hc5 hg7 hM9 hMl hC10 hrow hall hr hlit2 hq hR10;go_wp2_with (at_builtin; refine zw _ rfl _ _ 24 rfl 37 j0 _ 1 24 Tryz.underlying24 hj1 hj2 hj3 hj4 rfl BW u6 q css.flatten rfl HW.out.2.1 ⟨w9.heap.size,0,none⟩ 1 1 [.slice (some ⟨g7,0,none⟩) (m + m2) cap7] rfl rfl ?b2 ?b3 BW ?b5 ?b6 ?_)
       case b2 => exact HW.out.2.2.2.2.1
       case b3 => intro u hu; simp at hu; subst hu; rfl
       case b5 => unfold maxLen; omega
       case b6 => omega
       intro ga capa wA9 howna hMA9 hga;have hnew:=HW.out.1.push (by rw [HW.out.2.2.2.2.2.2.1]; exact HW.out.2.1) HW.out.2.2.1 HW.out.2.2.2.1 HW.out.2.2.2.2.2.2.1 howna hMA9 (by rw [zl]; exact hga);have hM99:Mods [rb] wc wA9:=HW.out.2.2.2.2.2.1.trans hMA9 (fun x hx => .inr (HW.out.1.own x BZ))
       have hR99:=HW.out.2.2.2.2.2.2.2.1.mods hMA9 (fun hx => by
        have:=HW.out.1.own rb BZ;have:=HW.out.2.2.2.2.2.2.2.2.2
        omega)
       rw [← HW.out.2.2.2.2.2.2.2.2.1] at hnew;have HF:=QH (AI hR99 (AI hM99 hnew));clear hnew hM99 hR99 howna hMA9 hga hj1 hj2 hj3 hj4 hqb;exact yfR
    ·obtain rfl:kl=j:=by omega
     obtain ⟨-,-,-,-,hk,hfl,-,-,-,-,-,hks,hkl,-⟩:=HY.out;have hp2:=HB.out.2.2.2.2.2.2.2.1;rw [HT.out.2.2.2.2.1] at hp2;have hone:(ks.map fun p => pr ++ p.2.drop 4).filter BT=zs2 kL kR BT us2 pr:=by unfold zs2;rw [hk,if_pos rfl,← hp2,← hks];congr 1;exact ztw (fun u => (kR u).2 && decide ((kR u).1=kx1)) (fun u => pr ++ u.drop 4) ps2
     rw [List.take_of_length_le (by rw [hkl]; exact LR _),hone,← hfl] at hCy;have HF:=QH (AI hRy (AI hMy hCy));clear hRy hMy hCy hone hp2 hk hfl hks hkl;exact yfQ
 ):p:=h
theorem yfQ {p:Prop} (h:p:=by
  go_wp2_with fail;go_roundg (k1 - (i + 1))
  case measure => omega
  case rel => exact ⟨i + 1,by omega,by go_num,HF.out.1,HF.out.2.1,HF.out.2.2⟩
 ):p:=h
theorem yfR {p:Prop} (h:p:=by
  go_wp2_with fail;go_roundg (kl - (j + 1))
  case measure => omega
  case rel => exact ⟨j + 1,by omega,by go_num,HF.out.1,HF.out.2.1,HF.out.2.2⟩
 ):p:=h
theorem yfT {p:Prop} (h:p:=by
  go_wp2_with fail;go_roundg (k2 - (i + 1))
  case measure => omega
  case rel => exact ⟨i + 1,by omega,by go_num,HF.out.1,HF.out.2⟩
 ):p:=h
theorem yfU {p:Prop} (h:p:=by
  change wpQuiet _ _ _ _ [_] (Act.mk _ _);(repeat go_big_quiet_step (fail));refine QW ?_;exact rfl
 ):p:=h
open Go.Maps
def KeyR2 (w:World) (rb pb:Nat) (k:V × Bool) (e:Ending) (w':World):Prop:=e = .returned (.tuple #[.agg (zs5 k.1),.slice none 0 0,.bool k.2]) ∧ Mods [rb] w w' ∧ RunAt w' rb pb
def ztn (w:World) (rb pb:Nat) (b:Bool) (e:Ending) (w':World):Prop:=e = .returned (.bool b) ∧ Mods [rb] w w' ∧ RunAt w' rb pb
structure JoinFit (w:World) (rb pb cb:Nat) (lv rv tv kv:Value) (ls us:List (List V)) (BL BR BT:List V → Bool) (kL kR:List V → V × Bool):Prop where
 run:RunAt w rb pb
 plan:w.heap[pb]? = some (.cells #[zh cb,.int .i64 4,lv,rv,tv,kv] 49 (0,0))
 pne:pb ≠ rb
 cne:cb ≠ rb
 q:∃ right:Int,w.cell? ⟨cb,1,none⟩ = some (.int .i64 right) ∧ right ≠ -1
 fl:zpp ls
 fu:zpp us
 hL:∀ W,Mods [rb] w W → RunAt W rb pb → ∀ u r,r ∈ ls → RowU W [rb] u (zs4 0 r) → Calls Tryz.prog 41 #[zh rb,lv,u] W (ztn W rb pb (BL (zs4 0 r)))
 hR:∀ W,Mods [rb] w W → RunAt W rb pb → ∀ u r,r ∈ us → RowU W [rb] u (zs4 4 r) → Calls Tryz.prog 41 #[zh rb,rv,u] W (ztn W rb pb (BR (zs4 4 r)))
 hT:∀ W,Mods [rb] w W → RunAt W rb pb → ∀ u r x,r ∈ ls → x ∈ us → RowU W [rb] u (r ++ x) → Calls Tryz.prog 41 #[zh rb,tv,u] W (ztn W rb pb (BT (r ++ x)))
 keyR:∀ W,Mods [rb] w W → RunAt W rb pb → ∀ u r,r ∈ us → RowU W [rb] u (zs4 4 r) → Calls Tryz.prog 36 #[zh rb,u,.func (.func 37) #[] #[]] W (KeyR2 W rb pb (kR (zs4 4 r)))
 keyL:∀ W,Mods [rb] w W → RunAt W rb pb → ∀ u r,r ∈ ls → RowU W [rb] u r → Calls Tryz.prog 36 #[zh rb,u,.func (.func 38) #[] #[]] W (KeyR2 W rb pb (kL r))
 oR:∀ r ∈ us,okV (kR (zs4 4 r)).1
 oL:∀ r ∈ ls,okV (kL r).1
def JRel (w2:World) (mb rb:Nat) (kR:List V → V × Bool) (ps:List PR) (i:Nat) (wr:World):Prop:=
 ∃ rv out n,TB [rb] w2 wr mb rv out n ∧ n ≤ i ∧ ∀ y,Under out n y ((ps.take i).filter fun p => (kR p.2).2 && decide ((kR p.2).1=y))
theorem ztw (c:List V → Bool) (f:List V → List V):∀ l:List PR,(l.filter fun p => c p.2).map (fun p => f p.2)=((l.map (·.2)).filter c).map f
 | [] => rfl
 | x :: xs => by
  have ih:=ztw c f xs;simp only [List.map_cons,List.filter_cons];by_cases h:c x.2=true
  ·rw [if_pos h,if_pos h,List.map_cons,List.map_cons,ih]
  ·rw [if_neg h,if_neg h,ih]
theorem ztT (a:Nat) (r:List V):(zs4 a r).drop a=r:=by unfold zs4; rw [List.drop_append_of_le_length BU]; simp
set_option maxRecDepth 100000 in
set_option maxHeartbeats 16000000 in
theorem zmK (w:World) (rb pb cb:Nat) (lv rv tv kv:Value) (ls us:List (List V)) (BL BR BT:List V → Bool) (kL kR:List V → V × Bool) (hJ:JoinFit w rb pb cb lv rv tv kv ls us BL BR BT kL kR)
  (ao bo:Option Addr) (cap1 cap2 n1 n2:Nat) (hn1:ls.length=n1) (hn2:us.length=n2) (hI1:RowsIn w ao ls [rb]) (hI2:RowsIn w bo us [rb]) :
  Calls Tryz.prog 20 #[zh rb,.slice ao n1 cap1,.slice bo n2 cap2] w (FiltG w rb pb (joinP kL kR BT (ls.filter BL) ((us.map (zs4 4)).filter BR))):=by
 obtain ⟨PP,hPP⟩:=EX (FiltG w rb pb (joinP kL kR BT (ls.filter BL) ((us.map (zs4 4)).filter BR)));rw [hPP];obtain ⟨right,hq,hrt⟩:=hJ.q;have hrl:=zj hJ.run;have hpl:=zj hJ.plan;have hf1:=ztC w rb pb hJ.run ao cap1 lv ls n1 hn1 hI1 hJ.fl 0 BS BL (fun W hW hR u r hr hu => hJ.hL W hW hR u r hr hu);have hmp:ls.map (zs4 0)=ls:=by
  have:zs4 0=id:=by funext r; rfl
  rw [this,List.map_id]
 rw [hmp] at hf1;have r0:=za hJ.run 0;have p0:=za hJ.plan 0;have p2:=za hJ.plan 2;change w.cell? _=some (zh pb) at r0;change w.cell? _=some (zh cb) at p0;change w.cell? _=some lv at p2;have hne:=(beq_eq_false_iff_ne.2 hrt:(right == (-1:Int))=false);have HH:=QH (AI hPP (AI hJ (AI hn1 (AI hn2 (AI hI2 (AI hq (AI hrl hpl)))))));clear hPP hJ hn1 hn2 hI1 hI2 hrl hpl hmp;unfold zh at *;change Calls _ _ #[_,_,.int .i64 0,lv] _ _ at hf1;go_enter Tryz.func20, Tryz.ntmps20;go_wp2_with fail;(with_reducible refine hf1.mono ?_);rintro e w1 ⟨t1,rfl,hM1,hR1,hC1⟩;clear hf1;have r1:=za hR1 0;have p1:=hM1.cell p0 (by simpa using HH.out.2.1.pne);have q1:=hM1.cell hq (by simpa using HH.out.2.1.cne);change w1.cell? _=some (zh pb) at r1;unfold zh at r1;have H1:=QH (AI hM1 (AI hR1 hC1));clear r0 p0 p2 hq hM1 hR1 hC1;go_upto_region 4 with fail;have hJ:=HH.out.2.1;have hb:=QN w1 (.map #[] 0);have hMa:Mods [] w1 (w1.alloc (.map #[] 0)).drew:=((QM [] w1).alloc (.map #[] 0)).drew;have hba:(w1.alloc (.map #[] 0)).drew.heap[w1.heap.size]? = some (.map #[] 0):=hb;have r1a:=hMa.cell r1;have p1a:=hMa.heap (H1.out.1.heap hJ.plan CB);have pc1:=za p1a 1;have pc3:=za p1a 3;change World.cell? _ _=some (.int .i64 4) at pc1;change World.cell? _ _=some rv at pc3;have hRa:=H1.out.2.1.mods hMa BU;have hMwa:=H1.out.1.trans hMa;have hf2:=ztC (w1.alloc (.map #[] 0)).drew rb pb hRa bo cap2 rv us n2 HH.out.2.2.2.1 (HH.out.2.2.2.2.1.mods hMwa) hJ.fu 4 BS BR (fun W hW hR u r hr hu => hJ.hR W (hMwa.trans hW (fun y hy => .inl hy)) hR u r hr hu);change Calls _ _ #[.pointer (some ⟨rb,0,none⟩),_,.int .i64 4,rv] _ _ at hf2;have HA:=QH (AI hMwa (AI hMa (AI hba (by rw [zl]:(w1.alloc (.map #[] 0)).heap.size=w1.heap.size + 1))));clear hJ hb hMa hba hRa hMwa p1 q1;have hmm:=@run_makeMap Tryz.prog;go_upto_region 5 with fail;clear hmm;change World.cell? (w1.alloc (.map #[] 0)) _=_ at r1a;change World.cell? (w1.alloc (.map #[] 0)) _=_ at pc1;change World.cell? (w1.alloc (.map #[] 0)) _=_ at pc3;obtain ⟨wa,hwa⟩:=EX (w1.alloc (.map #[] 0));rw [hwa] at HA r1a pc1 pc3 hf2 p1a ⊢;clear hwa;obtain ⟨mb,hmb⟩:=EX (w1.heap.size);rw [hmb] at HA ⊢;apply zr BV [0,1,2,3,4,5,6,7,8,9,10,11,12,13,14,15,18] [(16,[17])] true BV (fun y => y.cell? ⟨rb,0,none⟩ = some (zh pb) ∧ y.cell? ⟨pb,1,none⟩ = some (.int .i64 4) ∧ y.cell? ⟨pb,3,none⟩ = some rv)
 case hC => exact ⟨r1a,pc1,pc3⟩
 case hwalk =>rintro y ⟨y0,y1,y3⟩;unfold zh at y0;change wpQuiet _ _ _ _ [_,_,_,_,_,_,_,_,_,_,_,_,_,_,_,_,_] (Act.mk _ _);(repeat go_big_quiet_step (fail));refine QW ?_;exact rfl
 case hrun =>
  change zct _ _ _ _ _ [(_,[_])] _ _;refine zP fun R1 hR1 => ?_;go_wp2_with fail;(with_reducible refine hf2.mono ?_);rintro e w2 ⟨t2,rfl,hM2,hR2,hC2⟩;clear hf2;have hJ:=HH.out.2.1;obtain ⟨hMwa,hMa,hba,hsz⟩:=HA.out;have hs1:=H1.out.1.size;have hrl:=HH.out.2.2.2.2.2.2.1;have hpl:=HH.out.2.2.2.2.2.2.2;have hdr:wa.drew.heap.size=wa.heap.size:=rfl;obtain ⟨bo2,bc2,rfl,hbc2,hI2⟩:=hC2.read (L:=[mb,rb]) (fun x hx => .inl (by simp at hx; rcases hx with rfl | rfl <;> omega));obtain ⟨ao2,ac2,rfl,hac2,hI1⟩:=H1.out.2.2.read (L:=[mb,rb]) (fun x hx => by simp at hx; rcases hx with rfl | rfl <;> omega);have hMa2:Mods [mb,rb] w1 w2:=(hMa.mono (L':=[mb,rb])).trans hM2 (fun y hy => .inl (by simp at hy; simp [hy]));obtain ⟨ps1,hp1,hu1,hc1⟩:=zsG (hI1.mods hMa2);obtain ⟨ps2,hp2,hu2,hc2⟩:=zsG hI2;have hb2:=hM2.heap hba BY;have hTB:=TB.start w2 hb2 (L:=[rb]) (by simp; have:=hM2.size; omega) BY;have hMw2:Mods [rb] w w2:=hMwa.trans hM2 (fun y hy => .inl hy);have z0:=za hR2 0;have z1:=hM2.cell pc1 CB;have z3:=hM2.cell pc3 CB;change w2.cell? _=some (zh pb) at z0;obtain ⟨k1,hk1⟩:=EX ((ls.filter BL).length);obtain ⟨k2,hk2⟩:=EX (((us.map (zs4 4)).filter BR).length);rw [hk1] at hac2 ⊢;rw [hk2] at hbc2 ⊢;have hk1':ps1.length=k1:=by rw [← hk1,← hp1,List.length_map]
  have hk2':ps2.length=k2:=by rw [← hk2,← hp2,List.length_map]
  have hl1:k1 ≤ 1000:=by rw [← hk1]; exact Nat.le_trans (List.length_filter_le _ _) hJ.fl.1
  have hl2:k2 ≤ 1000:=by rw [← hk2]; exact Nat.le_trans (List.length_filter_le _ _) (by rw [List.length_map]; exact hJ.fu.1)
  have HB:=QH (AI hTB (AI hMw2 (AI hu1 (AI hu2 (AI hc1 (AI hc2 (AI hp1 (AI hp2 (AI hk1' (AI hk2' hR2))))))))));clear hMwa hMa hba hsz hs1 hrl hpl hdr hC2 hI2 hI1 hMa2 hu1 hu2 hc1 hc2 hp1 hp2 hb2 hTB hMw2 hk1 hk2 hk1' hk2' hM2 hR2 HA hJ p1a pc1 pc3 r1a r1;go_wp2_with fail;refine zd ?_;apply hR1 _ w2 (.inr ⟨z0,z1,z3⟩)
  ·rintro y ⟨y0,y1,y3⟩;exact yfU
  clear hR1 R1 z0 z1 z3;refine zI ?_;go_upto_region 6 with fail;go_loopg [62] k2 (fun gk t62 wr => ∃ i:Nat,i + gk=k2 ∧ t62 = .int .i64 i ∧ RunAt wr rb pb ∧ JRel w2 mb rb kR ps2 i wr)
  case atStart => exact ⟨0,by omega,rfl,HB.out.2.2.2.2.2.2.2.2.2.2,_,_,_,HB.out.1,LR _,fun y => by rw [List.take_zero]; exact ztZ y⟩
  obtain ⟨i,hi,rfl,hRr,hRel⟩:=hrel;by_cases hlt:i < k2
  ·have hJ:=HH.out.2.1;obtain ⟨-,hMw2,-,hu2,-,hc2,-,hp2,-,hk2,-⟩:=HB.out;have hil:i < ps2.length:=by rw [hk2]; exact hlt
   obtain ⟨b,off,rfl,hbn,hcs⟩:=hc2 (fun h0 => by rw [h0] at hp2; simp at hp2; rw [hp2] at hil; simp at hil);have hcell:=hcs i hil;have hup:=hu2 ps2[i] (List.getElem_mem hil);have hmem:ps2[i].2 ∈ (us.map (zs4 4)).filter BR:=by rw [← hp2]; exact List.mem_map_of_mem (List.getElem_mem hil)
   have htk:ps2.take (i + 1)=ps2.take i ++ [ps2[i]]:=List.take_succ_eq_append_getElem hil;generalize ps2[i]=p at *;obtain ⟨pu,pr⟩:=p;simp only at hcell hup hmem;obtain ⟨vo,c,rfl,hcap,hV⟩:=hup;obtain ⟨m,hm⟩:=EX (pr.length);rw [hm] at hcell hcap htk;obtain ⟨r',hr',hre⟩:=List.mem_map.1 (List.mem_filter.1 hmem).1;obtain ⟨rv9,out,n,hT,hni,hU⟩:=hRel;have hwm:w.heap.size ≤ mb:=by rw [← hmb]; exact H1.out.1.size
   have hMwr:Mods [rb] w wr:=hMw2.trans hT.mods (fun y hy => by
    simp at hy;rcases hy with rfl | rfl
    ·exact .inr hwm
    ·exact .inl BU)
   have hub:RowU wr [rb] (.slice vo m c) (zs4 4 r'):=by rw [hre];exact ⟨vo,c,by rw [hm],by rw [hm]; exact hcap,(hV.mods hT.mods).weaken BU⟩
   have hky:=hJ.keyR wr hMwr hRr _ r' hr' hub;have hok:=hJ.oR r' hr';rw [hre] at hky hok;replace hcell:=hT.mods.cell hcell (by simpa using hbn);obtain ⟨⟨kx1,kb⟩,hk⟩ : ∃ k,kR pr=k:=⟨_,rfl⟩;rw [hk] at hky hok;unfold KeyR2 at hky;unfold zh at hky;have hlen:∀ j,j < n → (rxs out j).length ≤ i:=fun j hj => by rw [(hU (kx out j)).1 j hj rfl];refine Nat.le_trans (List.length_filter_le _ _) ?_;rw [List.length_take]; omega
   have HT:=QH (AI hT (AI hni (AI hU (AI hRr (AI htk (AI hok (AI hk (AI hlen hm))))))));clear hT hni hU hRr htk hok hk hlen hm hJ hMw2 hu2 hc2 hp2 hk2 hcs hV hcap hub hMwr hwm hr' hre hmem hbn hil;have gGn:=QH trivial;exact yfX
  ·obtain rfl:k2=i:=by omega
   have hJ:=HH.out.2.1;obtain ⟨rv9,out,n,hT,-,hU⟩:=hRel;rw [List.take_of_length_le (by rw [HB.out.2.2.2.2.2.2.2.2.2.1]; exact LR _)] at hU;have hwm:w.heap.size ≤ mb:=by rw [← hmb]; exact H1.out.1.size
   have hMwr:Mods [rb] w wr:=HB.out.2.1.trans hT.mods (fun y hy => by
    simp at hy;rcases hy with rfl | rfl
    ·exact .inr hwm
    ·exact .inl BU)
   obtain ⟨us2,hus2⟩:=EX ((us.map (zs4 4)).filter BR);have hPP:=HH.out.1;rw [hus2] at hPP;have hul:us2.length ≤ 1000:=by rw [← hus2]; exact Nat.le_trans (List.length_filter_le _ _) (by rw [List.length_map]; exact hJ.fu.1)
   have HT:=QH (AI hT (AI hU (AI hMwr (AI hPP (AI hus2 hul)))));have HR:=QH hRr;clear hT hU hwm hMwr hPP hus2 hul hRr hJ;generalize wr=wc at *;go_upto_region 13 with fail;go_loopg [6,87] k1 (fun gk t6 t87 wx => ∃ i:Nat,i + gk=k1 ∧ t87 = .int .i64 i ∧ RunAt wx rb pb ∧ Mods [rb] wc wx ∧ RowsC wc wx t6 (((ps1.take i).map (·.2)).flatMap (zs2 kL kR BT us2)))
   case atStart => exact ⟨0,by omega,rfl,HR.out,QM _ _,RowsC.start wc⟩
   obtain ⟨i,hi,rfl,hRx,hMx,hC⟩:=hrel;by_cases hlt:i < k1
   ·have hJ:=HH.out.2.1;obtain ⟨-,hMw2,hu1,-,hc1,-,hp1,-,hk1,-,-⟩:=HB.out;have hil:i < ps1.length:=by rw [hk1]; exact hlt
    obtain ⟨b,off,rfl,hbn,hcs⟩:=hc1 (fun h0 => by rw [h0] at hp1; simp at hp1; rw [hp1] at hil; simp at hil);have hcell:=hcs i hil;have hup:=hu1 ps1[i] (List.getElem_mem hil);have hmem:ps1[i].2 ∈ ls.filter BL:=by rw [← hp1]; exact List.mem_map_of_mem (List.getElem_mem hil)
    have htk:ps1.take (i + 1)=ps1.take i ++ [ps1[i]]:=List.take_succ_eq_append_getElem hil;generalize ps1[i]=p at *;obtain ⟨pu,pr⟩:=p;simp only at hcell hup hmem;obtain ⟨vo,c,rfl,hcap,hV⟩:=hup;obtain ⟨m,hm⟩:=EX (pr.length);rw [hm] at hcell hcap htk;have hr':pr ∈ ls:=(List.mem_filter.1 hmem).1;obtain ⟨hT,hU,hMwc,-,-,hul⟩:=HT.out;have hMwx:Mods [rb] w wr:=hMwc.trans hMx (fun y hy => .inl hy);have hM2x:Mods [mb,rb] w2 wr:=hT.mods.trans hMx (fun y hy => .inl (CM _ hy));have hVx:=hV.mods hM2x;have hub:RowU wr [rb] (.slice vo m c) pr:=⟨vo,c,by rw [hm],by rw [hm]; exact hcap,hVx.weaken BU⟩;have hky:=hJ.keyL wr hMwx hRx _ pr hr' hub;have hok:=hJ.oL pr hr';replace hcell:=hM2x.cell hcell (by simpa using hbn);obtain ⟨⟨kx1,kb⟩,hk⟩ : ∃ k,kL pr=k:=⟨_,rfl⟩;rw [hk] at hky hok;unfold KeyR2 at hky;unfold zh at hky;have hfl:((ps1.take (i + 1)).map (·.2)).flatMap (zs2 kL kR BT us2)=((ps1.take i).map (·.2)).flatMap (zs2 kL kR BT us2) ++ zs2 kL kR BT us2 pr:=by rw [htk,List.map_append,List.flatMap_append];simp
    have hlen:(((ps1.take i).map (·.2)).flatMap (zs2 kL kR BT us2)).length ≤ 1000 * 1000:=by refine Nat.le_trans (ztq kL kR BT us2 hul _) ?_;rw [List.length_map,List.length_take];omega
    have hm1:=hJ.fl.2 pr hr';rw [hm] at hm1;obtain ⟨done,hdone⟩:=EX (((ps1.take i).map (·.2)).flatMap (zs2 kL kR BT us2));rw [hdone] at hC hfl hlen;have HX:=QH (AI hC (AI hRx (AI hMx (AI hV (AI hok (AI hk (AI hfl (AI hlen (AI hm (AI hm1 (AI hcap hr')))))))))));clear hC hRx hMx hVx hok hk hfl hlen hm hm1 hcap hr' hJ hMw2 hu1 hc1 hp1 hk1 hcs hV hub hMwx hM2x hmem hbn hil htk hdone hT hU hMwc hul;have gGo:=QH trivial;exact yfX
   ·obtain rfl:k1=i:=by omega
    have hk1:=HB.out.2.2.2.2.2.2.2.2.1;rw [List.take_of_length_le (by rw [hk1]; exact LR _),HB.out.2.2.2.2.2.2.1] at hC;have hfin:PP (.returned u6) wr:=by rw [← HT.out.2.2.2.1];exact ⟨_,rfl,HT.out.2.2.1.trans hMx (fun y hy => .inl hy),hRx,hC.baseJ HT.out.2.2.1.size⟩
    have HFIN:=QH hfin;clear hfin hC hMx hRx hk1;go_wp2_with fail;exact HFIN.out
end Go.Proofs.YtcabeljiobiojaaGreatDoor
