/-
  The runner's items of a query with groups, walked: columns of a group's first row, how many there are, the least and the greatest. No condition.
-/
import Derived.Test.YtcabeljiobiojaaGreatDoorQ45
set_option linter.unusedVariables false
set_option maxRecDepth 100000
set_option maxHeartbeats 8000000
namespace Go.Proofs.YtcabeljiobiojaaGreatDoor
open Go.RowKit
theorem yfw {p:Prop} (h:p:=by
  rcases List.mem_append.1 hx with hx | hx
  ·have:=hz x hx; omega
  ·obtain rfl:x=y:=by simpa using hx
   omega
 ):p:=h
theorem yfz {p:Prop} (h:p:=by
  go_roundg (mi - (k + 1))
  case measure => omega
  case rel => exact ⟨k + 1,by omega,by go_num,HJ.out.2.2,HJ.out.2.1,by rw [HI.out.2.2.2]; exact HJ.out.1⟩
 ):p:=h
theorem yfA {p:Prop} (h:p:=by
  rw [hq] at ha;obtain rfl:=zsd _ _ hq;have ha:some y=some a:=ha;obtain rfl:y=a:=Option.some.inj ha;obtain rfl:x=y:=by simpa using hx
  exact Int.le_refl _
 ):p:=h
def aggV (g:List PR):NT → V
 | .leaf h => if h.op=oColumn then (zr4 g).getD h.col zeroV0 else intV g.length
 | .un h a => outI (mmI (decide (h.op=oMax)) (g.map (keyI a.hd.col)))
 | .bin h a b => zeroV0
def outG (items:List NT) (g:List PR):List V:=items.map (aggV g)
def itemG (m:Nat) (K:Nat → Prop) (n:NT):Prop:=
 (∃ h,n = .leaf h ∧ h.op=oColumn ∧ h.col < m) ∨ (∃ h,n = .leaf h ∧ h.op=oAll) ∨ (∃ mx h h2,n = .un h (.leaf h2) ∧ h.op=opMM mx ∧ h.t=tyInt ∧ h2.op=oColumn ∧ h2.col < m ∧ K h2.col)
theorem zsQ (mx:Bool):decide (opMM mx=oMax)=mx:=by cases mx <;> decide
theorem zsR (mx:Bool):¬ opMM mx=oColumn:=by cases mx <;> decide
theorem zsU (w:World) (rb pb nb gb b cap n m:Nat) (K:Nat → Prop) (hR:RunAt w rb pb) (t:NT) (hN:NAt w [rb] (zh nb) t) (hit:itemG m K t) (hnc:¬ t.hd.op=oColumn) (g:List PR) (hn:g.length=n) (hn1:n ≤ 1000)
  (hg:w.cell? ⟨gb,0,none⟩ = some (.slice (some ⟨b,0,none⟩) n cap)) (hcs:∀ j (hj:j < g.length),w.cell? ⟨b,j,none⟩ = some g[j].1) (hbr:b ≠ rb) (hgr:gb ≠ rb) (hF:∀ p ∈ g,RowU w [rb] p.1 p.2 ∧ p.2.length=m) (hK:∀ p ∈ g,∀ k,K k → IntAt k p.2) :
  Calls Tryz.prog 44 #[zh rb,zh nb,zh gb] w fun e w' => e = .returned (valA (aggV g t)) ∧ Mods [rb] w w' ∧ RunAt w' rb pb:=by
 rcases hit with ⟨h,rfl,h1,-⟩ | ⟨h,rfl,h1⟩ | ⟨mx,h,h2,rfl,h1,h3,h4,h5,h6⟩
 ·exact absurd h1 hnc
 ·refine (zsT w rb nb gb h [rb] hN h1 _ n cap hg).mono fun e w' hh => ⟨?_,hh.2.mono,hR.mods hh.2 AB⟩;rw [hh.1];show _=Ending.returned (valA (if h.op=oColumn then _ else intV (g.length:Nat)));rw [if_neg (show ¬ h.op=oColumn from hnc),hn]
 ·refine (zsY w rb pb nb gb b cap n m h2.col hR h h2 hN mx h1 h3 h4 rfl h5 g hn hn1 hg hcs hbr hgr (fun p hp => ⟨hF p hp,hK p hp _ h6⟩)).mono fun e w' hh => ⟨?_,hh.2⟩;rw [hh.1];show _=Ending.returned (valA (outI (mmI (decide (h.op=oMax)) (g.map (keyI h2.col)))));rw [h1,zsQ]
def putR (gs:List Nat) (out:List (List (List V))) (r:List V):List (List (List V)):=
 let k:=firstN (out.map fun g => !zr1 gs (g.getD 0 []) r);let o:=if k < out.length then out else out ++ [[]]
 o.set k (o.getD k [] ++ [r])
def zrU (gs:List Nat) (rs:List (List V)):List (List (List V)):=rs.foldl (putR gs) []
theorem zr0 (gs:List Nat) (rs:List (List V)) (r:List V):zrU gs (rs ++ [r])=putR gs (zrU gs rs) r:=by simp [zrU,List.foldl_append]
theorem zsI (gs:List Nat) (out:List (List PR)) (p:PR):(putG gs out p).map (·.map (·.2))=putR gs (out.map (·.map (·.2))) p.2:=by
 have hp:placeG gs out p.2=firstN ((out.map (·.map (·.2))).map fun g => !zr1 gs (g.getD 0 []) p.2):=by
  unfold placeG;rw [List.map_map];congr 1;refine List.map_congr_left fun g _ => ?_;have e:zr4 g=(g.map (·.2)).getD 0 []:=by unfold zr4; cases g <;> rfl
  simp only [Function.comp,e]
 unfold putG putR;simp only [← hp,List.length_map];generalize placeG gs out p.2=k;have e2:(if k < out.length then out.map (·.map (·.2)) else out.map (·.map (·.2)) ++ [[]])=(if k < out.length then out else out ++ [[]]).map (·.map (·.2)):=by split <;> simp
 rw [e2];generalize (if k < out.length then out else out ++ [[]])=o;rw [List.map_set];congr 1;rw [List.map_append];congr 1;simp only [List.getD_eq_getElem?_getD,List.getElem?_map];cases o[k]? <;> rfl
theorem zr9 (gs:List Nat):∀ (n:Nat) (ps:List PR),ps.length=n → (groupsP gs ps).map (·.map (·.2))=zrU gs (ps.map (·.2))
 | 0,ps,h => by obtain rfl:=List.length_eq_zero_iff.1 h; rfl
 | n + 1,ps,h => by
  rcases List.eq_nil_or_concat ps with rfl | ⟨q,y,rfl⟩
  ·cases h
  ·rw [List.concat_eq_append] at *;rw [zrX,List.map_append,zsI,zr9 gs n q AN];exact (zr0 _ _ _).symm
def aggR (g:List (List V)):NT → V
 | .leaf h => if h.op=oColumn then (g.getD 0 []).getD h.col zeroV0 else intV g.length
 | .un h a => outI (mmI (decide (h.op=oMax)) (g.map fun r => (r.getD a.hd.col zeroV0).n))
 | .bin h a b => zeroV0
def outR (items:List NT) (g:List (List V)):List V:=items.map (aggR g)
theorem zsJ (g:List PR) (n:NT):aggV g n=aggR (g.map (·.2)) n:=by
 cases n with
 | leaf h =>
  have e:zr4 g=(g.map (·.2)).getD 0 []:=by unfold zr4; cases g <;> rfl
  unfold aggV aggR;rw [e,List.length_map]
 | un h a =>show outI (mmI _ (g.map (keyI a.hd.col)))=outI (mmI _ ((g.map (·.2)).map fun r => (r.getD a.hd.col zeroV0).n));rw [List.map_map];rfl
 | bin h a b => rfl
theorem zsk (gs:List Nat):∀ (n:Nat) (ps:List PR),ps.length=n → ∀ g ∈ groupsP gs ps,∀ p ∈ g,p ∈ ps
 | 0,ps,h,g,hg,p,hp => by obtain rfl:=List.length_eq_zero_iff.1 h; simp [groupsP] at hg
 | n + 1,ps,h,g,hg,p,hp => by
  rcases List.eq_nil_or_concat ps with rfl | ⟨q,y,rfl⟩
  ·cases h
  ·rw [List.concat_eq_append] at *;rw [zrX] at hg;have ih:=zsk gs n q AN;by_cases hk:placeG gs (groupsP gs q) y.2 < (groupsP gs q).length
   ·rw [zsb hk] at hg;rcases List.mem_or_eq_of_mem_set hg with hg | rfl
    ·exact List.mem_append_left _ (ih g hg p hp)
    ·rcases List.mem_append.1 hp with hp | hp
     ·have e:(groupsP gs q).getD (placeG gs (groupsP gs q) y.2) []=(groupsP gs q)[placeG gs (groupsP gs q) y.2]:=by simp [List.getD_eq_getElem?_getD,List.getElem?_eq_getElem hk]
      rw [e] at hp;exact List.mem_append_left _ (ih _ (List.getElem_mem hk) p hp)
     ·exact List.mem_append_right _ hp
   ·rw [(zsc hk).2] at hg;rcases List.mem_append.1 hg with hg | hg
    ·exact List.mem_append_left _ (ih g hg p hp)
    ·obtain rfl:g=[y]:=by simpa using hg
     exact List.mem_append_right _ hp
theorem zsK (items:List NT) (gs:List Nat) (ps:List PR):(groupsP gs ps).map (outG items)=(zrU gs (ps.map (·.2))).map (outR items):=by rw [← zr9 gs _ ps rfl,List.map_map];refine List.map_congr_left fun g _ => ?_;unfold outG outR;exact List.map_congr_left fun n _ => zsJ g n
theorem zsu (w:World) (rb pb cb:Nat) (c:CQ) (hQ:RunQ w rb pb cb c) (hg:c.grouped=true) (m:Nat) (K:Nat → Prop) (hc:∀ n ∈ c.items,itemG m K n) (mi:Nat) (hm:c.items.length=mi) (hm1:0 < mi ∧ mi ≤ 100) (ao:Option Addr) (cap:Nat) (rs:List (List V)) (n:Nat) (hn:rs.length=n) (hn1:n ≤ 1000) (hI:RowsIn w ao rs [rb]) (hF:∀ r ∈ rs,r.length=m) (hK:∀ r ∈ rs,∀ k,K k → IntAt k r)
  (kg:Nat) (hk0:c.group.length=kg) (hk1:0 < kg ∧ kg ≤ 1000) (hgr:∀ q ∈ c.group,q < m) :
  Calls Tryz.prog 21 #[zh rb,.slice ao n cap] w (ztg w rb pb ((zrU c.group rs).map (outR c.items))):=by
 obtain ⟨vl,vr,vt,vk,hp⟩:=hQ.plan;obtain ⟨hcb,von,vwh,vg,its,nms,vo,hst,-,-,-,hits,-⟩:=hQ.q;obtain ⟨iao,icap,rfl,hitc⟩:=hits;have hRun:=hQ.run;have r0:=za hRun 0;have p0:=za hp 0;have q4:=za hst 4;have q6:=za hst 6;rw [hg] at q4;rw [hm] at q6;change w.cell? _=some (zh pb) at r0;change w.cell? _=some (zh cb) at p0;change w.cell? _=some (.bool true) at q4;change w.cell? _=some (.slice iao mi icap) at q6;have hrl:=zj hRun;obtain ⟨PP,hPP⟩:=EX (ztg w rb pb ((zrU c.group rs).map (outR c.items)));rw [hPP];obtain ⟨g,rfl,hgr2,-,hcells⟩:=hitc (by rw [hm]; exact hm1.1);obtain ⟨j0,hj,hj0,hj1,hj2⟩:=info_parts zsC;have hca:=zsF w rb pb cb c hQ ao cap rs n hn hn1 hI m hF kg hk0 hk1 hgr;have HU:=QH (AI hj (AI hj0 (AI hj1 hj2)));have HH:=QH (AI hPP (AI hF (AI hK (AI hn (AI hc (AI hm hcells))))));have HC:=QH (AI hRun (AI r0 (AI p0 (AI q6 (AI hQ.pne (AI hcb (AI hgr2 hrl)))))));have hm2:=hm1.2;clear hj hj0 hj1 hj2 hPP hF hn hc hm hcells hst hp hQ hRun hg hrl hgr2 hcb hm1 hK hI hk0 hk1 hgr;unfold zh at *;go_enter Tryz.func21, Tryz.ntmps21;go_wp2_with fail;(with_reducible refine hca.mono ?_);rintro e w1 ⟨t,bs,rv,ps,ng,rfl,hps,hpu,hS,hng,hfine⟩;clear hca r0 p0 q4 q6;obtain ⟨tao,tcap,rfl,htc⟩:=zrY hS.own AB;obtain ⟨G,hG⟩:=EX (groupsP c.group ps);rw [hG] at hS hfine;have hGl:=hS.len;have hRs:((zrU c.group rs).map (outR c.items))=G.map (outG c.items):=by rw [← hG,zsK,hps]
 have hGm:∀ gg ∈ G,∀ p ∈ gg,p.2 ∈ rs:=fun gg hgg p hp => by rw [← hps]; rw [← hG] at hgg; exact List.mem_map.2 ⟨p,zsk c.group _ ps rfl gg hgg p hp,rfl⟩
 have hbig:∀ gg ∈ G,gg.length ≤ 1000:=fun gg hgg => by
  rw [← hG] at hgg;have h1:=zsj c.group ps gg hgg;have h2:ps.length=n:=by have:=HH.out.2.2.2.1; rw [← this,← hps,List.length_map]
  omega
 have HS:=QH (AI hS (AI htc (AI hfine (AI hGl (AI hRs (AI hGm hbig))))));have hM1:=hS.mods;have hR1:RunAt w1 rb pb:=HC.out.1.mods hM1 AB;have hng2:ng ≤ 1000:=by have:=HH.out.2.2.2.1; omega
 have hstart:RowsC w1 w1 (.slice none 0 0) (([]:List (List PR)).map (outG c.items)):=RowsC.start w1;have HM1:=QH (AI hM1 hps);clear hS htc hfine hG hGl hRs hGm hM1 hps hpu hng hbig;go_wp2_with fail;go_loopg [4,78] ng (fun gk t4 t78 wr => ∃ i:Nat,i + gk=ng ∧ t78 = .int .i64 i ∧ Mods [rb] w1 wr ∧ RunAt wr rb pb ∧ RowsC w1 wr t4 ((G.take i).map (outG c.items)))
 case atStart => exact ⟨0,by omega,rfl,QM _ _,hR1,hstart⟩
 clear hR1 hstart;obtain ⟨i,hin,rfl,hM,hRun,hRC⟩:=hrel;by_cases hlt:i < ng
 ·obtain ⟨hS,htc,hfine,hGl,hRs,hGm,hbig⟩:=HS.out;obtain ⟨-,-,p0,q6,hpr,hcr,hgr2,hrl⟩:=HC.out;have hM1:=HM1.out.1;have hs1:=hM1.size;obtain ⟨gt,rfl,hgt⟩:=htc AA;have k0:=hgt i (by simpa using hlt);rw [List.getElem_map,List.getElem_range] at k0;have hgtr:gt ≠ rb:=by have:=(hS.tb gt rfl).1; omega
  have hiG:i < G.length:=by omega
  obtain ⟨hne,hfi⟩:=hfine _ (List.getElem_mem hiG);have hgg:G.getD i []=G[i]:=by simp [List.getD_eq_getElem?_getD,List.getElem?_eq_getElem hiG]
  obtain ⟨b,bcap,hrv,hpos,hbw,hbc,hbs⟩:=hS.head hlt hgg hne;have hblk:=za (hS.blk i hlt).2 0;have hgb0:=(hS.blk i hlt).1;rw [hrv] at hblk;have htk:(G.take (i + 1)).map (outG c.items)=(G.take i).map (outG c.items) ++ [outG c.items G[i]]:=by rw [List.take_succ_eq_append_getElem hiG,List.map_append]; rfl
  have hlen:((G.take i).map (outG c.items)).length=i:=by rw [List.length_map,List.length_take]; omega
  have hKi:∀ p ∈ G[i],∀ k,K k → IntAt k p.2:=fun p hp => HH.out.2.2.1 _ (hGm _ (List.getElem_mem hiG) p hp);have hgl:G[i].length ≤ 1000:=hbig _ (List.getElem_mem hiG);generalize G[i]=gg at *;obtain ⟨gb,hgbe⟩:=EX (bs i);rw [hgbe] at k0 hblk hgb0;change w1.cell? _=some (.slice (some ⟨b,0,none⟩) gg.length bcap) at hblk;have hgbr:gb ≠ rb:=by omega
  have hbr:b ≠ rb:=by omega
  replace k0:=hM.cell k0 (by simpa using hgtr);have r0:=za hRun 0;change wr.cell? _=some (zh pb) at r0;unfold zh at r0 k0;replace p0:=hM.cell (hM1.cell p0) (by simpa using hpr);replace q6:=hM.cell (hM1.cell q6) (by simpa using hcr);have hmk:=fun W => zqH W mi mi (LR _) AA;have hma:=(QM [] wr).alloc (.cells (mkC mi) 35);have hX:=XRow.start wr mi;have ho:(outG c.items gg).length=mi:=by unfold outG; rw [List.length_map]; exact HH.out.2.2.2.2.2.1
  obtain ⟨oo,hoo⟩:=EX (outG c.items gg);rw [hoo] at htk ho;have hs:=hM.size;have HR:=QH (AI hM (AI hRun (AI hRC (AI htk (AI hlen (AI hoo ho))))));have HG:=QH (AI hfi (AI hKi (AI hblk (AI hbs (AI hgbr (AI hbr (AI hpos hgl)))))));have HX:=QH (AI hma (AI hX (AI hs (AI hrl (AI hgr2 hs1)))));have r0a:=hma.cell r0;have p0a:=hma.cell p0;have q6a:=hma.cell q6;clear hbig hM hRun hRC htk hlen hoo ho hma hX hs hrl hpr hcr hgr2 hS htc hfine hGl hRs hGm hM1 hs1 hgt hgtr hiG hne hfi hgg hrv hpos hbw hbc hbs hblk hgb0 hKi hgl hgbe hgbr hbr;go_wp2_with fail;clear r0 p0 q6 k0 r0a p0a q6a;obtain ⟨hma,hX,-⟩:=HX.out;have hRm:=HR.out.2.1.mods hma AB;generalize wr.alloc (.cells (mkC mi) 35)=w2 at *;obtain ⟨xb,hxb⟩:=EX (wr.heap.size);rw [hxb] at hX HX;rw [hxb];have HXB:=QH hxb;clear hxb hmk;generalize wr=wo at *;go_loopg [105] mi (fun gk2 t105 wx => ∃ k:Nat,k + gk2=mi ∧ t105 = .int .i64 k ∧ Mods [rb] wo wx ∧ RunAt wx rb pb ∧ XRow wx xb mi (oo.take k))
  case atStart => exact ⟨0,by omega,rfl,hma.mono,hRm,hX⟩
  clear hma hX hRm;obtain ⟨k,hkm,rfl,hMx,hRx,hXx⟩:=hrel;by_cases hkt:k < mi
  ·obtain ⟨hM,hRun,hRC,htk,hlen,hoo,ho⟩:=HR.out;obtain ⟨-,-,hs,hrl,hgr2,hs1⟩:=HX.out;obtain ⟨hfi,hKi,hblk,hbs,hgbr,hbr,hpos,hgl⟩:=HG.out;obtain ⟨hc,hm,hcells⟩:=HH.out.2.2.2.2;have hki:k < c.items.length:=by omega
   obtain ⟨cs,⟨nb,rfl,hN⟩,-,hcell⟩:=hcells k hki;have k1:=hcell 0 _ rfl;rw [Nat.mul_one,Nat.add_zero] at k1;have hitm:=hc _ (List.getElem_mem hki);have hMx1:=hM.trans hMx (fun x hx => .inl hx);have hMw:=(HM1.out.1.mono (L':=[rb])).trans hMx1 (fun x hx => .inl hx);replace k1:=hMw.cell k1 hgr2;have hok:oo[k]? = some (aggV gg c.items[k]):=by rw [← hoo];unfold outG;rw [List.getElem?_map,List.getElem?_eq_getElem hki];rfl
   generalize c.items[k]=it at *;have hNx:=hN.mods hMw;obtain ⟨nb',nao,ncap,hne,hnr,hnb,-,-⟩:=hNx.parts;obtain rfl:nb=nb':=by simpa [zh] using hne
   have k2:=za hnb 0;have k3:=za hnb 3;change wr.cell? _=some (.string ⟨it.hd.op.toArray⟩) at k2;change wr.cell? _=some (.int .i64 (it.hd.col:Nat)) at k3;have hkl:(oo.take k).length=k:=by rw [List.length_take]; omega
   obtain ⟨x,hxe⟩:=EX (aggV gg it);rw [hxe] at hok;have htk2:oo.take (k + 1)=oo.take k ++ [x]:=by rw [List.take_add_one,hok]; rfl
   have hxr:xb ≠ rb:=by have:=HXB.out; omega
   have g0:=hMx1.cell hblk (by simpa using hgbr);have HI:=QH (AI hMx (AI hXx (AI hkl htk2)));unfold zh at k1;by_cases hcol:it.hd.op=oColumn
   ·obtain ⟨h,rfl,-,hcm⟩ : ∃ h,it = .leaf h ∧ h.op=oColumn ∧ h.col < m:=by
     rcases hitm with h1 | ⟨h,rfl,h1⟩ | ⟨mx,h,h2,rfl,h1,-⟩
     ·exact h1
     ·exact absurd (h1.symm.trans hcol) AD
     ·exact absurd (h1.symm.trans hcol) (zsR mx)
    have hv0:(zr4 gg).getD h.col zeroV0=x:=by rw [← hxe]; exact (if_pos hcol).symm
    have hh:zr4 gg=gg[0].2:=by unfold zr4; simp [List.getD_eq_getElem?_getD,List.getElem?_eq_getElem hpos]
    rw [hh] at hv0;obtain ⟨hu,hul⟩:=hfi _ (List.getElem_mem hpos);have b0:=hMx1.cell (hbs 0 hpos) (by simpa using hbr);generalize gg[0]=p at *;obtain ⟨u,r⟩:=p;obtain ⟨vo,cc,he,hcc,hV⟩:=hu;simp only at he hul hv0 hcc hV b0;subst he;rw [hul] at b0;have hcr:h.col < r.length:=by omega
    obtain ⟨tb,off,rfl,-,hvs⟩:=hV.mods hMw (fun h0 => by rw [h0] at hcr; simp at hcr);obtain ⟨v0,v1,v2⟩:=hvs h.col hcr;have hrx:r[h.col]=x:=by rw [← hv0]; simp [List.getD_eq_getElem?_getD,List.getElem?_eq_getElem hcr]
    rw [hrx] at v0 v1 v2;have k2':wr.cell? ⟨nb,0,none⟩ = some (.string ⟨#[99,111,108,117,109,110]⟩):=by rw [k2,hcol]; rfl
    change wr.cell? _=some (.int .i64 (h.col:Nat)) at k3;obtain ⟨q,hq⟩:=EX (h.col);obtain ⟨gl,hgl2⟩:=EX (gg.length);rw [hq] at k3 v0 v1 v2 hcm;rw [hgl2] at g0 hpos;have hdr:=(QM [] wr).drew;have hR3:=hRx.mods hdr AB;have hX3:=hXx.mods hdr AB;have hth:=hX3.there hkt;have hpu:=hX3.push hkl hkt x;have hMs:Mods [xb] wr.drew (wr.drew.setCells xb (k * 3) [.bool x.z,.int .i64 x.n,.string x.s]):=(((QM _ _).setCell (.inl AB) _).setCell (.inl AB) _).setCell (.inl AB) _;have hR4:=hR3.mods hMs (by simpa using hxr.symm);have hM4:=(hMx.trans hdr).trans hMs (fun y hy => .inr (by have:=HXB.out; simp at hy; omega));have HJ:=QH (AI hpu (AI hR4 hM4));clear hM hRun hRC htk hlen hoo ho hs hrl hgr2 hs1 hfi hKi hblk hbs hgbr hbr hgl hc hm hcells hki hcell hitm hMx1 hMw hok hN hNx hnr hnb hkl hxe htk2 hcol hMx hXx hne hRx hv0 hh hul hcc hV hcr hvs hrx k2 hq hgl2 hdr hR3 hX3 hpu hMs hR4 hM4;go_upto_region 22 with fail;clear k1 k2';apply zr AC [0,1,2,3,4,5,6,7,8,9,10,11,12,13,14] [(15,[])] false AC (fun y => y.cell? ⟨gb,0,none⟩ = some (.slice (some ⟨b,0,none⟩) gl bcap) ∧ y.cell? ⟨b,0,none⟩ = some (.slice (some ⟨tb,off,none⟩) m cc) ∧ y.cell? ⟨nb,3,none⟩ = some (.int .i64 (q:Nat)) ∧ y.cell? ⟨tb,off + q * 3,none⟩ = some (.bool x.z) ∧ y.cell? ⟨tb,off + q * 3 + 1,none⟩ = some (.int .i64 x.n) ∧ y.cell? ⟨tb,off + q * 3 + 2,none⟩ = some (.string x.s))
    case hC => exact ⟨g0,b0,k3,v0,v1,v2⟩
    case hwalk =>rintro y ⟨y0,y1,y2,y3,y4,y5⟩;change wpQuiet _ _ _ _ [_,_,_,_,_,_,_,_,_,_,_,_,_,_,_] (Act.mk _ _);(repeat go_big_quiet_step (fail));refine QW ?_;exact rfl
    case hrun =>change zct _ _ _ _ _ [(_,[])] _ _;clear g0 b0 k3 v0 v1 v2;refine zv fun R hR => ?_;refine wpList_store_mid rfl 35 (.tmp 129) (.tmp 128) rfl xb (k * 3) #[.bool x.z,.int .i64 x.n,.string x.s] rfl rfl hth zpv (zpW _ _ _) ?_;go_wp2_with fail;refine zd (hR _ _ AB ?_);clear hR R;refine zI ?_;go_wp2_with fail;exact yfz
   ·have hca:=zsU wr rb pb nb gb b bcap gg.length m K hRx it hNx hitm hcol gg rfl hgl g0 (fun j hj => hMx1.cell (hbs j hj) (by simpa using hbr)) hbr hgbr (fun p hp => ⟨(hfi p hp).1.mods hMw,(hfi p hp).2⟩) hKi;rw [hxe] at hca;unfold zh valA at hca;have s1:¬ (⟨it.hd.op.toArray⟩ : ByteArray) = ⟨#[99,111,108,117,109,110]⟩:=fun e => hcol (show (it.hd.op:List UInt8)=[99,111,108,117,109,110] from by have:=congrArg (fun b:ByteArray => b.data.toList) e; simpa using this);obtain ⟨S,hS⟩:=EX ((⟨it.hd.op.toArray⟩ : ByteArray):ByteArray);rw [hS] at k2 s1;have s2:=zqA (l:=[99,111,108,117,109,110]) s1;have s3:(S == ⟨#[99,111,108,117,109,110]⟩)=false:=zgp (l:=[99,111,108,117,109,110]) (fun hx => s1 (zgl hx));clear hM hRun hRC htk hlen hoo ho hs hrl hgr2 hs1 hfi hKi hblk hbs hgbr hbr hpos hgl hc hm hcells hki hcell hitm hMx1 hMw hok hN hNx hnr hnb hkl hxe htk2 g0 hcol hS hMx hXx k3 hne hRx;go_wp2_with fail;(with_reducible refine hca.mono ?_);rintro e w3 ⟨rfl,hM3,hR3⟩;have hX3:=HI.out.2.1.mods hM3 (by simpa using hxr);have hth:=hX3.there hkt;have hpu:=hX3.push HI.out.2.2.1 hkt x;have hMs:Mods [xb] w3 (w3.setCells xb (k * 3) [.bool x.z,.int .i64 x.n,.string x.s]):=(((QM _ _).setCell (.inl AB) _).setCell (.inl AB) _).setCell (.inl AB) _;have hR4:=hR3.mods hMs (by simpa using hxr.symm);have hM4:=(HI.out.1.trans hM3 (fun x hx => .inl hx)).trans hMs (fun y hy => .inr (by have:=HXB.out; simp at hy; omega));have HJ:=QH (AI hpu (AI hR4 hM4));clear hca hM3 hR3 hX3 hpu hMs hR4 hM4 k1;go_wp2_with (refine wpList_store_mid rfl 35 (.tmp 136) (.tmp 135) rfl xb (k * 3) #[.bool x.z,.int .i64 x.n,.string x.s] rfl rfl hth zpv (zpW _ _ _) ?_);exact yfz
  ·obtain rfl:mi=k:=by omega
   obtain ⟨hM,hRun,hRC,htk,hlen,hoo,ho⟩:=HR.out;obtain ⟨-,-,hs,hrl,hgr2,hs1⟩:=HX.out;rw [List.take_of_length_le AA] at hXx;have hMl:=(QM [] wr).alloc (.cells #[.slice (some ⟨xb,0,none⟩) mi mi] 37);have hC3:=hRC.later (hMx.trans (hMl.mono (L':=[rb])) (fun x hx => .inl hx)) (fun x hx => by simp at hx; omega);obtain ⟨css,hrow,hall⟩:=hC3.row;have hlt8:∀ x,u4.ownBlock=some x → x < wo.heap.size:=fun x hx => by obtain ⟨css',hrow',-⟩:=hRC.row;exact (hrow'.lt x hx).2
   have hr:∀ L:List Nat,(∀ x ∈ L,x < w1.heap.size ∨ u4.ownBlock=some x) → RowR (wr.alloc (.cells #[.slice (some ⟨xb,0,none⟩) mi mi] 37)) L [.slice (some ⟨xb,0,none⟩) mi mi] oo:=fun L hL =>
    ⟨some ⟨xb,0,none⟩,mi,by rw [ho],by rw [ho]; exact LR _,(hXx.mods hMl AB).vals (fun hx => by
     have:=HXB.out;rcases hL xb hx with h | h
     ·omega
     ·have:=hlt8 xb h
      omega)⟩
   have hlit2:=zdy wr #[.slice (some ⟨xb,0,none⟩) mi mi] 37;rw [hlen] at hrow;have HW:=QH (AI hC3 (AI hrow (AI hall (AI hr (AI hlit2 (AI (hM.trans (hMx.trans (hMl.mono (L':=[rb])) (fun x hx => .inl hx)) (fun x hx => .inl hx)) (AI hlen (AI (hRx.mods hMl AB) (AI htk (AI hrl hs1))))))))));clear hM hRun hRC htk hlen hoo ho hs hrl hgr2 hs1 hMl hC3 hrow hall hlt8 hr hlit2 hMx hRx hXx;obtain ⟨hj,hj0,hj1,hj2⟩:=HU.out;go_wp2_with (at_builtin; refine zw _ rfl _ _ 24 rfl 37 j0 _ 1 24 Tryz.underlying24 hj hj0 hj1 hj2 rfl AD u4 i css.flatten rfl HW.out.2.1 ⟨wr.heap.size,0,none⟩ 1 1 [.slice (some ⟨xb,0,none⟩) mi mi] rfl rfl ?b2 ?b3 AD ?b5 ?b6 ?_)
   case b3 => rfl
   case b5 => unfold maxLen; omega
   case b6 => omega
   intro g9 cap9 w9 hown9 hM9 hg9;have hnew:=HW.out.1.push (by rw [HW.out.2.2.2.2.2.2.1]; exact HW.out.2.1) HW.out.2.2.1 HW.out.2.2.2.1 HW.out.2.2.2.2.2.2.1 hown9 hM9 BJ;have hM99:Mods [rb] w1 w9:=HW.out.2.2.2.2.2.1.trans hM9 (fun x hx => .inr (HW.out.1.own x AJ));have hR9:RunAt w9 rb pb:=HW.out.2.2.2.2.2.2.2.1.mods hM9 (fun hx => by have h1:=HW.out.1.own rb AJ; have h2:=HW.out.2.2.2.2.2.2.2.2.2.1; have h3:=HW.out.2.2.2.2.2.2.2.2.2.2; omega);have HA:=QH (AI hnew (AI hM99 hR9));clear hnew hM99 hR9 hown9 hM9 hg9 hj hj0 hj1 hj2;go_wp2_with fail;go_roundg (ng - (i + 1))
   case measure => omega
   case rel => exact ⟨i + 1,by omega,by go_num,HA.out.2.1,HA.out.2.2,by rw [HW.out.2.2.2.2.2.2.2.2.1]; exact HA.out.1⟩
 ·obtain rfl:ng=i:=by omega
  obtain ⟨-,-,-,hGl,hRs,-⟩:=HS.out;rw [List.take_of_length_le AA] at hRC;have hM1:=HM1.out.1;have hfin:PP (.returned u4) wr:=by rw [← HH.out.1];exact ⟨_,rfl,(hM1.mono (L':=[rb])).trans hM (fun x hx => .inl hx),hRun,by rw [hRs]; exact hRC.base hM1.size⟩
  have HFIN:=QH hfin;clear hfin hM hRun hRC;go_wp2_with fail;exact HFIN.out
def askOk (gr:Bool) (group:List Nat) (items:List NT) (order:List KeyC) (lim off:Int) (r:Option (Chk CQ)):Bool:=match r with
 | some (.ok c) => decide (c.left=0 ∧ c.right=none ∧ c.on=none ∧ c.whr=none) && (decide (c.grouped=gr ∧ c.group=group ∧ c.items=items) && decide (c.order=order ∧ c.limit=lim ∧ c.offset=off))
 | _ => false
def colN (k:Nat) (t:Ty):NT:=.leaf { op:=oColumn,t:=t,col:=k }
def grText:Bs:=[83,69,76,69,67,84,32,99,44,32,67,79,85,78,84,40,42,41,44,32,77,73,78,40,97,41,44,32,77,65,88,40,97,41,32,70,82,79,77,32,116,32,71,82,79,85,80,32,66,89,32,99]
def grItems:List NT:=[colN 2 tyBytes,.leaf { op:=oAll,t:=tyInt },.un { op:=oMin,t:=tyInt } (colN 0 tyInt),.un { op:=oMax,t:=tyInt } (colN 0 tyInt)]
theorem zsZ:askOk true [2] grItems [] (-1) (-1) (zaI grText)=true:=by decide +kernel
theorem zsl:∀ l:List Bool,firstN l < l.length ↔ true ∈ l
 | [] => by simp [firstN]
 | true :: l => by simp [firstN]
 | false :: l => by
  have ih:=zsl l;simp only [firstN,List.length_cons,List.mem_cons];constructor
  ·intro h; exact .inr (ih.1 AA)
  ·rintro (h | h)
   ·cases h
   ·have:=ih.2 h; omega
def zr5 (r:List V):V:=r.getD 2 zeroV0
def zso (g:List (List V)):List V:=g.getD 0 []
theorem zsD (a b:List V):(!zr1 [2] a b)=decide (zr5 a=zr5 b):=by unfold zr1 diffC zr5;simp
def heads (rs:List (List V)):List (List V):=(zrU [2] rs).map zso
def metV (rs:List (List V)) (v:V):Prop:=∃ r ∈ rs,zr5 r=v
theorem zsV {out:List (List (List V))} {r:List V} (hne:∀ g ∈ out,g ≠ []) (h:∃ g ∈ out,zr5 (zso g)=zr5 r):∃ k,∃ hk:k < out.length,putR [2] out r=out.set k (out[k] ++ [r]):=by
 have hl:firstN (out.map fun g => !zr1 [2] (g.getD 0 []) r) < out.length:=by
  have:=(zsl (out.map fun g => !zr1 [2] (g.getD 0 []) r)).2 (by
   obtain ⟨g,hg,he⟩:=h
   exact List.mem_map.2 ⟨g,hg,by rw [zsD]; exact decide_eq_true he⟩)
  rwa [List.length_map] at this
 refine ⟨_,hl,?_⟩;unfold putR;simp only [if_pos hl];generalize firstN (out.map fun g => !zr1 [2] (g.getD 0 []) r)=k at *;rw [List.getD_eq_getElem?_getD,List.getElem?_eq_getElem hl];rfl
theorem zsW {out:List (List (List V))} {r:List V} (h:¬ ∃ g ∈ out,zr5 (zso g)=zr5 r):putR [2] out r=out ++ [[r]]:=by
 have hl:¬ firstN (out.map fun g => !zr1 [2] (g.getD 0 []) r) < out.length:=fun hl => by have:=(zsl (out.map fun g => !zr1 [2] (g.getD 0 []) r)).1 (by rwa [List.length_map]);obtain ⟨g,hg,he⟩:=List.mem_map.1 this;rw [zsD] at he;exact h ⟨g,hg,of_decide_eq_true he⟩
 have hle:=zsh (out.map fun g => !zr1 [2] (g.getD 0 []) r);rw [List.length_map] at hle;have he:firstN (out.map fun g => !zr1 [2] (g.getD 0 []) r)=out.length:=by omega
 unfold putR;simp only [he,Nat.lt_irrefl,if_false];rw [List.set_append_right _ _ (LR _)];simp [List.getD_eq_getElem?_getD]
theorem zsy {α β:Type} (f:α → β) (l:List α) (k:Nat) (hk:k < l.length) (a:α) (h:f a=f l[k]):(l.set k a).map f=l.map f:=by
 rw [List.map_set,h];refine List.ext_getElem AB fun i h1 h2 => ?_;rw [List.getElem_set];split
 ·next e => subst e; simp
 ·rfl
structure GrpInv (rs:List (List V)):Prop where
 ne:∀ g ∈ zrU [2] rs,g ≠ []
 met:∀ v,(∃ g ∈ zrU [2] rs,zr5 (zso g)=v) ↔ metV rs v
 sum:((zrU [2] rs).map List.length).sum=rs.length
 mem:∀ g ∈ zrU [2] rs,∀ r ∈ g,r ∈ rs
theorem zsL:∀ (l:List Nat) (k:Nat) (hk:k < l.length) (a:Nat),(l.set k a).sum + l[k]=l.sum + a
 | x :: l,0,_,a => by simp; omega
 | x :: l,k + 1,h,a => by have:=zsL l k AN a;simp only [List.set_cons_succ,List.sum_cons,List.getElem_cons_succ];omega
theorem zse (rs:List (List V)) (v:V):(∃ g ∈ zrU [2] rs,zr5 (zso g)=v) ↔ ∃ x ∈ heads rs,zr5 x=v:=by
 unfold heads;constructor
 ·rintro ⟨g,hg,h⟩; exact ⟨_,List.mem_map.2 ⟨g,hg,rfl⟩,h⟩
 ·rintro ⟨x,hx,h⟩; obtain ⟨g,hg,rfl⟩:=List.mem_map.1 hx; exact ⟨g,hg,h⟩
theorem zsf {rs:List (List V)} (h:GrpInv rs) (r:List V):GrpInv (rs ++ [r]) ∧ (metV rs (zr5 r) → heads (rs ++ [r])=heads rs) ∧ (¬ metV rs (zr5 r) → heads (rs ++ [r])=heads rs ++ [r]):=by
 have hs:=zr0 [2] rs r;have hm:∀ v,metV (rs ++ [r]) v ↔ metV rs v ∨ zr5 r=v:=fun v => by
  unfold metV;constructor
  ·rintro ⟨x,hx,e⟩;rcases List.mem_append.1 hx with hx | hx
   ·exact .inl ⟨x,hx,e⟩
   ·obtain rfl:x=r:=by simpa using hx
    exact .inr e
  ·rintro (⟨x,hx,e⟩ | e)
   ·exact ⟨x,List.mem_append_left _ hx,e⟩
   ·exact ⟨r,by simp,e⟩
 by_cases hmet:metV rs (zr5 r)
 ·obtain ⟨k,hk,hp⟩:=zsV h.ne ((h.met _).2 hmet);rw [hp] at hs;have hne:=h.ne _ (List.getElem_mem hk);have hhd:zso ((zrU [2] rs)[k] ++ [r])=zso (zrU [2] rs)[k]:=by
   unfold zso
   cases hg:(zrU [2] rs)[k] with
   | nil => exact absurd hg hne
   | cons a l => rfl
  have hh:heads (rs ++ [r])=heads rs:=by unfold heads; rw [hs]; exact zsy _ _ _ hk _ hhd
  refine ⟨⟨?_,fun v => ?_,?_,?_⟩,fun _ => hh,fun hn => absurd hmet hn⟩
  ·rw [hs];intro g hg;rcases List.mem_or_eq_of_mem_set hg with hg | rfl
   ·exact h.ne g hg
   ·simp
  ·have e:=zse (rs ++ [r]) v;have e2:=zse rs v;rw [e,hh,← e2,h.met,hm];constructor
   ·exact .inl
   ·rintro (h | rfl)
    ·exact h
    ·exact hmet
  ·rw [hs,List.map_set];have:=zsL ((zrU [2] rs).map List.length) k (by simpa using hk) ((zrU [2] rs)[k] ++ [r]).length;rw [h.sum] at this;simp only [List.getElem_map,List.length_append,List.length_cons,List.length_nil] at this ⊢;omega
  ·rw [hs];intro g hg x hx;rcases List.mem_or_eq_of_mem_set hg with hg | rfl
   ·exact List.mem_append_left _ (h.mem g hg x hx)
   ·rcases List.mem_append.1 hx with hx | hx
    ·exact List.mem_append_left _ (h.mem _ (List.getElem_mem hk) x hx)
    ·exact List.mem_append_right _ hx
 ·have hp:=zsW (fun hx => hmet ((h.met _).1 hx));rw [hp] at hs;have hh:heads (rs ++ [r])=heads rs ++ [r]:=by unfold heads; rw [hs,List.map_append]; rfl
  refine ⟨⟨?_,fun v => ?_,?_,?_⟩,fun hy => absurd hy hmet,fun _ => hh⟩
  ·rw [hs];intro g hg;rcases List.mem_append.1 hg with hg | hg
   ·exact h.ne g hg
   ·obtain rfl:g=[r]:=by simpa using hg
    simp
  ·have e:=zse (rs ++ [r]) v;have e2:=zse rs v;rw [e,hh,hm,← h.met,e2];constructor
   ·rintro ⟨x,hx,he⟩;rcases List.mem_append.1 hx with hx | hx
    ·exact .inl ⟨x,hx,he⟩
    ·obtain rfl:x=r:=by simpa using hx
     exact .inr he
   ·rintro (⟨x,hx,he⟩ | he)
    ·exact ⟨x,List.mem_append_left _ hx,he⟩
    ·exact ⟨r,by simp,he⟩
  ·rw [hs,List.map_append,List.sum_append,h.sum];simp
  ·rw [hs];intro g hg x hx;rcases List.mem_append.1 hg with hg | hg
   ·exact List.mem_append_left _ (h.mem g hg x hx)
   ·obtain rfl:g=[r]:=by simpa using hg
    exact List.mem_append_right _ hx
theorem zr6:∀ (n:Nat) (rs:List (List V)),rs.length=n → GrpInv rs
 | 0,rs,h => by obtain rfl:=List.length_eq_zero_iff.1 h;exact ⟨fun g hg => by simp [zrU] at hg,fun v => by simp [zrU,metV],rfl,fun g hg => by simp [zrU] at hg⟩
 | n + 1,rs,h => by
  rcases List.eq_nil_or_concat rs with rfl | ⟨q,y,rfl⟩
  ·cases h
  ·rw [List.concat_eq_append] at *;exact (zsf (zr6 n q AN) y).1
theorem zsa (a:List (List V)):∀ (n:Nat) (b:List (List V)),b.length=n → ∃ t,heads (a ++ b)=heads a ++ t
 | 0,b,h => by obtain rfl:=List.length_eq_zero_iff.1 h; exact ⟨[],by simp⟩
 | n + 1,b,h => by
  rcases List.eq_nil_or_concat b with rfl | ⟨q,y,rfl⟩
  ·cases h
  ·rw [List.concat_eq_append] at *;obtain ⟨t,ht⟩:=zsa a n q AN;have hs:=zsf (zr6 _ (a ++ q) rfl) y;rw [← List.append_assoc];by_cases hm:metV (a ++ q) (zr5 y)
   ·exact ⟨t,by rw [hs.2.1 hm,ht]⟩
   ·exact ⟨t ++ [y],by rw [hs.2.2 hm,ht,List.append_assoc]⟩
theorem zsM {rs:List (List V)} {j:Nat} (hj:j < rs.length) (h:metV (rs.take j) (zr5 rs[j])):heads (rs.take (j + 1))=heads (rs.take j):=by rw [List.take_succ_eq_append_getElem hj];exact (zsf (zr6 _ (rs.take j) rfl) rs[j]).2.1 h
theorem zsN {rs:List (List V)} {j i:Nat} (hj:j < rs.length) (h:¬ metV (rs.take j) (zr5 rs[j])) (hi:(heads (rs.take j)).length=i):(heads rs)[i]? = some rs[j] ∧ (heads (rs.take (j + 1))).length=i + 1:=by have hs:=(zsf (zr6 _ (rs.take j) rfl) rs[j]).2.2 h;rw [← List.take_succ_eq_append_getElem hj] at hs;obtain ⟨t,ht⟩:=zsa (rs.take (j + 1)) _ (rs.drop (j + 1)) rfl;rw [List.take_append_drop] at ht;rw [ht,hs];subst hi;refine ⟨?_,by simp⟩;rw [List.append_assoc,List.getElem?_append_right (LR _),Nat.sub_self];rfl
theorem cmpI_one {a b:Int}:cmpI a b=1 ↔ b < a:=by
 unfold cmpI
 repeat' split
 all_goals omega
theorem cmpI_neg {a b:Int}:cmpI a b = -1 ↔ a < b:=by
 unfold cmpI
 repeat' split
 all_goals omega
theorem zsE:∀ (n:Nat) (l:List Int),l.length=n → (∀ a,mmI false l=some a → ∀ x ∈ l,a ≤ x) ∧ (∀ a,mmI true l=some a → ∀ x ∈ l,x ≤ a)
 | 0,l,h => by obtain rfl:=List.length_eq_zero_iff.1 h; exact ⟨by simp,by simp⟩
 | n + 1,l,h => by
  rcases List.eq_nil_or_concat l with rfl | ⟨q,y,rfl⟩
  ·cases h
  ·rw [List.concat_eq_append] at *;obtain ⟨h1,h2⟩:=zsE n q AN;constructor
   ·intro a ha x hx;rw [zr3] at ha
    cases hq:mmI false q with
    | none =>exact yfA
    | some z =>
     rw [hq] at ha;have ha:some (if cmpI y z = -1 then y else z)=some a:=ha;have ha:=Option.some.inj ha;have hz:=h1 z hq;by_cases hc:cmpI y z = -1
     ·rw [if_pos hc] at ha;have:=cmpI_neg.1 hc;exact yfw
     ·rw [if_neg hc] at ha;have:=mt cmpI_neg.2 hc;exact yfw
   ·intro a ha x hx;rw [zr3] at ha
    cases hq:mmI true q with
    | none =>exact yfA
    | some z =>
     rw [hq] at ha;have ha:some (if cmpI y z=1 then y else z)=some a:=ha;have ha:=Option.some.inj ha;have hz:=h2 z hq;by_cases hc:cmpI y z=1
     ·rw [if_pos hc] at ha;have:=cmpI_one.1 hc;exact yfw
     ·rw [if_neg hc] at ha;have:=mt cmpI_one.2 hc;exact yfw
theorem zs1 {l:List Int} (h:l ≠ []):∃ a b,mmI false l=some a ∧ mmI true l=some b ∧ a ≤ b:=by
 obtain ⟨h1,h2⟩:=zsE _ l rfl
 cases ha:mmI false l with
 | none => exact absurd (zsd _ _ ha) h
 | some a =>
  cases hb:mmI true l with
  | none => exact absurd (zsd _ _ hb) h
  | some b =>have hm:=zsH _ _ _ ha;exact ⟨a,b,rfl,rfl,h2 b hb a hm⟩
theorem zs0 (g:List (List V)):outR grItems g=[zr5 (zso g),intV g.length,outI (mmI false (g.map fun r => (r.getD 0 zeroV0).n)),outI (mmI true (g.map fun r => (r.getD 0 zeroV0).n))]:=rfl
def metB (rs:List (List V)) (v:V):Bool:=rs.any fun r => decide (zr5 r=v)
theorem metB_iff {rs:List (List V)} {v:V}:metB rs v=true ↔ metV rs v:=by
 unfold metB metV;rw [List.any_eq_true];constructor
 ·rintro ⟨r,h1,h2⟩; exact ⟨r,h1,of_decide_eq_true h2⟩
 ·rintro ⟨r,h1,h2⟩; exact ⟨r,h1,decide_eq_true h2⟩
theorem met15 (w:World) (ao:Option Addr) (cap n:Nat) (rs:List (List V)) (hn:rs.length=n) (hn1:n ≤ 1000) (hI:RowsIn w ao rs []) (hF:∀ r ∈ rs,r.length=4) (z:Bool) (x:Int) (t:ByteArray) :
  Calls Tryz.prog 9 #[.slice ao n cap,.agg #[.bool z,.int .i64 x,.string t]] w fun e w' => e = .returned (.bool (metB rs ⟨z,x,t⟩)) ∧ Mods [] w w':=by
 obtain ⟨B,hB⟩ : ∃ B,metB rs ⟨z,x,t⟩ = B:=⟨_,rfl⟩;rw [hB];have hM1:=(QM [] w).alloc (.cells #[.bool z,.int .i64 x,.string t] 35);have hv1:=QN w (.cells #[.bool z,.int .i64 x,.string t] 35);have HH:=QH (AI hB (AI hn (AI hI (AI hF (AI hM1 hv1)))));clear hB hn hI hF hM1 hv1;go_enter Tryz.func9, Tryz.ntmps9;go_wp2_with fail;obtain ⟨hM1,hv1⟩:=HH.out.2.2.2.2;generalize w.alloc (.cells #[.bool z,.int .i64 x,.string t] 35)=w1 at *;generalize w.heap.size=vb at *;have HV:=QH (AI hM1 hv1);clear hM1 hv1;go_loopg [5] n (fun gk t5 wr => ∃ i:Nat,i + gk=n ∧ t5 = .int .i64 i ∧ Mods [] w1 wr ∧ metB (rs.take i) ⟨z,x,t⟩ = false)
 case atStart => exact ⟨0,by omega,rfl,QM _ _,rfl⟩
 obtain ⟨i,hin,rfl,hM,hno⟩:=hrel;by_cases hlt:i < n
 ·obtain ⟨hB,hn,hI,hF,-⟩:=HH.out;obtain ⟨hM1,hv1⟩:=HV.out;have hil:i < rs.length:=by omega
  obtain ⟨b,off,rfl,-,hcs⟩:=hI (fun h0 => by rw [h0] at hil; simp at hil);obtain ⟨vo,cc,hcc,k0,hV⟩:=hcs i hil;have hf:=hF _ (List.getElem_mem hil);have hmt:metB (rs.take (i + 1)) ⟨z,x,t⟩ = (metB (rs.take i) ⟨z,x,t⟩ || decide (zr5 rs[i] = ⟨z,x,t⟩)):=by rw [List.take_succ_eq_append_getElem hil];unfold metB;rw [List.any_append];simp
  have hfin:decide (zr5 rs[i] = ⟨z,x,t⟩)=true → B=true:=fun h => by rw [← hB];exact metB_iff.2 ⟨_,List.getElem_mem hil,of_decide_eq_true h⟩
  generalize rs[i]=r at *;have h2l:2 < r.length:=by omega
  have hv2:zr5 r=r[2]:=by unfold zr5; simp [List.getD_eq_getElem?_getD,List.getElem?_eq_getElem h2l]
  rw [hv2] at hmt hfin;obtain ⟨p,po,rfl,-,hp⟩:=hV (by intro h; rw [h] at h2l; simp at h2l);obtain ⟨p0,p1,p2⟩:=hp 2 h2l;have hMw:=hM1.trans hM;rw [hf] at k0;replace k0:=hMw.cell k0;replace p0:=hMw.cell p0;replace p1:=hMw.cell p1;replace p2:=hMw.cell p2;clear hv2;generalize r[2]=v at *;obtain ⟨z2,x2,t2⟩:=v;simp only at p0 p1 p2;have hv3:=hM.heap hv1;have v0:=za hv3 0;have v1:=za hv3 1;have v2:=za hv3 2;change wr.cell? _=some (.bool z) at v0;change wr.cell? _=some (.int .i64 x) at v1;change wr.cell? _=some (.string t) at v2;have hv:=fun W => zsO z2 z x2 x t2 t W;obtain ⟨D,hD⟩:=EX (decide ((⟨z2,x2,t2⟩ : V) = ⟨z,x,t⟩));rw [hD] at hmt hfin;simp only [hD] at hv;rw [hno,Bool.false_or] at hmt;have HR:=QH (AI hM (AI hMw (AI hmt hfin)));clear hB hn hI hF hM1 hv1 hil hcs hcc hf hmt hfin h2l hp hMw hV hno hv3 hD hM;go_wp2_with fail;go_quiet (fail);have hMq:=HR.out.1.drewN nq;have hMz:=HR.out.2.1.drewN nq;generalize wr.drewN nq=wz at *
  cases D with
  | true =>have hB1:=HR.out.2.2.2 rfl;subst hB1;clear hMq;go_wp2_with fail;go_ret;exact ⟨rfl,hMz⟩
  | false =>
   clear hMz;go_wp2_with fail;go_roundg (n - (i + 1))
   case measure => omega
   case rel => exact ⟨i + 1,by omega,by go_num,hMq,HR.out.2.2.1⟩
 ·obtain rfl:n=i:=by omega
  obtain ⟨hB,hn,-⟩:=HH.out;rw [List.take_of_length_le AA,hB] at hno;subst hno;have hMz:=HV.out.1.trans hM;clear hM hB hn;go_wp2_with fail;go_ret;exact ⟨rfl,hMz⟩
end Go.Proofs.YtcabeljiobiojaaGreatDoor
