/-
  The runner's groups, walked: rows that are the same in some columns stand together. No condition.
-/
import Derived.Test.YtcabeljiobiojaaGreatDoorQ35
import Derived.Test.YtcabeljiobiojaaGreatDoorQ43
import Derived.Test.YtcabeljiobiojaaGreatDoorShelf2
set_option linter.unusedVariables false
set_option maxRecDepth 100000
set_option maxHeartbeats 8000000
namespace Go.Proofs.YtcabeljiobiojaaGreatDoor
open Go.RowKit
theorem yaC {p:Prop} (h:p:=by
  clear hc;go_enter Tryz.func150, Tryz.ntmps150;go_wp2_with fail;(with_reducible refine (hx _).mono ?_);rintro e w2 ⟨rfl,rfl⟩;go_wp2_with fail;(with_reducible refine (hy _).mono ?_);rintro e w3 ⟨rfl,rfl⟩;go_wp2_with fail;go_ret;exact ⟨rfl,rfl⟩
 ):p:=h
theorem ybl {p:Prop} (h:p:=by
  change World.cell? _ _=some (.int .u64 0) at q1;change World.cell? _ _=some (.int .u64 (n.natAbs:Nat)) at q2;refine bodyPost_ret (by simp [results,Tryz.results111, go_sem,q0,q1,q2,Result.andThen]; try rfl) rfl ?_;exact ⟨rfl,hM0.setRow (.inr (LR _)) _⟩
 ):p:=h
theorem zst (w1 wr W:World) (t:Value) (bs:Nat → Nat) (rv:Nat → Value) (out:List (List PR)) (n:Nat) (hS:GS w1 wr t bs rv out n) (hn1:n ≤ 1000) (hMW:Mods [] wr W) (rx rb pb cb:Nat) (c:CQ) (hQ:RunQ wr rb pb cb c) (hx:wr.cell? ⟨rx,0,none⟩ = some (zh rb))
  (m k:Nat) (hF:GrpFine wr [rb] m out) (rc:Nat) (u:Value) (r:List V) (hrc:W.cell? ⟨rc,0,none⟩ = some u) (hu:RowU wr [rb] u r) (hr:r.length=m) (hk:∀ q ∈ c.group,q < m) (hk0:c.group.length=k) (hk1:k ≤ 1000) :
  Calls Tryz.prog 78 #[t,.func (.func 75) #[] #[zh rx,zh rc]] W fun e w' => e = .returned (.int .i64 (if placeG c.group out r < n then (placeG c.group out r:Nat) else -1)) ∧ Mods [] W w':=by
 have hlen:=hS.len
 have h:=zsp W ((List.range n).map fun i => zh (bs i)) (out.map fun g => !zr1 c.group (zr4 g) r) t n rx rc (by rw [List.length_map,hlen]) hn1 (zm hS.own hMW AB) (by rw [List.length_map,List.length_range]) (fun i hi hx2 W' hW => by
  have hi':i < n:=by simpa using hi
  have hio:i < out.length:=by omega
  have hMw:=hMW.trans hW;obtain ⟨g,hg⟩:=EX (out.getD i []);have hgm:g ∈ out:=by rw [← hg,List.getD_eq_getElem?_getD,List.getElem?_eq_getElem hio]; exact List.getElem_mem hio
  have hge:out[i]=g:=by rw [← hg,List.getD_eq_getElem?_getD,List.getElem?_eq_getElem hio]; rfl
  obtain ⟨hne,hall⟩:=hF g hgm;obtain ⟨b,cap,hv,hpos,hb,-,hcs⟩:=hS.head hi' hg hne;have hb0:=hcs 0 hpos;have hblk:=za (hS.blk i hi').2 0;rw [hv] at hblk;change wr.cell? _=some (.slice (some ⟨b,0,none⟩) g.length cap) at hblk;obtain ⟨h1,l1⟩:=hall g[0] (List.getElem_mem hpos);have hh:zr4 g=g[0].2:=by unfold zr4; simp [List.getD_eq_getElem?_getD,List.getElem?_eq_getElem hpos]
  rw [List.getElem_map,List.getElem_map,List.getElem_range,hge,hh]
  exact zss W' rx rb pb cb c (hQ.later hMw) (hMw.cell hx) rc (bs i) b 0 g.length cap g[0].1 u g[0].2 r (hW.cell hrc) (hMw.cell hblk) hpos (hMw.cell hb0) (h1.mods (hMw.mono)) (hu.mods (hMw.mono)) m l1 hr hk k hk0 hk1)
 refine h.mono fun e w' hh => ⟨?_,hh.2⟩;rw [hh.1];unfold zsr placeG;rw [List.length_map,hlen]
def GrL (w1:World) (gs:List Nat) (ps:List PR) (i:Nat) (t:Value) (wr:World):Prop:=∃ bs rv n,GS w1 wr t bs rv (groupsP gs (ps.take i)) n ∧ n ≤ i
def GrC (w1:World) (gs:List Nat) (o:List (List PR)) (p:PR) (rc i:Nat) (t s:Value) (wx:World):Prop:=
 ∃ bs rv out n k,GS w1 wx t bs rv out n ∧ s = .int .i64 (k:Nat) ∧ k < n ∧ n ≤ i + 1 ∧ putG gs o p=out.set k (out.getD k [] ++ [p]) ∧ (out.getD k []).length ≤ i ∧ ∀ x,(rv k).ownBlock=some x → x ≠ rc
theorem zsj (gs:List Nat):∀ (ps:List PR),∀ g ∈ groupsP gs ps,g.length ≤ ps.length:=by
 intro ps;obtain ⟨n,hn⟩:=EX (ps.length)
 induction n generalizing ps with
 | zero => obtain rfl:=List.length_eq_zero_iff.1 hn; intro g hg; simp [groupsP] at hg
 | succ n ih =>
  obtain ⟨qs,p,rfl⟩ : ∃ qs p,ps=qs ++ [p]:=by
   rcases List.eq_nil_or_concat ps with rfl | ⟨q,y,rfl⟩
   ·cases hn
   ·exact ⟨q,y,by rw [List.concat_eq_append]⟩
  have hq:qs.length=n:=by simpa using hn
  intro g hg;rw [zrX] at hg;have ihq:=ih qs hq;rw [List.length_append];generalize groupsP gs qs=out at *;by_cases hk:placeG gs out p.2 < out.length
  ·rw [zsb hk] at hg;rcases List.mem_or_eq_of_mem_set hg with hg | rfl
   ·have:=ihq g hg; omega
   ·have e:out.getD (placeG gs out p.2) []=out[placeG gs out p.2]:=by simp [List.getD_eq_getElem?_getD,List.getElem?_eq_getElem hk]
    rw [e,List.length_append];have:=ihq _ (List.getElem_mem hk);simp; omega
  ·rw [(zsc hk).2] at hg;rcases List.mem_append.1 hg with hg | hg
   ·have:=ihq g hg; omega
   ·obtain rfl:g=[p]:=by simpa using hg
    simp
def GroupsRes (w:World) (L:List Nat) (m:Nat) (gs:List Nat) (rs:List (List V)) (e:Ending) (w':World):Prop:=
 ∃ t bs rv ps n,e = .returned t ∧ ps.map (·.2)=rs ∧ (∀ p ∈ ps,RowU w L p.1 p.2) ∧ GS w w' t bs rv (groupsP gs ps) n ∧ n ≤ rs.length ∧ GrpFine w L m (groupsP gs ps)
theorem zr8 {w:World} {L:List Nat} {m:Nat} (gs:List Nat) (ps:List PR) (h:∀ p ∈ ps,RowU w L p.1 p.2 ∧ p.2.length=m) (i:Nat):GrpFine w L m (groupsP gs (ps.take i)):=by
 induction i with
 | zero => intro g hg; simp [groupsP] at hg
 | succ i ih =>
  by_cases hi:i < ps.length
  ·rw [List.take_succ_eq_append_getElem hi,zrX];have:=h _ (List.getElem_mem hi);exact ih.put gs this.1 this.2
  ·rw [List.take_of_length_le (by omega:ps.length ≤ i)] at ih;rw [List.take_of_length_le (by omega:ps.length ≤ i + 1)];exact ih
theorem GS.base {w0 w1 wr:World} {t:Value} {bs:Nat → Nat} {rv:Nat → Value} {out:List (List PR)} {n:Nat} (h:GS w1 wr t bs rv out n) (hM:Mods [] w0 w1):GS w0 wr t bs rv out n:=
 ⟨h.len,hM.trans h.mods,h.own,fun x hx => ⟨Nat.le_trans hM.size (h.tb x hx).1,(h.tb x hx).2⟩,fun i hi => ⟨Nat.le_trans hM.size (h.blk i hi).1,(h.blk i hi).2⟩,h.inj,h.rows,fun i hi x hx => ⟨Nat.le_trans hM.size (h.rb i hi x hx).1,(h.rb i hi x hx).2⟩⟩
theorem zsC:(Tryz.prog.info? 37).map (fun i => (i.zero,i.size,i.bytes))=some (some (.slice none 0 0),1,24):=by kernel_rfl
theorem zsP:(Tryz.prog.info? 138).map (fun i => (i.zero,i.size,i.bytes))=some (some (.pointer none),1,8):=by kernel_rfl
theorem zsF (w:World) (rb pb cb:Nat) (c:CQ) (hQ:RunQ w rb pb cb c) (ao:Option Addr) (cap:Nat) (rs:List (List V)) (n:Nat) (hn:rs.length=n) (hn1:n ≤ 1000) (hI:RowsIn w ao rs [rb]) (m:Nat) (hF:∀ r ∈ rs,r.length=m) (k:Nat) (hk0:c.group.length=k) (hk1:0 < k ∧ k ≤ 1000) (hgr:∀ q ∈ c.group,q < m) :
  Calls Tryz.prog 43 #[zh rb,.slice ao n cap] w (GroupsRes w [rb] m c.group rs):=by
 obtain ⟨vl,vr,vt,vk,hp⟩:=hQ.plan;obtain ⟨-,von,vwh,vg,its,nms,vo,hst,-,-,hgg,-⟩:=hQ.q;obtain ⟨gao,gcap,rfl,-⟩:=hgg;have r0:=za hQ.run 0;have p0:=za hp 0;have q5:=za hst 5;change w.cell? _=some (zh pb) at r0;change w.cell? _=some (zh cb) at p0;change w.cell? _=some (.slice gao c.group.length gcap) at q5;rw [hk0] at q5;obtain ⟨ps,hps,hpu,hpc⟩:=zsG hI;have hpl:ps.length=n:=by rw [← hn,← hps,List.length_map]
 have hpm:∀ p ∈ ps,RowU w [rb] p.1 p.2 ∧ p.2.length=m:=fun p hp => ⟨hpu p hp,hF _ (by rw [← hps]; exact List.mem_map.2 ⟨p,hp,rfl⟩)⟩;obtain ⟨PP,hPP⟩:=EX (GroupsRes w [rb] m c.group rs);rw [hPP];have hM1:=(QM [] w).alloc (.cells #[zh rb] 81);have hx:=za (QN w (.cells #[zh rb] 81)) 0;change World.cell? _ _=some (zh rb) at hx;have hrl:=zj hQ.run;have hnn:rs ≠ [] ↔ 0 < n:=by rw [← hn]; exact List.length_pos_iff.symm
 obtain ⟨i0,hi1,hi2,hi3,hi4⟩:=info_parts zsC;obtain ⟨j0,hj1,hj2,hj3,hj4⟩:=info_parts zsP;have HI:=QH (AI hi1 (AI hi2 (AI hi3 (AI hi4 (AI hj1 (AI hj2 (AI hj3 hj4)))))));have HH:=QH (AI hPP (AI hps (AI hpu (AI hpm (AI hpl (AI hpc (AI hnn (AI hQ (AI hM1 (AI hgr (AI hk0 (AI hrl hn))))))))))));have z0:((k:Int) == 0)=false:=by rw [beq_eq_false_iff_ne]; omega
 have hk3:=hk1.2;replace r0:=hM1.cell r0;replace p0:=hM1.cell p0;replace q5:=hM1.cell q5;clear hPP hps hpu hpm hpl hpc hnn hgr hM1 hrl hQ hp hst hI hF hn hk0 hk1 hi1 hi2 hi3 hi4 hj1 hj2 hj3 hj4;unfold zh at *;go_enter Tryz.func43, Tryz.ntmps43;go_wp2_with fail;have hMA:Mods [] w (w.alloc (.cells #[.pointer (some ⟨rb,0,none⟩)] 81)):=HH.out.2.2.2.2.2.2.2.2.1;generalize w.alloc (.cells #[.pointer (some ⟨rb,0,none⟩)] 81)=w1 at *;clear r0 p0 q5;obtain ⟨rx,hrx⟩:=EX (w.heap.size);rw [hrx] at hx ⊢;have HX:=QH (AI hx (AI hrx hMA));clear hx hrx hMA;go_loopg [4,27] n (fun gk t4 t27 wr => ∃ i:Nat,i + gk=n ∧ t27 = .int .i64 i ∧ GrL w1 c.group ps i t4 wr)
 case atStart => exact ⟨0,by omega,rfl,_,_,0,GS.start w1,LR _⟩
 obtain ⟨i,hin,rfl,bs,rv,n1,hS,hn1i⟩:=hrel;by_cases hlt:i < n
 ·obtain ⟨-,hps,hpu,hpm,hpl,hpc,hnn,hQ,-,hgr,hk0,hrl,-⟩:=HH.out;obtain ⟨hx,hrx,hMA⟩:=HX.out;obtain ⟨b,off,rfl,hbr,hcs⟩:=hpc (hnn.2 AA);have hil:i < ps.length:=by omega
  have hk0':=hcs i hil;obtain ⟨hu,hul⟩:=hpm _ (List.getElem_mem hil);have htk:groupsP c.group (ps.take (i + 1))=putG c.group (groupsP c.group (ps.take i)) ps[i]:=by rw [List.take_succ_eq_append_getElem hil,zrX]
  have hMw:=hMA.trans hS.mods;have hfi:=(zr8 (L:=[rb]) c.group ps hpm i).mods (hMw.mono);have hbig:=zsj c.group (ps.take i);generalize ps[i]=p at *;obtain ⟨u,r⟩:=p;obtain ⟨vo,cc,he,hcc,hV⟩:=hu;simp only at he hul hcc hV hk0' htk;subst he;rw [hul] at hk0' htk;have k0:=hMw.cell hk0';have hQr:=hQ.later hMw;have hxr:=hS.mods.cell hx;have hur:RowU wr [rb] (.slice vo m cc) r:=⟨vo,cc,by rw [hul],hcc,hV.mods (hMw.mono)⟩;have hMa:=(QM [] wr).alloc (.cells #[.slice vo m cc] 37);have hrc:=za (QN wr (.cells #[.slice vo m cc] 37)) 0;change World.cell? _ _=some (.slice vo m cc) at hrc;have hca:=zst w1 wr _ u4 bs rv _ n1 hS AA hMa rx rb pb cb c hQr hxr m k hfi wr.heap.size _ r hrc hur hul hgr hk0 hk3;have hkl:=zsx c.group (groupsP c.group (ps.take i)) r;have hsl:=hS.len;have hold:=fun h => zsb (gs:=c.group) (out:=groupsP c.group (ps.take i)) (p:=(.slice vo m cc,r)) h;have hnew:=fun h => (zsc (gs:=c.group) (out:=groupsP c.group (ps.take i)) (p:=(.slice vo m cc,r)) h).1;have hbk:∀ j,((groupsP c.group (ps.take i)).getD j []).length ≤ i:=fun j => by
   by_cases hj:j < (groupsP c.group (ps.take i)).length
   ·have e:(groupsP c.group (ps.take i)).getD j []=(groupsP c.group (ps.take i))[j]:=by simp [List.getD_eq_getElem?_getD,List.getElem?_eq_getElem hj]
    rw [e];have:=hbig _ (List.getElem_mem hj);rw [List.length_take] at this;omega
   ·have e:(groupsP c.group (ps.take i)).getD j []=[]:=by simp [List.getD_eq_getElem?_getD,List.getElem?_eq_none (by omega:(groupsP c.group (ps.take i)).length ≤ j)]
    rw [e]; exact Nat.zero_le _
  simp only at hold hnew;obtain ⟨O,hO⟩:=EX (groupsP c.group (ps.take i));rw [hO] at hS hca hkl hsl hold hnew htk hbk hfi;obtain ⟨K,hK⟩:=EX (placeG c.group O r);rw [hK] at hca hkl hold hnew;obtain ⟨z,hz⟩:=EX ((if K < n1 then (K:Int) else -1):Int);rw [hz] at hca;obtain ⟨tao,tcap,rfl,-⟩:=zrY hS.own AB;have HS2:=QH htk;have HS:=QH (AI hS (AI hMa (AI htk (AI hkl (AI hsl (AI hold (AI hnew (AI hbk (AI hn1i hz)))))))));unfold zh at hca;clear hps hpu hpm hpl hpc hnn hQ hgr hk0 hrl hx hrx hMA hbr hcs hil hk0' hul htk hMw hfi hbig hcc hV hQr hxr hur hMa hkl hsl hold hnew hO hK hS hn1i hbk hz;go_wp2_with fail;(with_reducible refine hca.mono ?_);rintro e w2 ⟨rfl,hM2⟩;clear hca k0;have hrc2:=hM2.cell hrc;obtain ⟨rc,hrcx⟩:=EX (wr.heap.size);rw [hrcx] at hrc2 ⊢;have HM2:=QH (AI hM2 (AI hrcx hrc2));clear hM2 hrcx hrc hrc2;go_upto_if 36 with fail;go_cut [4,8] from 37 to 43 (fun s4 s8 wx => GrC w1 c.group O (.slice vo m cc,r) rc i s4 s8 wx ∧ wx.cell? ⟨rc,0,none⟩ = some (.slice vo m cc))
  case first =>
   obtain ⟨hS,hMa,htk,hkl,hsl,hold,hnew,hbk,hn1i,hz⟩:=HS.out;obtain ⟨hM2,hrcx,hrc2⟩:=HM2.out;by_cases hKn:K < n1
   ·rw [if_pos hKn] at hz;subst hz
    have hfin:GrC w1 c.group O (.slice vo m cc,r) rc i (.slice tao n1 tcap) (.int .i64 (K:Nat)) w2 ∧ w2.cell? ⟨rc,0,none⟩ = some (.slice vo m cc):=
     ⟨⟨bs,rv,O,n1,K,hS.later (hMa.trans hM2),rfl,hKn,by omega,hold (by rw [hsl]; exact hKn),hbk K,fun x hx => by have:=hS.lt_r K hKn x hx; omega⟩,hrc2⟩
    have HFIN:=QH hfin;clear hfin hS hMa htk hkl hsl hold hnew hbk hn1i hM2 hrcx hrc2;go_wp2_with fail
    go_meet
    exact HFIN.out
   ·rw [if_neg hKn] at hz;subst hz;obtain ⟨-,-,-,-,hj1,hj2,hj3,hj4⟩:=HI.out;have hMb:=hMa.trans hM2;have hMg:=(QM [] w2).alloc (.cells #[.slice none 0 0] 140);have hgn:=QN w2 (.cells #[.slice none 0 0] 140);have hMl:=(QM [] (w2.alloc (.cells #[.slice none 0 0] 140))).alloc (.cells #[.pointer (some ⟨w2.heap.size,0,none⟩)] 138);have hgn2:=hMl.heap hgn;have hlit:=zdy (w2.alloc (.cells #[.slice none 0 0] 140)) #[.pointer (some ⟨w2.heap.size,0,none⟩)] 138;rw [zl] at hlit;have hMwa:=hMb.trans (hMg.trans hMl AB);have hown:=zm hS.own hMwa AB;have hrc3:=(hMg.trans hMl).cell hrc2;have htl:∀ x,(Value.slice tao n1 tcap).ownBlock=some x → x < wr.heap.size:=fun x hx => (hS.own.lt x hx).2;have hkn:¬ K < O.length:=by rw [hsl]; exact hKn
    have hge:=hnew hkn;rw [hsl] at hge;have HW:=QH (AI hS (AI hMwa (AI hMb.size (AI hgn2 (AI hrc3 (AI htl (AI hge (AI hn1i (AI hrcx hsl)))))))));have hn1000:n1 ≤ 1000:=by omega
    clear hS hMa htk hkl hsl hold hnew hbk hn1i hM2 hrcx hrc2 hMb hMg hgn hMl hgn2 hMwa hrc3 htl hkn hge hKn;go_wp2_with (at_builtin; refine zw _ rfl _ _ 136 rfl 138 j0 _ 1 8 Tryz.underlying136 hj1 hj2 hj3 hj4 rfl AD (.slice tao n1 tcap) n1 _ rfl hown ⟨w2.heap.size + 1,0,none⟩ 1 1 [.pointer (some ⟨w2.heap.size,0,none⟩)] rfl rfl ?b2 ?b3 AD ?b5 ?b6 ?_)
    case b3 => rfl
    case b5 => unfold maxLen; omega
    case b6 => omega
    intro g9 cap9 w9 hown9 hM9 hg9;have hfin:GrC w1 c.group O (.slice vo m cc,r) rc i (.slice (some ⟨g9,0,none⟩) (n1 + 1) cap9) (.int .i64 (n1:Nat)) w9 ∧ w9.cell? ⟨rc,0,none⟩ = some (.slice vo m cc):=by obtain ⟨hS,hMwa,hbs,hgn2,hrc3,htl,hge,hn1i,hrcx,hsl⟩:=HW.out;refine ⟨⟨_,_,_,n1 + 1,n1,hS.grow hMwa hbs hgn2 hown9 hM9 (by rw [zl,zl]; exact hg9),rfl,by omega,by omega,hge,?_,fun x hx => by rw [zrW] at hx; exact nomatch (show (none:Option Nat)=some x from hx)⟩,hM9.cell hrc3 (fun hm => by have:=htl rc AH; omega)⟩;rw [List.getD_eq_getElem?_getD,List.getElem?_append_right AA,hsl,Nat.sub_self];exact Nat.zero_le _
    have HFIN:=QH hfin;clear hfin hown hlit hj1 hj2 hj3 hj4 hown9 hM9 hg9;go_wp2_with fail
    go_meet
    exact HFIN.out
  case rest =>
  obtain ⟨⟨bs2,rv2,out,n2,k2,hS,rfl,hkn,hni,hput,hlk,hnrc⟩,hrc⟩:=hcut;obtain ⟨tao2,tcap2,rfl,htc⟩:=zrY hS.own AB;obtain ⟨gt,rfl,hgt⟩:=htc AA;have x0:=hgt k2 (by simpa using hkn);rw [List.getElem_map,List.getElem_range] at x0;have hblk:=(hS.blk k2 hkn).2;have x1:=za hblk 0;change wc.cell? _=some (rv2 k2) at x1;have hrow:=hS.rows k2 hkn;obtain ⟨rao,rcap,hrv,-⟩:=zrY hrow (by rw [List.length_map]);obtain ⟨bk,hbk⟩:=EX (bs2 k2);obtain ⟨m2,hm2⟩:=EX ((out.getD k2 []).length);have hm2i:m2 ≤ i:=by omega
  obtain ⟨rvk,hrvk⟩:=EX (rv2 k2);rw [hbk] at x0 x1 hblk;rw [hrvk] at x1 hrow hblk hrv;rw [hm2] at hrow hrv;subst hrv;have hrl:=hS.lt_r k2 hkn;rw [hrvk] at hrl;have hbl:=hS.lt_b k2 hkn;rw [hbk] at hbl;have hbr:=fun x hx => (hS.rb k2 hkn x hx).2 k2 hkn;rw [hrvk,hbk] at hbr;have HR:=QH (AI hS (AI hkn (AI hni (AI hput (AI hm2 (AI hrvk (AI hbk (AI hblk (AI hrow (AI hrl (AI hbl (AI hbr hnrc))))))))))));unfold zh at x0;have hn2:n2 ≤ 1001:=by omega
  clear hS hni hput hm2 hrvk hbk hblk hrow hrl hbl hbr hlk htc hgt HS HM2 hnrc;go_upto_region 11 with fail;apply zr AC [0,1,2,3,4,5,6,7,8,9,10,11] [(12,[]),(13,[14,15]),(16,[])] false AC (fun y => y.cell? ⟨gt,k2,none⟩ = some (.pointer (some ⟨bk,0,none⟩)) ∧ y.cell? ⟨bk,0,none⟩ = some (.slice rao m2 rcap) ∧ y.cell? ⟨rc,0,none⟩ = some (.slice vo m cc))
  case hC => exact ⟨x0,x1,hrc⟩
  case hwalk =>rintro y ⟨y0,y1,y2⟩;exact yfB
  case hrun =>
   change zct _ _ _ _ _ [(_,[]),(_,[_,_]),(_,[])] _ _;have hdr:=(QM [] wc).drew;have f0:=hdr.cell x0;have f1:=hdr.cell x1;have f2:=hdr.cell hrc;have HD:=QH hdr;clear hdr x0 x1 hrc;generalize wc.drew=W0 at *;obtain ⟨hS,hkn,hni,hput,hm2,hrvk,hbk,hblk,hrow,hrl,hbl,hbr,hnrc⟩:=HR.out;obtain ⟨hi1,hi2,hi3,hi4,-,-,-,-⟩:=HI.out;have hz:=(QM [] W0).alloc (.cells #[.slice vo m cc] 37);have hMa:=HD.out.trans hz;have hown:=zm hrow hMa AB;have hlit:=zdy W0 #[.slice vo m cc] 37;have g0:=hz.cell f0;have g1:=hz.cell f1;have g2:=hz.cell f2;have HW:=QH (AI hS (AI hkn (AI hni (AI hput (AI hm2 (AI hrvk (AI hbk (AI hMa (AI hrl (AI hbl (AI hbr (AI hblk hnrc))))))))))));clear hS hni hput hm2 hrvk hbk hblk hrow hrl hbl hbr hz hMa hnrc;refine zv fun R1 hR1 => ?_;go_wp2_with fail;refine zd (hR1 _ _ (.inr ⟨g0,g1,g2⟩) ?_);clear hR1 R1 f0 f1 f2;refine zP fun R1 hR1 => ?_;refine zw _ rfl _ _ 24 rfl 37 i0 _ 1 24 Tryz.underlying24 hi1 hi2 hi3 hi4 rfl AD (.slice rao m2 rcap) m2 _ rfl hown ⟨W0.heap.size,0,none⟩ 1 1 [.slice vo m cc] rfl rfl ?e1a ?e1b AD ?e1c ?e1d ?_
   case e1a => exact hlit
   case e1b => intro u hu; simp at hu; subst hu; rfl
   case e1c => unfold maxLen; omega
   case e1d => omega
   intro g9 cap9 w9 hown9 hM9 hg9;obtain ⟨hS,hkn',hni,hput,hm2,hrvk,hbk,hMa,hrl,hbl,hbr,hblk,hnrc⟩:=HW.out;have hsz:=HD.out.size;have htb:∀ x,(Value.slice rao m2 rcap).ownBlock=some x → gt ≠ x:=fun x hx he => ((hS.tb gt rfl).2 k2 hkn).2 (by rw [hrvk,hx,he]);have hbb:bk ∉ (Value.slice rao m2 rcap).ownBlock.toList:=fun hm => (hbr bk AH).1 rfl;have n0:=hM9.cell g0 (fun hm => htb gt AH rfl);have n1:=hM9.cell g1 hbb;have hg9':=hg9;have hfin:GrL w1 c.group ps (i + 1) (.slice (some ⟨gt,0,none⟩) n2 tcap2) (w9.setCell ⟨bk,0,none⟩ (.slice (some ⟨g9,0,none⟩) (m2 + 1) cap9)):=by refine ⟨bs2,updN rv2 k2 (.slice (some ⟨g9,0,none⟩) (m2 + 1) cap9),n2,?_,hni⟩;rw [HS2.out,hput,← hbk];exact hS.push hkn hMa hm2 (p:=(.slice vo m cc,r)) hown9 (by rw [hrvk]; exact hM9) (by rw [hrvk]; exact hg9')
   have z9:=zc (hM9.heap (hMa.heap hblk) hbb) 0;have hrc9:w9.cell? ⟨rc,0,none⟩ = some (.slice vo m cc):=hM9.cell g2 (fun hm => hnrc rc (by rw [hrvk]; simpa using hm) rfl);have HFIN:=QH hfin;clear hfin hS hkn' hni hput hm2 hrvk hbk hMa hrl hbl hbr hblk hnrc htb hbb hg9' hown hlit hown9 hM9 hg9 g0 g1 g2 hi1 hi2 hi3 hi4;go_wp2_with fail;refine zd ?_;apply hR1 _ w9 (.inr ⟨n0,n1,hrc9⟩)
   ·rintro y ⟨y0,y1,y2⟩;exact ycu
   ·clear hR1 R1;refine zv fun R2 hR2 => ?_;go_wp2_with fail;refine zd (hR2 _ _ AB ?_);clear hR2 R2 z9 n0 n1 hrc9;refine zI ?_;go_wp2_with fail;go_roundg (n - (i + 1))
    case measure => omega
    case rel => exact ⟨i + 1,by omega,by go_num,HFIN.out⟩
 ·obtain rfl:n=i:=by omega
  have hfin:PP (.returned u4) wr:=by obtain ⟨hPP,hps,hpu,hpm,hpl,-,-,-,-,-,-,-,hn⟩:=HH.out;have htk:ps.take n=ps:=List.take_of_length_le AA;have hfine:=zr8 c.group ps hpm n;rw [htk] at hS hfine;rw [← hPP];exact ⟨u4,bs,rv,ps,n1,rfl,hps,hpu,hS.base HX.out.2.2,by omega,hfine⟩
  have HFIN:=QH hfin;clear hfin hS hn1i;go_wp2_with fail;exact HFIN.out
def zpn (m:Bool) (h l:Nat):Value:=.agg #[.bool m,.int .u64 h,.int .u64 l]
theorem zpx:(Tryz.prog.info? 223).map (·.size)=some 3:=by kernel_rfl
theorem zpI (n:Int) (h0 : -9223372036854775808 ≤ n) (h1:n ≤ 9223372036854775807) (w:World) :
  Calls Tryz.prog 111 #[.int .i64 n] w fun e w' => e = .returned (zpn (decide (n < 0)) 0 n.natAbs) ∧ Mods [] w w':=by
 have hM0:=(QM [] w).alloc (.cells #[.bool false,.int .u64 0,.int .u64 0] 223);have hr:=QN w (.cells #[.bool false,.int .u64 0,.int .u64 0] 223);unfold zpn;by_cases hn:n < 0
 ·have e1:IntKind.u64.wrap n=n + 18446744073709551616:=by rw [IntKind.wrap_u64]; omega
  have e2:IntKind.u64.wrap (-(n + 18446744073709551616))=(n.natAbs:Nat):=by rw [IntKind.wrap_u64]; omega
  have e3:decide (n < 0)=true:=decide_eq_true hn;rw [e3];clear e3;go_enter Tryz.func111, Tryz.ntmps111;go_wp2_with (refine wpList_store_row rfl 223 (.tmp 2) (.tmp 8) rfl w.heap.size #[.bool true,.int .u64 0,.int .u64 (n.natAbs:Nat)] rfl rfl 223 _ hr zpx rfl AP ?_);have h3:=zi #[.bool true,.int .u64 0,.int .u64 (n.natAbs:Nat)] hr;have q0:=za h3 0;have q1:=za h3 1;have q2:=za h3 2;change World.cell? _ _=some (.bool true) at q0;exact ybl
 ·have e1:IntKind.u64.wrap n=(n.natAbs:Nat):=by rw [IntKind.wrap_u64]; omega
  have e3:decide (n < 0)=false:=decide_eq_false hn;rw [e3];clear e3;go_enter Tryz.func111, Tryz.ntmps111;go_wp2_with (refine wpList_store_row rfl 223 (.tmp 2) (.tmp 11) rfl w.heap.size #[.bool false,.int .u64 0,.int .u64 (n.natAbs:Nat)] rfl rfl 223 _ hr zpx rfl AP ?_);have h3:=zi #[.bool false,.int .u64 0,.int .u64 (n.natAbs:Nat)] hr;have q0:=za h3 0;have q1:=za h3 1;have q2:=za h3 2;change World.cell? _ _=some (.bool false) at q0;exact ybl
theorem zrh (w:World):Calls Tryz.prog 113 #[.int .i64 9] w fun e w' => e = .returned (.int .i64 1000000000) ∧ w'=w:=by
 go_enter Tryz.func113, Tryz.ntmps113;go_wp2_with fail;go_loopg [3,5] 9 (fun gk t3 t5 wr => ∃ k:Nat,k + gk=9 ∧ t5 = .int .i64 k ∧ t3 = .int .i64 ((10 ^ k:Nat):Int) ∧ wr=w)
 case atStart => exact ⟨0,rfl,rfl,rfl,rfl⟩
 obtain ⟨k,hk,rfl,rfl,rfl⟩:=hrel;by_cases hlt:k < 9
 ·have hp:(10 ^ k:Nat) ≤ 10 ^ 8:=Nat.pow_le_pow_right AD AA;have hs:(10 ^ (k + 1):Nat)=10 ^ k * 10:=Nat.pow_succ ..;obtain ⟨q,hq⟩:=EX ((10 ^ (k + 1):Nat));rw [hq] at hs;generalize (10 ^ k:Nat)=p at *;have hw:IntKind.i64.wrap ((p:Int) * 10)=(q:Nat):=by rw [IntKind.wrap_i64]; omega
  have HQ:=QH hq;clear hs hq;go_wp2_with fail;go_roundg (9 - (k + 1))
  case measure => omega
  case rel => exact ⟨k + 1,by omega,by go_num,by rw [HQ.out],rfl⟩
 ·obtain rfl:k=9:=by omega
  go_wp2_with fail;go_ret;exact ⟨rfl,rfl⟩
theorem zp2 (m:Bool) (h l:Nat) (hl:l < 18446744073709551616) (n:Int) (h0 : -9223372036854775808 ≤ n) (h1:n ≤ 9223372036854775807) (w:World) :
  Calls Tryz.prog 112 #[zpn m h l,.int .i64 n] w fun e w' => e = .returned (zpn (m != decide (n < 0)) (l * n.natAbs / 18446744073709551616) (l * n.natAbs % 18446744073709551616)) ∧ Mods [] w w':=by
 have hMa:=(QM [] w).alloc (.cells #[.bool m,.int .u64 h,.int .u64 l] 223);have hba:=QN w (.cells #[.bool m,.int .u64 h,.int .u64 l] 223);have hsa:=zl w (.cells #[.bool m,.int .u64 h,.int .u64 l] 223);generalize hw1:w.alloc (.cells #[.bool m,.int .u64 h,.int .u64 l] 223)=w1 at *;have hMb:=(QM [] w1).alloc (.cells #[.bool false,.int .u64 0,.int .u64 0] 223);have hbb:=QN w1 (.cells #[.bool false,.int .u64 0,.int .u64 0] 223);have hca:=zpI n h0 h1 (w1.alloc (.cells #[.bool false,.int .u64 0,.int .u64 0] 223));have hmu:=fun W => Tryz.bits_Mul64 l n.natAbs hl AA W;unfold zpn at *;have HW:=QH hw1;have HH:=QH (AI hMa (AI hba (AI hMb (AI hbb hsa))));obtain ⟨a,ha⟩:=EX (n.natAbs);obtain ⟨b,hb⟩:=EX (decide (n < 0));rw [ha] at hmu hca ⊢;rw [hb] at hca ⊢;clear hMa hba hMb hbb hsa ha hb h0 h1;obtain ⟨hi,hhi⟩:=EX (l * a / 18446744073709551616);obtain ⟨lo,hlo⟩:=EX (l * a % 18446744073709551616);simp only [hhi,hlo] at hmu ⊢;obtain ⟨sg,hsg⟩:=EX ((m != b));rw [hsg];replace hsg:(!(m == b))=sg:=hsg;clear hhi hlo;go_enter Tryz.func112, Tryz.ntmps112;go_wp2_with fail;(with_reducible refine hca.mono ?_);rintro e w2 ⟨rfl,hM2⟩;obtain ⟨hMa,hba,hMb,hbb,hsa⟩:=HH.out;have hb2:=(hMb.trans hM2).heap hba;have hr2:=hM2.heap hbb;have hMw:=(hMa.trans hMb).trans hM2;have hbz:=QN w2 (.cells #[.bool false,.int .u64 0,.int .u64 0] 223);have hMc:Mods [] w2 ((w2.alloc (.cells #[.bool false,.int .u64 0,.int .u64 0] 223)).setRow w2.heap.size #[.bool b,.int .u64 0,.int .u64 a]):=((QM [] w2).alloc _).setRow (.inr (LR _)) _;have hrc:=zi #[.bool b,.int .u64 0,.int .u64 a] hbz;have HK:=QH (AI hb2 (AI hr2 (AI hMw (AI hMc hrc))));clear hca hM2 hMa hba hMb hbb hsa hb2 hr2 hMw hMc hrc;go_upto_region 2 with (refine wpList_store_row rfl 223 (.tmp 5) (.tmp 9) rfl w2.heap.size #[.bool b,.int .u64 0,.int .u64 a] rfl rfl 223 _ hbz zpx rfl AP ?_);obtain ⟨hb2,hr2,hMw,hMc,hrc⟩:=HK.out;have a0:=za (hMc.heap hb2) 0;have a2:=za (hMc.heap hb2) 2;have b0:=za hrc 0;have b2:=za hrc 2;change World.cell? _ _=some (.bool m) at a0;change World.cell? _ _=some (.int .u64 l) at a2;change World.cell? _ _=some (.bool b) at b0;change World.cell? _ _=some (.int .u64 a) at b2;have hr3:=hMc.heap hr2;have hMz:=hMw.trans hMc;have hsa:w1.heap.size=w.heap.size + 1:=HH.out.2.2.2.2;clear hbz hb2 hr2 hMw hMc hrc HK;generalize (w2.alloc (.cells #[.bool false,.int .u64 0,.int .u64 0] 223)).setRow w2.heap.size #[.bool b,.int .u64 0,.int .u64 a]=w3 at *;generalize w2.heap.size=xb at *;have hmul:=hmu w3;have HZ:=QH (AI hr3 (AI hMz hsa));clear hmu hr3 hMz hsa;go_wp2_with fail;(with_reducible refine hmul.mono ?_);rintro e w4 ⟨rfl,rfl⟩;clear hmul;have hr3:=HZ.out.1;go_wp2_with (refine wpList_store_row rfl 223 (.tmp 4) (.tmp 25) rfl w1.heap.size #[.bool sg,.int .u64 hi,.int .u64 lo] rfl rfl 223 _ hr3 zpx rfl AP ?_);have h3:=zi #[.bool sg,.int .u64 hi,.int .u64 lo] hr3;have q0:=za h3 0;have q1:=za h3 1;have q2:=za h3 2;change World.cell? _ _=some (.bool sg) at q0;change World.cell? _ _=some (.int .u64 hi) at q1;change World.cell? _ _=some (.int .u64 lo) at q2;refine bodyPost_ret (by simp [results,Tryz.results112, go_sem,q0,q1,q2,Result.andThen]; try rfl) rfl ?_;exact ⟨rfl,HZ.out.2.1.setRow (.inr (by have:=HZ.out.2.2; omega)) _⟩
def cmpN (x y:Nat):Int:=if x < y then -1 else if y < x then 1 else 0
theorem zqO (x:Nat) (w:World):Calls Tryz.prog 179 #[.int .u64 x] w fun e w' => e = .returned (.bool false) ∧ w'=w:=by go_enter Tryz.func179, Tryz.ntmps179;go_wp2_with fail;go_ret;exact ⟨rfl,rfl⟩
theorem zqP (x y:Nat) (w:World):Calls Tryz.prog 150 #[.int .u64 x,.int .u64 y] w fun e w' => e = .returned (.int .i64 (cmpN x y)) ∧ w'=w:=by
 have hx:=fun W => zqO x W;have hy:=fun W => zqO y W;rcases Nat.lt_trichotomy x y with h | h | h
 ·have hc:cmpN x y = -1:=if_pos h;rw [hc];have h2:¬ y < x:=by omega
  exact yaC
 ·subst h;have hc:cmpN x x=0:=by unfold cmpN; rw [if_neg (Nat.lt_irrefl _),if_neg (Nat.lt_irrefl _)]
  rw [hc];exact yaC
 ·have hc:cmpN x y=1:=by unfold cmpN; rw [if_neg AA,if_pos h]
  rw [hc];have h2:¬ x < y:=by omega
  exact yaC
theorem zrO (w:World) (g:Nat) (a b:Int) (ha:w.cell? ⟨g,0,none⟩ = some (.int .i64 a)) (hb:w.cell? ⟨g,1,none⟩ = some (.int .i64 b)) :
  Calls Tryz.prog 115 #[.slice (some ⟨g,0,none⟩) 2 2] w fun e w' => e = .returned (.int .i64 (if a=0 then b else a)) ∧ w'=w:=by
 by_cases h:a=0
 ·subst h;rw [if_pos rfl];by_cases h2:b=0
  ·subst h2;go_enter Tryz.func115, Tryz.ntmps115;go_wp2_with fail;go_loopg [8] 2 (fun gk t8 wr => ∃ k:Nat,k + gk=2 ∧ t8 = .int .i64 k ∧ wr=w)
   case atStart => exact ⟨0,rfl,rfl,rfl⟩
   obtain ⟨k,hk,rfl,rfl⟩:=hrel;have h3:k=0 ∨ k=1 ∨ k=2:=by omega
   rcases h3 with rfl | rfl | rfl
   ·go_wp2_with fail;go_roundg 1
    case measure => omega
    case rel => exact ⟨1,rfl,rfl,rfl⟩
   ·go_wp2_with fail;go_roundg 0
    case measure => omega
    case rel => exact ⟨2,rfl,rfl,rfl⟩
   ·go_wp2_with fail;go_ret;exact ⟨rfl,rfl⟩
  ·have h2b:(b != 0)=true:=bne_iff_ne.2 h2;go_enter Tryz.func115, Tryz.ntmps115;go_wp2_with fail;go_loopg [8] 2 (fun gk t8 wr => ∃ k:Nat,k + gk=2 ∧ k ≤ 1 ∧ t8 = .int .i64 k ∧ wr=w)
   case atStart => exact ⟨0,rfl,by omega,rfl,rfl⟩
   obtain ⟨k,hk,hk1,rfl,rfl⟩:=hrel;have h3:k=0 ∨ k=1:=by omega
   rcases h3 with rfl | rfl
   ·go_wp2_with fail;go_roundg 1
    case measure => omega
    case rel => exact ⟨1,rfl,by omega,rfl,rfl⟩
   ·go_wp2_with fail;go_ret;exact ⟨rfl,rfl⟩
 ·rw [if_neg h];have h2b:(a != 0)=true:=bne_iff_ne.2 h;go_enter Tryz.func115, Tryz.ntmps115;go_wp2_with fail;go_loopg [8] 2 (fun gk t8 wr => gk=2 ∧ t8 = .int .i64 0 ∧ wr=w)
  case atStart => exact ⟨rfl,rfl,rfl⟩
  obtain ⟨hk,rfl,rfl⟩:=hrel;go_wp2_with fail;go_ret;exact ⟨rfl,rfl⟩
theorem zqQ (a b:Nat) (ha:a < 18446744073709551616) (hb:b < 18446744073709551616):bits .or .u64 (a:Nat) (b:Nat)=((a ||| b:Nat):Int):=by
 have h:a ||| b < 2 ^ 64:=Nat.or_lt_two_pow ha hb;have key:(BitVec.ofInt 64 (a:Int) ||| BitVec.ofInt 64 (b:Int)).toNat=a ||| b:=by rw [BitVec.toNat_or,BitVec.toNat_ofInt,BitVec.toNat_ofInt];rw [show ((a:Int) % ((2 ^ 64:Nat):Int)).toNat=a by omega,show ((b:Int) % ((2 ^ 64:Nat):Int)).toNat=b by omega]
 show IntKind.u64.wrap ((BitVec.ofInt 64 (a:Int) ||| BitVec.ofInt 64 (b:Int)).toNat:Nat)=_;rw [key,IntKind.wrap_u64];omega
def sizeW (h1 l1 h2 l2:Nat):Int:=if cmpN h1 h2=0 then cmpN l1 l2 else cmpN h1 h2
def cmpW (m1 m2:Bool) (s:Int) (z:Bool):Int:=if z=true then 0 else if m1=true then (if m2=true then -s else -1) else (if m2=true then 1 else s)
theorem zqR (h1 l1 h2 l2:Nat):sizeW h1 l1 h2 l2 = -1 ∨ sizeW h1 l1 h2 l2=0 ∨ sizeW h1 l1 h2 l2=1:=by
 unfold sizeW cmpN
 repeat' split
 all_goals simp
theorem zp3 (m1 m2:Bool) (h1 l1 h2 l2:Nat) (b1:h1 < 18446744073709551616) (b2:l1 < 18446744073709551616) (b3:h2 < 18446744073709551616) (b4:l2 < 18446744073709551616) (w:World) :
  Calls Tryz.prog 114 #[zpn m1 h1 l1,zpn m2 h2 l2] w fun e w' => e = .returned (.int .i64 (cmpW m1 m2 (sizeW h1 l1 h2 l2) (decide (h1 ||| l1 ||| h2 ||| l2=0)))) ∧ Mods [] w w':=by
 have hMa:=(QM [] w).alloc (.cells #[.bool m1,.int .u64 h1,.int .u64 l1] 223);have hba:=QN w (.cells #[.bool m1,.int .u64 h1,.int .u64 l1] 223);have hsa:=zl w (.cells #[.bool m1,.int .u64 h1,.int .u64 l1] 223);generalize hw1:w.alloc (.cells #[.bool m1,.int .u64 h1,.int .u64 l1] 223)=w1 at *;have hMb:=(QM [] w1).alloc (.cells #[.bool m2,.int .u64 h2,.int .u64 l2] 223);have hbb:=QN w1 (.cells #[.bool m2,.int .u64 h2,.int .u64 l2] 223);have hba2:=hMb.heap hba;have e1:=zqQ h1 l1 b1 b2;have o1:h1 ||| l1 < 18446744073709551616:=Nat.or_lt_two_pow (n:=64) b1 b2;have e2:=zqQ (h1 ||| l1) h2 o1 b3;have o2:h1 ||| l1 ||| h2 < 18446744073709551616:=Nat.or_lt_two_pow (n:=64) o1 b3;have e3:=zqQ (h1 ||| l1 ||| h2) l2 o2 b4;have hMM:=hMa.trans hMb;have a0:=za hba2 0;have a1:=za hba2 1;have a2:=za hba2 2;have c0:=za hbb 0;have c1:=za hbb 1;have c2:=za hbb 2;change World.cell? _ _=some (.bool m1) at a0;change World.cell? _ _=some (.int .u64 h1) at a1;change World.cell? _ _=some (.int .u64 l1) at a2;change World.cell? _ _=some (.bool m2) at c0;change World.cell? _ _=some (.int .u64 h2) at c1;change World.cell? _ _=some (.int .u64 l2) at c2;have k1:=fun W => zqP h1 h2 W;have k2:=fun W => zqP l1 l2 W;obtain ⟨x1,hx1⟩:=EX (cmpN h1 h2);obtain ⟨x2,hx2⟩:=EX (cmpN l1 l2);obtain ⟨s,hs⟩:=EX (sizeW h1 l1 h2 l2);obtain ⟨q,hq⟩:=EX (h1 ||| l1 ||| h2 ||| l2);have hs2:s=if x1=0 then x2 else x1:=by rw [← hs,← hx1,← hx2]; rfl
 have hsr:=zqR h1 l1 h2 l2;rw [hs] at hsr;rw [hq] at e3;rw [hx1] at k1;rw [hx2] at k2;rw [hs,hq];have HS:=QH (AI hs2 (AI hMM hsr));have HW:=QH hsa;clear hx1 hx2 hs hq hs2 hMM hsr hMa hba hMb hbb hba2 b1 b2 b3 b4 o1 o2;unfold zpn;go_enter Tryz.func114, Tryz.ntmps114;go_upto_region 1 with fail;have hg0:=(QM [] w1);generalize hw2:w1.alloc (.cells #[.bool m2,.int .u64 h2,.int .u64 l2] 223)=w2 at *;obtain ⟨pa,hpa⟩:=EX (w.heap.size);obtain ⟨pc,hpc⟩:=EX (w1.heap.size);have hpc2:pa + 1=pc:=by have:=HW.out; omega
 rw [hpa] at a0 a1 a2;rw [hpc] at c0 c1 c2;try rw [hpa]
 try rw [hpc2]
 have HKK:=QH (AI k1 k2);clear hg0 hw2 hpa hpc k1 k2;apply zr AC [0,1,2,3,4,5,6,7,8,9] [(10,[]),(11,[]),(12,[])] false AC (fun y => (y.cell? ⟨pa,0,none⟩ = some (.bool m1) ∧ y.cell? ⟨pa,1,none⟩ = some (.int .u64 h1) ∧ y.cell? ⟨pa,2,none⟩ = some (.int .u64 l1)) ∧ y.cell? ⟨pc,0,none⟩ = some (.bool m2) ∧ y.cell? ⟨pc,1,none⟩ = some (.int .u64 h2) ∧ y.cell? ⟨pc,2,none⟩ = some (.int .u64 l2))
 case hC => exact ⟨⟨a0,a1,a2⟩,c0,c1,c2⟩
 case hwalk =>
  rintro y ⟨⟨y0,y1,y2⟩,z0,z1,z2⟩;change wpQuiet _ _ _ _ [_,_,_,_,_,_,_,_,_,_] _;iterate 4 go_big_quiet_step (fail)
  go_big_quiet_step (exact HKK.out.1 y _);iterate 4 go_big_quiet_step (fail)
  go_big_quiet_step (exact HKK.out.2 y _);refine QW ?_;exact rfl
 case hrun =>
  change zct _ _ _ _ _ [(_,[]),(_,[]),(_,[])] _ _;refine zv fun R1 hR1 => ?_;have hC:∀ W,Mods [] w2 W → (W.cell? ⟨pa,0,none⟩ = some (.bool m1) ∧ W.cell? ⟨pa,1,none⟩ = some (.int .u64 h1) ∧ W.cell? ⟨pa,2,none⟩ = some (.int .u64 l1)) ∧ W.cell? ⟨pc,0,none⟩ = some (.bool m2) ∧ W.cell? ⟨pc,1,none⟩ = some (.int .u64 h2) ∧ W.cell? ⟨pc,2,none⟩ = some (.int .u64 l2):=fun W hW =>
   ⟨⟨hW.cell a0,hW.cell a1,hW.cell a2⟩,hW.cell c0,hW.cell c1,hW.cell c2⟩
  have hma:=((QM [] w2).alloc (.cells #[.int .i64 x1,.int .i64 x2] 3)).drew;have hC1:=hC _ hma;have hn:=QN w2 (.cells #[.int .i64 x1,.int .i64 x2] 3);have hor:=zrO (w2.alloc (.cells #[.int .i64 x1,.int .i64 x2] 3)).drew w2.heap.size x1 x2 (za hn 0) (za hn 1);rw [← HS.out.1] at hor;have HM:=QH hma;clear hma hn hC;clear a0 a1 a2 c0 c1 c2;go_wp2_with fail;refine zd (hR1 _ _ (.inr hC1) ?_);clear hR1 R1;refine zv fun R2 hR2 => ?_;go_wp2_with fail;(with_reducible refine hor.mono ?_);rintro e w3 ⟨rfl,rfl⟩;clear hor;go_wp2_with fail;refine zd (hR2 _ _ (.inr hC1) ?_);clear hR2 R2;refine zv fun R3 hR3 => ?_;go_wp2_with fail;refine zd (hR3 _ _ AB ?_);clear hR3 R3;refine zI ?_;obtain ⟨⟨a0,a1,a2⟩,c0,c1,c2⟩:=hC1;have hfz:Mods [] w (w2.alloc (.cells #[.int .i64 x1,.int .i64 x2] 3)).drew:=HS.out.2.1.trans HM.out;generalize (w2.alloc (.cells #[.int .i64 x1,.int .i64 x2] 3)).drew=w4 at *;have HF:=QH (AI hfz HS.out.2.2);clear hfz HM HS;obtain ⟨z,hz⟩:=EX (decide (q=0));have hzz:((q:Int) == 0)=z:=by rw [← hz,Bool.eq_iff_iff]; simp
  have hng:IntKind.i64.wrap (-s) = -s:=by have:=HF.out.2; rw [IntKind.wrap_i64]; omega
  have HZ:=QH hz;clear hz hw1 hsa;cases z <;> cases m1 <;> cases m2
  all_goals
   go_wp2_with fail;go_ret;exact ⟨by rw [HZ.out]; rfl,HF.out.1⟩
def cmpI (a b:Int):Int:=if a < b then -1 else if b < a then 1 else 0
theorem zri (p q:Nat):sizeW (p / 18446744073709551616) (p % 18446744073709551616) (q / 18446744073709551616) (q % 18446744073709551616)=cmpN p q:=by
 unfold sizeW cmpN
 repeat' split
 all_goals first | rfl | (exfalso; omega)
theorem zrx {a b c d:Nat}:(a ||| b ||| c ||| d=0) ↔ a=0 ∧ b=0 ∧ c=0 ∧ d=0:=by rw [Nat.or_eq_zero_iff,Nat.or_eq_zero_iff,Nat.or_eq_zero_iff];exact ⟨fun ⟨⟨⟨h1,h2⟩,h3⟩,h4⟩ => ⟨h1,h2,h3,h4⟩,fun ⟨h1,h2,h3,h4⟩ => ⟨⟨⟨h1,h2⟩,h3⟩,h4⟩⟩
theorem zrj (a b:Int) (p q:Nat) (hp:p=a.natAbs * 1000000000) (hq:q=b.natAbs * 1000000000) :
  cmpW (decide (a < 0) != decide ((1000000000:Int) < 0)) (decide (b < 0) != decide ((1000000000:Int) < 0)) (sizeW (p / 18446744073709551616) (p % 18446744073709551616) (q / 18446744073709551616) (q % 18446744073709551616))
   (decide (p / 18446744073709551616 ||| p % 18446744073709551616 ||| q / 18446744073709551616 ||| q % 18446744073709551616=0))=cmpI a b:=by
 rw [zri];have hz:(p / 18446744073709551616 ||| p % 18446744073709551616 ||| q / 18446744073709551616 ||| q % 18446744073709551616=0) ↔ (a=0 ∧ b=0):=by rw [zrx];omega
 have h10:decide ((1000000000:Int) < 0)=false:=by decide
 rw [h10,Bool.bne_false,Bool.bne_false];unfold cmpW cmpN cmpI;by_cases h0:a=0 ∧ b=0
 ·rw [if_pos (decide_eq_true (hz.2 h0)),h0.1,h0.2]; rfl
 ·rw [if_neg (by rw [decide_eq_true_eq,hz]; exact h0)];by_cases ha:a < 0 <;> by_cases hb:b < 0
  ·rw [if_pos (decide_eq_true ha),if_pos (decide_eq_true hb)]
   repeat' split
   all_goals first | rfl | (exfalso; omega)
  ·rw [if_pos (decide_eq_true ha),if_neg (by simpa using hb),if_pos AA]
  ·rw [if_neg (by simpa using ha),if_pos (decide_eq_true hb),if_neg AA,if_pos AA]
  ·rw [if_neg (by simpa using ha),if_neg (by simpa using hb)]
   repeat' split
   all_goals first | rfl | (exfalso; omega)
end Go.Proofs.YtcabeljiobiojaaGreatDoor
