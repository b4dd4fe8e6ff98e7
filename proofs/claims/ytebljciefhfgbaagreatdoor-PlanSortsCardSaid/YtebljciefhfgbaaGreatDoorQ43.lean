/-
  The runner's items of a query without groups, walked: columns of each row. No condition.
-/
import Derived.Test.YtebljciefhfgbaaGreatDoorQ42
import Derived.Test.YtebljciefhfgbaaGreatDoorShelf2
set_option linter.unusedVariables false
set_option maxRecDepth 100000
set_option maxHeartbeats 4000000
namespace Go.Proofs.YtebljciefhfgbaaGreatDoor
open Go.RowKit
theorem yaC {p:Prop} (h:p:=by
  clear hc;go_enter Tryz.func152, Tryz.ntmps152;go_wp2_with fail;(with_reducible refine (hx _).mono ?_);rintro e w2 ⟨rfl,rfl⟩;go_wp2_with fail;(with_reducible refine (hy _).mono ?_);rintro e w3 ⟨rfl,rfl⟩;go_wp2_with fail;go_ret;exact ⟨rfl,rfl⟩
 ):p:=h
theorem ybl {p:Prop} (h:p:=by
  change World.cell? _ _=some (.int .u64 0) at q1;change World.cell? _ _=some (.int .u64 (n.natAbs:Nat)) at q2;refine bodyPost_ret (by simp [results,Tryz.results113, go_sem,q0,q1,q2,Result.andThen]; try rfl) rfl ?_;exact ⟨rfl,hM0.setRow (.inr (LR _)) _⟩
 ):p:=h
theorem getD_some {r:List V} {k:Nat} (h:k < r.length):r[k]? = some (r.getD k zeroV0):=by rw [List.getElem?_eq_getElem h];simp [List.getD_eq_getElem?_getD,List.getElem?_eq_getElem h]
theorem zp8 (w:World) (rb pb cb:Nat) (c:CQ) (hQ:RunQ w rb pb cb c) (hg:c.grouped=false) (hc:colsOk c.items 4) (m:Nat) (hm:c.items.length=m) (hm1:0 < m ∧ m ≤ 100) (ao:Option Addr) (cap:Nat) (rs:List (List V)) (n:Nat) (hn:rs.length=n) (hn1:n ≤ 1000) (hI:RowsIn w ao rs [rb]) (hF:∀ r ∈ rs,r.length=4) :
  Calls Tryz.prog 23 #[zh rb,.slice ao n cap] w (ItemsP w rb pb (rs.map (zpj c.items))):=by
 obtain ⟨lo,lc,vr,vt,vk,hp⟩:=hQ.plan;obtain ⟨hcb,von,vwh,vg,its,nms,vo,hst,-,-,-,hits,-⟩:=hQ.q;obtain ⟨iao,icap,rfl,hitc⟩:=hits;have hRun:=hQ.run;have r0:=za hRun 0;have p0:=za hp 0;have q4:=za hst 4;have q6:=za hst 6;rw [hg] at q4;rw [hm] at q6;change w.cell? _=some (zh pb) at r0;change w.cell? _=some (zh cb) at p0;change w.cell? _=some (.bool false) at q4;change w.cell? _=some (.slice iao m icap) at q6;have hrl:=zj hRun;obtain ⟨PP,hPP⟩:=EX (ItemsP w rb pb (rs.map (zpj c.items)));rw [hPP];obtain ⟨g,rfl,hgr,-,hcells⟩:=hitc (by rw [hm]; exact hm1.1);obtain ⟨j0,hj,hj0,hj1,hj2⟩:=info_parts (show (Tryz.prog.info? 39).map (fun i => (i.zero,i.size,i.bytes))=some (some (.slice none 0 0),1,24) by kernel_rfl);have HU:=QH (AI hj (AI hj0 (AI hj1 hj2)));have HH:=QH (AI hPP (AI hI (AI hF (AI hn (AI hc (AI hm hcells))))));have HC:=QH (AI hRun (AI r0 (AI p0 (AI q6 (AI hQ.pne (AI hcb (AI hgr hrl)))))));clear hj hj0 hj1 hj2 hPP hI hF hn hc hm hcells hst hp hQ hRun hg hrl hgr hcb;unfold zh at *;go_enter Tryz.func23, Tryz.ntmps23;go_wp2_with fail;clear r0 p0 q4 q6;go_loopg [4,28] n (fun gk t4 t28 wr => ∃ i:Nat,i + gk=n ∧ t28 = .int .i64 i ∧ Mods [rb] w wr ∧ RunAt wr rb pb ∧ RowsC w wr t4 ((rs.take i).map (zpj c.items)))
 case atStart => exact ⟨0,by omega,rfl,QM _ _,HC.out.1,RowsC.start w⟩
 obtain ⟨i,hin,rfl,hM,hRun,hRC⟩:=hrel;by_cases hlt:i < n
 ·have hil:i < rs.length:=by rw [HH.out.2.2.2.1]; exact hlt
  obtain ⟨b,off,rfl,hbr,hcs⟩:=HH.out.2.1 (fun h0 => by rw [h0] at hil; simp at hil);obtain ⟨vo,cc,hcc,k0,hV⟩:=hcs i hil;have hf:=HH.out.2.2.1 rs[i] (List.getElem_mem hil);have htk:(rs.take (i + 1)).map (zpj c.items)=(rs.take i).map (zpj c.items) ++ [zpj c.items rs[i]]:=by rw [List.take_succ_eq_append_getElem hil,List.map_append]; rfl
  have hlen:((rs.take i).map (zpj c.items)).length=i:=by rw [List.length_map,List.length_take]; omega
  generalize rs[i]=r at *;rw [hf] at k0 hcc;replace k0:=hM.cell k0 hbr;obtain ⟨-,-,p0,q6,hpr,hcr,hgr,hrl⟩:=HC.out;have r0:=za hRun 0;change wr.cell? _=some (zh pb) at r0;unfold zh at r0;replace p0:=hM.cell p0 (by simpa using hpr);replace q6:=hM.cell q6 (by simpa using hcr);have hmk:=fun W => zqH W m m (LR _) AA;have hma:=(QM [] wr).alloc (.cells (mkC m) 37);have hX:=XRow.start wr m;have ho:(zpj c.items r).length=m:=by unfold zpj; rw [List.length_map]; exact HH.out.2.2.2.2.2.1
  obtain ⟨oo,hoo⟩:=EX (zpj c.items r);rw [hoo] at htk ho;have hs:=hM.size;have HR:=QH (AI hM (AI hRun (AI hRC (AI htk (AI hlen (AI hf (AI hV (AI hoo ho))))))));have HX:=QH (AI hma (AI hX (AI hs (AI hrl hgr))));have r0a:=hma.cell r0;have p0a:=hma.cell p0;have q6a:=hma.cell q6;clear hM hRun hRC htk hlen hf hV hoo ho hcs hcc hbr hma hX hs hrl hpr hcr hgr hil;go_wp2_with fail;clear r0 p0 q6 k0 r0a p0a q6a;obtain ⟨hma,hX,-⟩:=HX.out;have hRm:=HR.out.2.1.mods hma AB;generalize wr.alloc (.cells (mkC m) 37)=w1 at *;obtain ⟨xb,hxb⟩:=EX (wr.heap.size);rw [hxb] at hX HX;rw [hxb];have HXB:=QH hxb;clear hxb hmk;generalize wr=wo at *;go_loopg [55] m (fun gk2 t55 wx => ∃ k:Nat,k + gk2=m ∧ t55 = .int .i64 k ∧ Mods [rb] wo wx ∧ RunAt wx rb pb ∧ XRow wx xb m (oo.take k))
  case atStart => exact ⟨0,by omega,rfl,hma.mono,hRm,hX⟩
  clear hma hX hRm;obtain ⟨k,hkm,rfl,hMx,hRx,hXx⟩:=hrel;by_cases hkt:k < m
  ·obtain ⟨hM,hRun,hRC,htk,hlen,hf,hV,hoo,ho⟩:=HR.out;obtain ⟨-,-,hs,hrl,hgr⟩:=HX.out;obtain ⟨hc,hm,hcells⟩:=HH.out.2.2.2.2;have hki:k < c.items.length:=by omega
   obtain ⟨cs,⟨nb,rfl,hN⟩,-,hcell⟩:=hcells k hki;have k1:=hcell 0 _ rfl;rw [Nat.mul_one,Nat.add_zero] at k1;obtain ⟨⟨h,hleaf,hop⟩,hcol⟩:=hc _ (List.getElem_mem hki);have hMw:=hM.trans hMx (fun x hx => .inl hx);replace k1:=hMw.cell k1 hgr;have hcr:h.col < r.length:=by rw [hleaf] at hcol; rw [hf]; exact hcol
   have hx:=getD_some hcr;obtain ⟨x,hxe⟩:=EX (r.getD h.col zeroV0);rw [hxe] at hx;have hok:oo[k]? = some x:=by rw [← hoo,← hxe];unfold zpj;rw [List.getElem?_map,List.getElem?_eq_getElem hki,hleaf];rfl
   rw [hleaf] at hN;have hE:∀ W,Mods [] wr W → Calls Tryz.prog 76 #[zh nb,.slice vo 4 cc] W (EvalRes W x):=fun W hW =>
    zrd W h _ ((hN.mods (hMw.trans (hW.mono) (fun x hx => .inl hx))).weaken AB) hop vo cc r 4 hf ((hV.mods (hMw.trans (hW.mono) (fun x hx => .inl hx))).weaken AB) (by rw [← hf]; exact hcr) h.col rfl x hx
   have hca:=zre wr rb pb hRx _ _ x hE;have hkl:(oo.take k).length=k:=by rw [List.length_take]; omega
   have htk2:oo.take (k + 1)=oo.take k ++ [x]:=by rw [List.take_add_one,hok]; rfl
   have HI:=QH (AI hMx (AI hXx (AI hkl htk2)));have hxr:xb ≠ rb:=by have:=HXB.out; omega
   unfold zh at k1 hca;unfold valA at hca;clear hM hRun hRC htk hlen hf hV hoo ho hs hrl hgr hc hm hcells hki hN hcell hop hcol hMw hcr hx hxe hok hE hMx hXx hkl htk2 hleaf;go_wp2_with fail;(with_reducible refine hca.mono ?_);rintro e w3 ⟨rfl,hM3,hR3⟩;have hX3:=HI.out.2.1.mods hM3 (by simpa using hxr);have hth:=hX3.there hkt;have hpu:=hX3.push HI.out.2.2.1 hkt x;have hMs:Mods [xb] w3 (w3.setCells xb (k * 3) [.bool x.z,.int .i64 x.n,.string x.s]):=(((QM _ _).setCell (.inl AB) _).setCell (.inl AB) _).setCell (.inl AB) _;have hR4:=hR3.mods hMs (by simpa using hxr.symm);have hM4:=(HI.out.1.trans hM3 (fun x hx => .inl hx)).trans hMs (fun y hy => .inr (by have:=HXB.out; simp at hy; omega));have HJ:=QH (AI hpu (AI hR4 hM4));clear hca hM3 hR3 hX3 hpu hMs hR4 hM4 k1;go_wp2_with (refine wpList_store_mid rfl 37 (.tmp 66) (.tmp 65) rfl xb (k * 3) #[.bool x.z,.int .i64 x.n,.string x.s] rfl rfl hth zpv (zpW _ _ _) ?_);go_roundg (m - (k + 1))
   case measure => omega
   case rel => exact ⟨k + 1,by omega,by go_num,HJ.out.2.2,HJ.out.2.1,by rw [HI.out.2.2.2]; exact HJ.out.1⟩
  ·obtain rfl:m=k:=by omega
   obtain ⟨hM,hRun,hRC,htk,hlen,hf,hV,hoo,ho⟩:=HR.out;obtain ⟨-,-,hs,hrl,hgr⟩:=HX.out;rw [List.take_of_length_le AA] at hXx;have hMl:=(QM [] wr).alloc (.cells #[.slice (some ⟨xb,0,none⟩) m m] 39);have hC3:=hRC.later (hMx.trans (hMl.mono (L':=[rb])) (fun x hx => .inl hx)) (fun x hx => by simp at hx; omega);obtain ⟨css,hrow,hall⟩:=hC3.row;have hlt8:∀ x,u4.ownBlock=some x → x < wo.heap.size:=fun x hx => by obtain ⟨css',hrow',-⟩:=hRC.row;exact (hrow'.lt x hx).2
   have hr:∀ L:List Nat,(∀ x ∈ L,x < w.heap.size ∨ u4.ownBlock=some x) → RowR (wr.alloc (.cells #[.slice (some ⟨xb,0,none⟩) m m] 39)) L [.slice (some ⟨xb,0,none⟩) m m] oo:=fun L hL =>
    ⟨some ⟨xb,0,none⟩,m,by rw [ho],by rw [ho]; exact LR _,(hXx.mods hMl AB).vals (fun hx => by
     have:=HXB.out;rcases hL xb hx with h | h
     ·omega
     ·have:=hlt8 xb h
      omega)⟩
   have hlit2:=zdy wr #[.slice (some ⟨xb,0,none⟩) m m] 39;rw [hlen] at hrow;have HW:=QH (AI hC3 (AI hrow (AI hall (AI hr (AI hlit2 (AI (hM.trans (hMx.trans (hMl.mono (L':=[rb])) (fun x hx => .inl hx)) (fun x hx => .inl hx)) (AI hlen (AI (hRx.mods hMl AB) (AI htk hrl)))))))));clear hM hRun hRC htk hlen hf hV hoo ho hs hrl hgr hMl hC3 hrow hall hlt8 hr hlit2 hMx hRx hXx;obtain ⟨hj,hj0,hj1,hj2⟩:=HU.out;go_wp2_with (at_builtin; refine zw _ rfl _ _ 24 rfl 39 j0 _ 1 24 Tryz.underlying24 hj hj0 hj1 hj2 rfl AD u4 i css.flatten rfl HW.out.2.1 ⟨wr.heap.size,0,none⟩ 1 1 [.slice (some ⟨xb,0,none⟩) m m] rfl rfl ?b2 ?b3 AD ?b5 ?b6 ?_)
   case b3 => rfl
   case b5 => unfold maxLen; omega
   case b6 => omega
   intro g9 cap9 w9 hown9 hM9 hg9;have hnew:=HW.out.1.push (by rw [HW.out.2.2.2.2.2.2.1]; exact HW.out.2.1) HW.out.2.2.1 HW.out.2.2.2.1 HW.out.2.2.2.2.2.2.1 hown9 hM9 BJ;have hM99:Mods [rb] w w9:=HW.out.2.2.2.2.2.1.trans hM9 (fun x hx => .inr (HW.out.1.own x AJ));have hR9:RunAt w9 rb pb:=HW.out.2.2.2.2.2.2.2.1.mods hM9 (fun hx => by have h1:=HW.out.1.own rb AJ; have h2:=HW.out.2.2.2.2.2.2.2.2.2; omega);have HA:=QH (AI hnew (AI hM99 hR9));clear hnew hM99 hR9 hown9 hM9 hg9 hj hj0 hj1 hj2;go_wp2_with fail;go_roundg (n - (i + 1))
   case measure => omega
   case rel => exact ⟨i + 1,by omega,by go_num,HA.out.2.1,HA.out.2.2,by rw [HW.out.2.2.2.2.2.2.2.2.1]; exact HA.out.1⟩
 ·obtain rfl:n=i:=by omega
  rw [List.take_of_length_le (by rw [HH.out.2.2.2.1]; exact LR _)] at hRC;have hfin:PP (.returned u4) wr:=by rw [← HH.out.1];exact ⟨_,rfl,hM,hRun,hRC⟩
  have HFIN:=QH hfin;clear hfin hM hRun hRC;go_wp2_with fail;exact HFIN.out
theorem zpT {w:World} {L:List Nat}:∀ {css:List (List Value)} {rs:List (List V)},AllR RowR w L css rs → ∃ ps:List PR,ps.map (·.2)=rs ∧ ps.map (fun p => [p.1])=css:=by
 intro css
 induction css with
 | nil => intro rs h; cases rs with | nil => exact ⟨[],rfl,rfl⟩ | cons r rs => cases h
 | cons c css ih =>
  intro rs h
  cases rs with
  | nil => cases h
  | cons r rs =>obtain ⟨⟨vo,k,rfl,-⟩,h2⟩:=h;obtain ⟨ps,e1,e2⟩:=ih h2;exact ⟨(.slice vo r.length k,r) :: ps,by rw [← e1]; rfl,by rw [← e2]; rfl⟩
theorem allR_iff {w:World} {L:List Nat}:∀ {ps:List PR},AllR RowR w L (ps.map fun p => [p.1]) (ps.map (·.2)) ↔ ∀ p ∈ ps,RowR w L [p.1] p.2:=by
 intro ps
 induction ps with
 | nil => exact ⟨fun _ p hp => (nomatch hp),fun _ => trivial⟩
 | cons p ps ih =>
  constructor
  ·rintro ⟨h1,h2⟩ q hq;rcases MC hq with rfl | hq
   ·exact h1
   ·exact ih.1 h2 q hq
  ·intro h;exact ⟨h p List.mem_cons_self,ih.2 fun q hq => h q (CM _ hq)⟩
theorem zpA (ps:List PR):(ps.map fun p => [p.1]).flatten=ps.map (·.1):=by induction ps with | nil => rfl | cons p ps ih => simp only [List.map_cons,List.flatten_cons,ih]; rfl
theorem zpD (ps:List PR) (i:Nat):(ps.map (·.2)).getD i []=(ps.getD i dPR).2:=by rw [List.getD_eq_getElem?_getD,List.getD_eq_getElem?_getD,List.getElem?_map];cases ps[i]? <;> rfl
theorem zqL (ps:List PR) (j:Nat):(zpt dPR ps j).map (·.2)=zpt [] (ps.map (·.2)) j:=by unfold zpt;rw [List.map_set,List.map_set,zpD,zpD]
theorem zqM (ord:List V → List V → Int):∀ (j:Nat) (ps:List PR),(sinkL (ordP ord) dPR j ps).map (·.2)=sinkL ord [] j (ps.map (·.2)):=by
 intro j
 induction j with
 | zero => intro ps; rfl
 | succ j ih =>
  intro ps;unfold sinkL;rw [zpD,zpD];unfold ordP;split
  ·rw [← zqL]; exact ih _
  ·rfl
theorem zrg (ord:List V → List V → Int):∀ (k:Nat) (ps:List PR),(insL (ordP ord) dPR k ps).map (·.2)=insL ord [] k (ps.map (·.2)):=by
 intro k
 induction k with
 | zero => intro ps; rfl
 | succ k ih => intro ps; unfold insL; rw [zqM,ih]
theorem zqN (w1 w:World) (rb g n cap:Nat) (rs:List (List V)) (hn:rs.length=n) (hn0:0 < n) (hn1:n ≤ 19) (hC:RowsC w1 w (.slice (some ⟨g,0,none⟩) n cap) rs)
  (ord:List V → List V → Int) (hcmp:∀ W,Mods [g] w W → ∀ va,∀ ra ∈ rs,∀ vb,∀ rc ∈ rs,RowR W [] [va] ra → RowR W [] [vb] rc → Calls Tryz.prog 25 #[zh rb,va,vb] W fun e w' => e = .returned (.int .i64 (ord ra rc)) ∧ Mods [] W w') :
  Calls Tryz.prog 24 #[.slice (some ⟨g,0,none⟩) n cap,.func (.func 25) #[zh rb] #[]] w
   fun e w' => e = .returned (.tuple #[]) ∧ Mods [g] w w' ∧ RowsC w1 w' (.slice (some ⟨g,0,none⟩) n cap) (insL ord [] (n - 1) rs):=by
 obtain ⟨hsz,⟨css,hown,hall⟩,hg⟩:=hC;have hgg:=hg g rfl;obtain ⟨ps,e1,e2⟩:=zpT (hall [] AB);subst e1;subst e2;rw [zpA,hn] at hown;have hn':ps.length=n:=by rw [← hn,List.length_map]
 have hrow:∀ L:List Nat,(∀ x ∈ L,x < w1.heap.size ∨ x=g) → ∀ p ∈ ps,RowR w L [p.1] p.2:=fun L hL => allR_iff.1 (hall L fun x hx => (hL x hx).imp id fun h => by rw [h]; rfl);have hone:∀ p ∈ ps,p.1.oneCell'=true:=fun p hp => by obtain ⟨vo,c,h1,-⟩:=hrow [] AB p hp;simp only [List.cons.injEq,and_true] at h1;rw [h1]; rfl
 refine (zqg w _ n cap _ hn1 _ (zrw w rb g n cap ps hn' hn0 AA hown hone ord fun W hM p hp q hq => hcmp W hM _ _ (List.mem_map_of_mem hp) _ _ (List.mem_map_of_mem hq) ?_ ?_)).mono ?_
 ·exact rowRep.weaken AB (rowRep.mods (hrow [g] AB p hp) hM)
 ·exact rowRep.weaken AB (rowRep.mods (hrow [g] AB q hq) hM)
 ·rintro e w' ⟨rfl,hM,hO⟩;refine ⟨rfl,hM,Nat.le_trans hsz hM.size,⟨(insL (ordP ord) dPR (n - 1) ps).map fun p => [p.1],?_,fun L hL => ?_⟩,hg⟩
  ·rw [zpA,zpl,hn]; exact hO
  ·rw [← zrg];refine allR_iff.2 fun p hp => ?_;have hm:=zqf (ordP ord) dPR (n - 1) ps AA p hp;refine rowRep.weaken (L':=L) (L:=L ++ [g]) (fun x hx => List.mem_append_left _ hx) ?_
   exact rowRep.mods (hrow (L ++ [g]) (fun x hx => by
    rcases List.mem_append.1 hx with hx | hx
    ·exact (hL x hx).imp id fun h => (Option.some.inj h).symm
    ·exact .inr AJ) p hm) (hM.mono (fun x hx => .inl (List.mem_append_right _ hx)))
def zpn (m:Bool) (h l:Nat):Value:=.agg #[.bool m,.int .u64 h,.int .u64 l]
theorem zpx:(Tryz.prog.info? 226).map (·.size)=some 3:=by kernel_rfl
theorem zpI (n:Int) (h0 : -9223372036854775808 ≤ n) (h1:n ≤ 9223372036854775807) (w:World) :
  Calls Tryz.prog 113 #[.int .i64 n] w fun e w' => e = .returned (zpn (decide (n < 0)) 0 n.natAbs) ∧ Mods [] w w':=by
 have hM0:=(QM [] w).alloc (.cells #[.bool false,.int .u64 0,.int .u64 0] 226);have hr:=QN w (.cells #[.bool false,.int .u64 0,.int .u64 0] 226);unfold zpn;by_cases hn:n < 0
 ·have e1:IntKind.u64.wrap n=n + 18446744073709551616:=by rw [IntKind.wrap_u64]; omega
  have e2:IntKind.u64.wrap (-(n + 18446744073709551616))=(n.natAbs:Nat):=by rw [IntKind.wrap_u64]; omega
  have e3:decide (n < 0)=true:=decide_eq_true hn;rw [e3];clear e3;go_enter Tryz.func113, Tryz.ntmps113;go_wp2_with (refine wpList_store_row rfl 226 (.tmp 2) (.tmp 8) rfl w.heap.size #[.bool true,.int .u64 0,.int .u64 (n.natAbs:Nat)] rfl rfl 226 _ hr zpx rfl AN ?_);have h3:=zi #[.bool true,.int .u64 0,.int .u64 (n.natAbs:Nat)] hr;have q0:=za h3 0;have q1:=za h3 1;have q2:=za h3 2;change World.cell? _ _=some (.bool true) at q0;exact ybl
 ·have e1:IntKind.u64.wrap n=(n.natAbs:Nat):=by rw [IntKind.wrap_u64]; omega
  have e3:decide (n < 0)=false:=decide_eq_false hn;rw [e3];clear e3;go_enter Tryz.func113, Tryz.ntmps113;go_wp2_with (refine wpList_store_row rfl 226 (.tmp 2) (.tmp 11) rfl w.heap.size #[.bool false,.int .u64 0,.int .u64 (n.natAbs:Nat)] rfl rfl 226 _ hr zpx rfl AN ?_);have h3:=zi #[.bool false,.int .u64 0,.int .u64 (n.natAbs:Nat)] hr;have q0:=za h3 0;have q1:=za h3 1;have q2:=za h3 2;change World.cell? _ _=some (.bool false) at q0;exact ybl
theorem zrh (w:World):Calls Tryz.prog 115 #[.int .i64 9] w fun e w' => e = .returned (.int .i64 1000000000) ∧ w'=w:=by
 go_enter Tryz.func115, Tryz.ntmps115;go_wp2_with fail;go_loopg [3,5] 9 (fun gk t3 t5 wr => ∃ k:Nat,k + gk=9 ∧ t5 = .int .i64 k ∧ t3 = .int .i64 ((10 ^ k:Nat):Int) ∧ wr=w)
 case atStart => exact ⟨0,rfl,rfl,rfl,rfl⟩
 obtain ⟨k,hk,rfl,rfl,rfl⟩:=hrel;by_cases hlt:k < 9
 ·have hp:(10 ^ k:Nat) ≤ 10 ^ 8:=Nat.pow_le_pow_right AD AA;have hs:(10 ^ (k + 1):Nat)=10 ^ k * 10:=Nat.pow_succ ..;obtain ⟨q,hq⟩:=EX ((10 ^ (k + 1):Nat));rw [hq] at hs;generalize (10 ^ k:Nat)=p at *;have hw:IntKind.i64.wrap ((p:Int) * 10)=(q:Nat):=by rw [IntKind.wrap_i64]; omega
  have HQ:=QH hq;clear hs hq;go_wp2_with fail;go_roundg (9 - (k + 1))
  case measure => omega
  case rel => exact ⟨k + 1,by omega,by go_num,by rw [HQ.out],rfl⟩
 ·obtain rfl:k=9:=by omega
  go_wp2_with fail;go_ret;exact ⟨rfl,rfl⟩
theorem zp2 (m:Bool) (h l:Nat) (hl:l < 18446744073709551616) (n:Int) (h0 : -9223372036854775808 ≤ n) (h1:n ≤ 9223372036854775807) (w:World) :
  Calls Tryz.prog 114 #[zpn m h l,.int .i64 n] w fun e w' => e = .returned (zpn (m != decide (n < 0)) (l * n.natAbs / 18446744073709551616) (l * n.natAbs % 18446744073709551616)) ∧ Mods [] w w':=by
 have hMa:=(QM [] w).alloc (.cells #[.bool m,.int .u64 h,.int .u64 l] 226);have hba:=QN w (.cells #[.bool m,.int .u64 h,.int .u64 l] 226);have hsa:=zl w (.cells #[.bool m,.int .u64 h,.int .u64 l] 226);generalize hw1:w.alloc (.cells #[.bool m,.int .u64 h,.int .u64 l] 226)=w1 at *;have hMb:=(QM [] w1).alloc (.cells #[.bool false,.int .u64 0,.int .u64 0] 226);have hbb:=QN w1 (.cells #[.bool false,.int .u64 0,.int .u64 0] 226);have hca:=zpI n h0 h1 (w1.alloc (.cells #[.bool false,.int .u64 0,.int .u64 0] 226));have hmu:=fun W => Tryz.bits_Mul64 l n.natAbs hl AA W;unfold zpn at *;have HW:=QH hw1;have HH:=QH (AI hMa (AI hba (AI hMb (AI hbb hsa))));obtain ⟨a,ha⟩:=EX (n.natAbs);obtain ⟨b,hb⟩:=EX (decide (n < 0));rw [ha] at hmu hca ⊢;rw [hb] at hca ⊢;clear hMa hba hMb hbb hsa ha hb h0 h1;obtain ⟨hi,hhi⟩:=EX (l * a / 18446744073709551616);obtain ⟨lo,hlo⟩:=EX (l * a % 18446744073709551616);simp only [hhi,hlo] at hmu ⊢;obtain ⟨sg,hsg⟩:=EX ((m != b));rw [hsg];replace hsg:(!(m == b))=sg:=hsg;clear hhi hlo;go_enter Tryz.func114, Tryz.ntmps114;go_wp2_with fail;(with_reducible refine hca.mono ?_);rintro e w2 ⟨rfl,hM2⟩;obtain ⟨hMa,hba,hMb,hbb,hsa⟩:=HH.out;have hb2:=(hMb.trans hM2).heap hba;have hr2:=hM2.heap hbb;have hMw:=(hMa.trans hMb).trans hM2;have hbz:=QN w2 (.cells #[.bool false,.int .u64 0,.int .u64 0] 226);have hMc:Mods [] w2 ((w2.alloc (.cells #[.bool false,.int .u64 0,.int .u64 0] 226)).setRow w2.heap.size #[.bool b,.int .u64 0,.int .u64 a]):=((QM [] w2).alloc _).setRow (.inr (LR _)) _;have hrc:=zi #[.bool b,.int .u64 0,.int .u64 a] hbz;have HK:=QH (AI hb2 (AI hr2 (AI hMw (AI hMc hrc))));clear hca hM2 hMa hba hMb hbb hsa hb2 hr2 hMw hMc hrc;go_upto_region 2 with (refine wpList_store_row rfl 226 (.tmp 5) (.tmp 9) rfl w2.heap.size #[.bool b,.int .u64 0,.int .u64 a] rfl rfl 226 _ hbz zpx rfl AN ?_);obtain ⟨hb2,hr2,hMw,hMc,hrc⟩:=HK.out;have a0:=za (hMc.heap hb2) 0;have a2:=za (hMc.heap hb2) 2;have b0:=za hrc 0;have b2:=za hrc 2;change World.cell? _ _=some (.bool m) at a0;change World.cell? _ _=some (.int .u64 l) at a2;change World.cell? _ _=some (.bool b) at b0;change World.cell? _ _=some (.int .u64 a) at b2;have hr3:=hMc.heap hr2;have hMz:=hMw.trans hMc;have hsa:w1.heap.size=w.heap.size + 1:=HH.out.2.2.2.2;clear hbz hb2 hr2 hMw hMc hrc HK;generalize (w2.alloc (.cells #[.bool false,.int .u64 0,.int .u64 0] 226)).setRow w2.heap.size #[.bool b,.int .u64 0,.int .u64 a]=w3 at *;generalize w2.heap.size=xb at *;have hmul:=hmu w3;have HZ:=QH (AI hr3 (AI hMz hsa));clear hmu hr3 hMz hsa;go_wp2_with fail;(with_reducible refine hmul.mono ?_);rintro e w4 ⟨rfl,rfl⟩;clear hmul;have hr3:=HZ.out.1;go_wp2_with (refine wpList_store_row rfl 226 (.tmp 4) (.tmp 25) rfl w1.heap.size #[.bool sg,.int .u64 hi,.int .u64 lo] rfl rfl 226 _ hr3 zpx rfl AN ?_);have h3:=zi #[.bool sg,.int .u64 hi,.int .u64 lo] hr3;have q0:=za h3 0;have q1:=za h3 1;have q2:=za h3 2;change World.cell? _ _=some (.bool sg) at q0;change World.cell? _ _=some (.int .u64 hi) at q1;change World.cell? _ _=some (.int .u64 lo) at q2;refine bodyPost_ret (by simp [results,Tryz.results114, go_sem,q0,q1,q2,Result.andThen]; try rfl) rfl ?_;exact ⟨rfl,HZ.out.2.1.setRow (.inr (by have:=HZ.out.2.2; omega)) _⟩
def cmpN (x y:Nat):Int:=if x < y then -1 else if y < x then 1 else 0
theorem zqO (x:Nat) (w:World):Calls Tryz.prog 181 #[.int .u64 x] w fun e w' => e = .returned (.bool false) ∧ w'=w:=by go_enter Tryz.func181, Tryz.ntmps181;go_wp2_with fail;go_ret;exact ⟨rfl,rfl⟩
theorem zqP (x y:Nat) (w:World):Calls Tryz.prog 152 #[.int .u64 x,.int .u64 y] w fun e w' => e = .returned (.int .i64 (cmpN x y)) ∧ w'=w:=by
 have hx:=fun W => zqO x W;have hy:=fun W => zqO y W;rcases Nat.lt_trichotomy x y with h | h | h
 ·have hc:cmpN x y = -1:=if_pos h;rw [hc];have h2:¬ y < x:=by omega
  exact yaC
 ·subst h;have hc:cmpN x x=0:=by unfold cmpN; rw [if_neg (Nat.lt_irrefl _),if_neg (Nat.lt_irrefl _)]
  rw [hc];exact yaC
 ·have hc:cmpN x y=1:=by unfold cmpN; rw [if_neg AA,if_pos h]
  rw [hc];have h2:¬ x < y:=by omega
  exact yaC
theorem zrO (w:World) (g:Nat) (a b:Int) (ha:w.cell? ⟨g,0,none⟩ = some (.int .i64 a)) (hb:w.cell? ⟨g,1,none⟩ = some (.int .i64 b)) :
  Calls Tryz.prog 117 #[.slice (some ⟨g,0,none⟩) 2 2] w fun e w' => e = .returned (.int .i64 (if a=0 then b else a)) ∧ w'=w:=by
 by_cases h:a=0
 ·subst h;rw [if_pos rfl];by_cases h2:b=0
  ·subst h2;go_enter Tryz.func117, Tryz.ntmps117;go_wp2_with fail;go_loopg [8] 2 (fun gk t8 wr => ∃ k:Nat,k + gk=2 ∧ t8 = .int .i64 k ∧ wr=w)
   case atStart => exact ⟨0,rfl,rfl,rfl⟩
   obtain ⟨k,hk,rfl,rfl⟩:=hrel;have h3:k=0 ∨ k=1 ∨ k=2:=by omega
   rcases h3 with rfl | rfl | rfl
   ·go_wp2_with fail;go_roundg 1
    case measure => omega
    case rel => exact ⟨1,rfl,rfl,rfl⟩
   ·go_wp2_with fail;go_roundg 0
    case measure => omega
    case rel => exact ⟨2,rfl,rfl,rfl⟩
   ·go_wp2_with fail;go_ret;exact ⟨rfl,rfl⟩
  ·have h2b:(b != 0)=true:=bne_iff_ne.2 h2;go_enter Tryz.func117, Tryz.ntmps117;go_wp2_with fail;go_loopg [8] 2 (fun gk t8 wr => ∃ k:Nat,k + gk=2 ∧ k ≤ 1 ∧ t8 = .int .i64 k ∧ wr=w)
   case atStart => exact ⟨0,rfl,by omega,rfl,rfl⟩
   obtain ⟨k,hk,hk1,rfl,rfl⟩:=hrel;have h3:k=0 ∨ k=1:=by omega
   rcases h3 with rfl | rfl
   ·go_wp2_with fail;go_roundg 1
    case measure => omega
    case rel => exact ⟨1,rfl,by omega,rfl,rfl⟩
   ·go_wp2_with fail;go_ret;exact ⟨rfl,rfl⟩
 ·rw [if_neg h];have h2b:(a != 0)=true:=bne_iff_ne.2 h;go_enter Tryz.func117, Tryz.ntmps117;go_wp2_with fail;go_loopg [8] 2 (fun gk t8 wr => gk=2 ∧ t8 = .int .i64 0 ∧ wr=w)
  case atStart => exact ⟨rfl,rfl,rfl⟩
  obtain ⟨hk,rfl,rfl⟩:=hrel;go_wp2_with fail;go_ret;exact ⟨rfl,rfl⟩
theorem zqQ (a b:Nat) (ha:a < 18446744073709551616) (hb:b < 18446744073709551616):bits .or .u64 (a:Nat) (b:Nat)=((a ||| b:Nat):Int):=by
 have h:a ||| b < 2 ^ 64:=Nat.or_lt_two_pow ha hb;have key:(BitVec.ofInt 64 (a:Int) ||| BitVec.ofInt 64 (b:Int)).toNat=a ||| b:=by rw [BitVec.toNat_or,BitVec.toNat_ofInt,BitVec.toNat_ofInt];rw [show ((a:Int) % ((2 ^ 64:Nat):Int)).toNat=a by omega,show ((b:Int) % ((2 ^ 64:Nat):Int)).toNat=b by omega]
 show IntKind.u64.wrap ((BitVec.ofInt 64 (a:Int) ||| BitVec.ofInt 64 (b:Int)).toNat:Nat)=_;rw [key,IntKind.wrap_u64];omega
def sizeW (h1 l1 h2 l2:Nat):Int:=if cmpN h1 h2=0 then cmpN l1 l2 else cmpN h1 h2
def cmpW (m1 m2:Bool) (s:Int) (z:Bool):Int:=if z=true then 0 else if m1=true then (if m2=true then -s else -1) else (if m2=true then 1 else s)
theorem zqR (h1 l1 h2 l2:Nat):sizeW h1 l1 h2 l2 = -1 ∨ sizeW h1 l1 h2 l2=0 ∨ sizeW h1 l1 h2 l2=1:=by
 unfold sizeW cmpN
 repeat' split
 all_goals simp
theorem zp3 (m1 m2:Bool) (h1 l1 h2 l2:Nat) (b1:h1 < 18446744073709551616) (b2:l1 < 18446744073709551616) (b3:h2 < 18446744073709551616) (b4:l2 < 18446744073709551616) (w:World) :
  Calls Tryz.prog 116 #[zpn m1 h1 l1,zpn m2 h2 l2] w fun e w' => e = .returned (.int .i64 (cmpW m1 m2 (sizeW h1 l1 h2 l2) (decide (h1 ||| l1 ||| h2 ||| l2=0)))) ∧ Mods [] w w':=by
 have hMa:=(QM [] w).alloc (.cells #[.bool m1,.int .u64 h1,.int .u64 l1] 226);have hba:=QN w (.cells #[.bool m1,.int .u64 h1,.int .u64 l1] 226);have hsa:=zl w (.cells #[.bool m1,.int .u64 h1,.int .u64 l1] 226);generalize hw1:w.alloc (.cells #[.bool m1,.int .u64 h1,.int .u64 l1] 226)=w1 at *;have hMb:=(QM [] w1).alloc (.cells #[.bool m2,.int .u64 h2,.int .u64 l2] 226);have hbb:=QN w1 (.cells #[.bool m2,.int .u64 h2,.int .u64 l2] 226);have hba2:=hMb.heap hba;have e1:=zqQ h1 l1 b1 b2;have o1:h1 ||| l1 < 18446744073709551616:=Nat.or_lt_two_pow (n:=64) b1 b2;have e2:=zqQ (h1 ||| l1) h2 o1 b3;have o2:h1 ||| l1 ||| h2 < 18446744073709551616:=Nat.or_lt_two_pow (n:=64) o1 b3;have e3:=zqQ (h1 ||| l1 ||| h2) l2 o2 b4;have hMM:=hMa.trans hMb;have a0:=za hba2 0;have a1:=za hba2 1;have a2:=za hba2 2;have c0:=za hbb 0;have c1:=za hbb 1;have c2:=za hbb 2;change World.cell? _ _=some (.bool m1) at a0;change World.cell? _ _=some (.int .u64 h1) at a1;change World.cell? _ _=some (.int .u64 l1) at a2;change World.cell? _ _=some (.bool m2) at c0;change World.cell? _ _=some (.int .u64 h2) at c1;change World.cell? _ _=some (.int .u64 l2) at c2;have k1:=fun W => zqP h1 h2 W;have k2:=fun W => zqP l1 l2 W;obtain ⟨x1,hx1⟩:=EX (cmpN h1 h2);obtain ⟨x2,hx2⟩:=EX (cmpN l1 l2);obtain ⟨s,hs⟩:=EX (sizeW h1 l1 h2 l2);obtain ⟨q,hq⟩:=EX (h1 ||| l1 ||| h2 ||| l2);have hs2:s=if x1=0 then x2 else x1:=by rw [← hs,← hx1,← hx2]; rfl
 have hsr:=zqR h1 l1 h2 l2;rw [hs] at hsr;rw [hq] at e3;rw [hx1] at k1;rw [hx2] at k2;rw [hs,hq];have HS:=QH (AI hs2 (AI hMM hsr));have HW:=QH hsa;clear hx1 hx2 hs hq hs2 hMM hsr hMa hba hMb hbb hba2 b1 b2 b3 b4 o1 o2;unfold zpn;go_enter Tryz.func116, Tryz.ntmps116;go_upto_region 1 with fail;have hg0:=(QM [] w1);generalize hw2:w1.alloc (.cells #[.bool m2,.int .u64 h2,.int .u64 l2] 226)=w2 at *;obtain ⟨pa,hpa⟩:=EX (w.heap.size);obtain ⟨pc,hpc⟩:=EX (w1.heap.size);have hpc2:pa + 1=pc:=by have:=HW.out; omega
 rw [hpa] at a0 a1 a2;rw [hpc] at c0 c1 c2;try rw [hpa]
 try rw [hpc2]
 have HKK:=QH (AI k1 k2);clear hg0 hw2 hpa hpc k1 k2;apply zr AC [0,1,2,3,4,5,6,7,8,9] [(10,[]),(11,[]),(12,[])] false AC (fun y => (y.cell? ⟨pa,0,none⟩ = some (.bool m1) ∧ y.cell? ⟨pa,1,none⟩ = some (.int .u64 h1) ∧ y.cell? ⟨pa,2,none⟩ = some (.int .u64 l1)) ∧ y.cell? ⟨pc,0,none⟩ = some (.bool m2) ∧ y.cell? ⟨pc,1,none⟩ = some (.int .u64 h2) ∧ y.cell? ⟨pc,2,none⟩ = some (.int .u64 l2))
 case hC => exact ⟨⟨a0,a1,a2⟩,c0,c1,c2⟩
 case hwalk =>
  rintro y ⟨⟨y0,y1,y2⟩,z0,z1,z2⟩;change wpQuiet _ _ _ _ [_,_,_,_,_,_,_,_,_,_] _;iterate 4 go_big_quiet_step (fail)
  go_big_quiet_step (exact HKK.out.1 y _);iterate 4 go_big_quiet_step (fail)
  go_big_quiet_step (exact HKK.out.2 y _);refine QW ?_;exact rfl
 case hrun =>
  change zct _ _ _ _ _ [(_,[]),(_,[]),(_,[])] _ _;refine zv fun R1 hR1 => ?_;have hC:∀ W,Mods [] w2 W → (W.cell? ⟨pa,0,none⟩ = some (.bool m1) ∧ W.cell? ⟨pa,1,none⟩ = some (.int .u64 h1) ∧ W.cell? ⟨pa,2,none⟩ = some (.int .u64 l1)) ∧ W.cell? ⟨pc,0,none⟩ = some (.bool m2) ∧ W.cell? ⟨pc,1,none⟩ = some (.int .u64 h2) ∧ W.cell? ⟨pc,2,none⟩ = some (.int .u64 l2):=fun W hW =>
   ⟨⟨hW.cell a0,hW.cell a1,hW.cell a2⟩,hW.cell c0,hW.cell c1,hW.cell c2⟩
  have hma:=((QM [] w2).alloc (.cells #[.int .i64 x1,.int .i64 x2] 3)).drew;have hC1:=hC _ hma;have hn:=QN w2 (.cells #[.int .i64 x1,.int .i64 x2] 3);have hor:=zrO (w2.alloc (.cells #[.int .i64 x1,.int .i64 x2] 3)).drew w2.heap.size x1 x2 (za hn 0) (za hn 1);rw [← HS.out.1] at hor;have HM:=QH hma;clear hma hn hC;clear a0 a1 a2 c0 c1 c2;go_wp2_with fail;refine zd (hR1 _ _ (.inr hC1) ?_);clear hR1 R1;refine zv fun R2 hR2 => ?_;go_wp2_with fail;(with_reducible refine hor.mono ?_);rintro e w3 ⟨rfl,rfl⟩;clear hor;go_wp2_with fail;refine zd (hR2 _ _ (.inr hC1) ?_);clear hR2 R2;refine zv fun R3 hR3 => ?_;go_wp2_with fail;refine zd (hR3 _ _ AB ?_);clear hR3 R3;refine zI ?_;obtain ⟨⟨a0,a1,a2⟩,c0,c1,c2⟩:=hC1;have hfz:Mods [] w (w2.alloc (.cells #[.int .i64 x1,.int .i64 x2] 3)).drew:=HS.out.2.1.trans HM.out;generalize (w2.alloc (.cells #[.int .i64 x1,.int .i64 x2] 3)).drew=w4 at *;have HF:=QH (AI hfz HS.out.2.2);clear hfz HM HS;obtain ⟨z,hz⟩:=EX (decide (q=0));have hzz:((q:Int) == 0)=z:=by rw [← hz,Bool.eq_iff_iff]; simp
  have hng:IntKind.i64.wrap (-s) = -s:=by have:=HF.out.2; rw [IntKind.wrap_i64]; omega
  have HZ:=QH hz;clear hz hw1 hsa;cases z <;> cases m1 <;> cases m2
  all_goals
   go_wp2_with fail;go_ret;exact ⟨by rw [HZ.out]; rfl,HF.out.1⟩
def cmpI (a b:Int):Int:=if a < b then -1 else if b < a then 1 else 0
theorem zri (p q:Nat):sizeW (p / 18446744073709551616) (p % 18446744073709551616) (q / 18446744073709551616) (q % 18446744073709551616)=cmpN p q:=by
 unfold sizeW cmpN
 repeat' split
 all_goals first | rfl | (exfalso; omega)
theorem zrx {a b c d:Nat}:(a ||| b ||| c ||| d=0) ↔ a=0 ∧ b=0 ∧ c=0 ∧ d=0:=by rw [Nat.or_eq_zero_iff,Nat.or_eq_zero_iff,Nat.or_eq_zero_iff];exact ⟨fun ⟨⟨⟨h1,h2⟩,h3⟩,h4⟩ => ⟨h1,h2,h3,h4⟩,fun ⟨h1,h2,h3,h4⟩ => ⟨⟨⟨h1,h2⟩,h3⟩,h4⟩⟩
theorem zrj (a b:Int) (p q:Nat) (hp:p=a.natAbs * 1000000000) (hq:q=b.natAbs * 1000000000) :
  cmpW (decide (a < 0) != decide ((1000000000:Int) < 0)) (decide (b < 0) != decide ((1000000000:Int) < 0)) (sizeW (p / 18446744073709551616) (p % 18446744073709551616) (q / 18446744073709551616) (q % 18446744073709551616))
   (decide (p / 18446744073709551616 ||| p % 18446744073709551616 ||| q / 18446744073709551616 ||| q % 18446744073709551616=0))=cmpI a b:=by
 rw [zri];have hz:(p / 18446744073709551616 ||| p % 18446744073709551616 ||| q / 18446744073709551616 ||| q % 18446744073709551616=0) ↔ (a=0 ∧ b=0):=by rw [zrx];omega
 have h10:decide ((1000000000:Int) < 0)=false:=by decide
 rw [h10,Bool.bne_false,Bool.bne_false];unfold cmpW cmpN cmpI;by_cases h0:a=0 ∧ b=0
 ·rw [if_pos (decide_eq_true (hz.2 h0)),h0.1,h0.2]; rfl
 ·rw [if_neg (by rw [decide_eq_true_eq,hz]; exact h0)];by_cases ha:a < 0 <;> by_cases hb:b < 0
  ·rw [if_pos (decide_eq_true ha),if_pos (decide_eq_true hb)]
   repeat' split
   all_goals first | rfl | (exfalso; omega)
  ·rw [if_pos (decide_eq_true ha),if_neg (by simpa using hb),if_pos AA]
  ·rw [if_neg (by simpa using ha),if_pos (decide_eq_true hb),if_neg AA,if_pos AA]
  ·rw [if_neg (by simpa using ha),if_neg (by simpa using hb)]
   repeat' split
   all_goals first | rfl | (exfalso; omega)
end Go.Proofs.YtebljciefhfgbaaGreatDoor
