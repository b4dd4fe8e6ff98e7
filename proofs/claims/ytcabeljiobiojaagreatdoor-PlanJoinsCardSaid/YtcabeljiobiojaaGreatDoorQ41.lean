/-
  plan.Make, walked: its plan. No condition but that Go's own variables hold what they were laid with.
-/
import Derived.Test.YtcabeljiobiojaaGreatDoorQ40
import Derived.Test.YtcabeljiobiojaaGreatDoorShelf2
set_option linter.unusedVariables false
set_option maxRecDepth 100000
set_option maxHeartbeats 4000000
namespace Go.Proofs.YtcabeljiobiojaaGreatDoor
open Go.RowKit
theorem ydQ {p:Prop} (h:p:=by
  have hs8:=zl w7 (.cells #[.pointer (some ⟨b,0,none⟩)] 51);have hlit:=zdy w7 #[.pointer (some ⟨b,0,none⟩)] 51;have HZ:=QH (AI hPz (AI hs8 hlit));clear hPz hs8 hlit;obtain ⟨hi,hz0,hz1,hz2⟩:=HU.out
  first
  |guard_hyp gCm
   go_wp2_with (at_builtin; refine zw _ rfl _ _ 46 rfl 51 i0 _ 1 8 Tryz.underlying46 hi hz0 hz1 hz2 rfl AD vl bl.length (bl.map zh) rfl HZ.out.1.l.own ⟨w7.heap.size,0,none⟩ 1 1 [.pointer (some ⟨b,0,none⟩)] rfl rfl ?c2_1 ?c3_1 AD ?c5_1 ?c6_1 ?_)
   case c3_1 => rfl
   case c5_1 => obtain ⟨q1,q2,q3,q4⟩:=HW.out.2; unfold maxLen; omega
   case c6_1 => obtain ⟨q1,q2,q3,q4⟩:=HW.out.2; omega
   have gAJ:=QH trivial;exact yda
  |guard_hyp gCn
   go_wp2_with (at_builtin; refine zw _ rfl _ _ 46 rfl 51 i0 _ 1 8 Tryz.underlying46 hi hz0 hz1 hz2 rfl AD vl bl.length (bl.map zh) rfl HZ.out.1.l.own ⟨w7.heap.size,0,none⟩ 1 1 [.pointer (some ⟨b,0,none⟩)] rfl rfl ?c2_2 ?c3_2 AD ?c5_2 ?c6_2 ?_)
   case c3_2 => rfl
   case c5_2 => obtain ⟨q1,q2,q3,q4⟩:=HW.out.2; unfold maxLen; omega
   case c6_2 => obtain ⟨q1,q2,q3,q4⟩:=HW.out.2; omega
   have gAK:=QH trivial;exact yda
  |guard_hyp gCo
   go_wp2_with (at_builtin; refine zw _ rfl _ _ 46 rfl 51 i0 _ 1 8 Tryz.underlying46 hi hz0 hz1 hz2 rfl AD vr br.length (br.map zh) rfl HZ.out.1.r.own ⟨w7.heap.size,0,none⟩ 1 1 [.pointer (some ⟨b,0,none⟩)] rfl rfl ?c2_3 ?c3_3 AD ?c5_3 ?c6_3 ?_)
   case c3_3 => rfl
   case c5_3 => obtain ⟨q1,q2,q3,q4⟩:=HW.out.2; unfold maxLen; omega
   case c6_3 => obtain ⟨q1,q2,q3,q4⟩:=HW.out.2; omega
   intro g9 cap9 w9 hown9 hM9 hg9;have hadd:=PlanM.addr HZ.out.1 AO AO HN.out hown9 hM9 BJ;have hb9:=hM9.heap HZ.out.1.blk (fun hm => (HZ.out.1.r.blk pb AH).2.1 rfl);have d9:=za hb9 3;have f9:=zc hb9 3;have hM99:Mods [pb] w5 w9:=(HX.out.1.trans (HQ.out.trans ((QM [] w7).alloc _) AB)).trans hM9 (fun x hx => .inr (HZ.out.1.r.blk x AJ).1);have HA:=QH (AI hadd hM99);clear hadd hb9 hown9 hM9 hg9 hM99 hi hz0 hz1 hz2 cv;go_wp2_with fail;go_roundg (n - (i + 1))
   case measure => omega
   case rel => exact ⟨i + 1,by omega,by go_num,HA.out.2.setCell (.inl AB) _,_,_,_,_,_,_,_,_,by rw [HX.out.2,zrL HS.out.2 HS.out.1]; exact HA.out.1⟩
 ):p:=h
theorem yds {p:Prop} (h:p:=by
  go_wp2_with fail;(with_reducible refine hq.mono ?_);rintro e w2 ⟨cb,rfl,hM2,hC⟩;unfold zh;clear hq;have htb:=tables15 w2;have HC:=QH (AI hM2 hC);clear hM2 hC;go_wp2_with fail;(with_reducible refine htb.mono ?_);rintro e w3 ⟨tb,rfl,hM3,hI,-⟩;clear htb
  first
  |guard_hyp gBp
   have hmk:=zqd w3 (HT.out.later (HC.out.1.trans hM3)).1.1 tb hI cb c (HC.out.2.later hM3) HX.out.1 (.inr HX.out.2.1) (by rw [HX.out.2.2.1]; decide);rw [show decide (c.right=none)=false by rw [HX.out.2.1]; rfl] at hmk;have HM3:=QH (AI (HC.out.1.trans hM3) (HC.out.2.later hM3));unfold zh at hmk;clear hM3 hI;go_wp2_with fail;(with_reducible refine hmk.mono ?_);rintro e w4 ⟨pb,rfl,hM4,-,B,vl,vr,vt,vk,bl,br,bt,ps,hP⟩;clear hmk;unfold zh;have htb:=tables15 w4;have HP:=QH (AI hM4 hP);clear hM4 hP;go_wp2_with fail;(with_reducible refine htb.mono ?_);rintro e w5 ⟨tb2,rfl,hM5,hI,-⟩;clear htb;have hM35:=HP.out.1.trans hM5;have hmn:=zrb w5 (HT.out.later (HM3.out.1.trans hM35)).1.1 tb2 hI;have HM5:=QH (AI hM35 (HP.out.2.later hM5));clear hM35 hM5 hI;go_wp2_with fail;(with_reducible refine hmn.mono ?_);rintro e w6 ⟨rfl,hM6⟩;clear hmn;have HM6:=QH (AI (HM5.out.1.trans hM6) (HM5.out.2.later hM6));clear hM6;have hb:=za HM6.out.2.blk;have b1:=hb 1;have b2:=hb 2;have b3:=hb 3;have b4:=hb 4;have b5:=hb 5;obtain ⟨lo,lc,rfl⟩:=zpq HM6.out.2.l.own;obtain ⟨ro,rc,rfl⟩:=zpq HM6.out.2.r.own;obtain ⟨tso,tc,rfl⟩:=zpq HM6.out.2.t.own;obtain ⟨ko,kc,rfl⟩:=zpq HM6.out.2.k.own;rw [HM6.out.2.nl.len,HX.out.2.2.2.2.1] at b2;rw [HM6.out.2.nr.len,HX.out.2.2.2.2.2.1] at b3;rw [HM6.out.2.nt.len,HX.out.2.2.2.2.2.2.2] at b4;rw [HM6.out.2.nk.len,HX.out.2.2.2.2.2.2.1] at b5;change w6.cell? _=some (.int .i64 4) at b1;change w6.cell? _=some (.slice lo 1 lc) at b2;change w6.cell? _=some (.slice ro 1 rc) at b3;change w6.cell? _=some (.slice tso 1 tc) at b4;change w6.cell? _=some (.slice ko 1 kc) at b5;have hC6:=HM3.out.2.later HM6.out.1;obtain ⟨-,von,vwh,vg,its,nms,vo,hst,-,hwh,-⟩:=hC6;have c4:=za hst 3;change w6.cell? _=some vwh at c4;have hsp:=zpG w6 w6 [] vwh c.whr hwh (QM _ _) (by rw [HX.out.2.2.2.1]; decide);clear hst hwh hb;go_wp2_with fail;(with_reducible refine hsp.mono ?_);rintro e w7 ⟨v7,bs7,rfl,hO7,hN7,-⟩;clear hsp;have hM7:=hO7.1;obtain ⟨so,sc,rfl⟩:=zpq hO7.2.1;rw [hN7.len,HX.out.2.2.2.1];have HF:=QH (HM3.out.1.trans (HM6.out.1.trans hM7 AB));clear hM7 hO7 hN7;go_wp2_with fail;go_ret;exact ⟨rfl,HF.out⟩
  |guard_hyp gBq
   have hmk:=zqd w3 (HT.out.later (HC.out.1.trans hM3)).1.1 tb hI cb c (HC.out.2.later hM3) HX.out.1.left (.inl HX.out.1.right) (by rw [HX.out.1.on,HX.out.1.whr]; decide);rw [show decide (c.right=none)=true by rw [HX.out.1.right]; rfl,HX.out.1.on,HX.out.1.whr] at hmk;have HM3:=QH (AI (HC.out.1.trans hM3) (HC.out.2.later hM3));unfold zh at hmk;clear hM3 hI;go_wp2_with fail;(with_reducible refine hmk.mono ?_);rintro e w4 ⟨pb,rfl,hM4,-,B,vl,vr,vt,vk,bl,br,bt,ps,hP⟩;clear hmk;have hM04:=HM3.out.1.trans hM4;obtain ⟨lo,lc,rfl⟩:=zpq hP.l.own;have hbl:bl.length=0:=hP.nl.len;have hpl:=hP.blk;rw [hbl] at hpl
   have hrw:=zrm w4 pb cb c ⟨lo,lc,vr,vt,vk,hpl⟩ (HM3.out.2.later hM4) HX.out.1.right ao cap rs n hn (fun h0 => by
    obtain ⟨g,o,h1,h2,h3⟩:=HX.out.2.2.2.1 h0
    exact ⟨g,o,h1,h2,fun i hi => by
     obtain ⟨vo,k,h4,h5,h6⟩:=h3 i hi
     exact ⟨vo,k,h4,hM04.cell h5,h6.mods hM04⟩⟩) HX.out.2.2.2.2 v2 rs2 n2 hn2 hn19 (fun W rb => HX.out.2.1 W rb pb cb) ord (fun W rb => HX.out.2.2.1 W rb pb cb) lim off hlim hoff hl0 hl1 ho0 ho1
   have HM4:=QH hM04;unfold zh at hrw ⊢;clear hM4 hP hbl hpl hM04 hlim hoff hl0 hl1 ho0 ho1;go_wp2_with fail;(with_reducible refine hrw.mono ?_);rintro e w5 ⟨bo,bc,rfl,hbc,hM5,hR⟩;clear hrw;have hfin:PP (.returned (.tuple #[.slice bo (winR lim off (insL ord [] (n2 - 1) rs2)).length bc,.bool true])) w5:=by rw [← HP.out];exact ⟨bo,bc,rfl,hbc,HM4.out.trans hM5,fun L hL => hR L fun x hx => LL (hL x hx) HM4.out.size⟩
   have HFIN:=QH hfin;clear hfin hR hM5 hbc;go_wp2_with fail;exact HFIN.out
 ):p:=h
theorem yda {p:Prop} (h:p:=by
  intro g9 cap9 w9 hown9 hM9 hg9;have hadd:=PlanM.addl HZ.out.1 AO AO HN.out hown9 hM9 BJ;have hb9:=hM9.heap HZ.out.1.blk (fun hm => (HZ.out.1.l.blk pb AH).2.1 rfl);have d9:=za hb9 2;have f9:=zc hb9 2;have hM99:Mods [pb] w5 w9:=(HX.out.1.trans (HQ.out.trans ((QM [] w7).alloc _) AB)).trans hM9 (fun x hx => .inr (HZ.out.1.l.blk x AJ).1);have HA:=QH (AI hadd hM99);clear hadd hb9 hown9 hM9 hg9 hM99 hi hz0 hz1 hz2 cv;go_wp2_with fail;go_roundg (n - (i + 1))
  case measure => omega
  first
  |guard_hyp gAJ
   case rel => exact ⟨i + 1,by omega,by go_num,HA.out.2.setCell (.inl AB) _,_,_,_,_,_,_,_,_,by rw [HX.out.2,zru (.inl rfl)]; exact HA.out.1⟩
  |guard_hyp gAK
   case rel => exact ⟨i + 1,by omega,by go_num,HA.out.2.setCell (.inl AB) _,_,_,_,_,_,_,_,_,by rw [HX.out.2,zru (.inr HS.out.2)]; exact HA.out.1⟩
 ):p:=h
def PlanAt (w0 w:World) (cb pb:Nat) (p:PlT):Prop:=∃ B vl vr vt vk bl br bt ps,PlanM B w0 w [] cb pb 4 p vl vr vt vk bl br bt ps
def MakeRes (w:World) (cb:Nat) (p:PlT) (e:Ending) (w':World):Prop:=
 ∃ pb,e = .returned (.tuple #[zh pb,.int .i64 0]) ∧ Mods [] w w' ∧ w.heap.size ≤ pb ∧ PlanAt w w' cb pb p
theorem zrb (w:World) (hT:Tabs w) (tb:Nat) (hI:TblsIn w (some ⟨tb,0,none⟩) tabsV []) :
  Calls Tryz.prog 11 #[.slice (some ⟨tb,0,none⟩) 2 2,.pointer none] w fun e w' => e = .returned (.tuple #[.pointer none,.int .i64 1]) ∧ Mods [] w w':=by
 have hrt:=zjQ w hT tabsV (fun t ht => (tabs_right.each t ht).1) 2 rfl AD _ 2 hI;rw [tabs_right.ok] at hrt;clear hT hI;go_enter Tryz.func11, Tryz.ntmps11;go_wp2_with fail;(with_reducible refine hrt.mono ?_);rintro e w1 ⟨rfl,hM1⟩;clear hrt;go_wp2_with fail;go_ret2;exact ⟨rfl,hM1⟩
theorem zqd (w:World) (hT:Tabs w) (tb:Nat) (hI:TblsIn w (some ⟨tb,0,none⟩) tabsV []) (cb:Nat) (c:CQ) (hC:CheckedAt w [] cb c) (hleft:c.left=0) (hright:c.right=none ∨ c.right=some 1) (hlen:(splitO c.on ++ splitO c.whr).length ≤ 100000) :
  Calls Tryz.prog 11 #[.slice (some ⟨tb,0,none⟩) 2 2,zh cb] w (MakeRes w cb (makeP 4 (decide (c.right=none)) (splitO c.on ++ splitO c.whr))):=by
 have hrt:=zjQ w hT tabsV (fun t ht => (tabs_right.each t ht).1) 2 rfl AD _ 2 hI;rw [tabs_right.ok] at hrt;obtain ⟨-,von,vwh,vg,its,nms,vo,hst,hOn,hWh,-,-,-,-⟩:=hC;obtain ⟨bt0,off,he,-,hcols⟩:=hI (by simp [tabsV]);cases he;obtain ⟨-,co,cc,t1,-⟩:=hcols 0 (by simp [tabsV]);change w.cell? ⟨tb,1,none⟩ = some (.slice co 4 cc) at t1;have c0:=za hst 0;have c1:=za hst 1;have c2:=za hst 2;have c3:=za hst 3;rw [hleft] at c0;change w.cell? _=some (.int .i64 0) at c0;change w.cell? _=some (.int .i64 (rightV c.right)) at c1;change w.cell? _=some von at c2;change w.cell? _=some vwh at c3;obtain ⟨R,hR⟩:=EX (rightV c.right);obtain ⟨one,hone⟩:=EX (decide (c.right=none));have hRo:(R = -1 ∧ one=true) ∨ (R=1 ∧ one=false):=by
  rcases hright with h | h
  ·left; rw [← hR,← hone,h]; exact ⟨rfl,rfl⟩
  ·right; rw [← hR,← hone,h]; exact ⟨rfl,rfl⟩
 rw [hR] at c1;rw [hone];have hq1:¬ R < -1:=by omega
 have hq2:¬ 2 ≤ R:=by omega
 rw [List.length_append] at hlen;have hsp1:=fun W hM => zpG w W [] von c.on hOn hM AA;have hsp2:=fun W hM => zpG w W [] vwh c.whr hWh hM AA;have gDV:=QH trivial;exact yey
theorem zrf (w:World) (ao:Option Addr) (cap rb:Nat) :
  Calls Tryz.prog 81 #[.slice ao 0 cap,.int .i64 0,.int .i64 (0:Nat),.func (.func 23) #[zh rb] #[]] w fun e w' => e = .returned (.tuple #[]) ∧ w'=w:=by
 unfold zh;go_enter Tryz.func81, Tryz.ntmps81;go_wp2_with fail;go_loopg [8] 0 (fun gk t8 wr => t8 = .int .i64 1 ∧ w=wr)
 case atStart => exact ⟨rfl,rfl⟩
 obtain ⟨rfl,rfl⟩:=hrel;go_wp2_with fail;go_end0;exact ⟨rfl,rfl⟩
theorem zqo (w:World) (x fv:Value) (n:Nat) (hn:n ≤ 19) (R:World → Prop)
  (hins:Calls Tryz.prog 81 #[x,.int .i64 0,.int .i64 n,fv] w fun e w' => e = .returned (.tuple #[]) ∧ R w') :
  Calls Tryz.prog 45 #[x,.int .i64 n,fv] w fun e w' => e = .returned (.tuple #[]) ∧ R w':=by
 have HI:=QH hins;clear hins;go_enter Tryz.func45, Tryz.ntmps45;go_wp2_with fail;go_loopg [7,8] 0 (fun gk t7 t8 wr => t7 = .int .i64 0 ∧ t8 = .int .i64 20 ∧ w=wr)
 case atStart => exact ⟨rfl,rfl,rfl⟩
 obtain ⟨rfl,rfl,rfl⟩:=hrel;have hn20:¬ 20 ≤ n:=by omega
 have hn21:¬ 20 < n:=by omega
 go_wp2_with fail;refine HI.out.mono ?_;rintro e w2 ⟨rfl,hR⟩;have HR:=QH hR;clear hR;go_wp2_with fail;go_loopg [6,7,8,9] 0 (fun gk t6 t7 t8 t9 wr => t6 = .int .i64 20 ∧ w2=wr)
 case atStart => exact ⟨rfl,rfl⟩
 obtain ⟨rfl,rfl⟩:=hrel;go_wp2_with fail;go_end0;exact ⟨rfl,HR.out⟩
theorem zqg (w:World) (x:Option Addr) (n cap:Nat) (fv:Value) (hn:n ≤ 19) (R:World → Prop)
  (hins:Calls Tryz.prog 81 #[.slice x n cap,.int .i64 0,.int .i64 n,fv] w fun e w' => e = .returned (.tuple #[]) ∧ R w') :
  Calls Tryz.prog 22 #[.slice x n cap,fv] w fun e w' => e = .returned (.tuple #[]) ∧ R w':=by
 have HI:=QH (zqo w _ fv n hn R hins);clear hins;go_enter Tryz.func22, Tryz.ntmps22;go_wp2_with fail;refine HI.out.mono ?_;rintro e w2 ⟨rfl,hR⟩;have HR:=QH hR;clear hR;go_wp2_with fail;go_end0;exact ⟨rfl,HR.out⟩
theorem zpT {w:World} {L:List Nat}:∀ {css:List (List Value)} {rs:List (List V)},AllR RowR w L css rs → ∃ ps:List PR,ps.map (·.2)=rs ∧ ps.map (fun p => [p.1])=css:=by
 intro css
 induction css with
 | nil => intro rs h; cases rs with | nil => exact ⟨[],rfl,rfl⟩ | cons r rs => cases h
 | cons c css ih =>
  intro rs h
  cases rs with
  | nil => cases h
  | cons r rs =>obtain ⟨⟨vo,k,rfl,-⟩,h2⟩:=h;obtain ⟨ps,e1,e2⟩:=ih h2;exact ⟨(.slice vo r.length k,r) :: ps,by rw [← e1]; rfl,by rw [← e2]; rfl⟩
theorem allR_iff {w:World} {L:List Nat}:∀ {ps:List PR},AllR RowR w L (ps.map fun p => [p.1]) (ps.map (·.2)) ↔ ∀ p ∈ ps,RowR w L [p.1] p.2:=by
 intro ps
 induction ps with
 | nil => exact ⟨fun _ p hp => (nomatch hp),fun _ => trivial⟩
 | cons p ps ih =>
  constructor
  ·rintro ⟨h1,h2⟩ q hq;rcases MC hq with rfl | hq
   ·exact h1
   ·exact ih.1 h2 q hq
  ·intro h;exact ⟨h p List.mem_cons_self,ih.2 fun q hq => h q (CM _ hq)⟩
theorem zpA (ps:List PR):(ps.map fun p => [p.1]).flatten=ps.map (·.1):=by induction ps with | nil => rfl | cons p ps ih => simp only [List.map_cons,List.flatten_cons,ih]; rfl
theorem zqq (w:World) (rb pb cb:Nat) (c:CQ) (hQ:RunQ w rb pb cb c) (hk:c.order=[]) (va vb:Value) :
  Calls Tryz.prog 23 #[zh rb,va,vb] w fun e w' => e = .returned (.int .i64 0) ∧ Mods [] w w':=by
 obtain ⟨vl,vr,vt,vk,hp⟩:=hQ.plan;obtain ⟨-,von,vwh,vg,its,nms,vo,hst,-,-,-,-,-,hord⟩:=hQ.q;obtain ⟨oao,ocap,rfl,-⟩:=hord;have r0:=za hQ.run 0;have p0:=za hp 0;have q8:=za hst 8;rw [hk] at q8;change w.cell? _=some (zh pb) at r0;change w.cell? _=some (zh cb) at p0;change w.cell? _=some (.slice oao 0 ocap) at q8;clear hst hp hQ hk;unfold zh at *;go_enter Tryz.func23, Tryz.ntmps23;go_wp2_with fail;go_loopg [21] 0 (fun gk t21 wr => gk=0 ∧ t21 = .int .i64 0 ∧ wr=w)
 case atStart => exact ⟨rfl,rfl,rfl⟩
 obtain ⟨rfl,rfl,rfl⟩:=hrel;go_wp2_with fail;go_ret;exact ⟨rfl,QM _ _⟩
theorem CheckedAt.fresh {w:World} {L:List Nat} {cb:Nat} {c:CQ} (h:CheckedAt w L cb c) {g:Nat} (hg:w.heap.size ≤ g):CheckedAt w (g :: L) cb c:=by
 obtain ⟨hn,von,vwh,vg,its,nms,vo,h1,h2,h3,h4,h5,h6,h7⟩:=h;have ho:∀ {v:Value} {o:Option NT},OptN w L v o → OptN w (g :: L) v o:=fun {v o} h => by
  cases o with
  | none => exact h
  | some n => exact NAt.fresh hg h
 refine ⟨?_,von,vwh,vg,its,nms,vo,h1,ho h2,ho h3,?_,h5.fresh nodRep AA hg,h6.fresh nameRep AA hg,h7.fresh keyCRep AA hg⟩
 ·have:=zj h1;simp only [List.mem_cons,not_or];exact ⟨by omega,hn⟩
 ·obtain ⟨ao,cap,rfl,h⟩:=h4;refine ⟨ao,cap,rfl,fun h0 => ?_⟩;obtain ⟨b,h5,h6,h7⟩:=h h0;have:=zio (h7 0 h0);exact ⟨b,h5,by simp only [List.mem_cons,not_or]; exact ⟨by omega,h6⟩,h7⟩
theorem CheckedAt.later {w w':World} {L:List Nat} {cb:Nat} {c:CQ} (h:CheckedAt w L cb c) (hM:Mods [] w w'):CheckedAt w' L cb c:=by obtain ⟨hn,von,vwh,vg,its,nms,vo,h1,h2,h3,h4,h5,h6,h7⟩:=h;have hM':Mods L w w':=hM.mono;exact ⟨hn,von,vwh,vg,its,nms,vo,hM'.heap h1 hn,h2.mods hM',h3.mods hM',h4.mods hM',h5.mods nodRep hM',h6.mods nameRep hM',h7.mods keyCRep hM'⟩
theorem RowsC.slice {w1 w:World} {t:Value} {rs:List (List V)} (h:RowsC w1 w t rs):∃ ao cap,t = .slice ao rs.length cap ∧ rs.length ≤ cap ∧ (rs ≠ [] → ∃ g,ao=some ⟨g,0,none⟩ ∧ w1.heap.size ≤ g) ∧ ∀ L:List Nat,(∀ x ∈ L,x < w1.heap.size) → ∀ g,ao=some ⟨g,0,none⟩ → ∀ i (hi:i < rs.length),∃ vo c,rs[i].length ≤ c ∧ w.cell? ⟨g,i,none⟩ = some (.slice vo rs[i].length c) ∧ ValsIn w vo rs[i] L:=by
 obtain ⟨hsz,⟨css,hown,hall⟩,hg⟩:=h;have hat:∀ L:List Nat,(∀ x ∈ L,x < w1.heap.size) → ∀ i (hi:i < rs.length),∃ vo c,css.flatten[i]? = some (.slice vo rs[i].length c) ∧ rs[i].length ≤ c ∧ ValsIn w vo rs[i] L:=fun L hL i hi => by
  obtain ⟨ps,e1,e2⟩:=zpT (hall L fun x hx => .inl (hL x hx));subst e1;subst e2;have hp:=allR_iff.1 (hall L fun x hx => .inl (hL x hx));have hi':i < ps.length:=by simpa using hi
  obtain ⟨vo,c,h1,h2,h3⟩:=hp ps[i] (List.getElem_mem hi');simp only [List.cons.injEq,and_true] at h1;refine ⟨vo,c,?_,?_,?_⟩
  ·rw [zpA]; simp [hi',h1]
  ·simpa using h2
  ·simpa using h3
 rcases hown.2 with ⟨hv,hl⟩ | ⟨g',cap',cur,hv,hb,hgh,hnc,hcm,hcs,htake⟩
 ·have h0:rs=[]:=List.length_eq_zero_iff.1 hl;subst h0;exact ⟨none,0,hv,by simp,fun h => absurd rfl h,fun L hL g hg => nomatch hg⟩
 ·subst hv;refine ⟨_,_,rfl,hnc,fun _ => ⟨g',rfl,hg g' rfl⟩,fun L hL g hgg i hi => ?_⟩;cases hgg;obtain ⟨vo,c,h1,h2,h3⟩:=hat L hL i hi;exact ⟨vo,c,h2,(zar hown).2.2 i _ h1,h3⟩
theorem zpq {w:World} {T:TypeId} {k n:Nat} {v:Value} {xs:List Value} (h:w.ownsRow 0 T k v n xs):∃ ao cap,v = .slice ao n cap:=by
 rcases h.2 with ⟨hv,hl⟩ | ⟨g',cap',cur,hv,-⟩
 ·exact ⟨none,0,by rw [hl]; exact hv⟩
 ·exact ⟨_,_,hv⟩
theorem zrR:∃ c,zaI exP=some (.ok c) ∧ c.left=0 ∧ c.right=some 1 ∧ (splitO c.on ++ splitO c.whr).length=4 ∧ (splitO c.whr).length=2 ∧
  (makeP 4 false (splitO c.on ++ splitO c.whr)).left.length=1 ∧ (makeP 4 false (splitO c.on ++ splitO c.whr)).right.length=1 ∧ (makeP 4 false (splitO c.on ++ splitO c.whr)).keys.length=1 ∧ (makeP 4 false (splitO c.on ++ splitO c.whr)).rest.length=1:=by
 have h:=ex_p
 cases hr:zaI exP with
 | none => rw [hr] at h; cases h
 | some r =>
  rw [hr] at h
  cases r with
  | bad p k => cases h
  | ok c =>unfold exPB at h;simp only [Bool.and_eq_true,decide_eq_true_eq] at h;obtain ⟨⟨h1,h2,h3⟩,h4,h5,h6,h7,h8⟩:=h;exact ⟨c,rfl,h1,h2,h3,h4,h5,h6,h7,h8⟩
theorem zpM (w:World) (hT:Tabs3 w):Calls Tryz.prog 5 #[] w fun e w' => e = .returned (.bool true) ∧ Mods [] w w':=by obtain ⟨c,hc,hleft,hright,hlen,hwl,hl,hr,hk,ht⟩:=zrR;have hq:=query15 w hT exP AD c hc;unfold exP at hq;have HT:=QH hT;have HX:=QH (AI hleft (AI hright (AI hlen (AI hwl (AI hl (AI hr (AI hk ht)))))));clear hT hc hleft hright hlen hwl hl hr hk ht;go_enter Tryz.func5, Tryz.ntmps5;have gBp:=QH trivial;exact yds
def RowsRes (w:World) (rs:List (List V)) (e:Ending) (w':World):Prop:=
 ∃ ao cap,e = .returned (.tuple #[.slice ao rs.length cap,.int .i64 0]) ∧ rs.length ≤ cap ∧ Mods [] w w' ∧ ∀ L:List Nat,(∀ x ∈ L,x < w.heap.size) → RowsIn w' ao rs L
theorem RunQ.far {w W:World} {rb pb cb:Nat} {c:CQ} (h:RunQ w rb pb cb c) {L:List Nat} (hL:∀ x ∈ L,w.heap.size ≤ x) (hM:Mods (L ++ [rb]) w W) (hR:RunAt W rb pb):RunQ W rb pb cb c:=by
 obtain ⟨vl,vr,vt,vk,hp⟩:=h.plan;have hq:∀ L:List Nat,(∀ x ∈ L,w.heap.size ≤ x) → CheckedAt w (L ++ [rb]) cb c:=by
  intro L
  induction L with
  | nil => intro _; exact h.q
  | cons x L ih => intro hL; exact CheckedAt.fresh (ih fun y hy => hL y (CM _ hy)) (hL x List.mem_cons_self)
 obtain ⟨hn,von,vwh,vg,its,nms,vo,h1,h2,h3,h4,h5,h6,h7⟩:=hq L hL;have hpb:=zj hp;refine ⟨hR,⟨vl,vr,vt,vk,hM.heap hp fun hm => ?_⟩,h.pne,fun hm => hn (List.mem_append_right _ hm),von,vwh,vg,its,nms,vo,hM.heap h1 hn,?_,?_,?_,?_,?_,?_⟩
 ·rcases List.mem_append.1 hm with hm | hm
  ·have:=hL _ hm; omega
  ·exact h.pne AH
 ·have:=h2.mods hM
  cases ho:c.on with
  | none => rw [ho] at this; exact this
  | some n => rw [ho] at this; exact NAt.weaken (fun x hx => List.mem_append_right _ hx) this
 ·have:=h3.mods hM
  cases ho:c.whr with
  | none => rw [ho] at this; exact this
  | some n => rw [ho] at this; exact NAt.weaken (fun x hx => List.mem_append_right _ hx) this
 ·obtain ⟨ao,cap,e,h8⟩:=h4.mods hM
  exact ⟨ao,cap,e,fun h0 => by
   obtain ⟨g,h9,h10,h11⟩:=h8 h0
   exact ⟨g,h9,fun hm => h10 (List.mem_append_right _ hm),h11⟩⟩
 ·exact (h5.mods nodRep hM).weaken nodRep (fun x hx => List.mem_append_right _ hx)
 ·exact (h6.mods nameRep hM).weaken nameRep (fun x hx => List.mem_append_right _ hx)
 ·exact (h7.mods keyCRep hM).weaken keyCRep (fun x hx => List.mem_append_right _ hx)
def ztu (w:World) (rs:List (List V)) (e:Ending) (w':World):Prop:=
 ∃ ao cap,e = .returned (.tuple #[.slice ao rs.length cap,.bool true]) ∧ rs.length ≤ cap ∧ Mods [] w w' ∧ ∀ L:List Nat,(∀ x ∈ L,x < w.heap.size) → RowsIn w' ao rs L
end Go.Proofs.YtcabeljiobiojaaGreatDoor
