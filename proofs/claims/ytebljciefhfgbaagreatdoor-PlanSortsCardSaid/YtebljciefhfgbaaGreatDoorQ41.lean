/-
  plan.Make, walked: its plan. No condition but that Go's own variables hold what they were laid with.
-/
import Derived.Test.YtebljciefhfgbaaGreatDoorQ40
set_option linter.unusedVariables false
set_option maxRecDepth 100000
set_option maxHeartbeats 4000000
namespace Go.Proofs.YtebljciefhfgbaaGreatDoor
open Go.RowKit
theorem ydQ {p:Prop} (h:p:=by
  have hs8:=zl w7 (.cells #[.pointer (some ⟨b,0,none⟩)] 55);have hlit:=zdy w7 #[.pointer (some ⟨b,0,none⟩)] 55;have HZ:=QH (AI hPz (AI hs8 hlit));clear hPz hs8 hlit;obtain ⟨hi,hz0,hz1,hz2⟩:=HU.out
  first
  |guard_hyp gCm
   go_wp2_with (at_builtin; refine zw _ rfl _ _ 50 rfl 55 i0 _ 1 8 Tryz.underlying50 hi hz0 hz1 hz2 rfl AD vl bl.length (bl.map zh) rfl HZ.out.1.l.own ⟨w7.heap.size,0,none⟩ 1 1 [.pointer (some ⟨b,0,none⟩)] rfl rfl ?c2_1 ?c3_1 AD ?c5_1 ?c6_1 ?_)
   case c3_1 => rfl
   case c5_1 => obtain ⟨q1,q2,q3,q4⟩:=HW.out.2; unfold maxLen; omega
   case c6_1 => obtain ⟨q1,q2,q3,q4⟩:=HW.out.2; omega
   have gAJ:=QH trivial;exact yda
  |guard_hyp gCn
   go_wp2_with (at_builtin; refine zw _ rfl _ _ 50 rfl 55 i0 _ 1 8 Tryz.underlying50 hi hz0 hz1 hz2 rfl AD vl bl.length (bl.map zh) rfl HZ.out.1.l.own ⟨w7.heap.size,0,none⟩ 1 1 [.pointer (some ⟨b,0,none⟩)] rfl rfl ?c2_2 ?c3_2 AD ?c5_2 ?c6_2 ?_)
   case c3_2 => rfl
   case c5_2 => obtain ⟨q1,q2,q3,q4⟩:=HW.out.2; unfold maxLen; omega
   case c6_2 => obtain ⟨q1,q2,q3,q4⟩:=HW.out.2; omega
   have gAK:=QH trivial;exact yda
  |guard_hyp gCo
   go_wp2_with (at_builtin; refine zw _ rfl _ _ 50 rfl 55 i0 _ 1 8 Tryz.underlying50 hi hz0 hz1 hz2 rfl AD vr br.length (br.map zh) rfl HZ.out.1.r.own ⟨w7.heap.size,0,none⟩ 1 1 [.pointer (some ⟨b,0,none⟩)] rfl rfl ?c2_3 ?c3_3 AD ?c5_3 ?c6_3 ?_)
   case c3_3 => rfl
   case c5_3 => obtain ⟨q1,q2,q3,q4⟩:=HW.out.2; unfold maxLen; omega
   case c6_3 => obtain ⟨q1,q2,q3,q4⟩:=HW.out.2; omega
   intro g9 cap9 w9 hown9 hM9 hg9;have hadd:=PlanM.addr HZ.out.1 AO AO HN.out hown9 hM9 BJ;have hb9:=hM9.heap HZ.out.1.blk (fun hm => (HZ.out.1.r.blk pb AG).2.1 rfl);have d9:=za hb9 3;have f9:=zc hb9 3;have hM99:Mods [pb] w5 w9:=(HX.out.1.trans (HQ.out.trans ((QM [] w7).alloc _) AB)).trans hM9 (fun x hx => .inr (HZ.out.1.r.blk x AJ).1);have HA:=QH (AI hadd hM99);clear hadd hb9 hown9 hM9 hg9 hM99 hi hz0 hz1 hz2 cv;go_wp2_with fail;go_roundg (n - (i + 1))
   case measure => omega
   case rel => exact ⟨i + 1,by omega,by go_num,HA.out.2.setCell (.inl AB) _,_,_,_,_,_,_,_,_,by rw [HX.out.2,zrL HS.out.2 HS.out.1]; exact HA.out.1⟩
 ):p:=h
theorem yda {p:Prop} (h:p:=by
  intro g9 cap9 w9 hown9 hM9 hg9;have hadd:=PlanM.addl HZ.out.1 AO AO HN.out hown9 hM9 BJ;have hb9:=hM9.heap HZ.out.1.blk (fun hm => (HZ.out.1.l.blk pb AG).2.1 rfl);have d9:=za hb9 2;have f9:=zc hb9 2;have hM99:Mods [pb] w5 w9:=(HX.out.1.trans (HQ.out.trans ((QM [] w7).alloc _) AB)).trans hM9 (fun x hx => .inr (HZ.out.1.l.blk x AJ).1);have HA:=QH (AI hadd hM99);clear hadd hb9 hown9 hM9 hg9 hM99 hi hz0 hz1 hz2 cv;go_wp2_with fail;go_roundg (n - (i + 1))
  case measure => omega
  first
  |guard_hyp gAJ
   case rel => exact ⟨i + 1,by omega,by go_num,HA.out.2.setCell (.inl AB) _,_,_,_,_,_,_,_,_,by rw [HX.out.2,zru (.inl rfl)]; exact HA.out.1⟩
  |guard_hyp gAK
   case rel => exact ⟨i + 1,by omega,by go_num,HA.out.2.setCell (.inl AB) _,_,_,_,_,_,_,_,_,by rw [HX.out.2,zru (.inr HS.out.2)]; exact HA.out.1⟩
 ):p:=h
def PlanAt (w0 w:World) (cb pb:Nat) (p:PlT):Prop:=∃ B vl vr vt vk bl br bt ps,PlanM B w0 w [] cb pb 4 p vl vr vt vk bl br bt ps
def MakeRes (w:World) (cb:Nat) (p:PlT) (e:Ending) (w':World):Prop:=
 ∃ pb,e = .returned (.tuple #[zh pb,.int .i64 0]) ∧ Mods [] w w' ∧ w.heap.size ≤ pb ∧ PlanAt w w' cb pb p
theorem zrb (w:World) (hT:Tabs w) (tb:Nat) (hI:TblsIn w (some ⟨tb,0,none⟩) tabsV []) :
  Calls Tryz.prog 13 #[.slice (some ⟨tb,0,none⟩) 2 2,.pointer none] w fun e w' => e = .returned (.tuple #[.pointer none,.int .i64 1]) ∧ Mods [] w w':=by
 have hrt:=zjQ w hT tabsV (fun t ht => (tabs_right.each t ht).1) 2 rfl AD _ 2 hI;rw [tabs_right.ok] at hrt;clear hT hI;go_enter Tryz.func13, Tryz.ntmps13;go_wp2_with fail;(with_reducible refine hrt.mono ?_);rintro e w1 ⟨rfl,hM1⟩;clear hrt;go_wp2_with fail;go_ret2;exact ⟨rfl,hM1⟩
theorem zqd (w:World) (hT:Tabs w) (tb:Nat) (hI:TblsIn w (some ⟨tb,0,none⟩) tabsV []) (cb:Nat) (c:CQ) (hC:CheckedAt w [] cb c) (hleft:c.left=0) (hright:c.right=none ∨ c.right=some 1) (hlen:(splitO c.on ++ splitO c.whr).length ≤ 100000) :
  Calls Tryz.prog 13 #[.slice (some ⟨tb,0,none⟩) 2 2,zh cb] w (MakeRes w cb (makeP 4 (decide (c.right=none)) (splitO c.on ++ splitO c.whr))):=by
 have hrt:=zjQ w hT tabsV (fun t ht => (tabs_right.each t ht).1) 2 rfl AD _ 2 hI;rw [tabs_right.ok] at hrt;obtain ⟨-,von,vwh,vg,its,nms,vo,hst,hOn,hWh,-,-,-,-⟩:=hC;obtain ⟨bt0,off,he,-,hcols⟩:=hI (by simp [tabsV]);cases he;obtain ⟨-,co,cc,t1,-⟩:=hcols 0 (by simp [tabsV]);change w.cell? ⟨tb,1,none⟩ = some (.slice co 4 cc) at t1;have c0:=za hst 0;have c1:=za hst 1;have c2:=za hst 2;have c3:=za hst 3;rw [hleft] at c0;change w.cell? _=some (.int .i64 0) at c0;change w.cell? _=some (.int .i64 (rightV c.right)) at c1;change w.cell? _=some von at c2;change w.cell? _=some vwh at c3;obtain ⟨R,hR⟩:=EX (rightV c.right);obtain ⟨one,hone⟩:=EX (decide (c.right=none));have hRo:(R = -1 ∧ one=true) ∨ (R=1 ∧ one=false):=by
  rcases hright with h | h
  ·left; rw [← hR,← hone,h]; exact ⟨rfl,rfl⟩
  ·right; rw [← hR,← hone,h]; exact ⟨rfl,rfl⟩
 rw [hR] at c1;rw [hone];have hq1:¬ R < -1:=by omega
 have hq2:¬ 2 ≤ R:=by omega
 rw [List.length_append] at hlen;have hsp1:=fun W hM => zpG w W [] von c.on hOn hM AA;have hsp2:=fun W hM => zpG w W [] vwh c.whr hWh hM AA;have gDV:=QH trivial;exact yey
theorem zrc (w:World):(Instr.makeSlice 38 (.int .i64 0) (.int .i64 2)).run Tryz.prog w = .ok (.slice (some ⟨w.heap.size,0,none⟩) 0 2) (w.alloc (.cells #[.bool false,.int .i64 0,.string ⟨#[]⟩,.bool false,.int .i64 0,.string ⟨#[]⟩] 37)):=by kernel_rfl
theorem zpv:(Tryz.prog.info? 37).map (·.size)=some 3:=by kernel_rfl
theorem zpW (z:Bool) (n:Int) (s:ByteArray):(#[.bool z,.int .i64 n,.string s]:Array Value).all (·.oneCell')=true:=by simp [Value.oneCell']
def EvalRes (w:World) (v:V) (e:Ending) (w':World):Prop:=e = .returned (.tuple #[.agg #[.bool v.z,.int .i64 v.n,.string v.s],.int .i64 0]) ∧ Mods [] w w'
theorem zrd (w:World) (h:NHd) (v:Value) (hN:NAt w [] v (.leaf h)) (hop:h.op=oColumn) (ao:Option Addr) (cap:Nat) (vs:List V) (n:Nat) (hn:vs.length=n) (hV:ValsIn w ao vs []) (hc:h.col < n) (k:Nat) (hk:h.col=k) (x:V) (hx:vs[k]? = some x) :
  Calls Tryz.prog 76 #[v,.slice ao n cap] w (EvalRes w x):=by
 obtain ⟨b,rfl,-,hb⟩:=hN;have hl:k < vs.length:=(List.getElem?_eq_some_iff.1 hx).1;have hxe:vs[k]=x:=(List.getElem?_eq_some_iff.1 hx).2;obtain ⟨tb,off,rfl,-,hcs⟩:=hV (fun h0 => by rw [h0] at hl; simp at hl);obtain ⟨x0,x1,x2⟩:=hcs k hl;rw [hxe] at x0 x1 x2;have hM0:=(QM [] w).alloc (.cells #[.bool false,.int .i64 0,.string ⟨#[]⟩] 37);have hr0:=QN w (.cells #[.bool false,.int .i64 0,.string ⟨#[]⟩] 37);have c0:=za hb 0;have c3:=za hb 3;have c7:=za hb 7;change w.cell? _=some (.string ⟨h.op.toArray⟩) at c0;rw [hop] at c0;change w.cell? _=some (.string ⟨#[99,111,108,117,109,110]⟩) at c0;change w.cell? _=some (.int .i64 (h.col:Nat)) at c3;change w.cell? _=some (.slice none 0 0) at c7;rw [hk] at c3 hc;have hM1:=hM0.alloc (.cells #[.bool false,.int .i64 0,.string ⟨#[]⟩,.bool false,.int .i64 0,.string ⟨#[]⟩] 37);have hr1:=((QM [] (w.alloc (.cells #[.bool false,.int .i64 0,.string ⟨#[]⟩] 37))).alloc (.cells #[.bool false,.int .i64 0,.string ⟨#[]⟩,.bool false,.int .i64 0,.string ⟨#[]⟩] 37)).heap hr0;replace c0:=hM1.cell c0;replace c3:=hM1.cell c3;replace c7:=hM1.cell c7;replace x0:=hM1.cell x0;replace x1:=hM1.cell x1;replace x2:=hM1.cell x2;have hmk:=zrc;have HM:=QH hM1;have HR:=QH hr1;clear hb hcs hxe hx hl hM0 hr0 hM1 hr1 hk hop hn hV;unfold zh;go_enter Tryz.func76, Tryz.ntmps76;go_wp2_with fail;generalize (w.alloc (.cells #[.bool false,.int .i64 0,.string ⟨#[]⟩] 37)).alloc (.cells #[.bool false,.int .i64 0,.string ⟨#[]⟩,.bool false,.int .i64 0,.string ⟨#[]⟩] 37)=w2 at *;go_loopg [20] 0 (fun gk t20 wr => gk=0 ∧ t20 = .int .i64 0 ∧ w2=wr)
 case atStart => exact ⟨rfl,rfl,rfl⟩
 obtain ⟨rfl,rfl,rfl⟩:=hrel;go_wp2_with (refine wpList_store_row rfl 37 (.tmp 4) (.tmp 77) rfl w.heap.size #[.bool x.z,.int .i64 x.n,.string x.s] rfl rfl 37 _ HR.out zpv rfl (zpW _ _ _) ?_);refine bodyPost_ret (zg rfl _ _ w.heap.size 37 #[.bool x.z,.int .i64 x.n,.string x.s] (0,0) _ rfl (zi _ HR.out) Tryz.underlying37 rfl zpv _ rfl) rfl ?_;exact ⟨rfl,HM.out.setRow (.inr (LR _)) _⟩
def RunAt (w:World) (rb pb:Nat):Prop:=w.heap[rb]? = some (.cells #[zh pb,.int .i64 0] 87 (0,0))
theorem RunAt.mods {w w':World} {rb pb:Nat} {L:List Nat} (h:RunAt w rb pb) (hM:Mods L w w') (hn:rb ∉ L):RunAt w' rb pb:=hM.heap h hn
def valA (v:V):Value:=.agg #[.bool v.z,.int .i64 v.n,.string v.s]
theorem zre (w:World) (rb pb:Nat) (hR:RunAt w rb pb) (v row:Value) (x:V)
  (hE:∀ W,Mods [] w W → Calls Tryz.prog 76 #[v,row] W (EvalRes W x)) :
  Calls Tryz.prog 44 #[zh rb,v,row] w fun e w' => e = .returned (valA x) ∧ Mods [rb] w w' ∧ RunAt w' rb pb:=by
 have hM0:=(QM [] w).alloc (.cells #[.bool false,.int .i64 0,.string ⟨#[]⟩] 37);have hr0:=QN w (.cells #[.bool false,.int .i64 0,.string ⟨#[]⟩] 37);have hca:=hE _ hM0;unfold EvalRes at hca;have hrl:=zj hR;have HH:=QH (AI hM0 (AI hr0 (AI hR hrl)));clear hE hM0 hr0 hR hrl;unfold zh;go_enter Tryz.func44, Tryz.ntmps44;go_wp2_with fail;(with_reducible refine hca.mono ?_);rintro e w2 ⟨rfl,hM2⟩;obtain ⟨hM0,hr0,hR,hrl⟩:=HH.out;have hMw:=hM0.trans hM2;have hr2:=hM2.heap hr0;have hR2:=hMw.heap hR;have hMa:=(QM [] w2).alloc (.cells #[.bool false,.int .i64 0,.string ⟨#[]⟩] 37);have hba:=QN w2 (.cells #[.bool false,.int .i64 0,.string ⟨#[]⟩] 37);have hlt:=zj hr2;have hMb:Mods [] w2 ((w2.alloc (.cells #[.bool false,.int .i64 0,.string ⟨#[]⟩] 37)).setRow w2.heap.size #[.bool x.z,.int .i64 x.n,.string x.s]):=hMa.setRow (.inr (LR _)) _;have hbb:=zi #[.bool x.z,.int .i64 x.n,.string x.s] hba;have k1:=hMb.cell (za hR2 1);have f1:=zc (hMb.heap hR2) 1;change World.cell? _ _=some (.int .i64 0) at k1;have HB:=QH (AI hMw (AI hr2 (AI hR2 (AI hba (AI hMb (AI hbb (AI hlt hrl)))))));clear hca hM0 hr0 hR hMw hr2 hR2 hMa hlt hMb hbb hrl hM2;go_upto_region 4 with (refine wpList_store_row rfl 37 (.tmp 7) (.tmp 13) rfl w2.heap.size #[.bool x.z,.int .i64 x.n,.string x.s] rfl rfl 37 _ hba zpv rfl (zpW _ _ _) ?_);obtain ⟨hMw,hr2,hR2,-,hMb,hbb,hlt,hrl⟩:=HB.out;have hMc:Mods [rb] ((w2.alloc (.cells #[.bool false,.int .i64 0,.string ⟨#[]⟩] 37)).setRow w2.heap.size #[.bool x.z,.int .i64 x.n,.string x.s]) (((w2.alloc (.cells #[.bool false,.int .i64 0,.string ⟨#[]⟩] 37)).setRow w2.heap.size #[.bool x.z,.int .i64 x.n,.string x.s]).setCell ⟨rb,1,none⟩ (.int .i64 0)):=(QM _ _).setCell (.inl AB) _;have hs:=hMw.size;have hn7:w2.heap.size ≠ rb:=by omega
 have hn6:w.heap.size ≠ rb:=by omega
 have h7:=hMc.heap hbb (by simpa using hn7);have h6:=hMc.heap (hMb.heap hr2) (by simpa using hn6);have hRz:RunAt (((w2.alloc (.cells #[.bool false,.int .i64 0,.string ⟨#[]⟩] 37)).setRow w2.heap.size #[.bool x.z,.int .i64 x.n,.string x.s]).setCell ⟨rb,1,none⟩ (.int .i64 0)) rb pb:=zb (hMb.heap hR2) 1 _;have hMz:=((hMw.trans hMb).mono (L':=[rb])).trans hMc;generalize ((w2.alloc (.cells #[.bool false,.int .i64 0,.string ⟨#[]⟩] 37)).setRow w2.heap.size #[.bool x.z,.int .i64 x.n,.string x.s]).setCell ⟨rb,1,none⟩ (.int .i64 0)=w4 at *;have e0:=za h7 0;have e1:=za h7 1;have e2:=za h7 2;change w4.cell? _=some (.bool x.z) at e0;change w4.cell? _=some (.int .i64 x.n) at e1;change w4.cell? _=some (.string x.s) at e2;have HZ:=QH (AI hMz hRz);clear hMw hr2 hR2 hMb hbb hlt hrl hMc hs hn7 hn6 h7 hRz hMz hba k1 f1 HB;go_wp2_with (refine wpList_store_row rfl 37 (.tmp 6) (.tmp 24) rfl w.heap.size #[.bool x.z,.int .i64 x.n,.string x.s] rfl rfl 37 _ h6 zpv rfl (zpW _ _ _) ?_);have h3:=zi #[.bool x.z,.int .i64 x.n,.string x.s] h6;have e0:=za h3 0;have e1:=za h3 1;have e2:=za h3 2;change World.cell? _ _=some (.bool x.z) at e0;change World.cell? _ _=some (.int .i64 x.n) at e1;change World.cell? _ _=some (.string x.s) at e2;have hfz:=HZ.out.1.setRow (.inr (LR _)) #[.bool x.z,.int .i64 x.n,.string x.s];have hrz:RunAt (w4.setRow w.heap.size #[.bool x.z,.int .i64 x.n,.string x.s]) rb pb:=by have hrl:=HH.out.2.2.2;exact ((QM [w.heap.size] w4).setRow (.inl AB) _).heap HZ.out.2 AE
 refine bodyPost_ret (by simp [results,Tryz.results44, go_sem,e0,e1,e2,Result.andThen]; try rfl) rfl ?_;exact ⟨rfl,hfz,hrz⟩
end Go.Proofs.YtebljciefhfgbaaGreatDoor
