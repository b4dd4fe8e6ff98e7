/-
  parse.Show, walked: what has parts; and whole. No condition but that Go's own table of powers of ten is as it was laid.
-/
import Derived.Test.YtcabeljiobiojaaGreatDoorQ35
set_option linter.unusedVariables false
set_option maxRecDepth 100000
set_option maxHeartbeats 8000000
namespace Go.Proofs.YtcabeljiobiojaaGreatDoor
open Go.RowKit
theorem BZ {p:Prop} (h:p:=by simpa using hx):p:=h
theorem BY {p:Prop} (h:p:=by simp; omega):p:=h
theorem BW {p:Prop} (h:p:=by decide):p:=h
theorem BV {p:Prop} (h:p:=by kernel_rfl):p:=h
theorem BU {p:Prop} (h:p:=by simp):p:=h
theorem BS {p:Prop} (h:p:=by omega):p:=h
theorem yfY {p:Prop} (h:p:=by
  intro g9 cap9 w9 hown9 hM9 hg9;have hnew:=HW.out.1.push (by rw [HW.out.2.2.2.2.2.2.1]; exact HW.out.2.1) HW.out.2.2.1 HW.out.2.2.2.1 HW.out.2.2.2.2.2.2.1 hown9 hM9 (by rw [zl]; exact hg9);have hM99:Mods [rb] w w9:=HW.out.2.2.2.2.2.1.trans hM9 (fun x hx => .inr (HW.out.1.own x BZ))
  first
  |guard_hyp gGp
   have hR9:RunAt w9 rb pb:=HW.out.2.2.2.2.2.2.2.1.mods hM9 (fun hx => by have h1:=HW.out.1.own rb BZ; have h2:=HW.out.2.2.2.2.2.2.2.2.2; omega);have HA:=QH (AI hnew (AI hM99 hR9));clear hnew hM99 hR9 hown9 hM9 hg9 hj hj0 hj1 hj2;go_wp2_with fail;go_roundg (n - (i + 1))
   case measure => omega
   case rel => exact ⟨i + 1,by omega,by go_num,HA.out.2.1,HA.out.2.2,by rw [HW.out.2.2.2.2.2.2.2.2.1]; exact HA.out.1⟩
  |guard_hyp gGq
   have hR9:=HW.out.2.2.2.2.2.2.2.1.mods hM9 (fun hx => by
    have:=HW.out.1.own rb BZ;have:=HW.out.2.2.2.2.2.2.2.2.2
    omega)
   rw [← HW.out.2.2.2.2.2.2.2.2.1] at hnew;have HA:=QH (AI hnew (AI hM99 hR9));clear hnew hM99 hR9 hown9 hM9 hg9 hi hz0 hz1 hz2 hj hj0 hj1 hj2;go_wp2_with fail;go_roundg (n - (i + 1))
   case measure => omega
   case rel => exact ⟨i + 1,by omega,by go_num,HA.out.2.1,HA.out.2.2,HA.out.1⟩
 ):p:=h
theorem yfV {p:Prop} (h:p:=by
  have hM1:=(QM [] w).alloc (.cells #[.bool false,.int .i64 0,.string ⟨#[]⟩,.bool false,.int .i64 0,.string ⟨#[]⟩,.bool false,.int .i64 0,.string ⟨#[]⟩,.bool false,.int .i64 0,.string ⟨#[]⟩,.bool false,.int .i64 0,.string ⟨#[]⟩,.bool false,.int .i64 0,.string ⟨#[]⟩,.bool false,.int .i64 0,.string ⟨#[]⟩,.bool false,.int .i64 0,.string ⟨#[]⟩] 125);have hs1:=QN w (.cells #[.bool false,.int .i64 0,.string ⟨#[]⟩,.bool false,.int .i64 0,.string ⟨#[]⟩,.bool false,.int .i64 0,.string ⟨#[]⟩,.bool false,.int .i64 0,.string ⟨#[]⟩,.bool false,.int .i64 0,.string ⟨#[]⟩,.bool false,.int .i64 0,.string ⟨#[]⟩,.bool false,.int .i64 0,.string ⟨#[]⟩,.bool false,.int .i64 0,.string ⟨#[]⟩] 125);have hM2:=(QM [] (w.alloc (.cells #[.bool false,.int .i64 0,.string ⟨#[]⟩,.bool false,.int .i64 0,.string ⟨#[]⟩,.bool false,.int .i64 0,.string ⟨#[]⟩,.bool false,.int .i64 0,.string ⟨#[]⟩,.bool false,.int .i64 0,.string ⟨#[]⟩,.bool false,.int .i64 0,.string ⟨#[]⟩,.bool false,.int .i64 0,.string ⟨#[]⟩,.bool false,.int .i64 0,.string ⟨#[]⟩] 125))).alloc (.cells #[.bool false,.int .i64 0,.string ⟨#[]⟩,.bool false,.int .i64 0,.string ⟨#[]⟩,.bool false,.int .i64 0,.string ⟨#[]⟩,.bool false,.int .i64 0,.string ⟨#[]⟩,.bool false,.int .i64 0,.string ⟨#[]⟩,.bool false,.int .i64 0,.string ⟨#[]⟩,.bool false,.int .i64 0,.string ⟨#[]⟩,.bool false,.int .i64 0,.string ⟨#[]⟩] 125);have hf2:=QN (w.alloc (.cells #[.bool false,.int .i64 0,.string ⟨#[]⟩,.bool false,.int .i64 0,.string ⟨#[]⟩,.bool false,.int .i64 0,.string ⟨#[]⟩,.bool false,.int .i64 0,.string ⟨#[]⟩,.bool false,.int .i64 0,.string ⟨#[]⟩,.bool false,.int .i64 0,.string ⟨#[]⟩,.bool false,.int .i64 0,.string ⟨#[]⟩,.bool false,.int .i64 0,.string ⟨#[]⟩] 125)) (.cells #[.bool false,.int .i64 0,.string ⟨#[]⟩,.bool false,.int .i64 0,.string ⟨#[]⟩,.bool false,.int .i64 0,.string ⟨#[]⟩,.bool false,.int .i64 0,.string ⟨#[]⟩,.bool false,.int .i64 0,.string ⟨#[]⟩,.bool false,.int .i64 0,.string ⟨#[]⟩,.bool false,.int .i64 0,.string ⟨#[]⟩,.bool false,.int .i64 0,.string ⟨#[]⟩] 125);rw [zl] at hf2;have hs2:=hM2.heap hs1;have hM12:=hM1.trans hM2;have r1:=hM12.cell r0;have p1:=hM12.cell p5
  first
  |guard_hyp gGj
   obtain ⟨nv,hnv⟩:=EX ((if sel=true then v2 else v1));have hpk:∀ W,Calls Tryz.prog (fnJ sel) #[.agg #[v1,v2]] W fun e w' => e = .returned nv ∧ Mods [] W w':=fun W => by
    subst hnv;cases sel
    ·exact zuF W v1 v2
    ·exact zuE W v1 v2
   rw [hnv] at HH;clear hM1 hs1 hM2 hnv r0 p5;have HW:=QH (AI hM12 (AI hs2 (AI hf2 (AI hk0 (AI hk1 (AI hpr hkr))))));have HK:=QH hpk;clear hM12 hs2 hf2 hk0 hk1 hpr hkr hpk;obtain ⟨fn,hfn⟩:=EX (fnJ sel);have hfn2:fn = 37 ∨ fn = 38:=by
    rw [← hfn]; cases sel
    ·exact .inr rfl
    ·exact .inl rfl
   rw [hfn] at HK ⊢;clear hfn;unfold zh at *;go_enter Tryz.func36, Tryz.ntmps36;go_upto_region 5 with fail;clear r1 p1;obtain ⟨hM2,hs2,hf2,-⟩:=HW.out;generalize (w.alloc (.cells #[.bool false,.int .i64 0,.string ⟨#[]⟩,.bool false,.int .i64 0,.string ⟨#[]⟩,.bool false,.int .i64 0,.string ⟨#[]⟩,.bool false,.int .i64 0,.string ⟨#[]⟩,.bool false,.int .i64 0,.string ⟨#[]⟩,.bool false,.int .i64 0,.string ⟨#[]⟩,.bool false,.int .i64 0,.string ⟨#[]⟩,.bool false,.int .i64 0,.string ⟨#[]⟩] 125)).alloc (.cells #[.bool false,.int .i64 0,.string ⟨#[]⟩,.bool false,.int .i64 0,.string ⟨#[]⟩,.bool false,.int .i64 0,.string ⟨#[]⟩,.bool false,.int .i64 0,.string ⟨#[]⟩,.bool false,.int .i64 0,.string ⟨#[]⟩,.bool false,.int .i64 0,.string ⟨#[]⟩,.bool false,.int .i64 0,.string ⟨#[]⟩,.bool false,.int .i64 0,.string ⟨#[]⟩] 125)=w2 at *;obtain ⟨sb,hsb⟩:=EX (w.heap.size);obtain ⟨fb,hfb⟩:=EX (sb + 1);rw [hsb] at hs2;rw [hsb,hfb] at hf2;rw [hsb,hfb];have HB:=QH (AI hsb hfb);have hR2:RunAt w2 rb pb:=HH.out.1.mods hM2 BU;clear hsb hfb;go_loopg [10,11,23] 1 (fun gk t10 t11 t23 wr => ∃ i:Nat,i + gk=1 ∧ t23 = .int .i64 i ∧ t10 = .slice none 0 0 ∧ t11 = .bool (if i=0 then true else !x.z) ∧ Mods [rb] w wr ∧ RunAt wr rb pb ∧ wr.heap[sb]? = some (.cells (zs5 zeroV0) 125 (0,0)) ∧ wr.heap[fb]? = some (.cells (if i=0 then zs5 zeroV0 else zs5 x) 125 (0,0)))
   case atStart => exact ⟨0,rfl,rfl,rfl,rfl,hM2.mono,hR2,hs2,hf2⟩
   clear hR2 hs2 hf2 hM2;obtain ⟨i,hi,rfl,rfl,rfl,hM,hRr,hs,hf⟩:=hrel;by_cases h0:i=0
   ·subst h0;obtain ⟨hR,hN,hop,hm,hV,hc,hxk,hrl⟩:=HH.out;obtain ⟨-,-,-,hk0,hk1,hpr,hkr⟩:=HW.out;have k0:=hM.cell hk0 (by simpa using hkr);have k1:=hM.cell hk1 (by simpa using hkr);have hca:∀ W,Mods [] wr W → Calls Tryz.prog 42 #[.pointer (some ⟨rb,0,none⟩),nv,.slice ao m cap] W fun e w' => e = .returned (.agg #[.bool x.z,.int .i64 x.n,.string x.s]) ∧ Mods [rb] W w' ∧ RunAt w' rb pb:=fun W hW =>
     zre W rb pb (hRr.mods hW BU) nv (.slice ao m cap) x (fun W' hW' => by
      have hMw:=(hM.trans hW).trans hW'
      exact zrd W' h nv ((hN.mods hMw).weaken BU) hop ao cap r m hm ((hV.mods hMw).weaken BU) hc h.col rfl x hxk)
    have HC:=QH hca;have hpick:=HK.out;have HI:=QH (AI hM (AI hs (AI hf hrl)));clear hR hN hop hm hV hc hxk hrl hk0 hk1 hpr hkr hca hM hRr hs hf;have hif:(if (0:Nat)=0 then true else !x.z)=true:=rfl;have hba:=QN wr (.cells #[.pointer none,.pointer none] 76);have hMp:Mods [] wr ((wr.alloc (.cells #[.pointer none,.pointer none] 76)).setRow wr.heap.size #[v1,v2]):=((QM [] wr).alloc _).setRow (.inr (LR _)) _;have hbp:=za (zi #[v1,v2] hba);have HP:=QH (AI hMp (AI (hbp 0) (hbp 1)));clear hMp hbp;rcases hfn2 with rfl | rfl
    all_goals
     go_upto_region 7 with (refine wpList_store_row rfl 76 (.tmp 13) (.tmp 27) rfl wr.heap.size #[v1,v2] rfl rfl 76 _ hba BV rfl h1c ?_);obtain ⟨hMp,e0,e1⟩:=HP.out;change World.cell? _ _=some v1 at e0;change World.cell? _ _=some v2 at e1;generalize (wr.alloc (.cells #[.pointer none,.pointer none] 76)).setRow wr.heap.size #[v1,v2]=w3 at *;generalize wr.heap.size=qb at *;have hp3:=hpick w3;have HM3:=QH hMp;clear hMp hba k0 k1 HP hpick;go_wp2_with fail;(with_reducible refine hp3.mono ?_);rintro e w4 ⟨rfl,hM4⟩;have hev:=HC.out w4 (HM3.out.trans hM4);have HM4:=QH (HM3.out.trans hM4);clear hp3 hM4 e0 e1;go_wp2_with fail;(with_reducible refine hev.mono ?_);rintro e w5 ⟨rfl,hM5,hR5⟩;clear hev;have hxb:=QN w5 (.cells #[.bool false,.int .i64 0,.string ⟨#[]⟩] 35);go_upto_region 8 with (refine wpList_store_row rfl 35 (.tmp 14) (.tmp 33) rfl w5.heap.size #[.bool x.z,.int .i64 x.n,.string x.s] rfl rfl 35 _ hxb zpv rfl (zpW _ _ _) ?_);obtain ⟨hM,hs,hf,hrl⟩:=HI.out;obtain ⟨hsb,hfb⟩:=HB.out;have hMx:Mods [] w5 ((w5.alloc (.cells #[.bool false,.int .i64 0,.string ⟨#[]⟩] 35)).setRow w5.heap.size #[.bool x.z,.int .i64 x.n,.string x.s]):=((QM [] w5).alloc _).setRow (.inr (LR _)) _;have hxr:=zi #[.bool x.z,.int .i64 x.n,.string x.s] hxb;have hM6:=((HM4.out.mono (L':=[rb])).trans hM5 (fun y hy => .inl hy)).trans hMx;have hR6:=hR5.mods hMx BU;generalize (w5.alloc (.cells #[.bool false,.int .i64 0,.string ⟨#[]⟩] 35)).setRow w5.heap.size #[.bool x.z,.int .i64 x.n,.string x.s]=w6 at *;generalize w5.heap.size=xb at *;have e0:=za hxr 0;have e1:=za hxr 1;have e2:=za hxr 2;change w6.cell? _=some (.bool x.z) at e0;change w6.cell? _=some (.int .i64 x.n) at e1;change w6.cell? _=some (.string x.s) at e2;have hf6:=hM6.heap hf BY;have hs6:=hM6.heap hs BY;change w6.heap[fb]? = some (.cells (zs5 zeroV0) 125 (0,0)) at hf6;have hMs:Mods [fb] w6 (w6.setCells fb (0 * 3) [.bool x.z,.int .i64 x.n,.string x.s]):=(((QM _ _).setCell (.inl BU) _).setCell (.inl BU) _).setCell (.inl BU) _;have hth:w6.there fb (0 * 3) 3:=fun j hj => by
      have hj3:j=0 ∨ j=1 ∨ j=2:=by omega
      rcases hj3 with rfl | rfl | rfl
      ·exact ⟨by rw [za hf6]; rfl,zc hf6 _⟩
      ·exact ⟨by rw [za hf6]; rfl,zc hf6 _⟩
      ·exact ⟨by rw [za hf6]; rfl,zc hf6 _⟩
     have hf7:(w6.setCells fb (0 * 3) [.bool x.z,.int .i64 x.n,.string x.s]).heap[fb]? = some (.cells (zs5 x) 125 (0,0)):=
      zb (zb (zb hf6 0 (.bool x.z)) 1 (.int .i64 x.n)) 2 (.string x.s)
     have hs7:=hMs.heap hs6 BY;have hR7:=hR6.mods hMs BY;have hM7:=(hM.trans hM6 (fun y hy => .inl hy)).trans hMs (fun y hy => .inr (by simp at hy; omega));have HJ:=QH (AI hM7 (AI hR7 (AI hs7 hf7)));clear hM hs hf hrl hsb hfb hMx hxr hM6 hR6 hf6 hs6 hMs hf7 hs7 hR7 hM7 hxb hM5 hR5 HC HI HM3 HM4;go_wp2_with (refine wpList_store_mid rfl 35 (.tmp 44) (.tmp 43) rfl fb (0 * 3) #[.bool x.z,.int .i64 x.n,.string x.s] rfl rfl hth zpv (zpW _ _ _) ?_);go_roundg 0
     case measure => omega
     case rel => exact ⟨1,by omega,by go_num,rfl,rfl,HJ.out.1,HJ.out.2.1,HJ.out.2.2.1,HJ.out.2.2.2⟩
   ·obtain rfl:i=1:=by omega
    obtain ⟨hsb,hfb⟩:=HB.out;have hrl:=HH.out.2.2.2.2.2.2.2;change wr.heap[fb]? = some (.cells (zs5 x) 125 (0,0)) at hf;have c0:=fun j => za hf j;have h3:=zi (zs5 x) hs;have hMs:Mods [sb] wr (wr.setRow sb (zs5 x)):=(QM _ _).setRow (.inl BU) _;have hfin:=AI (hM.trans hMs (fun y hy => .inr (by simp at hy; omega))) (hRr.mods hMs BY);have HF:=QH hfin;clear hfin hMs hM hRr hsb hfb hrl;have hu8 : Tryz.prog.underlying 125 = some (.array 8 35):=by kernel_rfl
    go_wp2_with (first | (refine wpList_load_row rfl 125 (.tmp 9) rfl fb rfl 125 (zs5 x) (0,0) _ hf hu8 rfl zs8 ?_) | (refine wpList_store_row rfl 125 (.tmp 6) (.tmp 50) rfl sb (zs5 x) rfl rfl 125 _ hs zs8 rfl (ztr x) ?_));refine bodyPost_ret (zs9 rfl _ _ sb 125 (zs5 x) (0,0) _ rfl h3 hu8 rfl zs8 _ _ rfl rfl) rfl ?_;exact ⟨rfl,HF.out⟩
  |guard_hyp gGk
   have HW:=QH (AI hM12 (AI hs2 hf2));clear hM1 hs1 hM2 r0 p5 hR hP hM12 hs2 hf2;unfold zh at *;go_enter Tryz.func36, Tryz.ntmps36;go_upto_region 5 with fail;clear r1 p1;obtain ⟨hM2,hs2,hf2⟩:=HW.out;generalize (w.alloc (.cells #[.bool false,.int .i64 0,.string ⟨#[]⟩,.bool false,.int .i64 0,.string ⟨#[]⟩,.bool false,.int .i64 0,.string ⟨#[]⟩,.bool false,.int .i64 0,.string ⟨#[]⟩,.bool false,.int .i64 0,.string ⟨#[]⟩,.bool false,.int .i64 0,.string ⟨#[]⟩,.bool false,.int .i64 0,.string ⟨#[]⟩,.bool false,.int .i64 0,.string ⟨#[]⟩] 125)).alloc (.cells #[.bool false,.int .i64 0,.string ⟨#[]⟩,.bool false,.int .i64 0,.string ⟨#[]⟩,.bool false,.int .i64 0,.string ⟨#[]⟩,.bool false,.int .i64 0,.string ⟨#[]⟩,.bool false,.int .i64 0,.string ⟨#[]⟩,.bool false,.int .i64 0,.string ⟨#[]⟩,.bool false,.int .i64 0,.string ⟨#[]⟩,.bool false,.int .i64 0,.string ⟨#[]⟩] 125)=w2 at *;obtain ⟨sb,hsb⟩:=EX (w.heap.size);obtain ⟨fb,hfb⟩:=EX (sb + 1);rw [hsb] at hs2;rw [hsb,hfb] at hf2;rw [hsb,hfb];go_loopg [10,11,23] 0 (fun gk t10 t11 t23 wr => gk=0 ∧ t23 = .int .i64 0 ∧ t10 = .slice none 0 0 ∧ t11 = .bool true ∧ w2=wr)
   case atStart => exact ⟨rfl,rfl,rfl,rfl,rfl⟩
   obtain ⟨rfl,rfl,rfl,rfl,rfl⟩:=hrel;have h3:=zi (zs5 zeroV0) hs2;have hfin:=hM2.setRow (g:=sb) (.inr (Nat.le_of_eq hsb)) (zs5 zeroV0);have HF:=QH hfin;clear hfin hM2 hsb hfb;have hu8 : Tryz.prog.underlying 125 = some (.array 8 35):=by kernel_rfl
   go_wp2_with (first | (refine wpList_load_row rfl 125 (.tmp 9) rfl fb rfl 125 (zs5 zeroV0) (0,0) _ hf2 hu8 rfl zs8 ?_) | (refine wpList_store_row rfl 125 (.tmp 6) (.tmp 50) rfl sb (zs5 zeroV0) rfl rfl 125 _ hs2 zs8 rfl (ztr zeroV0) ?_));refine bodyPost_ret (zs9 rfl _ _ sb 125 (zs5 zeroV0) (0,0) _ rfl h3 hu8 rfl zs8 _ _ rfl rfl) rfl ?_;exact ⟨rfl,HF.out⟩
 ):p:=h
def zpj (items:List NT) (r:List V):List V:=items.map fun n => r.getD n.hd.col zeroV0
def colsOk (items:List NT) (m:Nat):Prop:=∀ n ∈ items,(∃ h,n = .leaf h ∧ h.op=oColumn) ∧ n.hd.col < m
theorem zp8 (w:World) (rb pb cb:Nat) (c:CQ) (hQ:RunQ w rb pb cb c) (hg:c.grouped=false) {wd:Nat} (hc:colsOk c.items wd) (m:Nat) (hm:c.items.length=m) (hm1:0 < m ∧ m ≤ 100) (ao:Option Addr) (cap:Nat) (rs:List (List V)) (n:Nat) (hn:rs.length=n) (hn1:n ≤ 1000) (hI:RowsIn w ao rs [rb]) (hF:∀ r ∈ rs,r.length=wd) :
  Calls Tryz.prog 21 #[zh rb,.slice ao n cap] w (ztg w rb pb (rs.map (zpj c.items))):=by
 obtain ⟨vl,vr,vt,vk,hp⟩:=hQ.plan;obtain ⟨hcb,von,vwh,vg,its,nms,vo,hst,-,-,-,hits,-⟩:=hQ.q;obtain ⟨iao,icap,rfl,hitc⟩:=hits;have hRun:=hQ.run;have r0:=za hRun 0;have p0:=za hp 0;have q4:=za hst 4;have q6:=za hst 6;rw [hg] at q4;rw [hm] at q6;change w.cell? _=some (zh pb) at r0;change w.cell? _=some (zh cb) at p0;change w.cell? _=some (.bool false) at q4;change w.cell? _=some (.slice iao m icap) at q6;have hrl:=zj hRun;obtain ⟨PP,hPP⟩:=EX (ztg w rb pb (rs.map (zpj c.items)));rw [hPP];obtain ⟨g,rfl,hgr,-,hcells⟩:=hitc (by rw [hm]; exact hm1.1);obtain ⟨j0,hj,hj0,hj1,hj2⟩:=info_parts (show (Tryz.prog.info? 37).map (fun i => (i.zero,i.size,i.bytes))=some (some (.slice none 0 0),1,24) by kernel_rfl);have HU:=QH (AI hj (AI hj0 (AI hj1 hj2)));have HH:=QH (AI hPP (AI hI (AI hF (AI hn (AI hc (AI hm hcells))))));have HC:=QH (AI hRun (AI r0 (AI p0 (AI q6 (AI hQ.pne (AI hcb (AI hgr hrl)))))));clear hj hj0 hj1 hj2 hPP hI hF hn hc hm hcells hst hp hQ hRun hg hrl hgr hcb;unfold zh at *;go_enter Tryz.func21, Tryz.ntmps21;go_wp2_with fail;clear r0 p0 q4 q6;go_loopg [4,28] n (fun gk t4 t28 wr => ∃ i:Nat,i + gk=n ∧ t28 = .int .i64 i ∧ Mods [rb] w wr ∧ RunAt wr rb pb ∧ RowsC w wr t4 ((rs.take i).map (zpj c.items)))
 case atStart => exact ⟨0,by omega,rfl,QM _ _,HC.out.1,RowsC.start w⟩
 obtain ⟨i,hin,rfl,hM,hRun,hRC⟩:=hrel;by_cases hlt:i < n
 ·have hil:i < rs.length:=by rw [HH.out.2.2.2.1]; exact hlt
  obtain ⟨b,off,rfl,hbr,hcs⟩:=HH.out.2.1 (fun h0 => by rw [h0] at hil; simp at hil);obtain ⟨vo,cc,hcc,k0,hV⟩:=hcs i hil;have hf:=HH.out.2.2.1 rs[i] (List.getElem_mem hil);have htk:(rs.take (i + 1)).map (zpj c.items)=(rs.take i).map (zpj c.items) ++ [zpj c.items rs[i]]:=by rw [List.take_succ_eq_append_getElem hil,List.map_append]; rfl
  have hlen:((rs.take i).map (zpj c.items)).length=i:=by rw [List.length_map,List.length_take]; omega
  generalize rs[i]=r at *;rw [hf] at k0 hcc;replace k0:=hM.cell k0 hbr;obtain ⟨-,-,p0,q6,hpr,hcr,hgr,hrl⟩:=HC.out;have r0:=za hRun 0;change wr.cell? _=some (zh pb) at r0;unfold zh at r0;replace p0:=hM.cell p0 (by simpa using hpr);replace q6:=hM.cell q6 (by simpa using hcr);have hmk:=fun W => zqH W m m (LR _) BS;have hma:=(QM [] wr).alloc (.cells (mkC m) 35);have hX:=XRow.start wr m;have ho:(zpj c.items r).length=m:=by unfold zpj; rw [List.length_map]; exact HH.out.2.2.2.2.2.1
  obtain ⟨oo,hoo⟩:=EX (zpj c.items r);rw [hoo] at htk ho;have hs:=hM.size;have HR:=QH (AI hM (AI hRun (AI hRC (AI htk (AI hlen (AI hf (AI hV (AI hoo ho))))))));have HX:=QH (AI hma (AI hX (AI hs (AI hrl hgr))));have r0a:=hma.cell r0;have p0a:=hma.cell p0;have q6a:=hma.cell q6;clear hM hRun hRC htk hlen hf hV hoo ho hcs hcc hbr hma hX hs hrl hpr hcr hgr hil;go_wp2_with fail;clear r0 p0 q6 k0 r0a p0a q6a;obtain ⟨hma,hX,-⟩:=HX.out;have hRm:=HR.out.2.1.mods hma BU;generalize wr.alloc (.cells (mkC m) 35)=w1 at *;obtain ⟨xb,hxb⟩:=EX (wr.heap.size);rw [hxb] at hX HX;rw [hxb];have HXB:=QH hxb;clear hxb hmk;generalize wr=wo at *;go_loopg [55] m (fun gk2 t55 wx => ∃ k:Nat,k + gk2=m ∧ t55 = .int .i64 k ∧ Mods [rb] wo wx ∧ RunAt wx rb pb ∧ XRow wx xb m (oo.take k))
  case atStart => exact ⟨0,by omega,rfl,hma.mono,hRm,hX⟩
  clear hma hX hRm;obtain ⟨k,hkm,rfl,hMx,hRx,hXx⟩:=hrel;by_cases hkt:k < m
  ·obtain ⟨hM,hRun,hRC,htk,hlen,hf,hV,hoo,ho⟩:=HR.out;obtain ⟨-,-,hs,hrl,hgr⟩:=HX.out;obtain ⟨hc,hm,hcells⟩:=HH.out.2.2.2.2;have hki:k < c.items.length:=by omega
   obtain ⟨cs,⟨nb,rfl,hN⟩,-,hcell⟩:=hcells k hki;have k1:=hcell 0 _ rfl;rw [Nat.mul_one,Nat.add_zero] at k1;obtain ⟨⟨h,hleaf,hop⟩,hcol⟩:=hc _ (List.getElem_mem hki);have hMw:=hM.trans hMx (fun x hx => .inl hx);replace k1:=hMw.cell k1 hgr;have hcr:h.col < r.length:=by rw [hleaf] at hcol; rw [hf]; exact hcol
   have hx:=getD_some hcr;obtain ⟨x,hxe⟩:=EX (r.getD h.col zeroV0);rw [hxe] at hx;have hok:oo[k]? = some x:=by rw [← hoo,← hxe];unfold zpj;rw [List.getElem?_map,List.getElem?_eq_getElem hki,hleaf];rfl
   rw [hleaf] at hN;have hE:∀ W,Mods [] wr W → Calls Tryz.prog 74 #[zh nb,.slice vo wd cc] W (zto W x):=fun W hW =>
    zrd W h _ ((hN.mods (hMw.trans (hW.mono) (fun x hx => .inl hx))).weaken BU) hop vo cc r wd hf ((hV.mods (hMw.trans (hW.mono) (fun x hx => .inl hx))).weaken BU) (by rw [← hf]; exact hcr) h.col rfl x hx
   have hca:=zre wr rb pb hRx _ _ x hE;have hkl:(oo.take k).length=k:=by rw [List.length_take]; omega
   have htk2:oo.take (k + 1)=oo.take k ++ [x]:=by rw [List.take_add_one,hok]; rfl
   have HI:=QH (AI hMx (AI hXx (AI hkl htk2)));have hxr:xb ≠ rb:=by have:=HXB.out; omega
   unfold zh at k1 hca;unfold valA at hca;clear hM hRun hRC htk hlen hf hV hoo ho hs hrl hgr hc hm hcells hki hN hcell hop hcol hMw hcr hx hxe hok hE hMx hXx hkl htk2 hleaf;go_wp2_with fail;(with_reducible refine hca.mono ?_);rintro e w3 ⟨rfl,hM3,hR3⟩;have hX3:=HI.out.2.1.mods hM3 (by simpa using hxr);have hth:=hX3.there hkt;have hpu:=hX3.push HI.out.2.2.1 hkt x;have hMs:Mods [xb] w3 (w3.setCells xb (k * 3) [.bool x.z,.int .i64 x.n,.string x.s]):=(((QM _ _).setCell (.inl BU) _).setCell (.inl BU) _).setCell (.inl BU) _;have hR4:=hR3.mods hMs (by simpa using hxr.symm);have hM4:=(HI.out.1.trans hM3 (fun x hx => .inl hx)).trans hMs (fun y hy => .inr (by have:=HXB.out; simp at hy; omega));have HJ:=QH (AI hpu (AI hR4 hM4));clear hca hM3 hR3 hX3 hpu hMs hR4 hM4 k1;go_wp2_with (refine wpList_store_mid rfl 35 (.tmp 66) (.tmp 65) rfl xb (k * 3) #[.bool x.z,.int .i64 x.n,.string x.s] rfl rfl hth zpv (zpW _ _ _) ?_);go_roundg (m - (k + 1))
   case measure => omega
   case rel => exact ⟨k + 1,by omega,by go_num,HJ.out.2.2,HJ.out.2.1,by rw [HI.out.2.2.2]; exact HJ.out.1⟩
  ·obtain rfl:m=k:=by omega
   obtain ⟨hM,hRun,hRC,htk,hlen,hf,hV,hoo,ho⟩:=HR.out;obtain ⟨-,-,hs,hrl,hgr⟩:=HX.out;rw [List.take_of_length_le BS] at hXx;have hMl:=(QM [] wr).alloc (.cells #[.slice (some ⟨xb,0,none⟩) m m] 37);have hC3:=hRC.later (hMx.trans (hMl.mono (L':=[rb])) (fun x hx => .inl hx)) (fun x hx => by simp at hx; omega);obtain ⟨css,hrow,hall⟩:=hC3.row;have hlt8:∀ x,u4.ownBlock=some x → x < wo.heap.size:=fun x hx => by obtain ⟨css',hrow',-⟩:=hRC.row;exact (hrow'.lt x hx).2
   have hr:∀ L:List Nat,(∀ x ∈ L,x < w.heap.size ∨ u4.ownBlock=some x) → RowR (wr.alloc (.cells #[.slice (some ⟨xb,0,none⟩) m m] 37)) L [.slice (some ⟨xb,0,none⟩) m m] oo:=fun L hL =>
    ⟨some ⟨xb,0,none⟩,m,by rw [ho],by rw [ho]; exact LR _,(hXx.mods hMl BU).vals (fun hx => by
     have:=HXB.out;rcases hL xb hx with h | h
     ·omega
     ·have:=hlt8 xb h
      omega)⟩
   have hlit2:=zdy wr #[.slice (some ⟨xb,0,none⟩) m m] 37;rw [hlen] at hrow;have HW:=QH (AI hC3 (AI hrow (AI hall (AI hr (AI hlit2 (AI (hM.trans (hMx.trans (hMl.mono (L':=[rb])) (fun x hx => .inl hx)) (fun x hx => .inl hx)) (AI hlen (AI (hRx.mods hMl BU) (AI htk hrl)))))))));clear hM hRun hRC htk hlen hf hV hoo ho hs hrl hgr hMl hC3 hrow hall hlt8 hr hlit2 hMx hRx hXx;obtain ⟨hj,hj0,hj1,hj2⟩:=HU.out;go_wp2_with (at_builtin; refine zw _ rfl _ _ 24 rfl 37 j0 _ 1 24 Tryz.underlying24 hj hj0 hj1 hj2 rfl BW u4 i css.flatten rfl HW.out.2.1 ⟨wr.heap.size,0,none⟩ 1 1 [.slice (some ⟨xb,0,none⟩) m m] rfl rfl ?b2 ?b3 BW ?b5 ?b6 ?_)
   case b3 => rfl
   case b5 => unfold maxLen; omega
   case b6 => omega
   have gGp:=QH trivial;exact yfY
 ·obtain rfl:n=i:=by omega
  rw [List.take_of_length_le (by rw [HH.out.2.2.2.1]; exact LR _)] at hRC;have hfin:PP (.returned u4) wr:=by rw [← HH.out.1];exact ⟨_,rfl,hM,hRun,hRC⟩
  have HFIN:=QH hfin;clear hfin hM hRun hRC;go_wp2_with fail;exact HFIN.out
theorem zuE (w:World) (v1 v2:Value):Calls Tryz.prog 37 #[.agg #[v1,v2]] w fun e w' => e = .returned v2 ∧ Mods [] w w':=by have hM:=(QM [] w).alloc (.cells #[v1,v2] 76);have hc:=za (QN w (.cells #[v1,v2] 76)) 1;change World.cell? _ _=some v2 at hc;have HM:=QH hM;clear hM;go_enter Tryz.func37, Tryz.ntmps37;go_wp2_with fail;go_ret;exact ⟨rfl,HM.out⟩
theorem zuF (w:World) (v1 v2:Value):Calls Tryz.prog 38 #[.agg #[v1,v2]] w fun e w' => e = .returned v1 ∧ Mods [] w w':=by have hM:=(QM [] w).alloc (.cells #[v1,v2] 76);have hc:=za (QN w (.cells #[v1,v2] 76)) 0;change World.cell? _ _=some v1 at hc;have HM:=QH hM;clear hM;go_enter Tryz.func38, Tryz.ntmps38;go_wp2_with fail;go_ret;exact ⟨rfl,HM.out⟩
def zs5 (x:V):Array Value:=#[.bool x.z,.int .i64 x.n,.string x.s,.bool false,.int .i64 0,.string ⟨#[]⟩,.bool false,.int .i64 0,.string ⟨#[]⟩,.bool false,.int .i64 0,.string ⟨#[]⟩,.bool false,.int .i64 0,.string ⟨#[]⟩,.bool false,.int .i64 0,.string ⟨#[]⟩,.bool false,.int .i64 0,.string ⟨#[]⟩,.bool false,.int .i64 0,.string ⟨#[]⟩]
theorem zs8:(Tryz.prog.info? 125).map (·.size)=some 24:=by kernel_rfl
theorem ztr (x:V):(zs5 x).all (·.oneCell')=true:=by simp [zs5,Value.oneCell']
theorem zs9 {P:Program} {fn:Func} {p q z:Tmp} {ty:TypeId} (h:fn.results = #[.cell p ty,.tmp q,.tmp z]) (tmps:Array Value) (w:World) (g:Nat) (t:TypeId) (cs:Array Value) (fr:Nat × Nat) (d:TypeDesc)
  (hp:tmps.getD p undef = .pointer (some ⟨g,0,none⟩)) (hg:w.heap[g]? = some (.cells cs t fr))
  (hu:P.underlying ty=some d) (hd:(match d with | .struct _ | .array _ _ => true | _ => false)=true) (hi:(P.info? ty).map (·.size)=some cs.size) (v u:Value) (hq:tmps.getD q undef=v) (hz:tmps.getD z undef=u) :
  (results fn tmps).run P w = .ok (.tuple #[.agg cs,v,u]) w:=by
 have hp':tmps[p]?.getD undef = .pointer (some ⟨g,0,none⟩):=by simpa using hp
 have hq':tmps[q]?.getD undef=v:=by simpa using hq
 have hz':tmps[z]?.getD undef=u:=by simpa using hz
 simp [results,h,hp',hq',hz',asAddr,run_loadVar_row w g t ty cs fr d hg hu hd hi]
def fnJ (r:Bool):Nat:=if r=true then 37 else 38
theorem ztM (w:World) (rb pb kb kc:Nat) (vq vl vr vt:Value) (hR:RunAt w rb pb) (hP:w.heap[pb]? = some (.cells #[vq,.int .i64 4,vl,vr,vt,.slice (some ⟨kb,0,none⟩) 1 kc] 49 (0,0))) (hpr:pb ≠ rb) (hkr:kb ≠ rb)
  (v1 v2:Value) (hk0:w.cell? ⟨kb,0,none⟩ = some v1) (hk1:w.cell? ⟨kb,1,none⟩ = some v2) (h1c:(#[v1,v2]:Array Value).all (·.oneCell')=true) (sel:Bool) (h:NHd) (hN:NAt w [rb] (if sel=true then v2 else v1) (.leaf h)) (hop:h.op=oColumn) (ao:Option Addr) (cap:Nat) (r:List V) (m:Nat) (hm:r.length=m) (hV:ValsIn w ao r [rb]) (hc:h.col < m) (x:V) (hx:r.getD h.col zeroV0=x) :
  Calls Tryz.prog 36 #[zh rb,.slice ao m cap,.func (.func (fnJ sel)) #[] #[]] w fun e w' => e = .returned (.tuple #[.agg (zs5 x),.slice none 0 0,.bool (!x.z)]) ∧ Mods [rb] w w' ∧ RunAt w' rb pb:=by
 have r0:=za hR 0;have p5:=za hP 5;change w.cell? _=some (zh pb) at r0;change w.cell? _=some (.slice (some ⟨kb,0,none⟩) 1 kc) at p5;have hxk:r[h.col]? = some x:=by rw [getD_some (by omega:h.col < r.length),hx]
 have hrl:=zj hR;have HH:=QH (AI hR (AI hN (AI hop (AI hm (AI hV (AI hc (AI hxk hrl)))))));clear hR hP hN hop hm hV hc hxk hx;have gGj:=QH trivial;exact yfV
theorem ztH (w:World) (rb pb kc:Nat) (ko:Option Addr) (vq vl vr vt row fv:Value) (hR:RunAt w rb pb) (hP:w.heap[pb]? = some (.cells #[vq,.int .i64 4,vl,vr,vt,.slice ko 0 kc] 49 (0,0))) :
  Calls Tryz.prog 36 #[zh rb,row,fv] w fun e w' => e = .returned (.tuple #[.agg (zs5 zeroV0),.slice none 0 0,.bool true]) ∧ Mods [] w w':=by
 have r0:=za hR 0;have p5:=za hP 5;change w.cell? _=some (zh pb) at r0;change w.cell? _=some (.slice ko 0 kc) at p5;have gGk:=QH trivial;exact yfV
open Go.Maps
theorem zuc:WideMaps.KeyLaw Tryz.prog 125:=deep_law_laid zmP (m:=4) BW (of_decide_eq_true BV) BV BV
theorem key8_keyed:Keyed Tryz.prog 125:=Keyed.of_law zuc
theorem zud {x y:V} (h:Value.agg (zs5 x)=Value.agg (zs5 y)):x=y:=by simp only [zs5,Value.agg.injEq,Array.mk.injEq,List.cons.injEq,Value.bool.injEq,Value.int.injEq,Value.string.injEq,and_true,true_and] at h;obtain ⟨z,n,s⟩:=x;obtain ⟨z2,n2,s2⟩:=y;obtain ⟨h1,h2,h3⟩:=h;simp only at h1 h2 h3;subst h1; subst h2; subst h3;rfl
theorem zts (x:V) (h1 : -9223372036854775808 ≤ x.n ∧ x.n ≤ 9223372036854775807) (h2:x.s.size ≤ 9223372036854775807):∃ l,keyOf Tryz.prog 125 (.agg (zs5 x))=some l:=by
 have k1 : Tryz.prog.keyType 125 = true:=by kernel_rfl
 have k2:Value.formed Tryz.prog 125 (.agg (zs5 x))=true:=by kernel_rfl
 have hi:(Lit.int .i64 x.n).wf=true:=by simp [Lit.wf]; exact h1
 have hi0:(Lit.int .i64 0).wf=true:=by decide
 have hs2:x.s.size ≤ maxLen:=by unfold maxLen; omega
 have hs0:(⟨#[]⟩ : ByteArray).size ≤ maxLen:=by decide
 have hc:(Value.agg (zs5 x)).cells.toList=(zs5 x).toList:=by simp [Value.cells]
 have c1 : Tryz.prog.cellsOf 125 = 24:=by kernel_rfl
 have c2 : Tryz.prog.cellsOf 35 = 3:=by kernel_rfl
 have c3 : Tryz.prog.cellsOf 4 = 1:=by kernel_rfl
 have c4 : Tryz.prog.cellsOf 2 = 1:=by kernel_rfl
 have c5 : Tryz.prog.cellsOf 9 = 1:=by kernel_rfl
 have u1 : Tryz.prog.underlying 125 = some (.array 8 35):=by kernel_rfl
 have u2:= Tryz.underlying35;have u3:= Tryz.underlying4;have u4:= Tryz.underlying2;have u5:= Tryz.underlying9;obtain ⟨m,hm⟩ : ∃ m,Tryz.prog.types.size=m + 2:=⟨Tryz.prog.types.size - 2,by have:1 < Tryz.prog.types.size:=of_decide_eq_true BV; omega⟩;unfold keyOf;rw [u1,hc,hm];simp only [k1,k2,Bool.and_self,if_true];have r8:List.range 8=[0,1,2,3,4,5,6,7]:=rfl;simp [Program.keyLits,zs5,r8,u1,u2,u3,u4,u5,c1,c2,c3,c4,c5,hi,hi0,hs2,hs0]
abbrev TbL:=List (V × List PR)
def kx (out:TbL) (i:Nat):V:=(out.getD i (zeroV0,[])).1
def rxs (out:TbL) (i:Nat):List PR:=(out.getD i (zeroV0,[])).2
def okV (x:V):Prop:=(-9223372036854775808 ≤ x.n ∧ x.n ≤ 9223372036854775807) ∧ x.s.size ≤ 9223372036854775807
def zte (rv:Nat → Value) (out:TbL) (n:Nat):Array MapEntry:=((List.range n).map fun i => (⟨.agg (zs5 (kx out i)),rv i,i⟩ : MapEntry)).toArray
theorem zs3 (rv:Nat → Value) (out:TbL) (n:Nat):(zte rv out n).size=n:=by simp [zte]
theorem zty (rv:Nat → Value) (out:TbL) {n i:Nat} (hi:i < n):(zte rv out n)[i]? = some ⟨.agg (zs5 (kx out i)),rv i,i⟩:=by simp [zte,hi]
theorem ztE {a b:Array MapEntry} (h:a.size=b.size) (h2:∀ i,i < a.size → a[i]? = b[i]?):a=b:=by
 refine Array.ext_getElem? fun i => ?_;by_cases hi:i < a.size
 ·exact h2 i hi
 ·rw [Array.getElem?_eq_none BS,Array.getElem?_eq_none BS]
theorem zue (rv:Nat → Value) (out:TbL) {n j:Nat} (hj:j < n):(zte rv out n).findIdx? (fun e => (e.born:Int) == (j:Int))=some j:=by
 rw [Array.findIdx?_eq_some_iff_getElem];refine ⟨by rw [zs3]; exact hj,?_,fun i hi => ?_⟩
 ·simp [zte]
 ·simp [zte];omega
theorem zuf (rv:Nat → Value) (out:TbL) {n:Nat} (hl:out.length=n) (x:V) (l:List PR) (v:Value):(zte rv out n).push ⟨.agg (zs5 x),v,n⟩ = zte (updN rv n v) (out ++ [(x,l)]) (n + 1):=by
 refine ztE (by simp [zs3]) fun i hi => ?_;have hi2:i < n + 1:=by simpa [zs3] using hi
 rw [zty _ _ hi2,Array.getElem?_push,zs3];by_cases h:i=n
 ·subst h;rw [if_pos rfl,zrW];unfold kx;rw [List.getD_eq_getElem?_getD,List.getElem?_append_right BS,hl,Nat.sub_self];rfl
 ·rw [if_neg h,zty _ _ BS,zrV _ _ h];unfold kx;rw [List.getD_eq_getElem?_getD,List.getD_eq_getElem?_getD,List.getElem?_append_left BS]
theorem zus (rv:Nat → Value) (out:TbL) {n j:Nat} (hj:j < n) (hl:out.length=n) (l:List PR) (v:Value):(zte rv out n).modify j (fun e => { e with val:=v })=zte (updN rv j v) (out.set j (kx out j,l)) n:=by
 refine ztE (by simp [zs3]) fun i hi => ?_;have hi2:i < n:=by simpa [zs3] using hi
 rw [Array.getElem?_modify,zty _ _ hi2,zty _ _ hi2];by_cases h:j=i
 ·subst h;rw [if_pos rfl,zrW];unfold kx;simp [List.getD_eq_getElem?_getD,List.getElem?_set_self (by omega:j < out.length)]
 ·rw [if_neg h,zrV _ _ (Ne.symm h)];unfold kx;simp [List.getD_eq_getElem?_getD,List.getElem?_set_ne h]
theorem zut (rv:Nat → Value) (out:TbL) {n j:Nat} (hj:j < n) {k:Value} (hk:k = .agg (zs5 (kx out j))):(zte rv out n).modify j (fun e => { e with key:=k })=zte rv out n:=by
 refine ztE BU fun i hi => ?_;have hi2:i < n:=by simpa [zs3] using hi
 rw [Array.getElem?_modify,zty _ _ hi2];by_cases h:j=i
 ·subst h; rw [if_pos rfl,hk]; rfl
 ·rw [if_neg h]
def zth (ps:List PR):List Value:=ps.flatMap fun p => [.slice none 0 0,p.1]
structure TB (L:List Nat) (w0 wr:World) (mb:Nat) (rv:Nat → Value) (out:TbL) (n:Nat):Prop where
 len:out.length=n
 low:∀ x ∈ L,x < w0.heap.size
 mods:Mods (mb :: L) w0 wr
 mbl:mb < w0.heap.size ∧ mb ∉ L
 map:wr.heap[mb]? = some (.map (zte rv out n) n)
 ok:∀ i,i < n → okV (kx out i)
 inj:∀ i j,i < n → j < n → kx out i=kx out j → i=j
 rows:∀ i,i < n → wr.ownsRow 0 131 2 (rv i) (rxs out i).length (zth (rxs out i))
 rb:∀ i,i < n → ∀ x,(rv i).ownBlock=some x → w0.heap.size ≤ x ∧ x ≠ mb ∧ ∀ j,j < n → (rv j).ownBlock=some x → j=i
theorem TB.later {L:List Nat} {w0 wr w':World} {mb:Nat} {rv:Nat → Value} {out:TbL} {n:Nat} (h:TB L w0 wr mb rv out n) (hM:Mods L wr w'):TB L w0 w' mb rv out n:=
 ⟨h.len,h.low,h.mods.trans hM (fun y hy => .inl (CM _ hy)),h.mbl,hM.heap h.map h.mbl.2,h.ok,h.inj,fun i hi => zm (h.rows i hi) hM (fun x hx hm => by have:=h.low x hm; have:=(h.rb i hi x hx).1; omega),h.rb⟩
theorem TB.start (w:World) {mb:Nat} (hb:w.heap[mb]? = some (.map #[] 0)) {L:List Nat} (hL:∀ x ∈ L,x < w.heap.size) (hm:mb ∉ L):TB L w w mb (fun _ => .slice none 0 0) [] 0:=
 ⟨rfl,hL,QM _ _,⟨zj hb,hm⟩,hb,fun i h => absurd h (Nat.not_lt_zero i),fun i j h => absurd h (Nat.not_lt_zero i),fun i h => absurd h (Nat.not_lt_zero i),fun i h => absurd h (Nat.not_lt_zero i)⟩
theorem TB.find {L:List Nat} {w0 wr:World} {mb:Nat} {rv:Nat → Value} {out:TbL} {n:Nat} (h:TB L w0 wr mb rv out n) (w:World) {x:V} (hx:okV x) :
  ((∀ i,i < n → kx out i ≠ x) ∧ (Instr.findKey 125 (.agg (zs5 x)) (zte rv out n).toList).run Tryz.prog w = .ok none w) ∨
  (∃ j,j < n ∧ kx out j=x ∧ (Instr.findKey 125 (.agg (zs5 x)) (zte rv out n).toList).run Tryz.prog w = .ok (some (j,rv j)) w):=by
 obtain ⟨l,hl⟩:=zts x hx.1 hx.2;have hall:∀ e ∈ (zte rv out n).toList,∃ l,keyOf Tryz.prog 125 e.key=some l:=fun e he => by simp only [zte,List.mem_map,List.mem_range] at he;obtain ⟨i,hi,rfl⟩:=he;exact zts _ (h.ok i hi).1 (h.ok i hi).2
 rcases key8_keyed.find w hl _ hall with ⟨h1,h2⟩ | ⟨j,e,h1,h2,h3⟩
 ·refine .inl ⟨fun i hi he => ?_,h1⟩;refine h2 ⟨.agg (zs5 (kx out i)),rv i,i⟩ ?_ (by rw [he]);simp only [zte,List.mem_map,List.mem_range];exact ⟨i,hi,rfl⟩
 ·right;have hj:j < n:=by
   have:=(List.getElem?_eq_some_iff.1 h2).1;simpa [zs3] using this
  have he:=zty rv out hj;have he2:(zte rv out n)[j]? = some e:=by simpa using h2
  rw [he] at he2;obtain rfl:=Option.some.inj he2;exact ⟨j,hj,zud h3,h1⟩
end Go.Proofs.YtcabeljiobiojaaGreatDoor
