/-
  check.Check, walked. No condition but that Go's own variables hold what they were laid with.
-/
import Derived.Test.YtcabeljiobiojaaGreatDoorChO
import Derived.Carry
set_option linter.unusedVariables false
namespace Go.Proofs.YtcabeljiobiojaaGreatDoor
open Go.RowKit
theorem ydp {p:Prop} (h:p:=by
  have HBB:=QH hBB;clear hneg hBB;apply zr AC [0,1,2,3,4,5,6,7,8,9,10,11,12,13] [(14,[])] false AC (fun y => y.cell? ⟨rb,6,none⟩ = some (.slice iao nl icap) ∧ y.cell? ⟨kb,0,none⟩ = some (.int .i64 (po:Nat)))
  case hC => exact ⟨c6,b0⟩
  case hwalk =>exact ycH
  first
  |guard_hyp gBj
   case hrun =>change zct _ _ _ _ _ [(_,[])] _ _;refine zv fun R1 hR1 => ?_;have hcl:=zF w5.drew sb2 cv mb 0 p e ((HM35.out.drew).heap HX.out.2.1) true 13 po;change Calls _ _ #[.pointer (some ⟨sb2,0,none⟩),.bool true,.int .i64 13,.int .i64 (po:Nat)] _ _ at hcl;exact ycx
  |guard_hyp gBk
   case hrun =>change zct _ _ _ _ _ [(_,[])] _ _;refine zv fun R1 hR1 => ?_;have hcl:=zF w5.drew sb2 cv mb 0 p e ((HM35.out.drew).heap HX.out.2.1) false 13 po;change Calls _ _ #[.pointer (some ⟨sb2,0,none⟩),.bool false,.int .i64 13,.int .i64 (po:Nat)] _ _ at hcl;exact ycx
 ):p:=h
theorem ydl {p:Prop} (h:p:=by
  have HFIN:=QH hfin;have zx2:w6.cell? ⟨qb,2,none⟩ = some (.string ⟨q.src.toArray⟩):=hM6.cell (za HQB.out 2);have zx4:w6.cell? ⟨qb,4,none⟩ = some (.int .i64 q.srcAt):=hM6.cell (za HQB.out 4);clear hst6 hc6 hfin hrb6 hM6 hr0;go_wp2_with fail;refine zd ?_;apply hR1 _ w6 (.inr ⟨zx2,zx4⟩)
  ·exact ybZ
  first
  |guard_hyp gA6
   exact ybJ
  |guard_hyp gA7
   ·clear hR1 R1;refine zv fun R2 hR2 => ?_;go_wp2_with fail;refine zd (hR2 _ _ AB ?_);clear hR2 R2;refine zI ?_;go_wp2_with fail
    go_meet
    exact .inr ⟨_,_,HFIN.out⟩
 ):p:=h
theorem yde {p:Prop} (h:p:=by
  have HFIN:=QH hfin;have zx3:w6.cell? ⟨qb,3,none⟩ = some (.string ⟨q.join.toArray⟩):=hM6.cell (za HQB.out 3);have zx5:w6.cell? ⟨qb,5,none⟩ = some (.int .i64 q.joinAt):=hM6.cell (za HQB.out 5);have zxl:w6.cell? ⟨rb,0,none⟩ = some (.int .i64 (left:Nat)):=za hst6 0;clear hst6 hc6 hfin hrb6 hM6 hr0 hjq;go_wp2_with fail;refine zd ?_;apply hR1 _ w6 (.inr ⟨zx3,zx5,zxl⟩)
  ·exact ybV
  first
  |guard_hyp gAR
   exact ybJ
  |guard_hyp gAS
   ·clear hR1 R1;refine zv fun R2 hR2 => ?_;go_wp2_with fail;refine zd (hR2 _ _ AB ?_);clear hR2 R2;refine zI ?_;go_wp2_with fail
    go_meet
    exact .inr ⟨_,_,_,HFIN.out⟩
 ):p:=h
theorem ydc {p:Prop} (h:p:=by
  have hqb0:=hqb.go (HO.out.2.mono (L':=[sb2])) hch.sbl hch.sne;have HG:=QH (AI he (AI hch (AI heq hqb0)));clear hch0 hch heq hqb hqb0 he;unfold zh at hcl;go_wp2_with fail;(with_reducible refine hcl.mono ?_);rintro r w6 ⟨v,rfl,hv0,hM6,hS6,hv6⟩;obtain ⟨vp,rfl⟩ : ∃ p,v = .pointer p:=by exact ybE
  clear hcl xq hv0;rw [zbr _ HG.out.1] at hS6;have hc7:=HG.out.2.1.go hM6 hS6;have hM06:Mods [] w w6:=HST.out.old hc7.mods;have hqb7:=HG.out.2.2.2.go hM6 HG.out.2.1.sbl HG.out.2.1.sne
  first
  |guard_hyp gAN
   have hfin:zc0 wB sb2 rb mb (l.map zax) q (w6.setCell ⟨rb,2,none⟩ (.pointer vp)):=
    ⟨cv,env,p,e,HG.out.1,hc7.put (z9 _ _ _ _),HG.out.2.2.1,hqb7.put2 HG.out.2.1.rbl (.pointer vp)⟩
   have HFIN:=QH hfin;obtain ⟨lf,rt,von,vwh,gr9,vg,its,nms,ns,ss,hst6,-⟩:=hqb7;have hz0:=zc hst6 2;have hc0:=za hst6 2;change w6.cell? _=some von at hc0;clear hst6 hc7 hfin hM6 hS6 hv6;clear hM06;go_wp2_with fail
   go_meet
   exact .inl HFIN.out
  |guard_hyp gAO
   have hfin:zc0 wB sb2 rb mb (l.map zax) q (w6.setCell ⟨rb,3,none⟩ (.pointer vp)):=
    ⟨cv,env,p,e,HG.out.1,hc7.put (z9 _ _ _ _),HG.out.2.2.1,hqb7.put3 HG.out.2.1.rbl (.pointer vp)⟩
   have HFIN:=QH hfin;obtain ⟨lf,rt,von,vwh,gr9,vg,its,nms,ns,ss,hst6,-⟩:=hqb7;have hz0:=zc hst6 3;have hc0:=za hst6 3;change w6.cell? _=some vwh at hc0;clear hst6 hc7 hfin hM6 hS6 hv6;clear hM06;go_wp2_with fail
   go_meet
   exact .inl HFIN.out
 ):p:=h
theorem ydb {p:Prop} (h:p:=by
  have hst0:=HO.out.2.heap hG.st;have HG:=QH (AI hG (AI hch hst0));clear hG hch hst0;unfold zh at hcl;go_wp2_with fail;(with_reducible refine hcl.mono ?_);rintro r w6 ⟨v,rfl,hv0,hM6,hS6,hv6⟩;obtain ⟨vp,rfl⟩ : ∃ p,v = .pointer p:=by exact ybE
  clear hcl xq hv0;have hc6:=fun (p e:Nat) (h:zaX w6 sb2 cv mb 0 p e) => HG.out.2.1.go hM6 h;have hM06:Mods [] w w6:=HST.out.old (HG.out.2.1.mods.trans hM6);have hst6:CSt w6 rb _ _ _ _ _ _ _ _ _ _ _:=hM6.heap HG.out.2.2 (by simpa using Ne.symm HG.out.2.1.sne)
  first
  |guard_hyp gAL
   have hz0:=zc hst6 2;have hc0:=za hst6 2;change w6.cell? _=some (.pointer none) at hc0
   cases hr0:zbB (zbS (l.map zax) left right) q.on with
   | bad p e =>
    rw [hr0] at hS6;have hc7:=hc6 p e hS6
    have hfin:zc0 wB sb2 rb mb (l.map zax) q (w6.setCell ⟨rb,2,none⟩ (.pointer vp)):=
     ⟨cv,_,p,e,zgO _ _ p e hr0,hc7.put (z9 _ _ _ _),Chk.bad_of HG.out.1.eq hr0,QBlk.start (hst6.put2 (.pointer vp)) (hc7.put (z9 w6 rb 2 (.pointer vp))).mods.size⟩
    exact ycd
   | ok o =>
    rw [hr0] at hS6;have hc7:=hc6 0 0 hS6;have hv7:=hv6 rfl o hr0;have hv8:=OptN.past (wB:=wB) (fun L hL => hv7 L (fun x hx => LL (hL x hx) HG.out.2.1.mods.size)) ((z9 w6 rb 2 (.pointer vp)).mono (L':=[sb2,rb])) HG.out.2.1.sbl HG.out.2.1.rbl;have hfin:Good3 wB (w6.setCell ⟨rb,2,none⟩ (.pointer vp)) sb2 rb mb (l.map zax) q gr cv left right o (.pointer vp):=⟨Chk.ok_of HG.out.1.eq hr0,HG.out.1.env,hc7.put (z9 _ _ _ _),hst6.put2 (.pointer vp),hv8⟩;have HFIN:=QH hfin;clear hst6 hc6 hc7 hfin hM6 hS6 hv6 hv7 hr0 hv8;clear hM06;go_wp2_with fail
    go_meet
    exact .inr ⟨_,_,_,_,_,HFIN.out⟩
  |guard_hyp gAM
   have hz0:=zc hst6 3;have hc0:=za hst6 3;change w6.cell? _=some (.pointer none) at hc0
   cases hr0:zbB (zbS (l.map zax) left right) q.whr with
   | bad p e =>
    rw [hr0] at hS6;have hc7:=hc6 p e hS6
    have hfin:zc0 wB sb2 rb mb (l.map zax) q (w6.setCell ⟨rb,3,none⟩ (.pointer vp)):=
     ⟨cv,_,p,e,zgO _ _ p e hr0,hc7.put (z9 _ _ _ _),Chk.bad_of HG.out.1.eq hr0,QBlk.start (hst6.put3 (.pointer vp)) (hc7.put (z9 w6 rb 3 (.pointer vp))).mods.size⟩
    exact ycd
   | ok o =>
    rw [hr0] at hS6;have hc7:=hc6 0 0 hS6;have hv7:=hv6 rfl o hr0;have hv8:=OptN.past (wB:=wB) (fun L hL => hv7 L (fun x hx => LL (hL x hx) HG.out.2.1.mods.size)) ((z9 w6 rb 3 (.pointer vp)).mono (L':=[sb2,rb])) HG.out.2.1.sbl HG.out.2.1.rbl;have hv9:=OptN.past (wB:=wB) HG.out.1.on (((HO.out.2.mono (L':=[sb2,rb])).trans hM6).trans (z9 w6 rb 3 (.pointer vp))) HG.out.2.1.sbl HG.out.2.1.rbl;have hfin:Good4 wB (w6.setCell ⟨rb,3,none⟩ (.pointer vp)) sb2 rb mb (l.map zax) q gr cv left right on o von (.pointer vp):=⟨Chk.ok_of HG.out.1.eq hr0,HG.out.1.env,hc7.put (z9 _ _ _ _),hst6.put3 (.pointer vp),hv9,hv8⟩;have HFIN:=QH hfin;clear hst6 hc6 hc7 hfin hM6 hS6 hv6 hv7 hr0 hv8 hv9;clear hM06;go_wp2_with fail
    go_meet
    exact .inr ⟨_,_,_,_,_,_,_,HFIN.out⟩
 ):p:=h
theorem ycx {p:Prop} (h:p:=by
  go_wp2_with fail;(with_reducible refine hcl.mono ?_);rintro r w6 ⟨rfl,hM6,hS6⟩;clear hcl;have HF:=QH (AI (((QM [sb2] w5).drew).trans hM6) hS6);clear hM6 hS6;go_wp2_with fail;refine zd (hR1 _ _ AB ?_);clear hR1 R1;refine zI ?_;go_wp2_with fail
  go_meet
  exact ⟨HF.out.1,by rw [HBB.out]; exact HF.out.2⟩
 ):p:=h
theorem ycH {p:Prop} (h:p:=by
  rintro y ⟨y6,y0⟩;change wpQuiet _ _ _ _ [_,_,_,_,_,_,_,_,_,_,_,_,_,_] (Act.mk _ _);(repeat go_big_quiet_step (fail));refine QW ?_;exact rfl
 ):p:=h
theorem yas {p:Prop} (h:p:=by
  have gBj:=QH trivial;exact ydp
 ):p:=h
theorem ybE {p:Prop} (h:p:=by
  rcases hv0 with ⟨b,rfl⟩ | rfl
  ·exact ⟨_,rfl⟩
  ·exact ⟨_,rfl⟩
 ):p:=h
theorem ybJ {p:Prop} (h:p:=by
  ·clear hR1 R1;refine zv fun R2 hR2 => ?_;go_wp2_with fail;refine zd (hR2 _ _ AB ?_);clear hR2 R2;refine zI ?_;go_wp2_with fail
   go_meet
   exact .inl HFIN.out
 ):p:=h
theorem ybV {p:Prop} (h:p:=by
  rintro y ⟨yx3,yx5,yxl⟩;exact ycu
 ):p:=h
theorem ybZ {p:Prop} (h:p:=by
  rintro y ⟨yx2,yx4⟩;exact ycu
 ):p:=h
theorem ycd {p:Prop} (h:p:=by
  have HFIN:=QH hfin;clear hst6 hc6 hc7 hfin hM6 hS6 hv6 hr0;clear hM06;go_wp2_with fail
  go_meet
  exact .inl HFIN.out
 ):p:=h
theorem ycq {p:Prop} (h:p:=by
  have HN:=QH hn;clear hn;go_wp2_with fail
  go_meet
  exact ⟨rfl,_,rfl,by simp [HN.out]⟩
 ):p:=h
set_option maxRecDepth 100000 in
set_option maxHeartbeats 16000000 in
theorem zkd (w:World) (hT:Tabs w) (hP:Pow w) (hV:CkVars w) (l:List Tbl) (hL:TbsOk l) (n:Nat) (hn:l.length=n) (ao:Option Addr) (cap:Nat) (hI:TblsIn w ao l []) (qb:Nat) (q:zt) (hQ:QueryAt w [] qb q) (hok:zcA q) (hF:FormQ q) :
  Calls Tryz.prog 16 #[.slice ao n cap,zh qb] w (zeo w (l.map zax) q):=by
 have hln:n ≤ 16:=by have h1:=hL.ok;unfold zd4 at h1;simp only [Bool.and_eq_true,decide_eq_true_eq] at h1;omega
 have hright:=zjQ w hT l (fun t ht => (hL.each t ht).1) n hn AA ao cap hI;rw [hL.ok] at hright;obtain ⟨PP,hPP⟩:=EX (zeo w (l.map zax) q);rw [hPP];obtain ⟨tb,htb⟩:=EX (l.map zax);have hwh0:=fun w1 (hM:Mods [] w w1) => zlt w1 qb q (hQ.later hM) hF (by have:=hok.items.1; omega) (by have:=hok.group.1; omega);have HI:=QH (AI hPP (AI htb (AI hT (AI hP (AI hV (AI hL (AI hn (AI hI (AI hQ (AI hok (AI hF hwh0)))))))))));clear hPP hT hP hV hL hn hI hQ hok hF hwh0;unfold zh;go_enter Tryz.func16, Tryz.ntmps16;go_wp2_with fail;(with_reducible refine hright.mono ?_);rintro e w1 ⟨rfl,hM1⟩;clear hright;have hwh:=HI.out.2.2.2.2.2.2.2.2.2.2.2 w1 hM1;unfold zh at hwh;go_wp2_with fail;(with_reducible refine hwh.mono ?_);rintro e w2 ⟨rfl,hM2⟩;clear hwh;have hmm:=@run_makeMap Tryz.prog;have hM02:=hM1.trans hM2;have HM:=QH hM02;clear hM1 hM2 hM02;obtain ⟨hPP,htb,hT,hP,hV,hL,hn,hI,hQ,hok,hF,-⟩:=HI.out;obtain ⟨vi,von0,vwh0,vg0,vo0,hqb,-,-,-,hgl,-⟩:=hQ;obtain ⟨gao,gcap,rfl,-⟩:=hgl.inL treeLen;obtain ⟨gl,hgle⟩:=EX (q.group.length);have q10:=HM.out.cell (za hqb 10);have q11:=HM.out.cell (za hqb 11);have q8:=HM.out.cell (za hqb 8);change w2.cell? _=some (.int .i64 q.limit) at q10;change w2.cell? _=some (.int .i64 q.offset) at q11;change w2.cell? _=some (.slice gao q.group.length gcap) at q8;rw [hgle] at q8;have h3:=(QM [] w2).alloc (.map #[] 0);have h34:=(QM [] (w2.alloc (.map #[] 0))).alloc (.cells #[.slice none 0 0,.map (some w2.heap.size),.int .i64 0,.int .i64 0,.int .i64 0] 101);have hs:=QN (w2.alloc (.map #[] 0)) (.cells #[.slice none 0 0,.map (some w2.heap.size),.int .i64 0,.int .i64 0,.int .i64 0] 101);have hm:=h34.heap (QN w2 (.map #[] 0));have h4:=h3.trans h34;replace q10:=h4.cell q10;replace q11:=h4.cell q11;replace q8:=h4.cell q8;have hz3:(w2.alloc (.map #[] 0)).heap.size=w2.heap.size + 1:=zl _ _;have hz4:((w2.alloc (.map #[] 0)).alloc (.cells #[.slice none 0 0,.map (some w2.heap.size),.int .i64 0,.int .i64 0,.int .i64 0] 101)).heap.size=w2.heap.size + 1 + 1:=by rw [zl,hz3]
 have HZ:=QH (AI hs (AI hm (AI h4 (AI hz4 (AI hgle (AI HM.out.size hz3))))));clear hPP htb hT hP hV hL hn hI hok hF hqb hgl h3 h34 hs hm h4 hz3 hz4 hgle;go_upto_region 4 with fail;generalize (w2.alloc (.map #[] 0)).alloc (.cells #[.slice none 0 0,.map (some w2.heap.size),.int .i64 0,.int .i64 0,.int .i64 0] 101)=w4 at *;generalize (w2.alloc (.map #[] 0)).heap.size=sb at *;generalize w2.heap.size=mb at *;obtain ⟨gr,hgr⟩:=EX (decide (0 < gl));obtain ⟨sb2,hsb2⟩:=EX (mb + 1);rw [hsb2];have HGR:=QH (AI hgr hsb2);clear hsb2;apply zr AC [0,1,2,3,4,5,6,7,8,9,10,11,12,13,14] [(15,[16])] true AC (fun y => y.cell? ⟨qb,10,none⟩ = some (.int .i64 q.limit) ∧ y.cell? ⟨qb,11,none⟩ = some (.int .i64 q.offset) ∧ y.cell? ⟨qb,8,none⟩ = some (.slice gao gl gcap))
 case hC => exact ⟨q10,q11,q8⟩
 case hwalk =>rintro y ⟨y10,y11,y8⟩;change wpQuiet _ _ _ _ [_,_,_,_,_,_,_,_,_,_,_,_,_,_,_] (Act.mk _ _);(repeat go_big_quiet_step (fail));refine QW ?_;exact rfl
 case hrun =>
  change zct _ _ _ _ _ [(_,[_])] _ _;refine zP fun R1 hR1 => ?_;go_wp2_with fail;have hr:=QN w4.drew (.cells #[.int .i64 0,.int .i64 (-1),.pointer none,.pointer none,.bool gr,.slice none 0 0,.slice none 0 0,.slice none 0 0,.slice none 0 0,.int .i64 q.limit,.int .i64 q.offset] 56);have h45:=(QM [] w4).drew.alloc (.cells #[.int .i64 0,.int .i64 (-1),.pointer none,.pointer none,.bool gr,.slice none 0 0,.slice none 0 0,.slice none 0 0,.slice none 0 0,.int .i64 q.limit,.int .i64 q.offset] 56);refine zd ?_;apply hR1 _ _ (.inr ⟨h45.cell q10,h45.cell q11,h45.cell q8⟩)
  ·rintro y ⟨y10,y11,y8⟩;change wpQuiet _ _ _ _ [_] (Act.mk _ _);(repeat go_big_quiet_step (fail));refine QW ?_;exact rfl
  ·clear hR1 R1;refine zI ?_;have hst:StartC w (w4.drew.alloc (.cells #[.int .i64 0,.int .i64 (-1),.pointer none,.pointer none,.bool gr,.slice none 0 0,.slice none 0 0,.slice none 0 0,.slice none 0 0,.int .i64 q.limit,.int .i64 q.offset] 56)) sb2 w4.heap.size mb q gr:=by
    obtain ⟨hs,hm,h4,hz4,hgle,hz2,hz3⟩:=HZ.out;have e1:=HGR.out.2;have h45':Mods [] w4 (w4.drew.alloc (.cells #[.int .i64 0,.int .i64 (-1),.pointer none,.pointer none,.bool gr,.slice none 0 0,.slice none 0 0,.slice none 0 0,.slice none 0 0,.int .i64 q.limit,.int .i64 q.offset] 56)):=(QM [] w4).drew.alloc _;exact znb ((HM.out.trans h4).trans h45') (by rw [show sb2=sb by omega]; exact h45'.heap hs) (h45'.heap hm) hr AA AA AA
   have HST:=QH hst;clear hst hr h45 q10 q11 q8;generalize (w4.drew.alloc (.cells #[.int .i64 0,.int .i64 (-1),.pointer none,.pointer none,.bool gr,.slice none 0 0,.slice none 0 0,.slice none 0 0,.slice none 0 0,.int .i64 q.limit,.int .i64 q.offset] 56))=wB at *;generalize w4.heap.size=rb at *;have HGL:=QH (AI HZ.out.2.2.2.2.1 HGR.out.1);clear HZ HGR HM hmm;go_upto_region 5 with fail;obtain ⟨hPP,htb,hT,hP,hV,hL,hn,hI,hQ,hok,hF,-⟩:=HI.out;obtain ⟨hq0,vi,von0,vwh0,vg0,vo0,hqb,hqi,hqon,hqw,hqg,hqo⟩:=((hQ.qin.fresh HST.out.sbw).fresh (g:=rb) HST.out.rbw);have HQI:=QH (AI hq0 (AI hqi (AI hqon (AI hqw (AI hqg hqo)))));have x2:=HST.out.mods.cell (za hqb 2);have x4:=HST.out.mods.cell (za hqb 4);change wB.cell? _=some (.string ⟨q.src.toArray⟩) at x2;change wB.cell? _=some (.int .i64 q.srcAt) at x4;have HQB:=QH hqb;clear hPP htb hT hP hV hL hn hI hQ hok hF hq0 hqb hqi hqon hqw hqg hqo;go_cut [] from 44 to 57 (fun wx => zc0 wB sb2 rb mb (l.map zax) q wx ∨ ∃ cv left,Good1 wB wx sb2 rb mb (l.map zax) q gr cv left)
   case first =>
    apply zr AC [0,1,2,3,4,5,6,7,8,9,10] [(11,[12,13]),(14,[])] false AC (fun y => y.cell? ⟨qb,2,none⟩ = some (.string ⟨q.src.toArray⟩) ∧ y.cell? ⟨qb,4,none⟩ = some (.int .i64 q.srcAt))
    case hC => exact ⟨x2,x4⟩
    case hwalk =>rintro y ⟨yx2,yx4⟩;change wpQuiet _ _ _ _ [_,_,_,_,_,_,_,_,_,_,_] (Act.mk _ _);(repeat go_big_quiet_step (fail));refine QW ?_;exact rfl
    case hrun =>
     change zct _ _ _ _ _ [(_,[_,_]),(_,[])] _ _;refine zP fun R1 hR1 => ?_;have hd:Mods [] wB wB.drew:=(QM [] wB).drew;have hch:=HST.out.ch.later hd;have hcl:=zf3 wB wB.drew sb2 rb _ mb [] hch l HI.out.2.2.2.2.2.1 n HI.out.2.2.2.2.2.2.1 ao cap (HST.out.tbls hch HI.out.2.2.2.2.2.2.2.1) q.src (by have:=HI.out.2.2.2.2.2.2.2.2.2.1.src; omega) q.srcAt none AB AB;have hst0:=hd.heap HST.out.st;have HD:=QH (AI hd (AI hch hst0));clear hd hch hst0;change Calls _ _ #[.pointer (some ⟨sb2,0,none⟩),.slice ao n cap,.string ⟨q.src.toArray⟩,.int .i64 q.srcAt,.int .i64 (-1)] _ _ at hcl;go_wp2_with fail;(with_reducible refine hcl.mono ?_);rintro r w6 ⟨hrb6,hres⟩;clear hcl;have hst6:CSt w6 rb 0 (-1) (.pointer none) (.pointer none) gr (.slice none 0 0) (.slice none 0 0) (.slice none 0 0) (.slice none 0 0) q.limit q.offset:=by unfold CSt;rw [hrb6];exact HD.out.2.2
     have hz0:=zc hst6 0;have hc0:=za hst6 0;change w6.cell? _=some (.int .i64 0) at hc0
     cases hr0:zbd (l.map zax) q.src q.srcAt none with
     | bad p e =>
      rw [hr0] at hres;obtain ⟨z,cv',rfl,hc6⟩:=hres;have hM6:=(HST.out.old hc6.mods)
      have hfin:zc0 wB sb2 rb mb (l.map zax) q (w6.setCell ⟨rb,0,none⟩ (.int .i64 z)):=
       ⟨cv',[],p,e,zeA hr0,hc6.put (z9 _ _ _ _),Chk.bad_of (ck0 _ _) hr0,QBlk.start (hst6.put0 z) (hc6.put (z9 w6 rb 0 (.int .i64 z))).mods.size⟩
      have gA6:=QH trivial;exact ydl
     | ok left =>
      rw [hr0] at hres;obtain ⟨rfl,cv',hc6⟩:=hres;have hM6:=(HST.out.old hc6.mods)
      have hfin:Good1 wB (w6.setCell ⟨rb,0,none⟩ (.int .i64 (left:Nat))) sb2 rb mb (l.map zax) q gr cv' left:=
       ⟨Chk.ok_of (ck0 _ _) hr0,hr0,hc6.put (z9 _ _ _ _),hst6.put0 left⟩
      have gA7:=QH trivial;exact ydl
   case rest =>
    generalize wc=wd at *;have hMd:Mods [sb2,mb,rb] wB wd:=by
     rcases hcut with ⟨cv,env,p,e,h1,h2,-⟩ | ⟨cv,left,h⟩
     ·exact h2.mods
     ·exact h.ch.mods
    have HC:=QH (AI hcut hMd);have x3:=(HST.out.old hMd).cell (za HQB.out 3);change wd.cell? _=some (.string ⟨q.join.toArray⟩) at x3;obtain ⟨J,hJ⟩:=EX ((⟨q.join.toArray⟩ : ByteArray):ByteArray);rw [hJ] at x3;have HJ:=QH hJ;clear hcut hMd hJ x2 x4;go_upto_region 6 with fail;go_cut [69] from 58 to 69 (fun s wx => wd=wx ∧ ∃ B:Bool,s = .bool B ∧ ((B=false ∧ zc0 wB sb2 rb mb (l.map zax) q wd) ∨ (B=decide (q.join ≠ []) ∧ ∃ cv left,Good1 wB wd sb2 rb mb (l.map zax) q gr cv left)))
    case first =>
     by_cases hj:q.join=[]
     ·have hJe:J = ⟨#[]⟩:=by rw [← HJ.out,hj]
      subst hJe;have HX:=QH hj;clear hj;go_wp2_with fail
      go_meet
      exact ⟨rfl,_,rfl,HC.out.1.elim (fun h => .inl ⟨rfl,h⟩) (fun h => .inr ⟨by simp [HX.out],h⟩)⟩
     ·have hJe:J.toList.isEmpty=false:=by
       rw [← HJ.out,ByteArray.toList_eq]
       cases hq9:q.join with
       | nil => exact absurd hq9 hj
       | cons a l => rfl
      rcases HC.out.1 with h | h
      ·have HX:=QH h;obtain ⟨cv,env,p,e,he,hch,-⟩:=h;have c4:=za hch.st 4;change wd.cell? _=some (.int .i64 (e:Nat)) at c4;have ze:((e:Int) == 0)=false:=by rw [beq_eq_false_iff_ne]; omega
       clear hj hch he;go_wp2_with fail
       go_meet
       exact ⟨rfl,_,rfl,.inl ⟨rfl,HX.out⟩⟩
      ·have HX:=QH (AI h (show true=decide (q.join ≠ []) by simp [hj]));obtain ⟨cv,left,hG⟩:=h;have c4:=za hG.ch.st 4;change wd.cell? _=some (.int .i64 0) at c4;clear hj hG;go_wp2_with fail
       go_meet
       exact ⟨rfl,_,rfl,.inr ⟨by simp [HX.out.2],HX.out.1⟩⟩
    case rest =>
    obtain ⟨rfl,B,rfl,hB⟩:=hcut;have HB:=QH hB;clear hB HC HJ x3;go_upto_if 69 with fail;go_cut [] from 70 to 87 (fun wx => zc0 wB sb2 rb mb (l.map zax) q wx ∨ ∃ cv left right,Good2 wB wx sb2 rb mb (l.map zax) q gr cv left right)
    case first =>
     cases B with
     | false =>
      have HX:=QH (show zc0 wB sb2 rb mb (l.map zax) q wd ∨ ∃ cv left right,Good2 wB wd sb2 rb mb (l.map zax) q gr cv left right from by
       rcases HB.out with ⟨-,h⟩ | ⟨hj,cv,left,hG⟩
       ·exact .inl h
       ·have hj:q.join=[]:=by simpa using hj.symm
        have hk:=zdF hG.tbl;have hr:=zdG HI.out.2.2.2.2.2.1 hk;refine .inr ⟨cv,left,none,Chk.ok_of hG.eq (by unfold joinQ; rw [if_pos hj]),?_,?_,hG.st⟩
        ·show zbT (zcC _ left ++ []) ∧ (zcC _ left ++ []).length ≤ 1000;rw [List.append_nil];exact ⟨hr.1,by omega⟩
        ·show ChkA wB wd sb2 rb cv mb 0 0 (zcC _ left ++ []);rw [List.append_nil]
         exact hG.ch)
      go_wp2_with fail
      go_meet
      exact HX.out
     | true =>
      obtain ⟨hj,cv,left,hG⟩ : q.join ≠ [] ∧ ∃ cv left,Good1 wB wd sb2 rb mb (l.map zax) q gr cv left:=by
       rcases HB.out with ⟨h,-⟩ | ⟨hj,h⟩
       ·cases h
       ·exact ⟨by simpa using hj.symm,h⟩
      have hMd:=HST.out.old hG.ch.mods;have x3:=hMd.cell (za HQB.out 3);have x5:=hMd.cell (za HQB.out 5);have xl:=za hG.st 0;change wd.cell? _=some (.string ⟨q.join.toArray⟩) at x3;change wd.cell? _=some (.int .i64 q.joinAt) at x5;change wd.cell? _=some (.int .i64 (left:Nat)) at xl;have HG:=QH (AI hG (AI hj hMd));clear hG hj hMd HB;go_upto_region 7 with fail;apply zr AC [0,1,2,3,4,5,6,7,8,9,10,11,12,13,14] [(15,[16,17]),(18,[])] false AC (fun y => y.cell? ⟨qb,3,none⟩ = some (.string ⟨q.join.toArray⟩) ∧ y.cell? ⟨qb,5,none⟩ = some (.int .i64 q.joinAt) ∧ y.cell? ⟨rb,0,none⟩ = some (.int .i64 (left:Nat)))
      case hC => exact ⟨x3,x5,xl⟩
      case hwalk =>rintro y ⟨yx3,yx5,yxl⟩;change wpQuiet _ _ _ _ [_,_,_,_,_,_,_,_,_,_,_,_,_,_,_] (Act.mk _ _);(repeat go_big_quiet_step (fail));refine QW ?_;exact rfl
      case hrun =>
       change zct _ _ _ _ _ [(_,[_,_]),(_,[])] _ _;refine zP fun R1 hR1 => ?_;have hd:Mods [] wd wd.drew:=(QM [] wd).drew;have hch:=HG.out.1.ch.later hd;have he1:=zdG HI.out.2.2.2.2.2.1 (zdF HG.out.1.tbl);have hcl:=zf3 wB wd.drew sb2 rb cv mb (zcC (l.map zax) left) hch l HI.out.2.2.2.2.2.1 n HI.out.2.2.2.2.2.2.1 ao cap (HST.out.tbls hch HI.out.2.2.2.2.2.2.2.1) q.join (by have:=HI.out.2.2.2.2.2.2.2.2.2.1.src; omega) q.joinAt (some left) AA (zlw HI.out.2.2.2.2.2.1 (zdF HG.out.1.tbl));have hst0:=hd.heap HG.out.1.st;have HD:=QH (AI hd (AI hch hst0));clear hd hch hst0 he1;change Calls _ _ #[.pointer (some ⟨sb2,0,none⟩),.slice ao n cap,.string ⟨q.join.toArray⟩,.int .i64 q.joinAt,.int .i64 (left:Nat)] _ _ at hcl;go_wp2_with fail;(with_reducible refine hcl.mono ?_);rintro r w6 ⟨hrb6,hres⟩;clear hcl;have hst6:CSt w6 rb left (-1) (.pointer none) (.pointer none) gr (.slice none 0 0) (.slice none 0 0) (.slice none 0 0) (.slice none 0 0) q.limit q.offset:=by unfold CSt;rw [hrb6];exact HD.out.2.2
       have hz0:=zc hst6 1;have hc0:=za hst6 1;change w6.cell? _=some (.int .i64 (-1)) at hc0
       cases hr0:zbd (l.map zax) q.join q.joinAt (some left) with
       | bad p e =>
        rw [hr0] at hres;obtain ⟨z,cv',rfl,hc6⟩:=hres;have hM6:=(HST.out.old hc6.mods);have hjq:joinQ (l.map zax) q left = .bad p e:=by unfold joinQ; rw [if_neg HG.out.2.1,hr0]; rfl
        have hfin:zc0 wB sb2 rb mb (l.map zax) q (w6.setCell ⟨rb,1,none⟩ (.int .i64 z)):=
         ⟨cv',_,p,e,zeA hr0,hc6.put (z9 _ _ _ _),Chk.bad_of HG.out.1.eq hjq,QBlk.start (hst6.put1 z) (hc6.put (z9 w6 rb 1 (.int .i64 z))).mods.size⟩
        have gAR:=QH trivial;exact yde
       | ok k =>
        rw [hr0] at hres;obtain ⟨rfl,cv',hc6⟩:=hres;have hM6:=(HST.out.old hc6.mods);have hjq:joinQ (l.map zax) q left = .ok (some k):=by unfold joinQ; rw [if_neg HG.out.2.1,hr0]; rfl
        have he1:=zdG HI.out.2.2.2.2.2.1 (zdF HG.out.1.tbl);have he2:=zdG HI.out.2.2.2.2.2.1 (zdF hr0)
        have hfin:Good2 wB (w6.setCell ⟨rb,1,none⟩ (.int .i64 (k:Nat))) sb2 rb mb (l.map zax) q gr cv' left (some k):=
         ⟨Chk.ok_of HG.out.1.eq hjq,⟨fun e he => (List.mem_append.1 he).elim (he1.1 e) (he2.1 e),by show (zcC _ left ++ zcC _ k).length ≤ 1000; rw [List.length_append]; omega⟩,hc6.put (z9 _ _ _ _),hst6.put1 k⟩
        clear he1 he2;have gAS:=QH trivial;exact yde
    case rest =>
    have hMd:Mods [sb2,mb,rb] wB wc:=by
     rcases hcut with ⟨cv,env,p,e,h1,h2,-⟩ | ⟨cv,left,right,h⟩
     ·exact h2.mods
     ·exact h.ch.mods
    clear HB;generalize wc=we at *;have HC:=QH (AI hcut hMd);clear hcut hMd;go_upto_region 8 with fail;go_cut [] from 88 to 96 (fun wx => zc0 wB sb2 rb mb (l.map zax) q wx ∨ ∃ cv left right on von,Good3 wB wx sb2 rb mb (l.map zax) q gr cv left right on von)
    case first =>
     have xq:=(HST.out.old HC.out.2).cell (za HQB.out 6);change we.cell? _=some (von0) at xq;have hd:Mods [] we we:=QM [] we;have hO:OptAt we [sb2] (von0) q.on:=(HQI.out.2.2.1.mods (((HST.out.old HC.out.2).trans hd).mono)).weaken AB;have HO:=QH (AI hO hd);clear hO hd;rcases HC.out.1 with hfl | ⟨cv,left,right,hG⟩
     ·obtain ⟨cv,env,p,e,he,hch0,heq,hqb⟩:=hfl;have hch:=hch0.later HO.out.2;have hcl:=zeB wB we sb2 rb cv mb p e env hch (fun h => absurd h he) (HI.out.2.2.2.2.1.later (HST.out.old hch.mods)) (zbl HI.out.2.2.2.2.1 HST.out.sbw) (von0) q.on HO.out.1 (fun t ht h => absurd h he);have gAN:=QH trivial;exact ydc
     ·have hch:=hG.ch.later HO.out.2;have hcl:=zeB wB we sb2 rb cv mb 0 0 _ hch (fun _ => rfl) (HI.out.2.2.2.2.1.later (HST.out.old hch.mods)) (zbl HI.out.2.2.2.2.1 HST.out.sbw) (von0) q.on HO.out.1 (fun t ht _ => zib sb2 cv mb _ (zbl HI.out.2.2.2.2.1 HST.out.sbw) hG.env.2 hG.env.1 t 0 (HI.out.2.2.2.2.2.2.2.2.2.2.1.on t ht) (HI.out.2.2.2.2.2.2.2.2.2.1.on t ht).1 (by have:=(HI.out.2.2.2.2.2.2.2.2.2.1.on t ht).2; omega));have gAL:=QH trivial;exact ydb
    case rest =>
    have hMd:Mods [sb2,mb,rb] wB wc:=by
     rcases hcut with ⟨cv,env,p,e,h1,h2,-⟩ | ⟨cv,left,right,on,von,h⟩
     ·exact h2.mods
     ·exact h.ch.mods
    clear HC;generalize wc=wf at *;have HC:=QH (AI hcut hMd);clear hcut hMd;go_upto_region 9 with fail;go_cut [] from 97 to 105 (fun wx => zc0 wB sb2 rb mb (l.map zax) q wx ∨ ∃ cv left right on whr von vwh,Good4 wB wx sb2 rb mb (l.map zax) q gr cv left right on whr von vwh)
    case first =>
     have xq:=(HST.out.old HC.out.2).cell (za HQB.out 7);change wf.cell? _=some (vwh0) at xq;have hd:Mods [] wf wf:=QM [] wf;have hO:OptAt wf [sb2] (vwh0) q.whr:=(HQI.out.2.2.2.1.mods (((HST.out.old HC.out.2).trans hd).mono)).weaken AB;have HO:=QH (AI hO hd);clear hO hd;rcases HC.out.1 with hfl | ⟨cv,left,right,on,von,hG⟩
     ·obtain ⟨cv,env,p,e,he,hch0,heq,hqb⟩:=hfl;have hch:=hch0.later HO.out.2;have hcl:=zeB wB wf sb2 rb cv mb p e env hch (fun h => absurd h he) (HI.out.2.2.2.2.1.later (HST.out.old hch.mods)) (zbl HI.out.2.2.2.2.1 HST.out.sbw) (vwh0) q.whr HO.out.1 (fun t ht h => absurd h he);have gAO:=QH trivial;exact ydc
     ·have hch:=hG.ch.later HO.out.2;have hcl:=zeB wB wf sb2 rb cv mb 0 0 _ hch (fun _ => rfl) (HI.out.2.2.2.2.1.later (HST.out.old hch.mods)) (zbl HI.out.2.2.2.2.1 HST.out.sbw) (vwh0) q.whr HO.out.1 (fun t ht _ => zib sb2 cv mb _ (zbl HI.out.2.2.2.2.1 HST.out.sbw) hG.env.2 hG.env.1 t 0 (HI.out.2.2.2.2.2.2.2.2.2.2.1.whr t ht) (HI.out.2.2.2.2.2.2.2.2.2.1.whr t ht).1 (by have:=(HI.out.2.2.2.2.2.2.2.2.2.1.whr t ht).2; omega));have gAM:=QH trivial;exact ydb
    case rest =>
    have hMd:Mods [sb2,mb,rb] wB wc:=by
     rcases hcut with ⟨cv,env,p,e,h1,h2,-⟩ | ⟨cv,left,right,on,whr,von,vwh,h⟩
     ·exact h2.mods
     ·exact h.ch.mods
    clear HC;generalize wc=wg at *;have HC:=QH (AI hcut hMd);obtain ⟨gao2,gcap2,hvg0,hglist⟩:=HQI.out.2.2.2.2.1;subst hvg0;have x8:=(HST.out.old hMd).cell (za HQB.out 8);change wg.cell? _=some (.slice gao2 q.group.length gcap2) at x8;rw [HGL.out.1] at x8;have HGT:=QH hglist;have hgl9:gl ≤ 10001:=by have:=HI.out.2.2.2.2.2.2.2.2.2.1.group.1; have:=HGL.out.1; omega
    clear hcut hMd hglist;go_upto_block 0 with fail;clear x8;go_cut [] from 111 to 132 (fun wx => zc0 wB sb2 rb mb (l.map zax) q wx ∨ ∃ cv left right on whr von vwh group vg,Good5 wB wx sb2 rb mb (l.map zax) q gr cv left right on whr von vwh group vg)
    case first =>
     have hread:∀ i (hi:i < gl),∃ gb xb t,gao2=some ⟨gb,0,none⟩ ∧ q.group[i]? = some t ∧ w.cell? ⟨gb,i,none⟩ = some (.pointer (some ⟨xb,0,none⟩)) ∧ ExprAt 171 103 w [rb,sb2] (zh xb) t ∧ t ∈ q.group:=by
      intro i hi;have hi2:i < q.group.length:=by rw [HGL.out.1]; exact hi
      obtain ⟨gb,h1,-,-,h4⟩:=HGT.out AA;obtain ⟨c,⟨xb,rfl,hX⟩,-,h6⟩:=h4 i hi2;have h7:=h6 0 _ rfl;rw [Nat.mul_one,Nat.add_zero] at h7;exact ⟨gb,xb,q.group[i],h1,List.getElem?_eq_getElem hi2,h7,hX,List.getElem_mem _⟩
     have HRD:=QH hread;clear hread;rcases HC.out.1 with hfl | ⟨cv,left,right,on,whr,von,vwh,hG⟩
     ·have HFL:=QH hfl;obtain ⟨cv,env,p,e,he,hch,-⟩:=hfl;have c4:=za hch.st 4;change wg.cell? _=some (.int .i64 (e:Nat)) at c4;have ze:((e:Int) == 0)=false:=by rw [beq_eq_false_iff_ne]; omega
      clear he hch;go_wp2_with fail;go_loopg [111] gl (fun gk t111 wr => ∃ i:Nat,i + gk=gl ∧ t111 = .int .i64 i ∧ wg=wr)
      case atStart => exact ⟨0,by omega,rfl,rfl⟩
      obtain ⟨i,hi,rfl,rfl⟩:=hrel;by_cases hlt:i < gl
      ·obtain ⟨gb,xb,t,rfl,-,hx,-,-⟩:=HRD.out i hlt;have k0:=(HST.out.old HC.out.2).cell hx;clear hx;go_wp2_with fail;go_roundg (gl - (i + 1))
       case measure => omega
       case rel => exact ⟨i + 1,by omega,by go_num,rfl⟩
      ·clear c4 ze;go_wp2_with fail
       go_meet
       exact .inl HFL.out
     ·obtain ⟨ENV,hENV⟩:=EX (zbS (l.map zax) left right);have hch:=hG.ch;rw [hENV] at hch;have HG:=QH (AI hG (AI hENV hch));have HS0:=QH (GrI.start (env:=ENV) hch.st hG.st);clear hG hENV hch;go_wp2_with fail;go_loopg [111] gl (fun gk t111 wr => ∃ i:Nat,i + gk=gl ∧ t111 = .int .i64 i ∧ GrI wg wr sb2 rb cv mb ENV q left (rightV right) von vwh gr i)
      case atStart => exact ⟨0,by omega,rfl,HS0.out⟩
      obtain ⟨i,hi,rfl,p,e,ks,vg,hMr,hSr,hCr,hor,hgr9,hce,hok9,hkl⟩:=hrel;have hMwr:Mods [] w wr:=HST.out.old (HC.out.2.trans hMr);by_cases hlt:i < gl
      ·obtain ⟨gb,xb,t,rfl,ht,hx,hXA,htm⟩:=HRD.out i hlt;have k0:=hMwr.cell hx;have c4:=za hSr 4;change wr.cell? _=some (.int .i64 (e:Nat)) at c4;by_cases he:e=0
       ·subst he;change wr.cell? _=some (.int .i64 0) at c4;obtain ⟨h,rfl,hhop⟩:=(HI.out.2.2.2.2.2.2.2.2.2.2.1.group t htm).2;obtain ⟨va,hxb,hxn⟩:=ItemR.block hXA;have hTO:=((HI.out.2.2.2.2.2.2.2.2.2.1.group.2 _ htm).1:HdOk h);have hwd:Mods [] w wr.drew:=hMwr.drew;have hSd:zaX wr.drew sb2 cv mb 0 p 0:=(QM [] wr).drew.heap hSr;obtain ⟨-,rfl,-⟩:=zaU (zez _ _) hce;have hEM:EnvMap wr.drew [sb2] mb ENV:=((HG.out.2.2.two hMr hSr).later (QM [] wr).drew).scope.map;have hcl:=ze5 wr.drew sb2 cv mb 0 0 0 hSd ENV hEM xb h va (hwd.heap hxb) (fun hh => hxn (by simp [hh])) (by have:=hTO.2.1; omega) (by have:=hTO.2.2.1; omega);unfold zh at hcl;have hCd:CSt wr.drew rb left (rightV right) von vwh gr vg (.slice none 0 0) (.slice none 0 0) (.slice none 0 0) q.limit q.offset:=(QM [] wr).drew.heap hCr;have c5:=za hCr 5;change wr.cell? _=some vg at c5;obtain ⟨ln,hln9⟩:=EX (ks.length);have hln8:ln ≤ 10001:=by omega
        obtain ⟨i0,hi1,hi2,hi3,hi4⟩:=info_parts (show (Tryz.prog.info? 3).map (fun i => (i.zero,i.size,i.bytes))=some (some (.int .i64 0),1,8) by kernel_rfl);have HW:=QH (AI hMr (AI hCd (AI hor (AI hgr9 (AI (hok9 rfl) (AI hkl (AI ht (AI hln9 (AI hi1 (AI hi2 (AI hi3 hi4)))))))))));clear hMr hCr hSr hor hgr9 hce hok9 hkl ht hx hXA htm hMwr hhop hxb hxn hTO hwd hSd hEM hCd hln9 hi1 hi2 hi3 hi4;go_upto_region 14 with fail;apply zr AC [0,1,2,3,4,5,6] [(7,[]),(8,[]),(9,[10,11]),(12,[])] false AC (fun y => y.cell? ⟨rb,5,none⟩ = some vg)
        case hC => exact c5
        case hwalk =>rintro y y5;exact ybw
        case hrun =>
         change zct _ _ _ _ _ [(_,[]),(_,[]),(_,[_,_]),(_,[])] _ _;refine zv fun R1 hR1 => ?_;go_wp2_with fail;(with_reducible refine hcl.mono ?_);rintro r w2 ⟨rfl,hM2,hS2⟩;clear hcl k0 c4;have hC2:CSt w2 rb left (rightV right) von vwh gr vg (.slice none 0 0) (.slice none 0 0) (.slice none 0 0) q.limit q.offset:=hM2.heap HW.out.2.1 (by simpa using Ne.symm HG.out.2.2.sne);have c52:=za hC2 5;change w2.cell? _=some vg at c52;have how2:w2.ownsRow 0 3 1 vg ks.length (ks.map fun k:Nat => Value.int .i64 (k:Nat)):=(zm HW.out.2.2.1 (QM [] wr).drew AB |> fun hx => zm hx hM2 (fun g hg hm => by have h1:=HW.out.2.2.2.1 g hg; have h2:=HG.out.2.2.sbl; have h3:=HC.out.2.size; simp at hm; omega));obtain ⟨kc,hkc⟩:=EX (colK ENV h 0);have H2:=QH (AI hM2 (AI hS2 (AI hC2 (AI how2 hkc))));rw [hkc];clear hM2 hS2 hC2 how2 hkc c5;go_wp2_with fail;refine zd (hR1 _ w2 (.inr c52) ?_);clear hR1 R1;refine zv fun R1 hR1 => ?_;go_wp2_with fail;have hz:Mods [] w2 (w2.alloc (.cells #[.int .i64 (kc:Nat)] 3)):=(QM _ _).alloc _;have hnew:=QN w2 (.cells #[.int .i64 (kc:Nat)] 3);have c53:=hz.cell c52;have b1:=za hnew 0;change World.cell? _ _=some (Value.int .i64 (kc:Nat)) at b1;have H3:=QH hz;clear hz hnew c52;refine zd (hR1 _ _ (.inr c53) ?_);clear hR1 R1;generalize w2.alloc (.cells #[.int .i64 (kc:Nat)] 3)=w3 at *;generalize w2.heap.size=k1 at b1 ⊢;refine zP fun R1 hR1 => ?_;obtain ⟨hMr,hCd,hor,hgr9,hok9,hkl,ht,hln9,hi1,hi2,hi3,hi4⟩:=HW.out;have hown:=zm H2.out.2.2.2.1 H3.out AB;rw [hln9] at hown;have hone:=zaW b1;refine zw _ rfl _ _ 52 rfl 3 i0 _ 1 8 Tryz.underlying52 hi1 hi2 hi3 hi4 rfl AD vg ln _ rfl hown ⟨k1,0,none⟩ 1 1 [.int .i64 (kc:Nat)] rfl rfl ?e1a ?e1b AD ?e1c ?e1d ?_
         case e1a => exact hone
         case e1b => intro u hu; simp at hu; subst hu; rfl
         case e1c => unfold maxLen; omega
         case e1d => omega
         intro g2 cap2 w4 hown9 hM9 hg9;have hM24:Mods vg.ownBlock.toList w2 w4:=(H3.out.mono).trans hM9 (fun x hx => .inl hx);have hg24:vg.ownBlock=some g2 ∨ w2.heap.size ≤ g2:=hg9.imp id (fun h9 => Nat.le_trans H3.out.size h9);have hrn:rb ∉ vg.ownBlock.toList:=fun hm => by have h1:=hgr9 rb AH; have h2:=HG.out.2.2.rbl; have h3:=HC.out.2.size; omega
         have c54:=hM9.cell c53 hrn;have hst4:=hM24.heap H2.out.2.2.1 hrn;have z5:=zc hst4 5;have hfin:GrI wg (w4.setCell ⟨rb,5,none⟩ (.slice (some ⟨g2,0,none⟩) (ln + 1) cap2)) sb2 rb cv mb ENV q left (rightV right) von vwh gr (i + 1):=by have hsz:=HC.out.2.size;have h1:=HG.out.2.2.sbl;have h2:=HG.out.2.2.rbl;refine GrI.push (h:=h) (w2:=w2) ((hMr.drew).trans H2.out.1) H2.out.2.1 H2.out.2.2.1 hgr9 hok9 hkl ht AA AA HG.out.2.2.sne hln9 ?_ hM24 hg24;rw [H2.out.2.2.2.2];exact hown9
         have HFIN:=QH hfin;clear hfin hst4 hM24 hg24 hrn hown hone hown9 hM9 hg9 hMr hCd hor hgr9 hok9 hkl ht hln9 hi1 hi2 hi3 hi4 c53 b1;go_wp2_with fail;refine zd ?_;apply hR1 _ w4 (.inr c54)
         ·rintro y y5;exact ycu
         ·clear hR1 R1;refine zv fun R2 hR2 => ?_;go_wp2_with fail;refine zd (hR2 _ _ AB ?_);clear hR2 R2 z5 c54;refine zI ?_;go_wp2_with fail;go_roundg (gl - (i + 1))
          case measure => omega
          case rel => exact ⟨i + 1,by omega,by go_num,HFIN.out⟩
       ·have ze:((e:Int) == 0)=false:=by rw [beq_eq_false_iff_ne]; omega
        have HX:=QH (GrI.past hMr hSr hCr hor hgr9 hce hkl he ht);clear hMr hSr hCr hor hgr9 hce hok9 hkl he ht hx hXA htm hMwr;go_wp2_with fail;go_roundg (gl - (i + 1))
        case measure => omega
        case rel => exact ⟨i + 1,by omega,by go_num,HX.out⟩
      ·obtain rfl:i=gl:=by omega
       have hfin:zc0 wB sb2 rb mb (l.map zax) q wr ∨ ∃ cv left right on whr von vwh group vg,Good5 wB wr sb2 rb mb (l.map zax) q gr cv left right on whr von vwh group vg:=by
        have hrl:=HG.out.2.2.rbl;have hsl:=HG.out.2.2.sbl;have htk:q.group.take i=q.group:=List.take_of_length_le (by have:=HGL.out.1; omega);rw [htk] at hce hok9;by_cases he:e=0
        ·subst he;obtain ⟨-,rfl,-⟩:=zaU (zez _ _) hce;have hch:=HG.out.1.ch.two hMr hSr;refine .inr ⟨cv,left,right,on,whr,von,vwh,ks,vg,Chk.ok_of HG.out.1.eq (by rw [HG.out.2.1]; exact hok9 rfl),HG.out.1.env,hch,hCr,OptN.past HG.out.1.on hMr hsl hrl,OptN.past HG.out.1.whr hMr hsl hrl,fun L hL => zlx hor (fun g hg hm => ?_),by omega⟩;have h1:=hgr9 g hg;have h2:=HC.out.2.size;have h3:=hL g hm;omega
        ·refine .inl ⟨cv,_,p,e,he,HG.out.1.ch.two hMr hSr,Chk.bad_of HG.out.1.eq (by rw [HG.out.2.1]; exact zgS hce he),QBlk.start hCr (Nat.le_trans HC.out.2.size hMr.size)⟩
       have HX:=QH hfin;clear hMr hSr hCr hor hgr9 hce hok9 hkl hMwr hfin;go_wp2_with fail
       go_meet
       exact HX.out
    case rest =>
    have hMd:Mods [sb2,mb,rb] wB wc:=by
     rcases hcut with ⟨cv,env,p,e,h1,h2,-⟩ | ⟨cv,left,right,on,whr,von,vwh,group,vg,h⟩
     ·exact h2.mods
     ·exact h.ch.mods
    clear HC HGT;generalize wc=wh at *;have HC:=QH (AI hcut hMd);clear hcut hMd;go_upto_region 16 with fail;go_cut [137] from 133 to 137 (fun s wx => wh=wx ∧ ∃ B:Bool,s = .bool B ∧ ((B=false ∧ zc0 wB sb2 rb mb (l.map zax) q wh) ∨ (B=true ∧ ∃ cv left right on whr von vwh group vg,Good5 wB wh sb2 rb mb (l.map zax) q gr cv left right on whr von vwh group vg)))
    case first =>
     rcases HC.out.1 with h | h
     ·have HX:=QH h;obtain ⟨cv,env,p,e,he,hch,-⟩:=h;have c4:=za hch.st 4;change wh.cell? _=some (.int .i64 (e:Nat)) at c4;have ze:((e:Int) == 0)=false:=by rw [beq_eq_false_iff_ne]; omega
      clear hch he;go_wp2_with fail
      go_meet
      exact ⟨rfl,_,rfl,.inl ⟨rfl,HX.out⟩⟩
     ·have HX:=QH h;obtain ⟨cv,left,right,on,whr,von,vwh,group,vg,hG⟩:=h;have c4:=za hG.ch.st 4;change wh.cell? _=some (.int .i64 0) at c4;clear hG;go_wp2_with fail
      go_meet
      exact ⟨rfl,_,rfl,.inr ⟨rfl,HX.out⟩⟩
    case rest =>
    obtain ⟨rfl,B,rfl,hB⟩:=hcut;have HB:=QH (AI hB HC.out.2);clear hB HC;go_upto_if 137 with fail;go_cut [] from 138 to 141 (fun wx => ∃ cv p e lf rt von vwh gr vg its nms ns ss,OrdS wB wx sb2 rb mb (l.map zax) q cv p e lf rt von vwh gr vg its nms ns ss)
    case first =>
     cases B with
     | false =>
      have HX:=QH (show ∃ cv p e lf rt von vwh gr vg its nms ns ss,OrdS wB wh sb2 rb mb (l.map zax) q cv p e lf rt von vwh gr vg its nms ns ss from by
       rcases HB.out.1 with ⟨-,h⟩ | ⟨h,-⟩
       ·exact zl9 h
       ·cases h)
      go_wp2_with fail
      go_meet
      exact HX.out
     | true =>
      obtain ⟨cv,left,right,on,whr,von,vwh,group,vg,hG⟩ : ∃ cv left right on whr von vwh group vg,Good5 wB wh sb2 rb mb (l.map zax) q gr cv left right on whr von vwh group vg:=by
       rcases HB.out.1 with ⟨h,-⟩ | ⟨-,h⟩
       ·cases h
       ·exact h
      have hMwh:=HST.out.old HB.out.2;have hQI:QIn wh [sb2,rb] qb q:=((show QIn w [rb,sb2] qb q from ⟨HQI.out.1,_,_,_,_,_,HQB.out,HQI.out.2⟩).mods (hMwh.mono)).weaken AB
      have hit:=zkh wh sb2 qb rb hG.ch.sne cv mb 0 _ hG.ch.scope hG.ch.cols hG.ch.map2 left (rightV right) von vwh gr vg (.slice none 0 0) q.limit q.offset hG.st hG.env.2 q hQI
       (fun i hi => ⟨zib sb2 cv mb _ (zbl HI.out.2.2.2.2.1 HST.out.sbw) hG.env.2 hG.env.1 i.e 0 (HI.out.2.2.2.2.2.2.2.2.2.2.1.items i hi) ((HI.out.2.2.2.2.2.2.2.2.2.1.items.2 i hi).1).1 (by have:=((HI.out.2.2.2.2.2.2.2.2.2.1.items.2 i hi).1).2; omega),HI.out.2.2.2.2.2.2.2.2.2.2.1.items i hi⟩)
       (fun W hW => by
        have hMW:=HST.out.old (HB.out.2.trans hW (fun x hx => .inl AY))
        exact ⟨HI.out.2.2.2.2.1.later hMW,HI.out.2.2.2.1.later hMW⟩)
       (by have:=HI.out.2.2.2.2.2.2.2.2.2.1.items.1; omega) (by rw [HGL.out.1]; exact HGL.out.2.symm) group (hG.grp [sb2,rb] (by simp; exact ⟨hG.ch.sbl,hG.ch.rbl⟩)) (by have:=hG.len; omega)
      unfold zh at hit;have HG:=QH hG;clear hG hMwh hQI HB;go_wp2_with fail;(with_reducible refine hit.mono ?_);rintro r w6 hres;have HX:=QH (zkf HG.out hres);obtain ⟨rfl,-⟩:=hres;clear hit;go_wp2_with fail
      go_meet
      exact HX.out
    case rest =>
    obtain ⟨cv,p0,e0,lf,rt,von,vwh,gr9,vg,its,nms,ns,ss,hO⟩:=hcut;clear HB;generalize wc=ws at *;obtain ⟨oao,ocap,hvo0,holist⟩:=HQI.out.2.2.2.2.2;subst hvo0;obtain ⟨n2,hn2⟩:=EX (q.order.length);have x9:=(HST.out.old hO.1).cell (za HQB.out 9);change ws.cell? _=some (.slice oao q.order.length ocap) at x9;rw [hn2] at x9;have hn29:n2 ≤ 10001:=by have:=HI.out.2.2.2.2.2.2.2.2.2.1.order.1; omega
    have hread:∀ j (hj:j < n2),∃ ob a,oao=some ⟨ob,0,none⟩ ∧ q.order[j]? = some a ∧ w.cell? ⟨ob,j * 4,none⟩ = some (.int .i64 (a.pos:Nat)) ∧ w.cell? ⟨ob,j * 4 + 1,none⟩ = some (.int .i64 a.item) ∧ w.cell? ⟨ob,j * 4 + 2,none⟩ = some (.string ⟨a.name.toArray⟩) ∧ w.cell? ⟨ob,j * 4 + 3,none⟩ = some (.bool a.desc) ∧ a ∈ q.order:=by
     intro j hj;have hj2:j < q.order.length:=by omega
     obtain ⟨ob,h1,-,-,h4⟩:=holist AA;obtain ⟨c,h5,-,h6⟩:=h4 j hj2;have h5:c=[.int .i64 (q.order[j].pos:Nat),.int .i64 q.order[j].item,.string ⟨q.order[j].name.toArray⟩,.bool q.order[j].desc]:=h5;subst h5;exact ⟨ob,q.order[j],h1,List.getElem?_eq_getElem hj2,h6 0 _ rfl,h6 1 _ rfl,h6 2 _ rfl,h6 3 _ rfl,List.getElem_mem _⟩
    obtain ⟨iao,icap,hits⟩ : ∃ ao cap,its = .slice ao ns.length cap:=by
     obtain ⟨css,h1,-⟩:=hO.2.2.2.1.rowI;rcases h1.2 with ⟨h2,h3⟩ | ⟨g,cap,cur,h2,-⟩
     ·exact ⟨none,0,by rw [h2,h3]⟩
     ·exact ⟨_,_,h2⟩
    subst hits;obtain ⟨nl,hnl⟩:=EX (ns.length);have HRD:=QH (AI hread (AI hn2 hnl));have HO:=QH hO;have HS0:=QH (OrI.start (mb:=mb) (ns:=ns) (ss:=ss) hO.2.1 hO.2.2.1);clear hread holist hO hn2 hnl;go_wp2_with fail;go_loopg [147] n2 (fun gk t147 wr => ∃ j:Nat,j + gk=n2 ∧ t147 = .int .i64 j ∧ OrI ws wr sb2 rb mb q cv p0 e0 lf rt von vwh gr9 vg (.slice iao ns.length icap) nms ns ss j)
    case atStart => exact ⟨0,by omega,rfl,HS0.out⟩
    obtain ⟨j,hj,rfl,p,e,ks,vo,hMr,hSr,hCr,hor,hkl,hog,hce,hok⟩:=hrel;clear x9 HS0;have hMwr:Mods [] w wr:=HST.out.old (HO.out.1.trans hMr (fun x hx => .inl AY));by_cases hlt:j < n2
    ·obtain ⟨ob,a,rfl,ha,y0,y1,y2,y3,ham⟩:=HRD.out.1 j hlt;have k0:=hMwr.cell y0;have k1:=hMwr.cell y1;have k2:=hMwr.cell y2;have k3:=hMwr.cell y3;have hb:=HI.out.2.2.2.2.2.2.2.2.2.1.order.2 a ham;obtain ⟨NB,hNB⟩:=EX ((⟨a.name.toArray⟩ : ByteArray):ByteArray);obtain ⟨it,hit⟩:=EX (a.item);obtain ⟨N,hN⟩:=EX (zfx ss a);obtain ⟨ds,hds⟩:=EX (a.desc);obtain ⟨po,hpo⟩:=EX (a.pos);rw [hNB] at k2;rw [hit] at k1 hb;rw [hds] at k3;rw [hpo] at k0;have hb1 : -1 ≤ it:=hb.2.1;have hb2:it ≤ 9223372036854775807:=hb.2.2;have hz:=(QM [] wr).alloc (.cells #[.int .i64 (po:Nat),.int .i64 it,.string NB,.bool ds] 113);have hbk:=QN wr (.cells #[.int .i64 (po:Nat),.int .i64 it,.string NB,.bool ds] 113);have hC3:CSt _ rb lf rt von vwh gr9 vg (.slice iao ns.length icap) nms vo q.limit q.offset:=hz.heap hCr;have hS3:zaX _ sb2 cv mb 0 p e:=hz.heap hSr;have c6:=za hC3 6;have c7:=za hC3 7;have c8:=za hC3 8;change World.cell? _ _=some (.slice iao ns.length icap) at c6;change World.cell? _ _=some nms at c7;change World.cell? _ _=some vo at c8;rw [HRD.out.2.2] at c6;have b0:=za hbk 0;have b1:=za hbk 1;have b2:=za hbk 2;have b3:=za hbk 3;change World.cell? _ _=some (Value.int .i64 (po:Nat)) at b0;change World.cell? _ _=some (Value.int .i64 it) at b1;change World.cell? _ _=some (Value.string NB) at b2;change World.cell? _ _=some (Value.bool ds) at b3;have hnm3:=zm (HO.out.2.2.2.1.go hMr (by simpa using ⟨HST.out.ch.sbl,HST.out.ch.rbl⟩)).rowN hz AB;have hvo3:=zm hor hz AB;have HX:=QH (AI (hMr.trans hz) (AI hS3 (AI hC3 (AI hvo3 (AI hkl (AI hog (AI hce (AI hok (AI ha hnm3)))))))));have HKB:=QH (show sb2 < wr.heap.size ∧ ∀ g,vo.ownBlock=some g → g < wr.heap.size from ⟨LL HST.out.ch.sbl (Nat.le_trans HO.out.1.size hMr.size),fun g hg => (hor.lt g hg).2⟩);have HA:=QH (AI hNB (AI hit (AI hN (AI hds hpo))));clear hMr hSr hCr hor hkl hog hce hok ha hNB hit hN hds hpo hb hz hbk hC3 hS3 hnm3 hvo3 y0 y1 y2 y3 ham hMwr;go_upto_region 21 with fail;generalize wr.alloc (.cells #[.int .i64 (po:Nat),.int .i64 it,.string NB,.bool ds] 113)=w3 at *;obtain ⟨kb,hkb⟩:=EX (wr.heap.size);rw [hkb] at b0 b1 b2 b3 HKB;rw [hkb];clear hkb k0 k1 k2 k3;go_upto_region 22 with fail;go_cut [156] from 154 to 156 (fun s wx => w3=wx ∧ ∃ B:Bool,s = .bool B ∧ B=decide (a.name ≠ []))
     case first =>
      by_cases hn:a.name=[]
      ·have hNe:NB = ⟨#[]⟩:=by rw [← HA.out.1,hn]
       subst hNe;exact ycq
      ·have hNe:NB.toList.isEmpty=false:=by
        rw [← HA.out.1,ByteArray.toList_eq]
        cases hq9:a.name with
        | nil => exact absurd hq9 hn
        | cons x l => rfl
       exact ycq
     case rest =>
     obtain ⟨rfl,B,rfl,hBn⟩:=hcut;have HBN:=QH hBn;clear hBn;go_upto_if 156 with fail;go_cut [12] from 157 to 163 (fun s wx => s = .int .i64 N ∧ Mods [] w3 wx)
     case first =>
      cases B with
      | false =>
       have hn:a.name=[]:=by have:=HBN.out; simpa using this.symm
       have hNN:it - 1=N:=by rw [← HA.out.2.2.1,← HA.out.2.1];unfold zfx;rw [if_neg (by rw [hn]; simp)]
       clear hn;have HN:=QH hNN;clear hNN;go_wp2_with fail
       go_meet
       exact ⟨by rw [← HN.out],QM _ _⟩
      | true =>
       have hn:a.name ≠ []:=by have:=HBN.out; simpa using this.symm
       have hix:=zhK w3.drew nms ss (zm HX.out.2.2.2.2.2.2.2.2.2 (QM [] w3).drew AB) a.name;have hNN:nameIdx ss a.name=N:=by rw [← HA.out.2.2.1,zke hn]
       rw [hNN,HA.out.1] at hix;clear hNN hn;go_wp2_with fail;apply zr AC [0,1,2,3,4,5] [(6,[7])] true AC (fun y => y.cell? ⟨rb,7,none⟩ = some nms ∧ y.cell? ⟨kb,2,none⟩ = some (.string NB))
       case hC => exact ⟨c7,b2⟩
       case hwalk =>rintro y ⟨y7,y2⟩;exact ycg
       case hrun =>
        change zct _ _ _ _ _ [(_,[_])] _ _;refine zP fun R1 hR1 => ?_;go_wp2_with fail;(with_reducible refine hix.mono ?_);rintro r w4 ⟨rfl,hM4⟩;clear hix;have hM34:=((QM [] w3).drew).trans hM4;have f7:=hM34.cell c7;have f2:=hM34.cell b2;go_wp2_with fail;refine zd ?_;apply hR1 _ w4 (.inr ⟨f7,f2⟩)
        ·rintro y ⟨y7,y2⟩;change wpQuiet _ _ _ _ [_] (Act.mk _ _);(repeat go_big_quiet_step (fail));refine QW ?_;exact rfl
        ·clear hR1 R1;refine zI ?_;go_wp2_with fail
         go_meet
         exact ⟨rfl,hM34⟩
     case rest =>
     obtain ⟨rfl,hM35⟩:=hcut;generalize wc=w5 at *;replace c6:=hM35.cell c6;replace c8:=hM35.cell c8;replace b0:=hM35.cell b0;replace b3:=hM35.cell b3;have HM35:=QH hM35;clear hM35 c7 b1 b2 hb1 hb2;go_upto_region 24 with fail;go_cut [] from 164 to 178 (fun wx => Mods [sb2] w5 wx ∧ zaX wx sb2 cv mb 0 (zaa (decide (N < 0 ∨ (nl:Int) ≤ N)) 13 po p e).1 (zaa (decide (N < 0 ∨ (nl:Int) ≤ N)) 13 po p e).2)
     case first =>
      by_cases hneg:N < 0
      ·have zN:decide (N < 0)=true:=decide_eq_true hneg;have hBB:decide (N < 0 ∨ (nl:Int) ≤ N)=true:=decide_eq_true (.inl hneg);exact yas
      ·have zN:decide (N < 0)=false:=decide_eq_false hneg;by_cases hge:(nl:Int) ≤ N
       ·have zG:decide ((nl:Int) ≤ N)=true:=decide_eq_true hge;have hBB:decide (N < 0 ∨ (nl:Int) ≤ N)=true:=decide_eq_true (.inr hge);exact yas
       ·have zG:decide ((nl:Int) ≤ N)=false:=decide_eq_false hge;have hBB:decide (N < 0 ∨ (nl:Int) ≤ N)=false:=decide_eq_false (by rintro (h | h); exact hneg h; exact hge h);have gBk:=QH trivial;exact ydp
     case rest =>
     obtain ⟨hM6,hS6⟩:=hcut;generalize wc=w6 at *;replace c8:=hM6.cell c8 (by simpa using Ne.symm HST.out.ch.sne);have hkb9:kb ≠ sb2:=fun h => by have:=HKB.out.1; omega
     replace b3:=hM6.cell b3 (by simpa using hkb9);have hM36:=(HM35.out.mono (L':=[sb2])).trans hM6;have hC6:CSt w6 rb lf rt von vwh gr9 vg (.slice iao ns.length icap) nms vo q.limit q.offset:=hM36.heap HX.out.2.2.1 (by simpa using Ne.symm HST.out.ch.sne);have hvo6:=zm HX.out.2.2.2.1 hM36 (fun g hg hm => by have h1:=HX.out.2.2.2.2.2.1 g hg; have h2:=HST.out.ch.sbl; have h3:=HO.out.1.size; simp at hm; omega);obtain ⟨i0,hi1,hi2,hi3,hi4⟩:=info_parts (show (Tryz.prog.info? 117).map (fun i => (i.zero,i.size,i.bytes))=some (some (.agg #[.int .i64 0,.bool false]),2,16) by kernel_rfl);have H6:=QH (AI hM36 (AI hS6 (AI hC6 (AI hvo6 (AI hi1 (AI hi2 (AI hi3 hi4)))))));clear hkb9 hM6 hS6 hM36 hC6 hvo6 hi1 hi2 hi3 hi4 c6 b0;go_upto_region 25 with fail;apply zr AC [0,1,2,3,4,5,6,7,8] [(9,[]),(10,[11,12]),(13,[])] false AC (fun y => y.cell? ⟨rb,8,none⟩ = some vo ∧ y.cell? ⟨kb,3,none⟩ = some (.bool ds))
     case hC => exact ⟨c8,b3⟩
     case hwalk =>rintro y ⟨y8,y3⟩;change wpQuiet _ _ _ _ [_,_,_,_,_,_,_,_,_] (Act.mk _ _);(repeat go_big_quiet_step (fail));refine QW ?_;exact rfl
     case hrun =>
      change zct _ _ _ _ _ [(_,[]),(_,[_,_]),(_,[])] _ _;refine zv fun R1 hR1 => ?_;go_wp2_with fail;have hz:Mods [] w6 (w6.alloc (.cells #[.int .i64 N,.bool ds] 117)).drew:=((QM [] w6).alloc _).drew;have hnew:(w6.alloc (.cells #[.int .i64 N,.bool ds] 117)).drew.heap[w6.heap.size]? = _:=QN w6 (.cells #[.int .i64 N,.bool ds] 117);have e8:=hz.cell c8;have e3:=hz.cell b3;have d0:=za hnew 0;have d1:=za hnew 1;change World.cell? _ _=some (Value.int .i64 N) at d0;change World.cell? _ _=some (Value.bool ds) at d1;have H7:=QH hz;clear hz hnew c8 b3;refine zd (hR1 _ _ (.inr ⟨e8,e3⟩) ?_);clear hR1 R1;generalize (w6.alloc (.cells #[.int .i64 N,.bool ds] 117)).drew=w7 at *;generalize w6.heap.size=k1 at d0 d1 ⊢;refine zP fun R1 hR1 => ?_;obtain ⟨hM36,hS6,hC6,hvo6,hi1,hi2,hi3,hi4⟩:=H6.out;have hown:=zm hvo6 H7.out AB;have hone:∀ (i:Nat) (u:Value),[Value.int .i64 N,.bool ds][i]? = some u → w7.cell? ((⟨k1,0,none⟩ : Addr).add i)=some u:=fun i u hu => by
       match i,hu with
       | 0,hu => cases hu; exact d0
       | 1,hu => cases hu; exact d1
      refine zw _ rfl _ _ 54 rfl 117 i0 _ 2 16 Tryz.underlying54 hi1 hi2 hi3 hi4 rfl AD vo j _ rfl hown ⟨k1,0,none⟩ 1 1 [.int .i64 N,.bool ds] rfl rfl ?e2a ?e2b AD ?e2c ?e2d ?_
      case e2a => exact hone
      case e2b => intro u hu; simp at hu; rcases hu with rfl | rfl <;> rfl
      case e2c => unfold maxLen; omega
      case e2d => omega
      intro g2 cap2 w8 hown9 hM9 hg9;have hM68:Mods vo.ownBlock.toList w6 w8:=(H7.out.mono).trans hM9 (fun x hx => .inl hx);have hg68:vo.ownBlock=some g2 ∨ w6.heap.size ≤ g2:=hg9.imp id (fun h9 => Nat.le_trans H7.out.size h9);have hrn:rb ∉ vo.ownBlock.toList:=fun hm => by have h1:=HX.out.2.2.2.2.2.1 rb AH; have h2:=HST.out.ch.rbl; have h3:=HO.out.1.size; omega
      have f8:=hM9.cell e8 hrn;have f3:=hM9.cell e3 (fun hm => by have:=HKB.out.2 kb AH; omega);have hst4:=hM68.heap hC6 hrn;have z8:=zc hst4 8;have hfin:OrI ws (w8.setCell ⟨rb,8,none⟩ (.slice (some ⟨g2,0,none⟩) (j + 1) cap2)) sb2 rb mb q cv p0 e0 lf rt von vwh gr9 vg (.slice iao ns.length icap) nms ns ss (j + 1):=by
       have hsz:=HO.out.1.size;have h1:=HST.out.ch.sbl;have h2:=HST.out.ch.rbl;refine OrI.push (w2:=w6) (HX.out.1.trans hM36) ?_ hC6 HX.out.2.2.2.2.2.1 HX.out.2.2.2.2.1 HX.out.2.2.2.2.2.2.1 HX.out.2.2.2.2.2.2.2.1 HX.out.2.2.2.2.2.2.2.2.1 AA AA HST.out.ch.sne ?_ hM68 hg68
       ·rw [HA.out.2.2.1,HA.out.2.2.2.2,HRD.out.2.2]; exact hS6
       ·rw [HA.out.2.2.1,HA.out.2.2.2.1]; exact hown9
      have HFIN:=QH hfin;clear hfin hst4 hM68 hg68 hrn hown hone hown9 hM9 hg9 hM36 hS6 hC6 hvo6 hi1 hi2 hi3 hi4 e8 e3 d0 d1;go_wp2_with fail;refine zd ?_;apply hR1 _ w8 (.inr ⟨f8,f3⟩)
      ·rintro y ⟨y8,y3⟩;exact ycu
      ·clear hR1 R1;refine zv fun R2 hR2 => ?_;go_wp2_with fail;refine zd (hR2 _ _ AB ?_);clear hR2 R2 z8 f8 f3;refine zI ?_;go_wp2_with fail;go_roundg (n2 - (j + 1))
       case measure => omega
       case rel => exact ⟨j + 1,by omega,by go_num,HFIN.out⟩
    ·obtain rfl:j=n2:=by omega
     have htk:q.order.take j=q.order:=List.take_of_length_le (by have:=HRD.out.2.1; omega);rw [htk] at hce hok;have hfin:=fun n => zkg HST.out HO.out (hMr.drewN n) (((QM [] wr).drewN n).heap hCr) (zm hor ((QM [] wr).drewN n) AB) hkl hog hce hok;rw [HI.out.1] at hfin;have c4:=za hSr 4;have c3:=za hSr 3;change wr.cell? _=some (.int .i64 (e:Nat)) at c4;change wr.cell? _=some (.int .i64 (p:Nat)) at c3;clear hMr hSr hCr hor hkl hog hce hok hMwr;by_cases he:e=0
     ·subst he;rw [if_neg AB] at hfin;have HX:=QH (hfin 0);change wr.cell? _=some (.int .i64 0) at c4;clear hfin c3;go_wp2_with fail;exact HX.out
     ·rw [if_pos he] at hfin;have ze:((e:Int) != 0)=true:=bne_iff_ne.2 AA;have HX:=QH hfin;clear hfin he;go_wp2_with fail;go_quiet (fail);go_wp2_with fail;exact HX.out _
end Go.Proofs.YtcabeljiobiojaaGreatDoor
