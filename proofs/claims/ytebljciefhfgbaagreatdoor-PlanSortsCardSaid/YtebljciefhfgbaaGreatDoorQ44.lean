/-
  value.Compare and value.Order of two whole numbers, walked. No condition.
-/
import Derived.Test.YtebljciefhfgbaaGreatDoorQ43
set_option linter.unusedVariables false
set_option maxRecDepth 100000
set_option maxHeartbeats 4000000
namespace Go.Proofs.YtebljciefhfgbaaGreatDoor
open Go.RowKit
theorem yds {p:Prop} (h:p:=by
  go_wp2_with fail;(with_reducible refine hq.mono ?_);rintro e w2 ⟨cb,rfl,hM2,hC⟩;unfold zh;clear hq;have htb:=tables15 w2;have HC:=QH (AI hM2 hC);clear hM2 hC;go_wp2_with fail;(with_reducible refine htb.mono ?_);rintro e w3 ⟨tb,rfl,hM3,hI,-⟩;clear htb
  first
  |guard_hyp gBp
   have hmk:=zqd w3 (HT.out.later (HC.out.1.trans hM3)).1.1 tb hI cb c (HC.out.2.later hM3) HX.out.1 (.inr HX.out.2.1) (by rw [HX.out.2.2.1]; decide);rw [show decide (c.right=none)=false by rw [HX.out.2.1]; rfl] at hmk;have HM3:=QH (AI (HC.out.1.trans hM3) (HC.out.2.later hM3));unfold zh at hmk;clear hM3 hI;go_wp2_with fail;(with_reducible refine hmk.mono ?_);rintro e w4 ⟨pb,rfl,hM4,-,B,vl,vr,vt,vk,bl,br,bt,ps,hP⟩;clear hmk;unfold zh;have htb:=tables15 w4;have HP:=QH (AI hM4 hP);clear hM4 hP;go_wp2_with fail;(with_reducible refine htb.mono ?_);rintro e w5 ⟨tb2,rfl,hM5,hI,-⟩;clear htb;have hM35:=HP.out.1.trans hM5;have hmn:=zrb w5 (HT.out.later (HM3.out.1.trans hM35)).1.1 tb2 hI;have HM5:=QH (AI hM35 (HP.out.2.later hM5));clear hM35 hM5 hI;go_wp2_with fail;(with_reducible refine hmn.mono ?_);rintro e w6 ⟨rfl,hM6⟩;clear hmn;have HM6:=QH (AI (HM5.out.1.trans hM6) (HM5.out.2.later hM6));clear hM6;have hb:=za HM6.out.2.blk;have b1:=hb 1;have b2:=hb 2;have b3:=hb 3;have b4:=hb 4;have b5:=hb 5;obtain ⟨lo,lc,rfl⟩:=zpq HM6.out.2.l.own;obtain ⟨ro,rc,rfl⟩:=zpq HM6.out.2.r.own;obtain ⟨tso,tc,rfl⟩:=zpq HM6.out.2.t.own;obtain ⟨ko,kc,rfl⟩:=zpq HM6.out.2.k.own;rw [HM6.out.2.nl.len,HX.out.2.2.2.2.1] at b2;rw [HM6.out.2.nr.len,HX.out.2.2.2.2.2.1] at b3;rw [HM6.out.2.nt.len,HX.out.2.2.2.2.2.2.2] at b4;rw [HM6.out.2.nk.len,HX.out.2.2.2.2.2.2.1] at b5;change w6.cell? _=some (.int .i64 4) at b1;change w6.cell? _=some (.slice lo 1 lc) at b2;change w6.cell? _=some (.slice ro 1 rc) at b3;change w6.cell? _=some (.slice tso 1 tc) at b4;change w6.cell? _=some (.slice ko 1 kc) at b5;have hC6:=HM3.out.2.later HM6.out.1;obtain ⟨-,von,vwh,vg,its,nms,vo,hst,-,hwh,-⟩:=hC6;have c4:=za hst 3;change w6.cell? _=some vwh at c4;have hsp:=zpG w6 w6 [] vwh c.whr hwh (QM _ _) (by rw [HX.out.2.2.2.1]; decide);clear hst hwh hb;go_wp2_with fail;(with_reducible refine hsp.mono ?_);rintro e w7 ⟨v7,bs7,rfl,hO7,hN7,-⟩;clear hsp;have hM7:=hO7.1;obtain ⟨so,sc,rfl⟩:=zpq hO7.2.1;rw [hN7.len,HX.out.2.2.2.1];have HF:=QH (HM3.out.1.trans (HM6.out.1.trans hM7 AB));clear hM7 hO7 hN7;go_wp2_with fail;go_ret;exact ⟨rfl,HF.out⟩
  |guard_hyp gBq
   have hmk:=zqd w3 (HT.out.later (HC.out.1.trans hM3)).1.1 tb hI cb c (HC.out.2.later hM3) HX.out.1.left (.inl HX.out.1.right) (by rw [HX.out.1.on,HX.out.1.whr]; decide);rw [show decide (c.right=none)=true by rw [HX.out.1.right]; rfl,HX.out.1.on,HX.out.1.whr] at hmk;have HM3:=QH (AI (HC.out.1.trans hM3) (HC.out.2.later hM3));unfold zh at hmk;clear hM3 hI;go_wp2_with fail;(with_reducible refine hmk.mono ?_);rintro e w4 ⟨pb,rfl,hM4,-,B,vl,vr,vt,vk,bl,br,bt,ps,hP⟩;clear hmk;have hM04:=HM3.out.1.trans hM4;obtain ⟨lo,lc,rfl⟩:=zpq hP.l.own;have hbl:bl.length=0:=hP.nl.len;have hpl:=hP.blk;rw [hbl] at hpl
   have hrw:=zrm w4 pb cb c ⟨lo,lc,vr,vt,vk,hpl⟩ (HM3.out.2.later hM4) HX.out.1.right ao cap rs n hn (fun h0 => by
    obtain ⟨g,o,h1,h2,h3⟩:=HX.out.2.2.2.1 h0
    exact ⟨g,o,h1,h2,fun i hi => by
     obtain ⟨vo,k,h4,h5,h6⟩:=h3 i hi
     exact ⟨vo,k,h4,hM04.cell h5,h6.mods hM04⟩⟩) HX.out.2.2.2.2 v2 rs2 n2 hn2 hn19 (fun W rb => HX.out.2.1 W rb pb cb) ord (fun W rb => HX.out.2.2.1 W rb pb cb) lim off hlim hoff hl0 hl1 ho0 ho1
   have HM4:=QH hM04;unfold zh at hrw ⊢;clear hM4 hP hbl hpl hM04 hlim hoff hl0 hl1 ho0 ho1;go_wp2_with fail;(with_reducible refine hrw.mono ?_);rintro e w5 ⟨bo,bc,rfl,hbc,hM5,hR⟩;clear hrw;have hfin:PP (.returned (.tuple #[.slice bo (winR lim off (insL ord [] (n2 - 1) rs2)).length bc,.bool true])) w5:=by rw [← HP.out];exact ⟨bo,bc,rfl,hbc,HM4.out.trans hM5,fun L hL => hR L fun x hx => LL (hL x hx) HM4.out.size⟩
   have HFIN:=QH hfin;clear hfin hR hM5 hbc;go_wp2_with fail;exact HFIN.out
 ):p:=h
theorem yft {p:Prop} (h:p:=by
  obtain ⟨w1,hw1⟩:=EX (w.alloc (.cells #[.bool false,.int .i64 a,.string ⟨#[]⟩] 37));obtain ⟨w2,hw2⟩:=EX (w1.alloc (.cells #[.bool false,.int .i64 b,.string ⟨#[]⟩] 37));obtain ⟨w3,hw3⟩:=EX (w2.alloc (.cells #[.int .i64 1,.int .i64 0] 62))
  first
  |guard_hyp gFL
   obtain ⟨w4,hw4⟩:=EX (w3.alloc (.cells #[.int .i64 1,.int .i64 0] 62));have m1:Mods [] w w1:=hw1 ▸ (QM [] w).alloc _;have m2:Mods [] w1 w2:=hw2 ▸ (QM [] w1).alloc _;have m3:Mods [] w2 w3:=hw3 ▸ (QM [] w2).alloc _;have m4:Mods [] w3 w4:=hw4 ▸ (QM [] w3).alloc _;have h1:w1.heap[w.heap.size]? = _:=hw1 ▸ QN w _;have h2:w2.heap[w1.heap.size]? = _:=hw2 ▸ QN w1 _;have h3:w3.heap[w2.heap.size]? = _:=hw3 ▸ QN w2 _;have h4:w4.heap[w3.heap.size]? = _:=hw4 ▸ QN w3 _;replace h1:=((m2.trans m3).trans m4).heap h1;replace h2:=(m3.trans m4).heap h2;replace h3:=m4.heap h3;have s1:w1.heap.size=w.heap.size + 1:=hw1 ▸ zl w _;have s2:w2.heap.size=w1.heap.size + 1:=hw2 ▸ zl w1 _;have s3:w3.heap.size=w2.heap.size + 1:=hw3 ▸ zl w2 _;have hM4:=((m1.trans m2).trans m3).trans m4;have HB:=QH (AI h1 (AI h2 (AI h3 (AI h4 hM4))));have HS:=QH (AI s1 (AI s2 s3));clear m1 m2 m3 m4 h1 h2 h3 h4 s1 s2 s3 hM4;go_enter Tryz.func82, Tryz.ntmps82;go_upto_region 1 with fail;obtain ⟨h1,h2,h3,h4,hM4⟩:=HB.out;clear HB HS;generalize w.heap.size=pa at *;generalize w1.heap.size=pb at *;generalize w2.heap.size=pc at *;generalize w3.heap.size=pd at *;clear hw1 hw2 hw3 hw4;have q0:=za h1 0;have q1:=za h1 1;have q2:=za h1 2;have r0:=za h2 0;have r1:=za h2 1;have r2:=za h2 2;have t0:=za h3 0;have t1:=za h3 1;have u0:=za h4 0;have u1:=za h4 1;change w4.cell? _=some (.bool false) at q0;change w4.cell? _=some (.int .i64 a) at q1;change w4.cell? _=some (.string ⟨#[]⟩) at q2;change w4.cell? _=some (.bool false) at r0;change w4.cell? _=some (.int .i64 b) at r1;change w4.cell? _=some (.string ⟨#[]⟩) at r2;change w4.cell? _=some (.int .i64 1) at t0;change w4.cell? _=some (.int .i64 0) at t1;change w4.cell? _=some (.int .i64 1) at u0;change w4.cell? _=some (.int .i64 0) at u1;have k1:=HF.out.1 w4;go_wp2_with fail;(with_reducible refine k1.mono ?_);rintro e w5 ⟨rfl,hM5⟩;clear k1;replace q1:=hM5.cell q1;replace r0:=hM5.cell r0;replace r1:=hM5.cell r1;replace r2:=hM5.cell r2;replace t0:=hM5.cell t0;replace t1:=hM5.cell t1;replace u0:=hM5.cell u0;replace u1:=hM5.cell u1;have k2:=HF.out.2.1 w5;clear q0 q2;go_wp2_with fail;(with_reducible refine k2.mono ?_);rintro e w6 ⟨rfl,hM6⟩;clear k2 r0 r2;replace q1:=hM6.cell q1;replace r1:=hM6.cell r1;replace t0:=hM6.cell t0;replace t1:=hM6.cell t1;replace u0:=hM6.cell u0;replace u1:=hM6.cell u1;have k3:=HF.out.2.2 w6;go_wp2_with fail;(with_reducible refine k3.mono ?_);rintro e w7 ⟨rfl,hM7⟩;clear k3;replace q1:=hM7.cell q1;replace r1:=hM7.cell r1;replace t1:=hM7.cell t1;replace u0:=hM7.cell u0;replace u1:=hM7.cell u1;have k4:=HF.out.2.2 w7;clear t0;go_wp2_with fail;(with_reducible refine k4.mono ?_);rintro e w8 ⟨rfl,hM8⟩;clear k4 u0;replace q1:=hM8.cell q1;replace r1:=hM8.cell r1;replace t1:=hM8.cell t1;replace u1:=hM8.cell u1;have hMz:=(((hM4.trans hM5).trans hM6).trans hM7).trans hM8;have HZ:=QH hMz;clear hM4 hM5 hM6 hM7 hM8 hMz h1 h2 h3 h4;go_upto_region 4 with fail;have F1:∀ k:zay w8,k.val.cell? ⟨pa,1,none⟩ = some (.int .i64 a):=fun k => k.mods.cell q1;have F2:∀ k:zay w8,k.val.cell? ⟨pb,1,none⟩ = some (.int .i64 b):=fun k => k.mods.cell r1;have F3:∀ k:zay w8,k.val.cell? ⟨pc,1,none⟩ = some (.int .i64 0):=fun k => k.mods.cell t1;have F4:∀ k:zay w8,k.val.cell? ⟨pd,1,none⟩ = some (.int .i64 0):=fun k => k.mods.cell u1;obtain ⟨K1,K2,K4,K5,K6⟩:=HP.out;unfold zpn at K1 K2 K4 K5 K6;change ∀ W,Calls _ _ _ W fun e w' => e = .returned (.agg #[.bool sa,.int .u64 0,.int .u64 nva]) ∧ _ at K1;change ∀ W,Calls _ _ _ W fun e w' => e = .returned (.agg #[.bool sb,.int .u64 0,.int .u64 nvb]) ∧ _ at K2;change ∀ W,Calls _ _ #[.agg #[.bool sa,.int .u64 0,.int .u64 nva],_] W _ at K4;change ∀ W,Calls _ _ #[.agg #[.bool sb,.int .u64 0,.int .u64 nvb],_] W _ at K5;have L1:=QH (fun k:zay w8 => (K1 k.val).mono fun e w' h => (show e=_ ∧ ∃ k':zay w8,w'=k'.val from ⟨h.1,⟨w',k.mods.trans h.2⟩,rfl⟩));have L2:=QH (fun k:zay w8 => (K2 k.val).mono fun e w' h => (show e=_ ∧ ∃ k':zay w8,w'=k'.val from ⟨h.1,⟨w',k.mods.trans h.2⟩,rfl⟩));have L3:=QH (fun k:zay w8 => (zrh k.val).mono fun e w' h => (show e=_ ∧ ∃ k':zay w8,w'=k'.val from ⟨h.1,k,h.2⟩));have L4:=QH (fun k:zay w8 => (K4 k.val).mono fun e w' h => (show e=_ ∧ ∃ k':zay w8,w'=k'.val from ⟨h.1,⟨w',k.mods.trans h.2⟩,rfl⟩));have L5:=QH (fun k:zay w8 => (K5 k.val).mono fun e w' h => (show e=_ ∧ ∃ k':zay w8,w'=k'.val from ⟨h.1,⟨w',k.mods.trans h.2⟩,rfl⟩));have L6:=QH (fun k:zay w8 => (K6 k.val).mono fun e w' h => (show e=_ ∧ ∃ k':zay w8,w'=k'.val from ⟨h.1,⟨w',k.mods.trans h.2⟩,rfl⟩));clear K1 K2 K4 K5 K6 HF HP;refine zcK AC AC ?_;(repeat go_big_quiet_step (first | with_reducible exact L1.out _ | with_reducible exact L2.out _ | with_reducible exact L3.out _ | with_reducible exact L4.out _ | with_reducible exact L5.out _ | with_reducible exact L6.out _));refine QW ?_;rintro _ ⟨kk,rfl⟩;go_wp2_with fail;go_ret2;exact ⟨rfl,HZ.out.trans kk.mods⟩
  |guard_hyp gFM
   have m1:Mods [] w w1:=hw1 ▸ (QM [] w).alloc _;have m2:Mods [] w1 w2:=hw2 ▸ (QM [] w1).alloc _;have m3:Mods [] w2 w3:=hw3 ▸ (QM [] w2).alloc _;have h1:w1.heap[w.heap.size]? = _:=hw1 ▸ QN w _;have h2:w2.heap[w1.heap.size]? = _:=hw2 ▸ QN w1 _;have h3:w3.heap[w2.heap.size]? = _:=hw3 ▸ QN w2 _;replace h1:=(m2.trans m3).heap h1;replace h2:=m3.heap h2;have hM:=(m1.trans m2).trans m3;have HB:=QH (AI h1 (AI h2 (AI h3 hM)));clear m1 m2 m3 h1 h2 h3 hM;have HC:=QH hc;clear hc;go_enter Tryz.func48, Tryz.ntmps48;go_upto_region 1 with fail;obtain ⟨h1,h2,h3,hM⟩:=HB.out;clear HB;generalize w.heap.size=pa at *;generalize w1.heap.size=pb at *;generalize w2.heap.size=pc at *;clear hw1 hw2 hw3;have q0:=za h1 0;have q1:=za h1 1;have q2:=za h1 2;have r0:=za h2 0;have r1:=za h2 1;have r2:=za h2 2;have t0:=za h3 0;have t1:=za h3 1;change w3.cell? _=some (.bool false) at q0;change w3.cell? _=some (.int .i64 a) at q1;change w3.cell? _=some (.string ⟨#[]⟩) at q2;change w3.cell? _=some (.bool false) at r0;change w3.cell? _=some (.int .i64 b) at r1;change w3.cell? _=some (.string ⟨#[]⟩) at r2;change w3.cell? _=some (.int .i64 1) at t0;change w3.cell? _=some (.int .i64 0) at t1;have k1:=HC.out w3;have HM:=QH hM;clear h1 h2 h3 hM;go_wp2_with fail;(with_reducible refine k1.mono ?_);rintro e w5 ⟨rfl,hM5⟩;clear k1 q0 q1 q2 r0 r1 r2 t0 t1;go_wp2_with fail;go_ret;exact ⟨rfl,HM.out.trans hM5⟩
 ):p:=h
theorem div64 {x:Nat} (h:x ≤ 9223372036854775808):x * 1000000000 / 18446744073709551616 < 18446744073709551616:=by omega
theorem mod64 (x:Nat):x % 18446744073709551616 < 18446744073709551616:=by omega
theorem lt64 {x:Nat} (h:x ≤ 9223372036854775808):x < 18446744073709551616:=by omega
theorem abs63 {a:Int} (h0 : -9223372036854775808 ≤ a) (h1:a ≤ 9223372036854775807):a.natAbs ≤ 9223372036854775808:=by omega
theorem zqS (a b:Int) (a0 : -9223372036854775808 ≤ a) (a1:a ≤ 9223372036854775807) (b0 : -9223372036854775808 ≤ b) (b1:b ≤ 9223372036854775807):∃ (sa sb ma mb:Bool) (nva nvb qa qb xa xb:Nat),
  (∀ W,Calls Tryz.prog 113 #[.int .i64 a] W fun e w' => e = .returned (zpn sa 0 nva) ∧ Mods [] W w') ∧ (∀ W,Calls Tryz.prog 113 #[.int .i64 b] W fun e w' => e = .returned (zpn sb 0 nvb) ∧ Mods [] W w') ∧
  (∀ W,Calls Tryz.prog 114 #[zpn sa 0 nva,.int .i64 1000000000] W fun e w' => e = .returned (zpn ma qa xa) ∧ Mods [] W w') ∧ (∀ W,Calls Tryz.prog 114 #[zpn sb 0 nvb,.int .i64 1000000000] W fun e w' => e = .returned (zpn mb qb xb) ∧ Mods [] W w') ∧
  (∀ W,Calls Tryz.prog 116 #[zpn ma qa xa,zpn mb qb xb] W fun e w' => e = .returned (.int .i64 (cmpI a b)) ∧ Mods [] W w'):=by
 have hw:=zrj a b _ _ rfl rfl;have ha:=abs63 a0 a1;have hb:=abs63 b0 b1;refine ⟨_,_,_,_,_,_,_,_,_,_,fun W => zpI a a0 a1 W,fun W => zpI b b0 b1 W,fun W => zp2 _ 0 _ (lt64 ha) 1000000000 AD AD W,fun W => zp2 _ 0 _ (lt64 hb) 1000000000 AD AD W,fun W => ?_⟩;rw [← hw];exact zp3 _ _ _ _ _ _ (div64 ha) (mod64 _) (div64 hb) (mod64 _) W
def intV (n:Int):V:=⟨false,n,⟨#[]⟩⟩
theorem zp9 (a b:Int) (a0 : -9223372036854775808 ≤ a) (a1:a ≤ 9223372036854775807) (b0 : -9223372036854775808 ≤ b) (b1:b ≤ 9223372036854775807) (w:World) :
  Calls Tryz.prog 82 #[valA (intV a),valA (intV b),tyA tyInt,tyA tyInt] w fun e w' => e = .returned (.tuple #[.int .i64 (cmpI a b),.bool true]) ∧ Mods [] w w':=by
 obtain ⟨sa,sb,ma,mb,nva,nvb,qa,qb,xa,xb,K1,K2,K4,K5,K6⟩:=zqS a b a0 a1 b0 b1;obtain ⟨R,hR⟩:=EX (cmpI a b);rw [hR] at K6 ⊢;clear hR;have f1:=fun W => ziS 1 0 false false a ⟨#[]⟩ AD W;have f2:=fun W => ziS 1 0 false false b ⟨#[]⟩ AD W;have hv1:zee 1 0 false false a ⟨#[]⟩ = true:=rfl;have hv2:zee 1 0 false false b ⟨#[]⟩ = true:=rfl;rw [hv1] at f1;rw [hv2] at f2;have hn:=fun W => ze4 tyInt (by simp [Ty.Right,tyInt]) W;have hnt:tyInt.num=true:=rfl;rw [hnt] at hn;change ∀ W,Calls _ _ #[.agg #[.int .i64 1,.int .i64 0]] W _ at hn;have HF:=QH (AI f1 (AI f2 hn));have HP:=QH (AI K1 (AI K2 (AI K4 (AI K5 K6))));clear f1 f2 hn hv1 hv2 hnt K1 K2 K4 K5 K6 a0 a1 b0 b1;unfold valA intV tyA tyInt;have gFL:=QH trivial;exact yft
theorem zqT (a b:Int) (a0 : -9223372036854775808 ≤ a) (a1:a ≤ 9223372036854775807) (b0 : -9223372036854775808 ≤ b) (b1:b ≤ 9223372036854775807) (w:World) :
  Calls Tryz.prog 48 #[valA (intV a),valA (intV b),tyA tyInt] w fun e w' => e = .returned (.int .i64 (cmpI a b)) ∧ Mods [] w w':=by
 have hc:=fun W => zp9 a b a0 a1 b0 b1 W;clear a0 a1 b0 b1;generalize cmpI a b=R at *;unfold valA intV tyA tyInt at *;change ∀ W,Calls _ _ #[_,_,.agg #[.int .i64 1,.int .i64 0],.agg #[.int .i64 1,.int .i64 0]] W _ at hc;have gFM:=QH trivial;exact yft
theorem zqq (w:World) (rb pb cb:Nat) (c:CQ) (hQ:RunQ w rb pb cb c) (hk:c.order=[]) (va vb:Value) :
  Calls Tryz.prog 25 #[zh rb,va,vb] w fun e w' => e = .returned (.int .i64 0) ∧ Mods [] w w':=by
 obtain ⟨lo,lc,vr,vt,vk,hp⟩:=hQ.plan;obtain ⟨-,von,vwh,vg,its,nms,vo,hst,-,-,-,-,-,hord⟩:=hQ.q;obtain ⟨oao,ocap,rfl,-⟩:=hord;have r0:=za hQ.run 0;have p0:=za hp 0;have q8:=za hst 8;rw [hk] at q8;change w.cell? _=some (zh pb) at r0;change w.cell? _=some (zh cb) at p0;change w.cell? _=some (.slice oao 0 ocap) at q8;clear hst hp hQ hk;unfold zh at *;go_enter Tryz.func25, Tryz.ntmps25;go_wp2_with fail;go_loopg [21] 0 (fun gk t21 wr => gk=0 ∧ t21 = .int .i64 0 ∧ wr=w)
 case atStart => exact ⟨rfl,rfl,rfl⟩
 obtain ⟨rfl,rfl,rfl⟩:=hrel;go_wp2_with fail;go_ret;exact ⟨rfl,QM _ _⟩
def ordI (d:Bool) (x y:Int):Int:=if d=true then -(cmpI x y) else cmpI x y
theorem zrk (x y:Int):cmpI x y = -1 ∨ cmpI x y=0 ∨ cmpI x y=1:=by
 unfold cmpI
 repeat' split
 all_goals simp
theorem zqU (w:World) (rb pb cb:Nat) (c:CQ) (hQ:RunQ w rb pb cb c) (d:Bool) (hk:c.order=[⟨0,d⟩]) (h:NHd) (its':List NT) (hi:c.items = .leaf h :: its') (ht:h.t=tyInt)
  (ao bo:Option Addr) (n m ca cb2:Nat) (x y:Int) (va vb:List V) (hn:va.length + 1=n) (hm:vb.length + 1=m) (hA:ValsIn w ao (intV x :: va) []) (hB:ValsIn w bo (intV y :: vb) [])
  (x0 : -9223372036854775808 ≤ x) (x1:x ≤ 9223372036854775807) (y0 : -9223372036854775808 ≤ y) (y1:y ≤ 9223372036854775807) :
  Calls Tryz.prog 25 #[zh rb,.slice ao n ca,.slice bo m cb2] w fun e w' => e = .returned (.int .i64 (ordI d x y)) ∧ Mods [] w w':=by
 obtain ⟨lo,lc,vr,vt,vk,hp⟩:=hQ.plan;obtain ⟨-,von,vwh,vg,its,nms,vo,hst,-,-,-,hits,-,hord⟩:=hQ.q;obtain ⟨oao,ocap,rfl,hoc⟩:=hord;obtain ⟨iao,icap,rfl,hic⟩:=hits;rw [hk] at hoc;rw [hi] at hic;obtain ⟨og,rfl,-,-,hoc⟩:=hoc AB;obtain ⟨ig,rfl,-,-,hic⟩:=hic AB;obtain ⟨oc,ho1,-,ho2⟩:=hoc 0 AB;obtain ⟨ic,⟨nb,hc1,hN⟩,-,hi2⟩:=hic 0 AB;subst hc1;have ho1:oc=[.int .i64 ((0:Nat):Int),.bool d]:=ho1;subst ho1;have k0:=ho2 0 _ rfl;have k1:=ho2 1 _ rfl;have i0:=hi2 0 _ rfl;obtain ⟨nb',hnb,-,hnd⟩:=hN;cases hnb;have n1:=za hnd 1;have n2:=za hnd 2;change w.cell? _=some (.int .i64 (h.t.k:Nat)) at n1;change w.cell? _=some (.int .i64 (h.t.s:Nat)) at n2;rw [ht] at n1 n2;change w.cell? _=some (.int .i64 1) at n1;change w.cell? _=some (.int .i64 0) at n2;change w.cell? ⟨og,0,none⟩ = some (.int .i64 0) at k0;change w.cell? ⟨og,1,none⟩ = some (.bool d) at k1;change w.cell? ⟨ig,0,none⟩ = some (zh nb) at i0;have r0:=za hQ.run 0;have p0:=za hp 0;have q8:=za hst 8;have q6:=za hst 6;rw [hk] at q8;change w.cell? _=some (zh pb) at r0;change w.cell? _=some (zh cb) at p0;change w.cell? _=some (.slice (some ⟨og,0,none⟩) 1 ocap) at q8;obtain ⟨il,hil⟩:=EX (c.items.length);have hil1:0 < il:=by rw [← hil,hi]; simp
 change w.cell? _=some (.slice (some ⟨ig,0,none⟩) c.items.length icap) at q6;rw [hil] at q6;obtain ⟨ab,aoff,rfl,-,hac⟩:=hA AB;obtain ⟨bb,boff,rfl,-,hbc⟩:=hB AB;obtain ⟨u0,u1,u2⟩:=hac 0 AB;obtain ⟨v0,v1,v2⟩:=hbc 0 AB;simp only [Nat.zero_mul,Nat.add_zero] at u0 u1 u2 v0 v1 v2;change w.cell? _=some (.bool false) at u0;change w.cell? _=some (.int .i64 x) at u1;change w.cell? _=some (.string ⟨#[]⟩) at u2;change w.cell? _=some (.bool false) at v0;change w.cell? _=some (.int .i64 y) at v1;change w.cell? _=some (.string ⟨#[]⟩) at v2;have hoi:=fun W => zqT x y x0 x1 y0 y1 W;have hrg:=zrk x y;obtain ⟨R,hR⟩:=EX (ordI d x y);have hRd:R=if d=true then -(cmpI x y) else cmpI x y:=by rw [← hR]; rfl
 rw [hR];obtain ⟨s,hs⟩:=EX (cmpI x y);rw [hs] at hoi hrg hRd;unfold valA intV tyA tyInt at hoi;change ∀ W,Calls _ _ #[_,_,.agg #[.int .i64 1,.int .i64 0]] W _ at hoi;have hn0:0 < n:=by omega
 have hm0:0 < m:=by omega
 have HO:=QH hoi;have HR:=QH (AI hrg hRd);clear hac hbc hA hB hnd hst hp hQ hk hi ht hoc hic ho2 hi2 hoi hR hs hrg hRd hn hm hil x0 x1 y0 y1;unfold zh at *;go_enter Tryz.func25, Tryz.ntmps25;go_wp2_with fail;clear q8;go_loopg [21] 1 (fun gk t21 wr => (gk=1 ∧ t21 = .int .i64 0 ∧ w=wr) ∨ (gk=0 ∧ t21 = .int .i64 1 ∧ R=0 ∧ Mods [] w wr))
 case atStart => exact .inl ⟨rfl,rfl,rfl⟩
 rcases hrel with ⟨rfl,rfl,rfl⟩ | ⟨rfl,rfl,hR0,hMw⟩
 ·have hz:=QN w (.cells #[.int .i64 0,.bool false] 121);have hMa:Mods [] w ((w.alloc (.cells #[.int .i64 0,.bool false] 121)).setRow w.heap.size #[.int .i64 0,.bool d]):=((QM [] w).alloc _).setRow (.inr (LR _)) _;have hrk:=zi #[.int .i64 0,.bool d] hz;have HA:=QH (AI hMa hrk);clear hMa hrk;go_upto_region 4 with (refine wpList_store_row rfl 121 (.tmp 8) (.tmp 24) rfl w.heap.size #[.int .i64 0,.bool d] rfl rfl 121 _ hz AC rfl AN ?_);obtain ⟨hMa,hrk⟩:=HA.out;have e0:=za hrk 0;have e1:=za hrk 1;change World.cell? _ _=some (.int .i64 0) at e0;change World.cell? _ _=some (.bool d) at e1;clear hz hrk;generalize (w.alloc (.cells #[.int .i64 0,.bool false] 121)).setRow w.heap.size #[.int .i64 0,.bool d]=w4 at *;generalize w.heap.size=kb at *;have F1:∀ k:zay w4,k.val.cell? ⟨kb,0,none⟩ = some (.int .i64 0):=fun k => k.mods.cell e0;have F2:∀ k:zay w4,k.val.cell? ⟨ab,aoff,none⟩ = some (.bool false):=fun k => k.mods.cell (hMa.cell u0 AB);have F3:∀ k:zay w4,k.val.cell? ⟨ab,aoff + 1,none⟩ = some (.int .i64 x):=fun k => k.mods.cell (hMa.cell u1 AB);have F4:∀ k:zay w4,k.val.cell? ⟨ab,aoff + 2,none⟩ = some (.string ⟨#[]⟩):=fun k => k.mods.cell (hMa.cell u2 AB);have F5:∀ k:zay w4,k.val.cell? ⟨bb,boff,none⟩ = some (.bool false):=fun k => k.mods.cell (hMa.cell v0 AB);have F6:∀ k:zay w4,k.val.cell? ⟨bb,boff + 1,none⟩ = some (.int .i64 y):=fun k => k.mods.cell (hMa.cell v1 AB);have F7:∀ k:zay w4,k.val.cell? ⟨bb,boff + 2,none⟩ = some (.string ⟨#[]⟩):=fun k => k.mods.cell (hMa.cell v2 AB);have F8:∀ k:zay w4,k.val.cell? ⟨rb,0,none⟩ = some (.pointer (some ⟨pb,0,none⟩)):=fun k => k.mods.cell (hMa.cell r0 AB);have F9:∀ k:zay w4,k.val.cell? ⟨pb,0,none⟩ = some (.pointer (some ⟨cb,0,none⟩)):=fun k => k.mods.cell (hMa.cell p0 AB);have F10:∀ k:zay w4,k.val.cell? ⟨cb,6,none⟩ = some (.slice (some ⟨ig,0,none⟩) il icap):=fun k => k.mods.cell (hMa.cell q6 AB);have F11:∀ k:zay w4,k.val.cell? ⟨ig,0,none⟩ = some (.pointer (some ⟨nb,0,none⟩)):=fun k => k.mods.cell (hMa.cell i0 AB);have F12:∀ k:zay w4,k.val.cell? ⟨nb,1,none⟩ = some (.int .i64 1):=fun k => k.mods.cell (hMa.cell n1 AB);have F13:∀ k:zay w4,k.val.cell? ⟨nb,2,none⟩ = some (.int .i64 0):=fun k => k.mods.cell (hMa.cell n2 AB);have HK:=QH (fun k:zay w4 => (HO.out k.val).mono fun e w' h => (show e=_ ∧ ∃ k':zay w4,w'=k'.val from ⟨h.1,⟨w',k.mods.trans h.2⟩,rfl⟩));have HM:=QH (AI hMa e1);clear hMa e0 e1 u0 u1 u2 v0 v1 v2 r0 p0 q6 i0 n1 n2 k0 k1;dsimp only [Act.put];refine zcK AC AC ?_;(repeat go_big_quiet_step (with_reducible exact HK.out _));refine QW ?_;rintro _ ⟨kk,rfl⟩;clear F1 F2 F3 F4 F5 F6 F7 F8 F9 F10 F11 F12 F13;have hM4:=HM.out.1.trans kk.mods;have e1:=kk.mods.cell HM.out.2;generalize kk.val=w5 at *;obtain ⟨hrg,hRd⟩:=HR.out;have hng:IntKind.i64.wrap (-s) = -s:=by rw [IntKind.wrap_i64]; omega
  have HZ:=QH (AI hM4 hRd);clear hM4 hRd;rcases hrg with rfl | rfl | rfl
  ·cases d
   all_goals
    go_wp2_with fail;go_ret;exact ⟨by rw [HZ.out.2]; rfl,HZ.out.1⟩
  ·cases d
   all_goals
    go_wp2_with fail;go_roundg 0
    case measure => omega
    case rel => exact .inr ⟨rfl,rfl,by rw [HZ.out.2]; rfl,HZ.out.1⟩
  ·cases d
   all_goals
    go_wp2_with fail;go_ret;exact ⟨by rw [HZ.out.2]; rfl,HZ.out.1⟩
 ·have HF:=QH (AI hR0 hMw);clear hR0 hMw;go_wp2_with fail;go_ret;exact ⟨by rw [HF.out.1]; rfl,HF.out.2⟩
theorem zrl (w1 w:World) (rb n cap:Nat) (ao:Option Addr) (rs:List (List V)) (hn:rs.length=n) (hn1:n ≤ 19) (hC:RowsC w1 w (.slice ao n cap) rs)
  (ord:List V → List V → Int) (hcmp:∀ (L:List Nat) W,(∀ x ∈ L,w1.heap.size ≤ x) → Mods L w W → ∀ va,∀ ra ∈ rs,∀ vb,∀ rc ∈ rs,RowR W [] [va] ra → RowR W [] [vb] rc → Calls Tryz.prog 25 #[zh rb,va,vb] W fun e w' => e = .returned (.int .i64 (ord ra rc)) ∧ Mods [] W w') :
  Calls Tryz.prog 24 #[.slice ao n cap,.func (.func 25) #[zh rb] #[]] w
   fun e w' => e = .returned (.tuple #[]) ∧ (∃ L:List Nat,(∀ x ∈ L,w1.heap.size ≤ x) ∧ Mods L w w') ∧ RowsC w1 w' (.slice ao n cap) (insL ord [] (n - 1) rs):=by
 obtain ⟨hsz,⟨css,hown,hall⟩,hg⟩:=hC;rcases Nat.eq_zero_or_pos n with h0 | h0
 ·subst h0;obtain rfl:rs=[]:=List.length_eq_zero_iff.1 hn;refine (zqg w ao 0 cap _ AA (fun w' => w'=w) (zrf w ao cap rb)).mono ?_;rintro e w' ⟨rfl,rfl⟩;exact ⟨rfl,⟨[],by simp,QM _ _⟩,hsz,⟨css,hown,hall⟩,hg⟩
 ·rcases hown.2 with ⟨hv,hl⟩ | ⟨g',cap',cur,hv,hb,hgh,hnc,hcm,hcs,htake⟩
  ·omega
  ·simp only [Value.slice.injEq] at hv;obtain ⟨rfl,-,rfl⟩:=hv;refine (zqN w1 w rb g' n _ rs hn h0 hn1 ⟨hsz,⟨css,hown,hall⟩,hg⟩ ord fun W hM => hcmp [g'] W (by simpa using hg g' rfl) hM).mono ?_;rintro e w' ⟨rfl,hM,hC⟩;exact ⟨rfl,⟨[g'],by simpa using hg g' rfl,hM⟩,hC⟩
def winR (lim off:Int) (rs:List (List V)):List (List V):=if 0 ≤ lim then (rs.drop off.toNat).take lim.toNat else rs.drop off.toNat
theorem CheckedAt.fresh {w:World} {L:List Nat} {cb:Nat} {c:CQ} (h:CheckedAt w L cb c) {g:Nat} (hg:w.heap.size ≤ g):CheckedAt w (g :: L) cb c:=by
 obtain ⟨hn,von,vwh,vg,its,nms,vo,h1,h2,h3,h4,h5,h6,h7⟩:=h;have ho:∀ {v:Value} {o:Option NT},OptN w L v o → OptN w (g :: L) v o:=fun {v o} h => by
  cases o with
  | none => exact h
  | some n => exact NAt.fresh hg h
 refine ⟨?_,von,vwh,vg,its,nms,vo,h1,ho h2,ho h3,?_,h5.fresh nodRep AA hg,h6.fresh nameRep AA hg,h7.fresh keyCRep AA hg⟩
 ·have:=zj h1;simp only [List.mem_cons,not_or];exact ⟨by omega,hn⟩
 ·obtain ⟨ao,cap,rfl,h⟩:=h4;refine ⟨ao,cap,rfl,fun h0 => ?_⟩;obtain ⟨b,h5,h6,h7⟩:=h h0;have:=zio (h7 0 h0);exact ⟨b,h5,by simp only [List.mem_cons,not_or]; exact ⟨by omega,h6⟩,h7⟩
theorem CheckedAt.later {w w':World} {L:List Nat} {cb:Nat} {c:CQ} (h:CheckedAt w L cb c) (hM:Mods [] w w'):CheckedAt w' L cb c:=by obtain ⟨hn,von,vwh,vg,its,nms,vo,h1,h2,h3,h4,h5,h6,h7⟩:=h;have hM':Mods L w w':=hM.mono;exact ⟨hn,von,vwh,vg,its,nms,vo,hM'.heap h1 hn,h2.mods hM',h3.mods hM',h4.mods hM',h5.mods nodRep hM',h6.mods nameRep hM',h7.mods keyCRep hM'⟩
theorem RowsC.slice {w1 w:World} {t:Value} {rs:List (List V)} (h:RowsC w1 w t rs):∃ ao cap,t = .slice ao rs.length cap ∧ rs.length ≤ cap ∧ (rs ≠ [] → ∃ g,ao=some ⟨g,0,none⟩ ∧ w1.heap.size ≤ g) ∧ ∀ L:List Nat,(∀ x ∈ L,x < w1.heap.size) → ∀ g,ao=some ⟨g,0,none⟩ → ∀ i (hi:i < rs.length),∃ vo c,rs[i].length ≤ c ∧ w.cell? ⟨g,i,none⟩ = some (.slice vo rs[i].length c) ∧ ValsIn w vo rs[i] L:=by
 obtain ⟨hsz,⟨css,hown,hall⟩,hg⟩:=h;have hat:∀ L:List Nat,(∀ x ∈ L,x < w1.heap.size) → ∀ i (hi:i < rs.length),∃ vo c,css.flatten[i]? = some (.slice vo rs[i].length c) ∧ rs[i].length ≤ c ∧ ValsIn w vo rs[i] L:=fun L hL i hi => by
  obtain ⟨ps,e1,e2⟩:=zpT (hall L fun x hx => .inl (hL x hx));subst e1;subst e2;have hp:=allR_iff.1 (hall L fun x hx => .inl (hL x hx));have hi':i < ps.length:=by simpa using hi
  obtain ⟨vo,c,h1,h2,h3⟩:=hp ps[i] (List.getElem_mem hi');simp only [List.cons.injEq,and_true] at h1;refine ⟨vo,c,?_,?_,?_⟩
  ·rw [zpA]; simp [hi',h1]
  ·simpa using h2
  ·simpa using h3
 rcases hown.2 with ⟨hv,hl⟩ | ⟨g',cap',cur,hv,hb,hgh,hnc,hcm,hcs,htake⟩
 ·have h0:rs=[]:=List.length_eq_zero_iff.1 hl;subst h0;exact ⟨none,0,hv,by simp,fun h => absurd rfl h,fun L hL g hg => nomatch hg⟩
 ·subst hv;refine ⟨_,_,rfl,hnc,fun _ => ⟨g',rfl,hg g' rfl⟩,fun L hL g hgg i hi => ?_⟩;cases hgg;obtain ⟨vo,c,h1,h2,h3⟩:=hat L hL i hi;exact ⟨vo,c,h2,(zar hown).2.2 i _ h1,h3⟩
theorem zpq {w:World} {T:TypeId} {k n:Nat} {v:Value} {xs:List Value} (h:w.ownsRow 0 T k v n xs):∃ ao cap,v = .slice ao n cap:=by
 rcases h.2 with ⟨hv,hl⟩ | ⟨g',cap',cur,hv,-⟩
 ·exact ⟨none,0,by rw [hl]; exact hv⟩
 ·exact ⟨_,_,hv⟩
theorem zrR:∃ c,zaI exP=some (.ok c) ∧ c.left=0 ∧ c.right=some 1 ∧ (splitO c.on ++ splitO c.whr).length=4 ∧ (splitO c.whr).length=2 ∧
  (makeP 4 false (splitO c.on ++ splitO c.whr)).left.length=1 ∧ (makeP 4 false (splitO c.on ++ splitO c.whr)).right.length=1 ∧ (makeP 4 false (splitO c.on ++ splitO c.whr)).keys.length=1 ∧ (makeP 4 false (splitO c.on ++ splitO c.whr)).rest.length=1:=by
 have h:=ex_p
 cases hr:zaI exP with
 | none => rw [hr] at h; cases h
 | some r =>
  rw [hr] at h
  cases r with
  | bad p k => cases h
  | ok c =>unfold exPB at h;simp only [Bool.and_eq_true,decide_eq_true_eq] at h;obtain ⟨⟨h1,h2,h3⟩,h4,h5,h6,h7,h8⟩:=h;exact ⟨c,rfl,h1,h2,h3,h4,h5,h6,h7,h8⟩
theorem zpM (w:World) (hT:Tabs3 w):Calls Tryz.prog 5 #[] w fun e w' => e = .returned (.bool true) ∧ Mods [] w w':=by obtain ⟨c,hc,hleft,hright,hlen,hwl,hl,hr,hk,ht⟩:=zrR;have hq:=query15 w hT exP AD c hc;unfold exP at hq;have HT:=QH hT;have HX:=QH (AI hleft (AI hright (AI hlen (AI hwl (AI hl (AI hr (AI hk ht)))))));clear hT hc hleft hright hlen hwl hl hr hk ht;go_enter Tryz.func5, Tryz.ntmps5;have gBp:=QH trivial;exact yds
def RowsRes (w:World) (rs:List (List V)) (e:Ending) (w':World):Prop:=
 ∃ ao cap,e = .returned (.tuple #[.slice ao rs.length cap,.int .i64 0]) ∧ rs.length ≤ cap ∧ Mods [] w w' ∧ ∀ L:List Nat,(∀ x ∈ L,x < w.heap.size) → RowsIn w' ao rs L
theorem RunQ.far {w W:World} {rb pb cb:Nat} {c:CQ} (h:RunQ w rb pb cb c) {L:List Nat} (hL:∀ x ∈ L,w.heap.size ≤ x) (hM:Mods (L ++ [rb]) w W) (hR:RunAt W rb pb):RunQ W rb pb cb c:=by
 obtain ⟨lo,lc,vr,vt,vk,hp⟩:=h.plan;have hq:∀ L:List Nat,(∀ x ∈ L,w.heap.size ≤ x) → CheckedAt w (L ++ [rb]) cb c:=by
  intro L
  induction L with
  | nil => intro _; exact h.q
  | cons x L ih => intro hL; exact CheckedAt.fresh (ih fun y hy => hL y (CM _ hy)) (hL x List.mem_cons_self)
 obtain ⟨hn,von,vwh,vg,its,nms,vo,h1,h2,h3,h4,h5,h6,h7⟩:=hq L hL;have hpb:=zj hp;refine ⟨hR,⟨lo,lc,vr,vt,vk,hM.heap hp fun hm => ?_⟩,h.pne,fun hm => hn (List.mem_append_right _ hm),von,vwh,vg,its,nms,vo,hM.heap h1 hn,?_,?_,?_,?_,?_,?_⟩
 ·rcases List.mem_append.1 hm with hm | hm
  ·have:=hL _ hm; omega
  ·exact h.pne AG
 ·have:=h2.mods hM
  cases ho:c.on with
  | none => rw [ho] at this; exact this
  | some n => rw [ho] at this; exact NAt.weaken (fun x hx => List.mem_append_right _ hx) this
 ·have:=h3.mods hM
  cases ho:c.whr with
  | none => rw [ho] at this; exact this
  | some n => rw [ho] at this; exact NAt.weaken (fun x hx => List.mem_append_right _ hx) this
 ·obtain ⟨ao,cap,e,h8⟩:=h4.mods hM
  exact ⟨ao,cap,e,fun h0 => by
   obtain ⟨g,h9,h10,h11⟩:=h8 h0
   exact ⟨g,h9,fun hm => h10 (List.mem_append_right _ hm),h11⟩⟩
 ·exact (h5.mods nodRep hM).weaken nodRep (fun x hx => List.mem_append_right _ hx)
 ·exact (h6.mods nameRep hM).weaken nameRep (fun x hx => List.mem_append_right _ hx)
 ·exact (h7.mods keyCRep hM).weaken keyCRep (fun x hx => List.mem_append_right _ hx)
theorem zrm (w:World) (pb cb:Nat) (c:CQ) (hp:∃ lo lc vr vt vk,w.heap[pb]? = some (.cells #[zh cb,.int .i64 4,.slice lo 0 lc,vr,vt,vk] 53 (0,0))) (hq:CheckedAt w [] cb c) (hr:c.right=none)
  (ao:Option Addr) (cap:Nat) (rs:List (List V)) (n:Nat) (hn:rs.length=n) (hI:RowsIn w ao rs []) (hF:zpp rs) (v2:Value) (rs2:List (List V)) (n2:Nat) (hn2:rs2.length=n2) (hn19:n2 ≤ 19)
  (hit:∀ (W:World) (rb:Nat) (bo:Option Addr) (bc:Nat),RunQ W rb pb cb c → RowsIn W bo rs [rb] → Calls Tryz.prog 23 #[zh rb,.slice bo n bc] W (ItemsP W rb pb rs2))
  (ord:List V → List V → Int) (hcmp:∀ (W:World) (rb:Nat),RunQ W rb pb cb c → ∀ va,∀ ra ∈ rs2,∀ vb,∀ rc ∈ rs2,RowR W [] [va] ra → RowR W [] [vb] rc → Calls Tryz.prog 25 #[zh rb,va,vb] W fun e w' => e = .returned (.int .i64 (ord ra rc)) ∧ Mods [] W w')
  (lim off:Int) (hlim:c.limit=lim) (hoff:c.offset=off) (hl0 : -1 ≤ lim) (hl1:lim ≤ 9) (ho0 : -1 ≤ off) (ho1:off ≤ 9) :
  Calls Tryz.prog 16 #[zh pb,.slice ao n cap,v2] w (RowsRes w (winR lim off (insL ord [] (n2 - 1) rs2))):=by
 obtain ⟨lo,lc,vr,vt,vk,hp⟩:=hp;have hpb:=zj hp;have hz:Mods [] w (w.alloc (.cells #[zh pb,.int .i64 0] 87)):=(QM _ _).alloc _;have hnew:=QN w (.cells #[zh pb,.int .i64 0] 87)
 have hQ1:RunQ (w.alloc (.cells #[zh pb,.int .i64 0] 87)) w.heap.size pb cb c:=
  ⟨hnew,⟨lo,lc,vr,vt,vk,hz.heap hp⟩,by omega,by
   have h1:=(hq.fresh (g:=w.heap.size) (LR _));obtain ⟨hn,von,vwh,vg,its,nms,vo,h1,h2,h3,h4,h5,h6,h7⟩:=h1;have hM':Mods [w.heap.size] w (w.alloc (.cells #[zh pb,.int .i64 0] 87)):=hz.mono
   exact ⟨hn,von,vwh,vg,its,nms,vo,hM'.heap h1 hn,h2.mods hM',h3.mods hM',h4.mods hM',h5.mods nodRep hM',h6.mods nameRep hM',h7.mods keyCRep hM'⟩⟩
 have hj:=zeD _ w.heap.size pb cb c hQ1 hr ao cap rs n hn (fun h0 => by
  obtain ⟨g,o,h1,h2,h3⟩:=hI h0
  exact ⟨g,o,h1,h2,fun i hi => by
   obtain ⟨vo,k,h4,h5,h6⟩:=h3 i hi
   exact ⟨vo,k,h4,hz.cell h5,h6.mods hz⟩⟩) hF v2
 have HQ:=QH hQ1;have HH:=QH (AI hit (AI hcmp (AI hz (AI hq (AI hlim hoff)))));have HJ:=QH hj;clear hit hcmp hz hq hlim hoff hj hQ1 hp hI hF;unfold zh at *;go_enter Tryz.func16, Tryz.ntmps16;go_wp2_with fail;(with_reducible refine HJ.out.mono ?_);rintro e w2 ⟨t,rfl,hM2,hC⟩;obtain ⟨bo,bc,rfl,hbc,hb0,hbr⟩:=hC.slice;rw [hn];obtain ⟨rb,hrb⟩:=EX (w.heap.size);have hz:=HH.out.2.2.1;have hW1s:(w.alloc (.cells #[.pointer (some ⟨pb,0,none⟩),.int .i64 0] 87)).heap.size=w.heap.size + 1:=Array.size_push _;have hQ2:=HQ.out.later hM2;have hMw:Mods [] w w2:=hz.trans hM2
 have hIt:=HH.out.1 w2 w.heap.size bo bc hQ2 (fun h0 => by
  obtain ⟨g,h1,h2⟩:=hb0 h0;refine ⟨g,0,h1,by simp only [List.mem_singleton]; omega,fun i hi => ?_⟩;rw [Nat.zero_add]
  exact hbr _ (by intro x hx; rw [List.mem_singleton.1 hx]; omega) g h1 i hi)
 have x1:=za hQ2.run 1;change w2.cell? _=some (.int .i64 0) at x1;rw [hrb] at hIt x1 hQ2;have HA:=QH (AI hMw (AI hQ2 (AI hW1s hM2)));have HB:=QH hIt;clear hMw hQ2 hC hb0 hbr hz hM2 hIt hW1s;rw [hrb] at HQ ⊢;go_wp2_with fail;(with_reducible refine HB.out.mono ?_);rintro e w3 ⟨t,rfl,hM3,hR3,hC⟩;obtain ⟨co,cc,rfl,hcc,hc0,hcr⟩:=hC.slice;rw [hn2];clear x1;have x1:=za hR3 1;change w3.cell? _=some (.int .i64 0) at x1;have hrbl:rb < w2.heap.size:=zj HA.out.2.1.run;have hfar:∀ (L:List Nat) W,(∀ x ∈ L,w2.heap.size ≤ x) → Mods L w3 W → RunQ W rb pb cb c:=fun L W hL hM =>
  HA.out.2.1.far hL ((hM3.mono (L':=L ++ [rb]) AB).trans hM (fun x hx => .inl (List.mem_append_left _ hx))) (hR3.mods hM fun hm => by have:=hL _ hm; omega)
 have hso:=zrl w2 w3 rb n2 cc co rs2 hn2 hn19 (by rw [hn2] at hC; exact hC) ord fun L W hL hM va ra hra vb rc hrc h1 h2 => HH.out.2.1 W rb (hfar L W hL hM) va ra hra vb rc hrc h1 h2;have HS:=QH hso;have HF:=QH hfar;have HM3:=QH hM3;clear hcr hc0 hC hso hfar hM3 hR3;go_wp2_with fail;unfold zh at HS;(with_reducible refine HS.out.mono ?_);rintro e w4 ⟨rfl,⟨L,hL,hM4⟩,hC⟩;obtain ⟨lo2,lc2,vr2,vt2,vk2,hp4⟩:=(HF.out L w4 hL hM4).plan;obtain ⟨-,von,vwh,vg,its,nms,vo,hst,-⟩:=(HF.out L w4 hL hM4).q;have p0:=za hp4 0;have q9:=za hst 9;have q10:=za hst 10;rw [HH.out.2.2.2.2.1] at q9;rw [HH.out.2.2.2.2.2] at q10;change w4.cell? _=some (.pointer (some ⟨cb,0,none⟩)) at p0;change w4.cell? _=some (.int .i64 lim) at q9;change w4.cell? _=some (.int .i64 off) at q10;obtain ⟨rs3,hrs3⟩:=EX (insL ord [] (n2 - 1) rs2);have hn3:rs3.length=n2:=by rw [← hrs3,zpl,hn2]
 rw [hrs3] at hC;have hres:∀ (a:Option Addr) (k cap':Nat),(a=co.map (·.add (min (max off 0) (n2:Int)).toNat) ∨ k=0) → k=(winR lim off rs3).length → k ≤ cap' → RowsRes w (winR lim off (insL ord [] (n2 - 1) rs2)) (.returned (.tuple #[.slice a k cap',.int .i64 0])) w4:=by
  intro a k cap' ha hk hkc;rw [hrs3];subst hk;refine ⟨a,cap',rfl,hkc,(HA.out.1.trans HM3.out (fun x hx => .inr (by rw [List.mem_singleton.1 hx,← hrb]; exact LR _))).trans hM4 (fun x hx => .inr (Nat.le_trans HA.out.1.size (hL x hx))),fun L2 hL2 h0 => ?_⟩;obtain ⟨co',cc',hv,hcc',hc0,hcr⟩:=hC.slice;simp only [Value.slice.injEq] at hv;obtain ⟨rfl,-,rfl⟩:=hv;have hpos:0 < (winR lim off rs3).length:=List.length_pos_iff.2 h0;have hoff:off.toNat < n2:=by
   unfold winR at hpos;split at hpos
   ·simp [hn3] at hpos; omega
   ·simp [hn3] at hpos; omega
  have hfe:(min (max off 0) (n2:Int)).toNat=off.toNat:=by omega
  have hr3:rs3 ≠ []:=by rw [← List.length_pos_iff,hn3]; omega
  obtain ⟨g,rfl,hg⟩:=hc0 hr3;refine ⟨g,off.toNat,?_,fun hm => by have:=hL2 g hm; have:=HA.out.1.size; omega,fun i hi => ?_⟩
  ·rcases ha with ha | ha
   ·rw [ha,hfe];simp [Addr.add];omega
   ·omega
  ·have hi3:off.toNat + i < rs3.length:=by
    unfold winR at hi;split at hi
    ·simp at hi; omega
    ·simp at hi; omega
   obtain ⟨vo,c',h1,h2,h3⟩:=hcr L2 (fun x hx => LL (hL2 x hx) HA.out.1.size) g rfl (off.toNat + i) hi3;have he:(winR lim off rs3)[i]=rs3[off.toNat + i]:=by
    simp only [winR];split
    ·simp
    ·simp
   rw [he];exact ⟨vo,c',h1,h2,h3⟩
 have hwl:(winR lim off rs3).length=if 0 ≤ lim then min lim.toNat (n2 - off.toNat) else n2 - off.toNat:=by
  unfold winR;split
  ·simp [hn3]
  ·simp [hn3]
 have HC:=QH (AI hres (AI hwl hcc));clear hst hp4 hC hL hM4 hrs3 x1 hres hwl;go_wp2_with fail;all_goals go_ret2
 all_goals refine HC.out.1 _ _ _ ?_ ?_ ?_
 all_goals have hwl:=HC.out.2.1
 all_goals have hcc:=HC.out.2.2
 all_goals first | exact .inl rfl | rfl | (right; omega) | (rw [hwl]; split <;> omega) | omega
end Go.Proofs.YtebljciefhfgbaaGreatDoor
