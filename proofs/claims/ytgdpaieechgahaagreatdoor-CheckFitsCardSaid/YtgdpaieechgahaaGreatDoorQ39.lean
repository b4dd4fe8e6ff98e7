/-
  What the chapter's examples show: two numbers' texts, a node's. No condition.
-/
import Derived.Test.YtgdpaieechgahaaGreatDoorQ38
set_option linter.unusedVariables false
set_option maxRecDepth 100000
set_option maxHeartbeats 8000000
namespace Go.Proofs.YtgdpaieechgahaaGreatDoor
open Go.RowKit
theorem zfm (w:World) (n:Nat) (hn:n < 100):Calls Tryz.prog 64 #[.int .i64 n] w fun e w' => e = .returned (.agg #[.bool false,.int .u64 0,.int .u64 n]) ∧ Mods [] w w':=by
 have hz:¬ (n:Int) < 0:=by omega
 have hzd:decide ((n:Int) < 0)=false:=decide_eq_false hz;have hcv:((n:Int)) % 18446744073709551616=n:=by omega
 go_enter Tryz.func64, Tryz.ntmps64;go_wp2_with fail;go_returns;exact ⟨rfl,(QM _ _).alloc _⟩
theorem zj0 (w:World) (n:Nat) (hn:n < 100):Calls Tryz.prog 96 #[.int .u64 n,.int .i64 10] w fun e w' => e = .returned (.string ⟨(Lib.decDigits n).toArray⟩) ∧ w'=w:=by
 have hs:= Tryz.internal_strconv_small n hn w;have hz:decide ((n:Int) < 100)=true:=decide_eq_true (by omega);have hz2:(n:Int) < 100:=by omega
 go_enter Tryz.func96, Tryz.ntmps96;go_wp2_with fail;(with_reducible refine hs.mono ?_);rintro e w2 ⟨rfl,hw⟩;replace hw:w=w2:=hw.symm;subst hw;clear hs;go_wp2_with fail;go_ret;exact ⟨rfl,rfl⟩
theorem zi7 (w:World) (n:Nat) (hn:n < 100):Calls Tryz.prog 65 #[.int .u64 n,.int .i64 10] w fun e w' => e = .returned (.string ⟨(Lib.decDigits n).toArray⟩) ∧ w'=w:=by have hs:=zj0 w n hn;go_enter Tryz.func65, Tryz.ntmps65;go_wp2_with fail;(with_reducible refine hs.mono ?_);rintro e w2 ⟨rfl,hw⟩;replace hw:w=w2:=hw.symm;subst hw;clear hs;go_wp2_with fail;go_ret;exact ⟨rfl,rfl⟩
theorem zm6 (w:World):Calls Tryz.prog 29 #[.agg #[.bool false,.int .i64 1,.string ⟨#[]⟩],.agg #[.int .i64 1,.int .i64 0]] w fun e w' => e = .returned (.tuple #[.string ⟨#[49]⟩,.bool true]) ∧ Mods [] w w':=by have hf:=fun W => ziS 1 0 true false 1 ⟨#[]⟩ (by decide) W;have hw1:=fun W => zfm W 1 (by decide);have hu:=fun W => zi7 W 1 (by decide);rw [show zee 1 0 true false 1 ⟨#[]⟩ = true from by decide] at hf;rw [show Lib.decDigits 1=[49] from by decide +kernel] at hu;change ∀ W,Calls _ _ #[.int .i64 1] W _ at hw1;change ∀ W,Calls _ _ #[.int .u64 1,.int .i64 10] W _ at hu;have hM1:=((QM [] w).alloc (.cells #[.bool false,.int .i64 1,.string ⟨#[]⟩] 61)).alloc (.cells #[.int .i64 1,.int .i64 0] 26);obtain ⟨hb1,hb2⟩:=zlu w (.cells #[.bool false,.int .i64 1,.string ⟨#[]⟩] 61) (.cells #[.int .i64 1,.int .i64 0] 26);go_enter Tryz.func29, Tryz.ntmps29;go_upto_region 1 with fail;generalize (w.alloc (.cells #[.bool false,.int .i64 1,.string ⟨#[]⟩] 61)).alloc (.cells #[.int .i64 1,.int .i64 0] 26)=w1 at *;generalize w.heap.size + 1=b2 at *;generalize w.heap.size=b1 at *;have HB:=QH (AI hb1 (AI hb2 hM1));have a0:=za hb1 0;have a1:=za hb1 1;have a2:=za hb1 2;have e0:=za hb2 0;have e1:=za hb2 1;change w1.cell? _=some (.bool false) at a0;change w1.cell? _=some (.int .i64 1) at a1;change w1.cell? _=some (.string ⟨#[]⟩) at a2;change w1.cell? _=some (.int .i64 1) at e0;change w1.cell? _=some (.int .i64 0) at e1;clear hb1 hb2 hM1;go_wp2_with fail;(refine (hf _).mono ?_);rintro e w2 ⟨rfl,hM2⟩;replace a0:=hM2.cell a0;replace a1:=hM2.cell a1;replace a2:=hM2.cell a2;replace e0:=hM2.cell e0;replace e1:=hM2.cell e1;have HM2:=QH hM2;clear hf hM2;go_wp2_with fail;(refine (hw1 _).mono ?_);rintro e w3 ⟨rfl,hM3⟩;replace a0:=hM3.cell a0;replace a1:=hM3.cell a1;replace e0:=hM3.cell e0;replace e1:=hM3.cell e1;have hz:=(QM [] w3).alloc (.cells #[.bool false,.int .u64 0,.int .u64 (1:Nat)] 146);have hnew:=QN w3 (.cells #[.bool false,.int .u64 0,.int .u64 (1:Nat)] 146);have HM3:=QH (AI hM3 hz);have g0:=za hnew 0;have g2:=za hnew 2;change World.cell? _ _=some (.bool false) at g0;change World.cell? _ _=some (.int .u64 1) at g2;replace e0:=hz.cell e0;replace e1:=hz.cell e1;clear hw1 hM3 a0 a1 a2 hz hnew;go_upto_region 10 with fail;generalize w3.alloc (.cells #[.bool false,.int .u64 0,.int .u64 (1:Nat)] 146)=w4 at *;generalize w3.heap.size=wb at *;go_wp2_with fail;(refine (hu _).mono ?_);rintro e w5 ⟨rfl,hw⟩;replace hw:w4=w5:=hw.symm;subst hw;clear hu;go_wp2_with fail;go_ret2;exact ⟨rfl,((HB.out.2.2.trans HM2.out).trans HM3.out.1).trans HM3.out.2⟩
theorem zm7 (w:World):Calls Tryz.prog 29 #[.agg #[.bool false,.int .i64 15,.string ⟨#[]⟩],.agg #[.int .i64 2,.int .i64 1]] w fun e w' => e = .returned (.tuple #[.string ⟨#[49,46,53]⟩,.bool true]) ∧ Mods [] w w':=by have hf:=fun W => ziS 2 1 true false 15 ⟨#[]⟩ (by decide) W;have hw1:=fun W => zfm W 15 (by decide);have hu:=fun W => zi7 W 15 (by decide);rw [show zee 2 1 true false 15 ⟨#[]⟩ = true from by decide] at hf;rw [show Lib.decDigits 15=[49,53] from by decide +kernel] at hu;change ∀ W,Calls _ _ #[.int .i64 15] W _ at hw1;change ∀ W,Calls _ _ #[.int .u64 15,.int .i64 10] W _ at hu;have hM1:=((QM [] w).alloc (.cells #[.bool false,.int .i64 15,.string ⟨#[]⟩] 61)).alloc (.cells #[.int .i64 2,.int .i64 1] 26);obtain ⟨hb1,hb2⟩:=zlu w (.cells #[.bool false,.int .i64 15,.string ⟨#[]⟩] 61) (.cells #[.int .i64 2,.int .i64 1] 26);go_enter Tryz.func29, Tryz.ntmps29;go_upto_region 1 with fail;generalize (w.alloc (.cells #[.bool false,.int .i64 15,.string ⟨#[]⟩] 61)).alloc (.cells #[.int .i64 2,.int .i64 1] 26)=w1 at *;generalize w.heap.size + 1=b2 at *;generalize w.heap.size=b1 at *;have HB:=QH (AI hb1 (AI hb2 hM1));have a0:=za hb1 0;have a1:=za hb1 1;have a2:=za hb1 2;have e0:=za hb2 0;have e1:=za hb2 1;change w1.cell? _=some (.bool false) at a0;change w1.cell? _=some (.int .i64 15) at a1;change w1.cell? _=some (.string ⟨#[]⟩) at a2;change w1.cell? _=some (.int .i64 2) at e0;change w1.cell? _=some (.int .i64 1) at e1;clear hb1 hb2 hM1;go_wp2_with fail;(refine (hf _).mono ?_);rintro e w2 ⟨rfl,hM2⟩;replace a0:=hM2.cell a0;replace a1:=hM2.cell a1;replace a2:=hM2.cell a2;replace e0:=hM2.cell e0;replace e1:=hM2.cell e1;have HM2:=QH hM2;clear hf hM2;go_wp2_with fail;(refine (hw1 _).mono ?_);rintro e w3 ⟨rfl,hM3⟩;replace a0:=hM3.cell a0;replace a1:=hM3.cell a1;replace e0:=hM3.cell e0;replace e1:=hM3.cell e1;have hz:=(QM [] w3).alloc (.cells #[.bool false,.int .u64 0,.int .u64 (15:Nat)] 146);have hnew:=QN w3 (.cells #[.bool false,.int .u64 0,.int .u64 (15:Nat)] 146);have HM3:=QH (AI hM3 hz);have g0:=za hnew 0;have g2:=za hnew 2;change World.cell? _ _=some (.bool false) at g0;change World.cell? _ _=some (.int .u64 15) at g2;replace e0:=hz.cell e0;replace e1:=hz.cell e1;clear hw1 hM3 a0 a1 a2 hz hnew;go_upto_region 10 with fail;generalize w3.alloc (.cells #[.bool false,.int .u64 0,.int .u64 (15:Nat)] 146)=w4 at *;generalize w3.heap.size=wb at *;go_wp2_with fail;(refine (hu _).mono ?_);rintro e w5 ⟨rfl,hw⟩;replace hw:w4=w5:=hw.symm;subst hw;clear hu;go_wp2_with fail;go_quiet (fail);go_wp2_with fail;go_ret2;exact ⟨rfl,(((HB.out.2.2.trans HM2.out).trans HM3.out.1).trans HM3.out.2).drewN _⟩
theorem zm8 (w:World):Calls Tryz.prog 32 #[.agg #[.int .i64 1,.int .i64 0]] w fun e w' => e = .returned (.string ⟨#[58,105,110,116]⟩) ∧ Mods [] w w':=by go_enter Tryz.func32, Tryz.ntmps32;go_wp2_with fail;go_ret;exact ⟨rfl,(QM _ _).alloc _⟩
theorem zi8 (w:World) (hP:Pow w):Calls Tryz.prog 32 #[.agg #[.int .i64 2,.int .i64 1]] w fun e w' => e = .returned (.string ⟨#[58,100,101,99,49]⟩) ∧ Mods [] w w':=by have hM1:=(QM [] w).alloc (.cells #[.int .i64 2,.int .i64 1] 26);have hit:=zi5 1 (by decide) (by decide) _ (hP.later hM1);rw [show Lib.itoa 1=[49] from by decide +kernel] at hit;go_enter Tryz.func32, Tryz.ntmps32;go_wp2_with fail;(refine hit.mono ?_);rintro e w2 ⟨rfl,hM2⟩;go_wp2_with fail;go_ret;exact ⟨rfl,hM1.trans hM2⟩
def ShowsAs (T:NT) (R:ByteArray):Prop:=∀ (w:World) (v:Value),Pow w → NAt w [] v T → Calls Tryz.prog 17 #[v] w fun e w' => e = .returned (.string R) ∧ Mods [] w w'
theorem zi9 (k s n:Nat) (A B C:ByteArray) (hC:A ++ B=C) (hsz:A.size + B.size ≤ 1000) (ht:∀ w,Calls Tryz.prog 29 #[.agg #[.bool false,.int .i64 n,.string ⟨#[]⟩],.agg #[.int .i64 k,.int .i64 s]] w fun e w' => e = .returned (.tuple #[.string A,.bool true]) ∧ Mods [] w w')
  (hk:∀ w,Pow w → Calls Tryz.prog 32 #[.agg #[.int .i64 k,.int .i64 s]] w fun e w' => e = .returned (.string B) ∧ Mods [] w w'):ShowsAs (.leaf { op:=oValue,t:=⟨k,s⟩,n:=n }) C:=by
 intro w v hP hN;obtain ⟨b,rfl,-,hb⟩:=hN;have n0:=za hb 0;have n1:=za hb 1;have n2:=za hb 2;have n4:=za hb 4;have n5:=za hb 5;have n6:=za hb 6;change w.cell? _=some (.string ⟨#[118,97,108,117,101]⟩) at n0;change w.cell? _=some (.int .i64 (k:Nat)) at n1;change w.cell? _=some (.int .i64 (s:Nat)) at n2;change w.cell? _=some (.bool false) at n4;change w.cell? _=some (.int .i64 (n:Nat)) at n5;change w.cell? _=some (.string ⟨#[]⟩) at n6;have hbig:¬ 9223372036854775807 < A.size + B.size:=by omega
 have HH:=QH (AI hP (AI hb hC));clear hP hb hC;unfold zh;go_enter Tryz.func17, Tryz.ntmps17;go_wp2_with fail;have hcl:=ht w.drew;apply zr (by kernel_rfl) [0,1,2,3,4,5,6,7] [(8,[9,10,11,12])] true (by kernel_rfl) (fun y => y.cell? ⟨b,1,none⟩ = some (.int .i64 (k:Nat)) ∧ y.cell? ⟨b,2,none⟩ = some (.int .i64 (s:Nat)) ∧ y.cell? ⟨b,4,none⟩ = some (.bool false) ∧ y.cell? ⟨b,5,none⟩ = some (.int .i64 (n:Nat)) ∧ y.cell? ⟨b,6,none⟩ = some (.string ⟨#[]⟩))
 case hC => exact ⟨n1,n2,n4,n5,n6⟩
 case hwalk =>rintro y ⟨y1,y2,y4,y5,y6⟩;change wpQuiet _ _ _ _ [_,_,_,_,_,_,_,_] (Act.mk _ _);(repeat go_big_quiet_step (fail));refine QW ?_;exact rfl
 case hrun =>
  change zct _ _ _ _ _ [(_,[_,_,_,_])] _ _;refine zP fun R1 hR1 => ?_;go_wp2_with fail;(with_reducible refine hcl.mono ?_);rintro r w2 ⟨rfl,hM2⟩;clear hcl;have hM:=(QM [] w).drew.trans hM2;replace n1:=hM.cell n1;replace n2:=hM.cell n2;replace n4:=hM.cell n4;replace n5:=hM.cell n5;replace n6:=hM.cell n6;have HM:=QH hM;clear hM hM2 n0;go_wp2_with fail;refine zd ?_;apply hR1 _ w2 (.inr ⟨n1,n2,n4,n5,n6⟩)
  ·rintro y ⟨y1,y2,y4,y5,y6⟩;change wpQuiet _ _ _ _ [_,_,_,_] (Act.mk _ _);(repeat go_big_quiet_step (fail));refine QW ?_;exact rfl
  ·clear hR1 R1;refine zI ?_;have hkd:=hk w2 (HH.out.1.later HM.out);go_wp2_with fail;(with_reducible refine hkd.mono ?_);rintro r w3 ⟨rfl,hM3⟩;clear hkd;go_wp2_with fail;go_ret;exact ⟨by rw [HH.out.2.2]; rfl,HM.out.trans hM3⟩
theorem zm9:ShowsAs (.leaf { op:=oValue,t:=tyInt,n:=1 }) ⟨#[49,58,105,110,116]⟩:=zi9 1 0 1 ⟨#[49]⟩ ⟨#[58,105,110,116]⟩ _ rfl (by decide) zm6 (fun w _ => zm8 w)
theorem zlv:ShowsAs (.leaf { op:=oValue,t:=⟨2,1⟩,n:=15 }) ⟨#[49,46,53,58,100,101,99,49]⟩:=zi9 2 1 15 ⟨#[49,46,53]⟩ ⟨#[58,100,101,99,49]⟩ _ rfl (by decide) zm7 zi8
theorem ziq (w:World) (hP:Pow w) (b:Nat) (h:NHd) (us:List Value) (xs:List Bs) (ao:Option Addr) (cap0:Nat) (K:Bs) (hK:K.length ≤ 100) (hop:h.op.length ≤ 300) (h1:¬ h.op=oValue) (h5:¬ h.op=oColumn)
  (hb:w.heap[b]? = some (.cells (nhC h (.slice ao us.length cap0)).toArray 63 (0,0))) (hl:xs.length=us.length) (hn:us.length ≤ 2)
  (hao:0 < us.length → ∃ c,ao=some ⟨c,0,none⟩ ∧ ∀ i (hi:i < us.length),w.cell? ⟨c,i,none⟩ = some us[i]) (hxs:(xs.map (fun a => 1 + a.length)).sum ≤ 1000000000)
  (hsub:∀ i (hi:i < us.length) (hx:i < xs.length) W,Mods [] w W → Calls Tryz.prog 17 #[us[i]] W fun e w' => e = .returned (.string ⟨xs[i].toArray⟩) ∧ Mods [] W w')
  (hk:∀ W,Pow W → Calls Tryz.prog 32 #[.agg #[.int .i64 h.t.k,.int .i64 h.t.s]] W fun e w' => e = .returned (.string ⟨K.toArray⟩) ∧ Mods [] W w') :
  Calls Tryz.prog 17 #[zh b] w fun e w' => e = .returned (.string ⟨([40] ++ Lib.join (h.op :: xs) [32] ++ [41] ++ K).toArray⟩) ∧ Mods [] w w':=by
 obtain ⟨i0,hi,hz0,hz1,hz2⟩:=info_parts (show (Tryz.prog.info? 9).map (fun i => (i.zero,i.size,i.bytes))=some (some (.string ⟨#[]⟩),1,16) by kernel_rfl);have c0:=za hb 0;have c7:=za hb 7;change w.cell? _=some (.string ⟨h.op.toArray⟩) at c0;change w.cell? _=some (.slice ao us.length cap0) at c7;have o1:(h.op == [118,97,108,117,101])=false:=zkZ h1;have o5:(h.op == [99,111,108,117,109,110])=false:=zkZ h5;have p1:¬ h.op=[118,97,108,117,101]:=h1;have p5:¬ h.op=[99,111,108,117,109,110]:=h5;have d1:=za hb 1;have d2:=za hb 2;change w.cell? _=some (.int .i64 (h.t.k:Nat)) at d1;change w.cell? _=some (.int .i64 (h.t.s:Nat)) at d2;have HD:=QH (AI d1 (AI d2 (AI hP (AI hk hK))));clear d1 d2 hP hk hK;obtain ⟨n,hnn⟩:=EX (us.length);rw [hnn] at c7;have hn2:n ≤ 2:=by omega
 have hjl:=zmJ h.op [32] xs;have e32:([32]:Bs).length=1:=rfl;rw [e32] at hjl;have hjb:(Lib.join (h.op :: xs) [32]).length ≤ 1000000300:=by omega
 have HA:=QH (AI hao (AI hsub (AI hnn (AI hl hjb))));unfold zh;clear hb hop h1 h5 hl hao hsub hnn hxs hn hjl e32 hjb;obtain ⟨R,hR⟩:=EX (([40] ++ Lib.join (h.op :: xs) [32] ++ [41] ++ K:Bs):Bs);rw [hR];have HR:=QH hR;clear hR;have hz:=(QM [] w).alloc (.cells #[.string ⟨h.op.toArray⟩] 9);have c7b:=hz.cell c7;have hown1:(w.alloc (.cells #[.string ⟨h.op.toArray⟩] 9)).ownsRow 0 9 1 (.slice (some ⟨w.heap.size,0,none⟩) 1 1) 1 (zcw [h.op]):=⟨rfl,.inr ⟨_,1,_,rfl,Nat.zero_le _,QN w _,LR _,by unfold maxLen; omega,rfl,rfl⟩⟩;have HS:=QH (AI hz hown1);have FIN:Hid (∀ w' S,Mods [] w w' → S=(⟨#[40]⟩ : ByteArray) ++ ⟨(Lib.join (h.op :: xs) [32]).toArray⟩ ++ ⟨#[41]⟩ ++ ⟨K.toArray⟩ → (Ending.returned (.string S) = .returned (.string ⟨R.toArray⟩) ∧ Mods [] w w')):=QH fun w' S h1 h2 => ⟨by rw [h2,← HR.out,← cat2,← cat3],h1⟩;clear hz hown1;go_enter Tryz.func17, Tryz.ntmps17;go_wp2_with fail;go_loopg [4,23] n (fun gk t6 t107 wr => ∃ (i g cap:Nat),i + gk=n ∧ t107 = .int .i64 i ∧ t6 = .slice (some ⟨g,0,none⟩) (i + 1) cap ∧ Mods [] w wr ∧ wr.ownsRow 0 9 1 (.slice (some ⟨g,0,none⟩) (i + 1) cap) (i + 1) (zcw (h.op :: xs.take i)) ∧ w.heap.size ≤ g)
 case atStart => exact ⟨0,w.heap.size,1,by omega,rfl,rfl,HS.out.1,by rw [List.take_zero]; exact HS.out.2,LR _⟩
 case round =>
  clear HS;obtain ⟨i,g,cap,hin,rfl,rfl,hM,ho,hg⟩:=hrel;by_cases hlt:i < n
  ·obtain ⟨c,rfl,hcells⟩:=HA.out.1 (by rw [HA.out.2.2.1]; omega);have hiu:i < us.length:=by rw [HA.out.2.2.1]; exact hlt
   have hix:i < xs.length:=by rw [HA.out.2.2.2.1]; exact hiu
   have k0:=hM.cell (hcells i hiu);have hca:=HA.out.2.1 i hiu hix wr hM;have htk:h.op :: xs.take (i + 1)=(h.op :: xs.take i) ++ [xs[i]]:=by rw [List.take_succ_eq_append_getElem hix]; rfl
   have HTK:=QH htk;generalize us[i]=u at *;generalize xs[i]=x at *;have HO:=QH ho;clear hcells htk ho FIN;go_wp2_with fail;(with_reducible refine hca.mono ?_);rintro e w2 ⟨rfl,hM2⟩;have hown2:=zm HO.out hM2 (by simp);clear hca k0;go_wp2_with (at_builtin; refine zw _ rfl _ _ 44 rfl 9 i0 _ 1 16 Tryz.underlying44 hi hz0 hz1 hz2 rfl (by decide) (.slice (some ⟨g,0,none⟩) (i + 1) cap) (i + 1) (zcw (h.op :: xs.take i)) rfl (hown2.alloc _) ⟨w2.heap.size,0,none⟩ 1 1 [.string ⟨x.toArray⟩] rfl rfl ?c1 ?c2 (by decide) ?c3 ?c4 ?_)
   case c1 => exact zdy w2 #[.string ⟨x.toArray⟩] _
   case c2 => intro u hu; simp only [List.mem_cons,List.not_mem_nil,or_false] at hu; rcases hu with rfl; rfl
   case c3 => unfold maxLen; omega
   case c4 => omega
   intro g' cap2 w5 hown5 hM5 hg5;have hz2:=(QM [] w2).alloc (.cells #[.string ⟨x.toArray⟩] 9);have hsz:=hM.size;have hsz2:=hM2.size;have hM25:Mods [] w w5:=((hM.trans hM2).trans hz2).trans hM5 (fun y hy => .inr ((show y=g by simpa [Value.ownBlock] using hy) ▸ hg));have hg6:w.heap.size ≤ g':=by
    rcases hg5 with h | h
    ·have:some g=some g':=h;have:=Option.some.inj this;omega
    ·have:w2.heap.size + 1 ≤ g':=by simpa [zl] using h
     omega
   have H5:=QH (AI hown5 (AI hM25 hg6));clear hown5 hM5 hg5 hown2 HO hM25 hg6 hz2;go_wp2_with fail;go_roundg (n - (i + 1))
   case measure => omega
   case rel => exact ⟨i + 1,g',cap2,by omega,by go_num,rfl,H5.out.2.1,by rw [HTK.out,zjH]; exact H5.out.1,H5.out.2.2⟩
  ·obtain rfl:n=i:=by omega
   have hx:xs.take n=xs:=List.take_of_length_le (by rw [HA.out.2.2.2.1,HA.out.2.2.1]; omega);rw [hx] at ho;have hj:=zmK wr (h.op :: xs) [32] g cap (n + 1) (by simp [HA.out.2.2.2.1,HA.out.2.2.1]) (by simp [HA.out.2.2.2.1,HA.out.2.2.1]; omega) (by have:=HA.out.2.2.2.2; omega) ho;have hjb:=HA.out.2.2.2.2;obtain ⟨J,hJ⟩:=EX ((⟨(Lib.join (h.op :: xs) [32]).toArray⟩ : ByteArray):ByteArray);have hjs:J.size ≤ 1000000300:=by rw [← hJ]; exact hjb
   have FIN2:=QH FIN.out;rw [hJ] at hj;have HJ:=QH hJ;clear hx ho hjb hJ;have d1:=hM.cell HD.out.1;have d2:=hM.cell HD.out.2.1;go_wp2_with fail;(with_reducible refine hj.mono ?_);rintro e w2 ⟨rfl,hM2⟩;clear hj;replace d1:=hM2.cell d1;replace d2:=hM2.cell d2;have hMw2:=hM.trans hM2;have hkd:=HD.out.2.2.2.1 w2 (HD.out.2.2.1.later hMw2);obtain ⟨KB,hKB⟩:=EX ((⟨K.toArray⟩ : ByteArray):ByteArray);have hks:KB.size ≤ 100:=by rw [← hKB]; exact HD.out.2.2.2.2
   rw [hKB] at hkd;have HKB:=QH (AI hKB hMw2);clear hKB hMw2 hM2 hM;go_wp2_with fail;(with_reducible refine hkd.mono ?_);rintro e w3 ⟨rfl,hM3⟩;clear hkd;go_wp2_with fail;go_ret;exact FIN.out w3 _ (HKB.out.2.trans hM3) (by rw [HJ.out,HKB.out.1])
theorem zoo (w:World) (v:Value) (hP:Pow w) (hN:NAt w [] v exNode):Calls Tryz.prog 17 #[v] w fun e w' => e = .returned (.string ⟨#[40,43,32,49,58,105,110,116,32,49,46,53,58,100,101,99,49,41,58,100,101,99,49]⟩) ∧ Mods [] w w':=by
 obtain ⟨b,c,cap,u,x,rfl,-,-,-,hb,hu,hx,hA,hB⟩:=hN
 have h:=ziq w hP b { op:=[43],t:=⟨2,1⟩ } [u,x] [[49,58,105,110,116],[49,46,53,58,100,101,99,49]] (some ⟨c,0,none⟩) cap [58,100,101,99,49] (by decide) (by decide) (by decide) (by decide) hb rfl (by simp)
  (fun _ => ⟨c,rfl,fun i hi => by
   match i,hi with
   | 0,_ => exact hu
   | 1,_ => exact hx⟩) (by decide)
  (fun i hi hx2 W hM => by
   match i,hi with
   | 0,_ => exact zm9 W u (hP.later hM) (hA.mods hM)
   | 1,_ => exact zlv W x (hP.later hM) (hB.mods hM)) zi8
 exact h
def butV:Option Nat → Int
 | none => -1
 | some k => (k:Nat)
def TRes (wB w:World) (sb rb mb:Nat) (env:List EC) (tb:List TblT) (r0:Chk Nat) (r:Ending) (w':World):Prop:=
 w'.heap[rb]? = w.heap[rb]? ∧ match r0 with
  | .bad p e => ∃ (z:Int) (cv':Value),r = .returned (.int .i64 z) ∧ ChkA wB w' sb rb cv' mb p e env
  | .ok k => r = .returned (.int .i64 (k:Nat)) ∧ ∃ cv',ChkA wB w' sb rb cv' mb 0 0 (env ++ zcC tb k)
theorem TbsOk.one {l:List Tbl} (h:TbsOk l) {k:Nat} (hk:k < l.length):tblOK l[k]=true:=by have h1:=h.ok;unfold zd4 at h1;simp only [Bool.and_eq_true] at h1;exact List.all_eq_true.1 h1.1 _ (List.getElem_mem hk)
theorem zna {l:List UInt8} (h:zbj l=true):l ≠ []:=by rintro rfl;exact absurd h (by decide)
theorem zfn {l:List Tbl} {k:Nat} (hk:k < l.length):zcC (l.map zax) k=(zax l[k]).env:=by unfold zcC;rw [List.getD_eq_getElem?_getD,List.getElem?_map,List.getElem?_eq_getElem hk]; rfl
theorem TbsOk.parts {l:List Tbl} (h:TbsOk l) {k:Nat} (hk:k < l.length):l[k].nm ≠ [] ∧ l[k].cols.length ≤ 16 ∧ (l[k].cols.map Col.nm).Nodup ∧ ∀ c ∈ l[k].cols,c.good=true:=by have h1:=h.one hk;unfold tblOK at h1;simp only [Bool.and_eq_true,decide_eq_true_eq] at h1;exact ⟨zna h1.1,h1.2.2.1,h1.2.2.2.2,fun c hc => List.all_eq_true.1 h1.2.2.2.1 c hc⟩
theorem zf3 (wB w:World) (sb rb:Nat) (cv:Value) (mb:Nat) (env:List EC) (hC:ChkA wB w sb rb cv mb 0 0 env) (l:List Tbl) (hT:TbsOk l) (n:Nat) (hn:l.length=n) (ao:Option Addr) (cap:Nat) (hI:TblsIn w ao l (sb :: mb :: cv.ownBlock.toList))
  (s:Bs) (hs:s.length ≤ 5000) (at':Nat) (but:Option Nat) (henv:env.length ≤ 500) (hnew:∀ k (hk:k < l.length),but ≠ some k → ∀ c ∈ l[k].cols,∀ e ∈ env,e.name ≠ c.nm) :
  Calls Tryz.prog 23 #[zh sb,.slice ao n cap,.string ⟨s.toArray⟩,.int .i64 at',.int .i64 (butV but)] w (TRes wB w sb rb mb env (l.map zax) (zbd (l.map zax) s at' but)):=by
 have hA:=hC.adding;have hrl:rb < w.heap.size:=LL hC.rbl hC.mods.size;have hln:n ≤ 9223372036854775807:=by have h1:=hT.ok;unfold zd4 at h1;simp only [Bool.and_eq_true,decide_eq_true_eq] at h1;omega
 have hfr:∀ {w':World} {cv':Value} {p e:Nat} {env':List EC},Adding [rb] (sb :: mb :: cv.ownBlock.toList) w w' sb cv' mb 0 p e env' → w'.heap[rb]? = w.heap[rb]?:=fun h => h.mods.block rb hrl hC.rne
 cases hf:zbw (l.map zax) s with
 | none =>refine (zih [rb] _ w w sb cv mb 0 env hA l n hn hln ao cap hI s at' (butV but) hf).mono ?_;rintro r w' ⟨rfl,h⟩;refine ⟨hfr h,?_⟩;rw [show zbd (l.map zax) s at' but = .bad at' 13 by unfold zbd; rw [hf]];exact ⟨0,cv,rfl,hC.add h⟩
 | some k =>
  obtain ⟨hk,hnm⟩:=zd0 hf;by_cases hb:but=some k
  ·subst hb;refine (zii [rb] _ w w sb cv mb 0 env hA l n hn hln ao cap hI s at' k hf).mono ?_;rintro r w' ⟨rfl,h⟩;refine ⟨hfr h,?_⟩;rw [show zbd (l.map zax) s at' (some k) = .bad at' 4 by simp [zbd,hf]];exact ⟨k,cv,rfl,hC.add h⟩
  ·obtain ⟨h1,h2,h3,h4⟩:=hT.parts hk;have hbv:butV but ≠ (k:Int):=by
    cases but with
    | none => show (-1:Int) ≠ (k:Int); omega
    | some j => show (j:Int) ≠ (k:Int); intro h; exact hb (by rw [show j=k by omega])
   refine (zij [rb] _ w w sb cv mb 0 env hA l n hn hln ao cap hI s at' (butV but) k hf hbv (hnm ▸ h1) hs l[k] (List.getElem?_eq_getElem hk) (by omega) (hT.each _ (List.getElem_mem hk)).2 (fun c hc e he => hnew k hk hb c hc e he) h3).mono ?_;rintro r w' ⟨rfl,cv',h⟩;refine ⟨hfr h,?_⟩;rw [show zbd (l.map zax) s at' but = .ok k by simp [zbd,hf,hb]];refine ⟨rfl,cv',?_⟩;rw [zfn hk];exact hC.add h
theorem zdF {l:List Tbl} {s:Bs} {pos:Nat} {but:Option Nat} {k:Nat} (h:zbd (l.map zax) s pos but = .ok k):k < l.length:=by
 unfold zbd at h
 cases hf:zbw (l.map zax) s with
 | none => rw [hf] at h; cases h
 | some j =>
  rw [hf] at h;simp only at h;split at h
  ·cases h
  ·cases h; exact (zd0 hf).1
theorem zdG {l:List Tbl} (h:TbsOk l) {k:Nat} (hk:k < l.length):zbT (zcC (l.map zax) k) ∧ (zcC (l.map zax) k).length ≤ 16:=by
 rw [zfn hk];obtain ⟨h1,h2,h3,h4⟩:=h.parts hk;refine ⟨fun e he => ?_,by simp [TblT.env,zax]; exact h2⟩;simp only [TblT.env,zax,List.map_map,List.mem_map] at he;obtain ⟨c,hc,rfl⟩:=he;have h5:=h4 c hc;have h6:=(h.each _ (List.getElem_mem hk)).2 c hc;unfold Col.good at h5;simp only [Bool.and_eq_true] at h5;have h7:=h5.2;unfold zaN at h7;simp only [Bool.or_eq_true,Bool.and_eq_true,beq_iff_eq,decide_eq_true_eq] at h7;show Ty.Right ⟨c.k.toNat,c.s.toNat⟩;rcases h7 with ⟨a,b,d⟩ | ⟨(a | a) | a,b⟩
 ·exact .inl ⟨by show c.k.toNat=2; omega,by show 1 ≤ c.s.toNat; omega,by show c.s.toNat ≤ 9; omega⟩
 ·exact .inr ⟨.inl (by show c.k.toNat=1; omega),by show c.s.toNat=0; omega⟩
 ·exact .inr ⟨.inr (.inl (by show c.k.toNat=3; omega)),by show c.s.toNat=0; omega⟩
 ·exact .inr ⟨.inr (.inr (by show c.k.toNat=4; omega)),by show c.s.toNat=0; omega⟩
theorem zlw {l:List Tbl} (h:TbsOk l) {k:Nat} (hk:k < l.length):∀ j (hj:j < l.length),some k ≠ some j → ∀ c ∈ l[j].cols,∀ e ∈ zcC (l.map zax) k,e.name ≠ c.nm:=by intro j hj hne c hc e he;rw [zfn hk] at he;simp only [TblT.env,zax,List.map_map,List.mem_map] at he;obtain ⟨d,hd,rfl⟩:=he;exact h.apart k j hk hj (fun h => hne (by rw [h])) d hd c hc
structure StartC (w wB:World) (sb rb mb:Nat) (q:zt) (gr:Bool):Prop where
 mods:Mods [] w wB
 sbw:w.heap.size ≤ sb
 mbw:w.heap.size ≤ mb
 rbw:w.heap.size ≤ rb
 ch:ChkA wB wB sb rb (.slice none 0 0) mb 0 0 []
 st:CSt wB rb 0 (-1) (.pointer none) (.pointer none) gr (.slice none 0 0) (.slice none 0 0) (.slice none 0 0) (.slice none 0 0) q.limit q.offset
theorem znb {w wB:World} {sb rb mb:Nat} {q:zt} {gr:Bool} (hM:Mods [] w wB) (hs:zaX wB sb (.slice none 0 0) mb 0 0 0) (hm:wB.heap[mb]? = some (.map #[] 0)) (hr:CSt wB rb 0 (-1) (.pointer none) (.pointer none) gr (.slice none 0 0) (.slice none 0 0) (.slice none 0 0) (.slice none 0 0) q.limit q.offset)
  (h1:w.heap.size ≤ mb) (h2:mb < sb) (h3:sb < rb):StartC w wB sb rb mb q gr:=
 ⟨hM,by omega,h1,by omega,⟨hs,⟨#[],0,hm,by show mb ∉ [sb,rb]; simp; omega,by simp,fun t n h => absurd rfl h,by simp⟩,⟨[],World.ownsRow_nil _ _ _ _,fun i hi => absurd hi (by simp)⟩,QM _ _,(fun g hg => nomatch (show (none:Option Nat)=some g from hg)),zj hs,zj hm,zj hr,by omega⟩,hr⟩
theorem StartC.old {w wB W:World} {sb rb mb:Nat} {q:zt} {gr:Bool} (h:StartC w wB sb rb mb q gr) (hM:Mods [sb,mb,rb] wB W):Mods [] w W:=h.mods.trans hM (fun x hx => by
 simp at hx;rcases hx with rfl | rfl | rfl
 ·exact .inr h.sbw
 ·exact .inr h.mbw
 ·exact .inr h.rbw)
theorem StartC.tbls {w wB W:World} {sb rb mb:Nat} {q:zt} {gr:Bool} (h:StartC w wB sb rb mb q gr) {cv:Value} {p e:Nat} {env:List EC} (hC:ChkA wB W sb rb cv mb p e env) {ao:Option Addr} {l:List Tbl} (hI:TblsIn w ao l []):TblsIn W ao l (sb :: mb :: cv.ownBlock.toList):=
 (hI.apart (fun x hx => by
  rcases MC hx with rfl | hx
  ·exact h.sbw
  ·rcases MC hx with rfl | hx
   ·exact h.mbw
   ·exact Nat.le_trans h.mods.size (hC.own x (by simpa using hx)))).mods ((h.old hC.mods).mono)
theorem CSt.put0 {w:World} {rb:Nat} {lf rt:Int} {von vwh:Value} {gr:Bool} {vg its nms vo:Value} {lim off:Int} (h:CSt w rb lf rt von vwh gr vg its nms vo lim off) (z:Int):CSt (w.setCell ⟨rb,0,none⟩ (.int .i64 z)) rb z rt von vwh gr vg its nms vo lim off:=zb h 0 _
theorem CSt.put1 {w:World} {rb:Nat} {lf rt:Int} {von vwh:Value} {gr:Bool} {vg its nms vo:Value} {lim off:Int} (h:CSt w rb lf rt von vwh gr vg its nms vo lim off) (z:Int):CSt (w.setCell ⟨rb,1,none⟩ (.int .i64 z)) rb lf z von vwh gr vg its nms vo lim off:=zb h 1 _
theorem CSt.put2 {w:World} {rb:Nat} {lf rt:Int} {von vwh:Value} {gr:Bool} {vg its nms vo:Value} {lim off:Int} (h:CSt w rb lf rt von vwh gr vg its nms vo lim off) (z:Value):CSt (w.setCell ⟨rb,2,none⟩ z) rb lf rt z vwh gr vg its nms vo lim off:=zb h 2 _
theorem CSt.put3 {w:World} {rb:Nat} {lf rt:Int} {von vwh:Value} {gr:Bool} {vg its nms vo:Value} {lim off:Int} (h:CSt w rb lf rt von vwh gr vg its nms vo lim off) (z:Value):CSt (w.setCell ⟨rb,3,none⟩ z) rb lf rt von z gr vg its nms vo lim off:=zb h 3 _
theorem z9 (w:World) (rb k:Nat) (v:Value):Mods [rb] w (w.setCell ⟨rb,k,none⟩ v):=(QM _ _).setCell (.inl (by simp)) _
theorem QBlk.start {wB w:World} {rb:Nat} {q:zt} {lf rt:Int} {von vwh:Value} {gr:Bool} {vg:Value} (h:CSt w rb lf rt von vwh gr vg (.slice none 0 0) (.slice none 0 0) (.slice none 0 0) q.limit q.offset) (hM:wB.heap.size ≤ w.heap.size):QBlk wB w rb q:=
 ⟨_,_,_,_,_,_,_,_,[],[],h,⟨hM,⟨[],World.ownsRow_nil _ _ _ _,fun L _ => trivial⟩,World.ownsRow_nil _ _ _ _,(fun g hg => nomatch (show (none:Option Nat)=some g from hg)),(fun g hg => nomatch (show (none:Option Nat)=some g from hg))⟩,rfl⟩
theorem zeB (wB w:World) (sb rb:Nat) (cv:Value) (mb pos e:Nat) (env:List EC) (hC:ChkA wB w sb rb cv mb pos e env) (hp:e=0 → pos=0) (hV:CkVars w) (hsg : 0 ≠ sb ∧ 2 ≠ sb) (v:Value) (o:Option Tree) (hO:OptAt w [sb] v o)
  (hX:∀ t,o=some t → e=0 → ExprOk sb cv mb env t 0):Calls Tryz.prog 24 #[zh sb,v] w (zch w sb cv mb pos e (zbB env o)):=by
 cases o with
 | none =>rw [show v = .pointer none from hO];exact zlf w sb cv mb pos e env hC.st
 | some t =>
  obtain ⟨b,rfl,hE⟩:=hO;by_cases he:e=0
  ·subst he;exact zlh w hV sb hsg cv mb pos env hC.scope b t hE (hX t rfl rfl)
  ·exact zlg w sb cv mb pos e env hC.st he b t
theorem QBlk.go {wB w w':World} {sb rb:Nat} {q:zt} (h:QBlk wB w rb q) (hM:Mods [sb] w w') (hs:sb < wB.heap.size) (hne:sb ≠ rb):QBlk wB w' rb q:=by obtain ⟨lf,rt,von,vwh,gr,vg,its,nms,ns,ss,h1,h2,h3⟩:=h;exact ⟨lf,rt,von,vwh,gr,vg,its,nms,ns,ss,hM.heap h1 (by simpa using Ne.symm hne),h2.go hM (by simpa using hs),h3⟩
theorem QBlk.put2 {wB w:World} {rb:Nat} {q:zt} (h:QBlk wB w rb q) (hr:rb < wB.heap.size) (v:Value):QBlk wB (w.setCell ⟨rb,2,none⟩ v) rb q:=by obtain ⟨lf,rt,von,vwh,gr,vg,its,nms,ns,ss,h1,h2,h3⟩:=h;exact ⟨lf,rt,_,vwh,gr,vg,its,nms,ns,ss,h1.put2 v,h2.go (z9 _ _ _ _) (by simpa using hr),h3⟩
theorem QBlk.put3 {wB w:World} {rb:Nat} {q:zt} (h:QBlk wB w rb q) (hr:rb < wB.heap.size) (v:Value):QBlk wB (w.setCell ⟨rb,3,none⟩ v) rb q:=by obtain ⟨lf,rt,von,vwh,gr,vg,its,nms,ns,ss,h1,h2,h3⟩:=h;exact ⟨lf,rt,von,_,gr,vg,its,nms,ns,ss,h1.put3 v,h2.go (z9 _ _ _ _) (by simpa using hr),h3⟩
theorem zbl {w:World} (hV:CkVars w) {x:Nat} (hx:w.heap.size ≤ x) : 0 ≠ x ∧ 2 ≠ x:=by have h1:=zio hV.1.1;have h2:=zio hV.2.1;exact ⟨by omega,by omega⟩
def GrI (wg wr:World) (sb rb:Nat) (cv:Value) (mb:Nat) (env:List EC) (q:zt) (lf rt:Int) (von vwh:Value) (gr:Bool) (i:Nat):Prop:=
 ∃ p e ks vg,Mods [sb,rb] wg wr ∧ zaX wr sb cv mb 0 p e ∧ CSt wr rb lf rt von vwh gr vg (.slice none 0 0) (.slice none 0 0) (.slice none 0 0) q.limit q.offset ∧
  wr.ownsRow 0 3 1 vg ks.length (ks.map fun k:Nat => Value.int .i64 (k:Nat)) ∧ (∀ g,vg.ownBlock=some g → wg.heap.size ≤ g) ∧ zai (zbe env (q.group.take i)) 0 0=(p,e) ∧ (e=0 → zbe env (q.group.take i) = .ok ks) ∧ ks.length ≤ i
theorem GrI.start {wg:World} {sb rb:Nat} {cv:Value} {mb:Nat} {env:List EC} {q:zt} {lf rt:Int} {von vwh:Value} {gr:Bool} (hS:zaX wg sb cv mb 0 0 0) (hC:CSt wg rb lf rt von vwh gr (.slice none 0 0) (.slice none 0 0) (.slice none 0 0) (.slice none 0 0) q.limit q.offset):GrI wg wg sb rb cv mb env q lf rt von vwh gr 0:=
 ⟨0,0,[],.slice none 0 0,QM _ _,hS,hC,World.ownsRow_nil _ _ _ _,(fun g hg => nomatch (show (none:Option Nat)=some g from hg)),rfl,fun _ => rfl,LR _⟩
theorem GrI.past {wg wr:World} {sb rb:Nat} {cv:Value} {mb:Nat} {env:List EC} {q:zt} {lf rt:Int} {von vwh:Value} {gr:Bool} {i p e:Nat} {ks:List Nat} {vg:Value} (hM:Mods [sb,rb] wg wr) (hS:zaX wr sb cv mb 0 p e) (hC:CSt wr rb lf rt von vwh gr vg (.slice none 0 0) (.slice none 0 0) (.slice none 0 0) q.limit q.offset)
  (ho:wr.ownsRow 0 3 1 vg ks.length (ks.map fun k:Nat => Value.int .i64 (k:Nat))) (hg:∀ g,vg.ownBlock=some g → wg.heap.size ≤ g) (hc:zai (zbe env (q.group.take i)) 0 0=(p,e)) (hl:ks.length ≤ i) (he:e ≠ 0) {t:Tree} (ht:q.group[i]? = some t):GrI wg wr sb rb cv mb env q lf rt von vwh gr (i + 1):=
 ⟨p,e,ks,vg,hM,hS,hC,ho,hg,by rw [zi2 hc ht,zbr _ he],fun h => absurd h he,by omega⟩
theorem GrI.push {wg w2 w3:World} {sb rb:Nat} {cv:Value} {mb:Nat} {env:List EC} {q:zt} {lf rt:Int} {von vwh:Value} {gr:Bool} {i:Nat} {ks:List Nat} {vg:Value} {h:Hd} {g cap n:Nat} (hM2:Mods [sb,rb] wg w2) (hS2:zaX w2 sb cv mb 0 (zai (zbF env h) 0 0).1 (zai (zbF env h) 0 0).2)
  (hC2:CSt w2 rb lf rt von vwh gr vg (.slice none 0 0) (.slice none 0 0) (.slice none 0 0) q.limit q.offset) (hg:∀ g,vg.ownBlock=some g → wg.heap.size ≤ g) (hc:zbe env (q.group.take i) = .ok ks) (hl:ks.length ≤ i) (ht:q.group[i]? = some (.leaf h)) (hs:sb < wg.heap.size) (hr:rb < wg.heap.size) (hne:sb ≠ rb) (hn:ks.length=n)
  (ho:w3.ownsRow 0 3 1 (.slice (some ⟨g,0,none⟩) (n + 1) cap) (n + 1) ((ks.map fun k:Nat => Value.int .i64 (k:Nat)) ++ [.int .i64 (colK env h 0:Nat)])) (hM3:Mods vg.ownBlock.toList w2 w3) (hg3:vg.ownBlock=some g ∨ w2.heap.size ≤ g) :
  GrI wg (w3.setCell ⟨rb,5,none⟩ (.slice (some ⟨g,0,none⟩) (n + 1) cap)) sb rb cv mb env q lf rt von vwh gr (i + 1):=by
 have hput:=z9 w3 rb 5 (.slice (some ⟨g,0,none⟩) (n + 1) cap);have hsn:sb ∉ vg.ownBlock.toList:=fun hm => by have:=hg sb (by simpa using hm); omega
 have hrn:rb ∉ vg.ownBlock.toList:=fun hm => by have:=hg rb (by simpa using hm); omega
 have hgg:wg.heap.size ≤ g:=by
  rcases hg3 with h1 | h1
  ·exact hg g h1
  ·exact Nat.le_trans hM2.size h1
 refine ⟨_,_,ks ++ [colK env h 0],_,(hM2.trans hM3 (fun x hx => .inr (hg x (by simpa using hx)))).trans hput,hput.heap (hM3.heap hS2 hsn) (by simpa using hne),zb (hM3.heap hC2 hrn) 5 _,?_,(fun x hx => by cases hx; exact hgg),?_,?_,by rw [List.length_append,hn]; show n + 1 ≤ i + 1; omega⟩
 ·rw [List.length_append,List.map_append,hn];exact zm ho hput (fun x hx hm => by cases hx; simp at hm; omega)
 ·have h1:=zi2 (pos:=0) (e:=0) (show zai (zbe env (q.group.take i)) 0 0=(0,0) by rw [hc]; rfl) ht;rw [h1]; rfl
 ·intro h0;rw [List.take_add_one,ht];show zbe env (q.group.take i ++ [Tree.leaf h])=_;rw [zfi,hc];obtain ⟨-,-,k,hk⟩:=zaU (p1:=(zai (zbF env h) 0 0).1) (fun p k hk => zgD hk) (show zai (zbF env h) 0 0=((zai (zbF env h) 0 0).1,0) from Prod.ext rfl h0);show ((zbF env h).bind fun k => .ok (ks ++ [k]))=_;rw [hk];show Chk.ok (ks ++ [k])=_;unfold colK;rw [hk]; rfl
theorem zlx {w:World} {vg:Value} {ks:List Nat} (h:w.ownsRow 0 3 1 vg ks.length (ks.map fun k:Nat => Value.int .i64 (k:Nat))) {L:List Nat} (hL:∀ g,vg.ownBlock=some g → g ∉ L):GroupAt w L vg ks:=by
 rcases h.2 with ⟨rfl,h0⟩ | ⟨g,cap,cur,rfl,hx⟩
 ·rw [List.length_eq_zero_iff.1 h0];exact ⟨none,0,rfl,fun h => absurd h (by simp)⟩
 ·refine ⟨_,_,rfl,fun _ => ⟨g,rfl,hL g rfl,fun i hi => ?_⟩⟩;have:=(zar h).2.2 i (.int .i64 (ks[i]:Nat)) (by rw [List.getElem?_map,List.getElem?_eq_getElem hi]; rfl);exact this
theorem zgS {α:Type} {r:Chk α} {pos p e:Nat} (h:zai r pos 0=(p,e)) (he:e ≠ 0):r = .bad p e:=by
 cases r with
 | ok a => rw [zaP] at h; cases h; exact absurd rfl he
 | bad a b => cases h; rfl
end Go.Proofs.YtgdpaieechgahaaGreatDoor
