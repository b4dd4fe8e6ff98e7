/-
  parse's takes, wants, of, name, count, walked. No condition.
-/
import Derived.Test.YtcabeljiobiojaaGreatDoorQ04
import Derived.Deep.RegionWith
import Derived.Deep.RegionHeld
set_option linter.unusedVariables false
set_option maxRecDepth 100000
set_option maxHeartbeats 1000000
namespace Go.Proofs.YtcabeljiobiojaaGreatDoor
open Go.RowKit
theorem ycO {p:Prop} (h:p:=by
  go_wp2_with fail;go_ret;exact ⟨rfl,(hMw.trans hM4).alloc _,hP4.later ((QM [] w4).alloc _)⟩
 ):p:=h
theorem yaq {p:Prop} (h:p:=by
  have hcall:=hown W.drew ((QM [] W).drew);have hxw:xb < W.heap.size:=zj hxb;have n1:xc ∉ [pb]:=by simpa using hcp
  have n2:ob ∉ [pb]:=by simpa using hop
  have n3:xb ∉ [pb]:=by simpa using hxp
  unfold zh at *;have xd:W.drew.cell? ⟨xc,0,none⟩ = some (.pointer (some ⟨xb,0,none⟩)):=hx;have od:W.drew.cell? ⟨ob,0,none⟩ = _:=ho;clear hown;go_enter Tryz.func197, Tryz.ntmps197;go_wp2_with fail;go_region_with ((with_reducible refine hcall.mono ?_); rintro e w5 ⟨yb,rfl,hM5,hP5,hE5⟩; dsimp only [zh]; have hx5:=hM5.heap (show W.drew.heap[xb]? = _ from hxb) (by simpa using hxp); have c5:w5.cell? ⟨xc,0,none⟩ = some (.pointer (some ⟨xb,0,none⟩)):=hM5.cell xd n1; have y5:w5.cell? ⟨xb,7,none⟩ = some (.slice none 0 0):=za hx5 7; have f5:=zc hx5 7; have z6:=((QM [] w5).alloc (.cells #[.pointer (some ⟨yb,0,none⟩)] 103)); have c6:=z6.cell c5; have y6:=z6.cell y5; have f6:=zc (z6.heap hx5) 7)
  all_goals
   have hfin:=zdv hxp hxt hxw hx5 hM5 hP5 hE5;have HFIN:=QH hfin;clear hfin hP5 hE5 hM5 hx5 z6 hcall;go_wp2_with fail;go_end0;exact ⟨rfl,HFIN.out.1,HFIN.out.2.1,HFIN.out.2.2⟩
 ):p:=h
theorem yau {p:Prop} (h:p:=by
  go_wp2_with (refine wpList_store_row rfl 92 (.tmp 4) (.tmp 20) rfl w.heap.size #[.int .i64 0,.int .i64 0,.string ⟨#[]⟩,.int .i64 0,.int .i64 0] rfl rfl 92 _ hrow3 hinfo rfl (zam _ _ _ _ _) ?_);have hr4:=zi #[.int .i64 0,.int .i64 0,.string ⟨#[]⟩,.int .i64 0,.int .i64 0] hrow3;generalize w3.setRow w.heap.size #[.int .i64 0,.int .i64 0,.string ⟨#[]⟩,.int .i64 0,.int .i64 0]=w4 at *;have q0:=za hr4 0;have q1:=za hr4 1;have q2:=za hr4 2;have q3:=za hr4 3;have q4:=za hr4 4;change w4.cell? _=some (.int .i64 0) at q0;change w4.cell? _=some (.int .i64 0) at q1;change w4.cell? _=some (.string ⟨#[]⟩) at q2;change w4.cell? _=some (.int .i64 0) at q3;change w4.cell? _=some (.int .i64 0) at q4;refine bodyPost_ret BF rfl ?_;exact ⟨rfl,hMw4,HP4.out⟩
 ):p:=h
theorem ybe {p:Prop} (h:p:=by
  go_wp2_with fail;(with_reducible refine ho.mono ?_);rintro e w4 ⟨rfl,hM4,hP4⟩;clear ho
  cases b with
  | true =>exact ycO
  | false =>exact ycO
 ):p:=h
theorem PSt.wfTail {w:World} {pb tg:Nat} {s:PS} {f:Nat} (h:PSt w pb tg s f) (hk:s.now.kind ≠ 0):WfT s.rest.tail:=by
 obtain ⟨l,-,-,h6,-⟩:=h
 cases hr:s.rest with
 | nil => exact absurd hr h6.ne
 | cons t r =>rw [hr] at h6;exact h6.tail (by unfold PS.now at hk; rw [hr] at hk; exact hk)
theorem zds (w:World) (pb tg:Nat) (s:PS) (f:Nat) (h:PSt w pb tg s f):Calls Tryz.prog 88 #[zh pb,.int .i64 8] w fun e w' => e = .returned (.tuple #[]) ∧ Mods [pb] w w' ∧ PSt w' pb tg (s.fail 8) f:=ziL w pb tg s f h 8
theorem zkB (w:World) (pb tg:Nat) (s:PS) (f:Nat) (h:PSt w pb tg s f):Calls Tryz.prog 88 #[zh pb,.int .i64 9] w fun e w' => e = .returned (.tuple #[]) ∧ Mods [pb] w w' ∧ PSt w' pb tg (s.fail 9) f:=ziL w pb tg s f h 9
theorem zgt (w:World) (x:Bs):StrsIn (w.alloc (.cells #[.string ⟨x.toArray⟩] 9)) (.slice (some ⟨w.heap.size,0,none⟩) 1 1) [x]:=⟨_,0,1,rfl,fun j hj => by
 obtain rfl:j=0:=by simp at hj; omega
 rw [za (QN w _)]; rfl⟩
theorem zU (w:World) (pb tg:Nat) (s:PS) (f:Nat) (h:PSt w pb tg s f) (x:Bs):Calls Tryz.prog 52 #[zh pb,.string ⟨x.toArray⟩] w fun e w' => e = .returned (.bool (s.takes x).1) ∧ Mods [pb] w w' ∧ PSt w' pb tg (s.takes x).2 f:=by
 have hMA:=(QM [] w).alloc (.cells #[.string ⟨x.toArray⟩] 9);have hP1:=h.later hMA;have his:=zea _ pb tg s f hP1 _ [x] (zgt w x) AB;have hnext:=fun W (hP:PSt W pb tg s f) (hk:s.now.kind ≠ 0) => za9 W pb tg s f hP (hP.wfTail hk);have HH:=QH (AI hP1 hnext);unfold zh at *;clear hP1 hnext h;go_enter Tryz.func52, Tryz.ntmps52;go_wp2_with fail;(with_reducible refine his.mono ?_);rintro e w2 ⟨rfl,hM2⟩;clear his
 cases hi:s.is [x] with
 | true =>
  have ht:s.takes x=(true,s.next):=by unfold PS.takes; rw [if_pos hi]
  have hn:=HH.out.2 w2 (HH.out.1.later hM2) (zQ hi).2;have HT:=QH ht;clear ht hi;go_wp2_with fail;(with_reducible refine hn.mono ?_);rintro e w3 ⟨rfl,hM3,hP3⟩;clear hn;go_wp2_with fail;go_ret;rw [HT.out];exact ⟨rfl,((hMA.trans hM2).mono).trans hM3,hP3⟩
 | false =>
  have ht:s.takes x=(false,s):=by unfold PS.takes; rw [hi]; rfl
  have hP2:=HH.out.1.later hM2;have HT:=QH ht;clear ht hi;go_wp2_with fail;go_ret;rw [HT.out];exact ⟨rfl,(hMA.trans hM2).mono,hP2⟩
theorem zjz (s:PS) (x:Bs):s.want x=if (s.takes x).1=true then (s.takes x).2 else (s.takes x).2.fail 8:=by
 unfold PS.want PS.takes;by_cases h:s.is [x]=true
 ·rw [if_pos h,if_pos h]; rfl
 ·rw [if_neg h,if_neg h]; rfl
theorem zbq (w:World) (pb tg:Nat) (s:PS) (f:Nat) (h:PSt w pb tg s f) (v:Value) (ws:List Bs) (hws:StrsIn w v ws) (hl:ws.length ≤ 1000) (hbl:∀ g off n c,v = .slice (some ⟨g,off,none⟩) n c → g ≠ pb):Calls Tryz.prog 51 #[zh pb,v] w fun e w' => e = .returned (.tuple #[]) ∧ Mods [pb] w w' ∧ PSt w' pb tg (s.wants ws) f:=by
 obtain ⟨lb,lo,lcap,rfl,hcells⟩:=hws;have hlb:=hbl _ _ _ _ rfl;obtain ⟨n,hn⟩:=EX (ws.length);rw [hn];have HC:=QH (AI hcells hn);unfold zh;clear hcells hbl;go_enter Tryz.func51, Tryz.ntmps51;go_wp2_with fail;go_loopg [8] n (fun gk t8 wr => ∃ i:Nat,i + gk=n ∧ t8 = .int .i64 i ∧ Mods [pb] w wr ∧ PSt wr pb tg (s.wants (ws.take i)) f)
 case atStart => exact ⟨0,by omega,rfl,QM _ _,h⟩
 case round =>
  clear h;obtain ⟨i,hi,rfl,hM,hP⟩:=hrel;by_cases hlt:i < n
  ·have hil:i < ws.length:=by rw [HC.out.2]; exact hlt
   have c0:=hM.cell (HC.out.1 i hil) (by simpa using hlb);have hstep:s.wants (ws.take (i + 1))=(s.wants (ws.take i)).want ws[i]:=by unfold PS.wants;rw [List.take_succ_eq_append_getElem hil,List.foldl_append]; rfl
   obtain ⟨x,hx⟩:=EX (ws[i]);rw [hx] at c0 hstep;rw [zjz] at hstep;have htk:=zU wr pb tg _ f hP x;have hfl:=fun W (hP:PSt W pb tg ((s.wants (ws.take i)).takes x).2 f) => zds W pb tg _ f hP;obtain ⟨b,hb⟩:=EX (((s.wants (ws.take i)).takes x).1);rw [hb] at htk hstep;have HS:=QH hstep;unfold zh at htk hfl;clear hstep hP hx hb;go_wp2_with fail;(with_reducible refine htk.mono ?_);rintro e w2 ⟨rfl,hM2,hP2⟩;clear htk
   cases b with
   | true =>
    have hP3:PSt w2 pb tg (s.wants (ws.take (i + 1))) f:=by rw [HS.out,if_pos rfl]; exact hP2
    have HP3:=QH hP3;clear hP2 hP3 hfl;go_wp2_with fail;go_roundg (n - (i + 1))
    case measure => omega
    case rel => exact ⟨i + 1,by omega,by go_num,hM.trans hM2,HP3.out⟩
   | false =>
    have hf2:=hfl w2 hP2;clear hfl hP2;go_wp2_with fail;(with_reducible refine hf2.mono ?_);rintro e w3 ⟨rfl,hM3,hP3⟩;have hP4:PSt w3 pb tg (s.wants (ws.take (i + 1))) f:=by rw [HS.out,if_neg AD]; exact hP3
    have HP4:=QH hP4;clear hP3 hP4 hf2;go_wp2_with fail;go_roundg (n - (i + 1))
    case measure => omega
    case rel => exact ⟨i + 1,by omega,by go_num,(hM.trans hM2).trans hM3,HP4.out⟩
  ·obtain rfl:n=i:=by omega
   have hfin:PSt wr pb tg (s.wants ws) f:=by rw [List.take_of_length_le (by rw [HC.out.2]; omega)] at hP; exact hP
   have HF:=QH hfin;clear hP hfin;go_wp2_with fail;go_end0;exact ⟨rfl,hM,HF.out⟩
theorem zkC (w:World) (pb tg:Nat) (s:PS) (f:Nat) (h:PSt w pb tg s f) (k:Nat) (hk:s.e=0 → s.now.kind=k → WfT s.rest.tail) :
  Calls Tryz.prog 63 #[zh pb,.int .i64 k] w fun e w' => e = .returned (.tuple #[.agg #[.int .i64 (s.of k).1.kind,.int .i64 (s.of k).1.pos,.string ⟨(s.of k).1.s.toArray⟩,.int .i64 (s.of k).1.n,.int .i64 (s.of k).1.scale],.bool (s.of k).2.1]) ∧ Mods [pb] w w' ∧ PSt w' pb tg (s.of k).2.2 f:=by
 obtain ⟨off,cap,hb,-⟩:=h.tok;have hpw:pb < w.heap.size:=zj hb;have hMr:=(QM [] w).alloc (.cells #[.int .i64 0,.int .i64 0,.string ⟨#[]⟩,.int .i64 0,.int .i64 0] 92);have hP1:=h.later hMr;have hnow:=zaO _ pb tg s f hP1;have hbr:=hMr.heap hb;have a3:=za hbr 3;change World.cell? _ _=some (.int .i64 s.e) at a3;have hrow:=QN w (.cells #[.int .i64 0,.int .i64 0,.string ⟨#[]⟩,.int .i64 0,.int .i64 0] 92);have hfd:=zfQ s.now;have hinfo:(Tryz.prog.info? 92).map (·.size)=some 5:=by kernel_rfl
 have HTG:=QH h.lt.2;have HH:=QH (AI hP1 hrow);unfold zh at *;clear h hP1 hrow;go_enter Tryz.func63, Tryz.ntmps63;by_cases hyes:s.e=0 ∧ s.now.kind=k
 ·have hof:s.of k=(s.now,true,s.next):=by unfold PS.of; rw [if_pos hyes]
  rw [hof];have z0:((s.e:Int) != 0)=false:=bne_eq_false_iff_eq.2 AA;have z1:((s.now.kind:Int) != (k:Int))=false:=bne_eq_false_iff_eq.2 AA;have hwt:=hk hyes.1 hyes.2;clear hyes hof hk;go_wp2_with fail;(with_reducible refine hnow.mono ?_);rintro e w2 ⟨rfl,hM2⟩;clear hnow;have hP2:=HH.out.1.later hM2;have hn:=za9 w2 pb tg s f hP2 hwt;unfold zh at hn;have hrow2:=hM2.heap HH.out.2;clear hP2;go_wp2_with fail;(with_reducible refine hn.mono ?_);rintro e w3 ⟨rfl,hM3,hP3⟩;have hrow3:=hM3.heap hrow2 AE;have hMw:Mods [pb] w w3:=((hMr.trans hM2).mono (L':=[pb])).trans hM3;have HP3:=QH hP3;have htgw:tg < w.heap.size:=HTG.out;clear hn hrow2 hM2 hM3 a3 hbr hP3;generalize hrb:w.heap.size=rb at *;obtain ⟨t,ht⟩:=EX (s.now);rw [ht];go_wp2_with (refine wpList_store_row rfl 92 (.tmp 4) (.tmp 22) rfl rb (tokA t) rfl rfl 92 _ hrow3 hinfo rfl (zam _ _ _ _ _) ?_);have hM4:Mods [rb] w3 (w3.setRow rb (tokA t)):=(QM _ _).setRow (.inl AB) _;have hr4:=zi (tokA t) hrow3;have hP4:=HP3.out.mods hM4 AE AE;have hMw4:Mods [pb] w (w3.setRow rb (tokA t)):=hMw.trans hM4 (fun x hx => .inr AQ);have gA1:=QH trivial;exact ydi
 ·have hof:s.of k=(zTok,false,s.fail 8):=by unfold PS.of; rw [if_neg hyes]
  rw [hof];have hz:((s.e:Int) != 0)=true ∨ (((s.e:Int) != 0)=false ∧ ((s.now.kind:Int) != (k:Int))=true):=by
   by_cases he:s.e=0
   ·exact .inr ⟨bne_eq_false_iff_eq.2 AA,bne_iff_ne.2 (fun h => hyes ⟨he,by omega⟩)⟩
   ·exact .inl (bne_iff_ne.2 AA)
  have hfail:=fun W (hP:PSt W pb tg s f) => zds W pb tg s f hP;unfold zh at hfail;clear hyes hof hk;have key:∀ w3,Mods [pb] w w3 → PSt w3 pb tg (s.fail 8) f → w3.heap[w.heap.size]? = some (.cells #[.int .i64 0,.int .i64 0,.string ⟨#[]⟩,.int .i64 0,.int .i64 0] 92 (0,0)) → Mods [pb] w (w3.setRow w.heap.size #[.int .i64 0,.int .i64 0,.string ⟨#[]⟩,.int .i64 0,.int .i64 0]) ∧ PSt (w3.setRow w.heap.size #[.int .i64 0,.int .i64 0,.string ⟨#[]⟩,.int .i64 0,.int .i64 0]) pb tg (s.fail 8) f:=fun w3 h1 h2 h3 => by have hM4:Mods [w.heap.size] w3 (w3.setRow w.heap.size #[.int .i64 0,.int .i64 0,.string ⟨#[]⟩,.int .i64 0,.int .i64 0]):=(QM _ _).setRow (.inl AB) _;exact ⟨h1.trans hM4 (fun x hx => .inr AQ),h2.mods hM4 AE (by have:=HTG.out; simp; omega)⟩
  have KEY:=QH key;clear key;rcases hz with z0 | ⟨z0,z1⟩
  ·have hf1:=hfail _ HH.out.1;go_wp2_with fail;(with_reducible refine hf1.mono ?_);rintro e w3 ⟨rfl,hM3,hP3⟩;have hrow3:=hM3.heap HH.out.2 AE;have hMw:=(hMr.mono (L':=[pb])).trans hM3;obtain ⟨hMw4,hP4⟩:=KEY.out w3 hMw hP3 hrow3;have HP4:=QH hP4;clear hf1 hfail hnow hP3 hP4 hM3 a3 hbr;exact yau
  ·go_wp2_with fail;(with_reducible refine hnow.mono ?_);rintro e w2 ⟨rfl,hM2⟩;have hf1:=hfail w2 (HH.out.1.later hM2);go_wp2_with fail;(with_reducible refine hf1.mono ?_);rintro e w3 ⟨rfl,hM3,hP3⟩;have hrow3:=hM3.heap (hM2.heap HH.out.2) AE;have hMw:=((hMr.trans hM2).mono (L':=[pb])).trans hM3;obtain ⟨hMw4,hP4⟩:=KEY.out w3 hMw hP3 hrow3;have HP4:=QH hP4;clear hf1 hfail hnow hP3 hP4 hM3 a3 hbr hM2;exact yau
theorem zdt (w:World) (pb tg:Nat) (s:PS) (f:Nat) (h:PSt w pb tg s f) :
  Calls Tryz.prog 56 #[zh pb] w fun e w' => e = .returned (.string ⟨s.name.1.toArray⟩) ∧ Mods [pb] w w' ∧ PSt w' pb tg s.name.2 f:=by
 have hof:Calls Tryz.prog 63 #[zh pb,.int .i64 2] w _:=zkC w pb tg s f h 2 (fun _ hk => h.wfTail AA);unfold PS.name;unfold zh at *;generalize s.of 2=r at *;obtain ⟨t,b,s2⟩:=r;clear h;go_enter Tryz.func56, Tryz.ntmps56;go_wp2_with fail;(with_reducible refine hof.mono ?_);rintro e w2 ⟨rfl,hM2,hP2⟩;clear hof;go_wp2_with fail;go_ret;exact ⟨rfl,hM2.alloc _,hP2.later ((QM [] w2).alloc _)⟩
theorem zeU (w:World) (pb tg:Nat) (s:PS) (f:Nat) (h:PSt w pb tg s f) :
  Calls Tryz.prog 62 #[zh pb] w fun e w' => e = .returned (.int .i64 s.count.1) ∧ Mods [pb] w w' ∧ PSt w' pb tg s.count.2 f:=by
 have hnow:=zaO w pb tg s f h;have hfd:=zjy s.now;have hfail:=fun W (hP:PSt W pb tg s f) => zds W pb tg s f hP;have hof:∀ W s1,PSt W pb tg s1 f → Calls Tryz.prog 63 #[zh pb,.int .i64 3] W fun e w' => e = .returned (.tuple #[.agg #[.int .i64 (s1.of 3).1.kind,.int .i64 (s1.of 3).1.pos,.string ⟨(s1.of 3).1.s.toArray⟩,.int .i64 (s1.of 3).1.n,.int .i64 (s1.of 3).1.scale],.bool (s1.of 3).2.1]) ∧ Mods [pb] W w' ∧ PSt w' pb tg (s1.of 3).2.2 f:=fun W s1 h1 => zkC W pb tg s1 f h1 3 (fun _ hk => h1.wfTail AA);have HP:=QH h;unfold PS.count;simp only;obtain ⟨s1,hs1⟩:=EX ((if 0 < s.now.scale then s.fail 8 else s));rw [hs1];replace hof:=fun W => hof W s1;generalize s1.of 3=r at *;obtain ⟨t,b,s2⟩:=r;have HS1:=QH hs1;unfold zh at *;clear h hs1;go_enter Tryz.func62, Tryz.ntmps62;by_cases hs:0 < s.now.scale
 ·have hs1:=HS1.out;rw [if_pos hs] at hs1;have z0:(0:Int) < (s.now.scale:Int):=by omega
  clear hs;go_wp2_with fail;(with_reducible refine hnow.mono ?_);rintro e w2 ⟨rfl,hM2⟩;have hf1:=hfail w2 (HP.out.later hM2);rw [hs1] at hf1;clear hnow hfail hs1;go_wp2_with fail;(with_reducible refine hf1.mono ?_);rintro e w3 ⟨rfl,hM3,hP3⟩;have ho:=hof w3 hP3;have hMw:=(hM2.mono (L':=[pb])).trans hM3;clear hof hf1 hP3 hM2 hM3;exact ybe
 ·have hs1:=HS1.out;rw [if_neg hs] at hs1;have z0:=decide_eq_false (show ¬ (0:Int) < (s.now.scale:Int) by omega);have z1:¬ (0:Int) < (s.now.scale:Int):=by omega
  clear hs;go_wp2_with fail;(with_reducible refine hnow.mono ?_);rintro e w3 ⟨rfl,hM3⟩;have ho:=hof w3 (by rw [← hs1]; exact HP.out.later hM3);have hMw:=hM3.mono (L':=[pb]);clear hof hM3 hnow hfail hs1;exact ybe
theorem PSt.f64 {w:World} {pb tg:Nat} {s:PS} {f:Nat} (h:PSt w pb tg s f):f ≤ 64:=by obtain ⟨l,-,-,-,h4,-⟩:=h; exact h4
theorem zdW (w:World) (pb tg:Nat) (s:PS) (f:Nat) (h:PSt w pb tg s f) :
  Calls Tryz.prog 59 #[zh pb] w (PRes pb tg f zY s w):=by
 have hnow:=zaO w pb tg s f h;have hfd:=zaA s.now;have hname:=fun W s1 (hP:PSt W pb tg s1 f) => zdt W pb tg s1 f hP;have htk:=fun W s1 (hP:PSt W pb tg s1 f) => zU W pb tg s1 f hP wPoint;have hpw:=h.lt;have HP:=QH h;have HF:Hid (zY s=if (s.name.2.takes wPoint).1=true then (.leaf { op:=oColumn,pos:=s.now.pos,table:=s.name.1,name:=(s.name.2.takes wPoint).2.name.1 },(s.name.2.takes wPoint).2.name.2) else (.leaf { op:=oColumn,pos:=s.now.pos,name:=s.name.1 },(s.name.2.takes wPoint).2)):=QH rfl;have FIN:Hid (∀ b w',Mods [pb] w w' → PSt w' pb tg (zY s).2 f → (∀ L:List Nat,(∀ x ∈ L,x < w.heap.size) → ExprAt 171 103 w' L (zh b) (zY s).1) → PRes pb tg f zY s w (.returned (zh b)) w'):=QH (fun b w' h1 h2 h3 => ⟨b,rfl,h1,h2,fun _ => h3⟩);unfold zh at *;clear h;go_enter Tryz.func59, Tryz.ntmps59;go_wp2_with fail;(with_reducible refine hnow.mono ?_);rintro e w2 ⟨rfl,hM2⟩;have hn1:=hname w2 s (HP.out.later hM2);clear hnow;go_wp2_with fail;(with_reducible refine hn1.mono ?_);rintro e w3 ⟨rfl,hM3,hP3⟩;have hMA:=(QM [] w3).alloc (.cells #[.string ⟨#[99,111,108,117,109,110]⟩,.int .i64 s.now.pos,.string ⟨#[]⟩,.string ⟨s.name.1.toArray⟩,.int .i64 0,.int .i64 0,.string ⟨#[]⟩,.slice none 0 0] 171);have hxb:=QN w3 (.cells #[.string ⟨#[99,111,108,117,109,110]⟩,.int .i64 s.now.pos,.string ⟨#[]⟩,.string ⟨s.name.1.toArray⟩,.int .i64 0,.int .i64 0,.string ⟨#[]⟩,.slice none 0 0] 171);have ht:=htk _ _ (hP3.later hMA);have hs2:=hM2.size;have hs3:=hM3.size;have hMw:=((hM2.mono (L':=[pb])).trans hM3).trans (hMA.mono (L':=[pb]) AB);unfold wPoint at ht;clear hn1 htk hP3;go_wp2_with fail;(with_reducible refine ht.mono ?_);rintro e w4 ⟨rfl,hM4,hP4⟩;clear ht;have hx4:=hM4.heap hxb AE;have hMw4:=hMw.trans hM4;have hlt:w3.heap.size < w4.heap.size:=zj hx4;generalize hxe:w3.heap.size=xb at *;have hpx:pb < xb:=by omega
 have htx:tg < xb:=by omega
 have hwx:w.heap.size ≤ xb:=by omega
 clear hM4 hMw hxb hMA hM2 hM3 hs2 hs3;change PSt w4 pb tg (s.name.2.takes wPoint).2 f at hP4;obtain ⟨b,hb⟩:=EX ((s.name.2.takes wPoint).1);have hb':(s.name.2.takes [46]).1=b:=hb;rw [hb']
 cases b with
 | false =>
  have hF2:zY s=(.leaf { op:=oColumn,pos:=s.now.pos,name:=s.name.1 },(s.name.2.takes wPoint).2):=by rw [HF.out,if_neg (by rw [hb]; decide)]
  have hfin:=FIN.out xb w4 hMw4 (by rw [hF2]; exact hP4) (by rw [hF2]; exact fun L hL => ⟨xb,rfl,fun hm => by have:=hL _ hm; omega,hx4⟩);clear FIN HF hname hP4 hb hb' hF2;go_wp2_with fail;go_ret;exact hfin
 | true =>
  have hF2:zY s=(.leaf { op:=oColumn,pos:=s.now.pos,table:=s.name.1,name:=(s.name.2.takes wPoint).2.name.1 },(s.name.2.takes wPoint).2.name.2):=by rw [HF.out,if_pos hb]
  have hn2:=hname w4.drew _ (hP4.later ((QM [] w4).drew));have HF2:=QH hF2;clear hname hb hb' hF2 HF;generalize (s.name.2.takes wPoint).2=s2 at *;have x3:w4.drew.cell? ⟨xb,3,none⟩ = some (.string ⟨s.name.1.toArray⟩):=(za hx4 3).trans rfl;go_wp2_with fail;go_region_with ((with_reducible refine hn2.mono ?_); rintro e w5 ⟨rfl,hM5,hP5⟩; have hx5:=hM5.heap (show w4.drew.heap[xb]? = _ from hx4) AE; have y2:=(za hx5 2).trans rfl; have y3:=(za hx5 3).trans rfl; have g2:=zc hx5 2; have g3:=zc hx5 3)
  all_goals
   have hM6:Mods [xb] w5 ((w5.setCell ⟨xb,2,none⟩ (.string ⟨s.name.1.toArray⟩)).setCell ⟨xb,3,none⟩ (.string ⟨s2.name.1.toArray⟩)):=((QM _ _).setCell (.inl AB) _).setCell (.inl AB) _;have hx6:=zb (zb hx5 2 (.string ⟨s.name.1.toArray⟩)) 3 (.string ⟨s2.name.1.toArray⟩);have hMw6:=((hMw4.trans ((QM [] w4).drew)).trans hM5).trans hM6 (fun x hx => .inr AQ);have hfin:=FIN.out xb _ hMw6 (by rw [HF2.out]; exact hP5.mods hM6 AE AE) (by rw [HF2.out]; exact fun L hL => ⟨xb,rfl,fun hm => by have:=hL _ hm; omega,hx6⟩);have HFIN:=QH hfin;clear hfin hx6 hM6 hMw6 hP5 hM5 hn2 FIN;go_wp2_with fail;go_ret;exact HFIN.out
theorem zcj (w:World) (pb tg:Nat) (s:PS) (h:PSt w pb tg s 0) (v:Value) :
  Calls Tryz.prog 196 #[zh pb,v] w fun e w' => e = .returned (.tuple #[]) ∧ Mods [pb] w w' ∧ PSt w' pb tg (s.fail 9) 0:=by
 obtain ⟨off,cap,hb,-⟩:=h.tok;have hf1:=zkB w pb tg s 0 h;have a1:=(za hb 1).trans rfl;change w.cell? _=some (.int .i64 (64 - ((0:Nat):Int))) at a1;rw [show (64 - ((0:Nat):Int))=64 from rfl] at a1;unfold zh at *;clear h;go_enter Tryz.func196, Tryz.ntmps196;go_wp2_with fail;(with_reducible refine hf1.mono ?_);rintro e w2 ⟨rfl,hM2,hP2⟩;obtain ⟨off2,cap2,hb2,-⟩:=hP2.tok;have he:(s.fail 9).e ≠ 0:=by
  unfold PS.fail;split
  ·simp
  ·assumption
 have a3:=(za hb2 3).trans rfl;change w2.cell? _=some (.int .i64 (s.fail 9).e) at a3;have z:(((s.fail 9).e:Int) != 0)=true:=bne_iff_ne.2 AA;have HP:=QH hP2;obtain ⟨s2,hs2⟩:=EX (s.fail 9);rw [hs2] at a3 z;clear hf1 hb2 hP2 a1 he hs2;go_wp2_with fail;exact bodyPost_ret (results_none rfl _ _ _) rfl ⟨rfl,hM2,HP.out⟩
theorem zdu (w:World) (pb tg:Nat) (s:PS) (f:Nat) (h:PSt w pb tg s (f + 1)) (he:s.e=0) (hk:s.now.kind ≠ 0) (c:FuncId) (hc:c = 197 ∨ c = 228 ∨ c = 229) (x y:Value) (s2:PS) (B:World → Prop)
  (hB:∀ W,Mods [pb] w W → PSt W pb tg s.next f → Calls Tryz.prog c #[x,y] W fun e W' => e = .returned (.tuple #[]) ∧ PSt W' pb tg s2 f ∧ B W') :
  Calls Tryz.prog 196 #[zh pb,.func (.func c) #[] #[x,y]] w fun e w' => e = .returned (.tuple #[]) ∧ PSt w' pb tg s2 (f + 1) ∧ ∃ W1,B W1 ∧ Mods [pb] W1 w':=by
 obtain ⟨off,cap,hb,-⟩:=h.tok;have hf:=h.f64;have a1:=(za hb 1).trans rfl;change w.cell? _=some (.int .i64 (64 - ((f + 1:Nat):Int))) at a1;have a3:=(za hb 3).trans rfl;change w.cell? _=some (.int .i64 s.e) at a3;have z0:((64 - ((f + 1:Nat):Int)) == 64)=false:=by rw [beq_eq_false_iff_ne]; omega
 have z:((s.e:Int) != 0)=false:=bne_eq_false_iff_eq.2 AA;obtain ⟨d,hd⟩:=EX ((64 - ((f + 1:Nat):Int)):Int);obtain ⟨d1,hd1⟩:=EX ((64 - (f:Int)):Int);have hdd:d + 1=d1:=by omega
 rw [hd] at a1 z0;have g1:=zc hb 1;have hM1:Mods [pb] w (w.setCell ⟨pb,1,none⟩ (.int .i64 d1)):=(QM _ _).setCell (.inl AB) _;have hP1:=h.turn (s':=s) (f':=f) hM1 hb rfl AA (by rw [hd1]; exact zb hb 1 (.int .i64 d1));have hn:=za9 _ pb tg s f hP1 (h.wfTail hk);have HD:=QH (AI hd hd1);have hbd:(-9223372036854775808 ≤ d ∧ d ≤ 9223372036854775807) ∧ (0 ≤ d1 ∧ d1 ≤ 64):=by omega
 have HB:=QH hB;unfold zh at *;clear h hb he hd hd1 hP1 hB;rcases hc with rfl | rfl | rfl
 all_goals
  go_enter Tryz.func196, Tryz.ntmps196;go_wp2_with fail;(with_reducible refine hn.mono ?_);rintro e w2 ⟨rfl,hM2,hP2⟩;have hb2:=HB.out w2 (hM1.trans hM2) hP2;clear hn hP2 hM2 hM1 a1 a3 g1;go_wp2_with fail;(with_reducible refine hb2.mono ?_);rintro e w3 ⟨rfl,hP3,hB3⟩;obtain ⟨off3,cap3,hb3,-⟩:=hP3.tok;rw [HD.out.2] at hb3;have b1:=(za hb3 1).trans rfl;change w3.cell? _=some (.int .i64 d1) at b1;have g1:=zc hb3 1;have hdd2:d1 - 1=d:=by omega
  have hM4:Mods [pb] w3 (w3.setCell ⟨pb,1,none⟩ (.int .i64 d)):=(QM _ _).setCell (.inl AB) _;have hP4:=hP3.turn (s':=s2) (f':=f + 1) hM4 (by rw [HD.out.2]; exact hb3) rfl AA (by rw [HD.out.1]; exact zb hb3 1 (.int .i64 d));have HP4:=QH hP4;clear hb2 hb3 hP3 hP4 hdd;go_wp2_with fail;go_end0;exact ⟨rfl,HP4.out,w3,hB3,hM4⟩
def Filled (W0:World) (xb:Nat) (h:Hd) (F:PF) (s1:PS) (W W':World):Prop:=
 ∃ ab yb,W'.heap[xb]? = some (.cells (hdC h (.slice (some ⟨ab,0,none⟩) 1 1)).toArray 171 (0,0)) ∧ W'.heap[ab]? = some (.cells #[zh yb] 103 (0,0)) ∧ W.heap.size ≤ ab ∧ ((F s1).2.e=0 → ∀ L:List Nat,(∀ x ∈ L,x < W.heap.size) → ExprAt 171 103 W' L (zh yb) (F s1).1)
theorem zdv {W w5:World} {pb tg f xb yb:Nat} {h:Hd} {F:PF} {s1:PS} (hxp:xb ≠ pb) (hxt:xb ≠ tg) (hxw:xb < W.heap.size) (hx5:w5.heap[xb]? = some (.cells (hdC h (.slice none 0 0)).toArray 171 (0,0))) (hM5:Mods [pb] W.drew w5) (hP5:PSt w5 pb tg (F s1).2 f)
  (hE5:(F s1).2.e=0 → ∀ L:List Nat,(∀ x ∈ L,x < W.drew.heap.size) → ExprAt 171 103 w5 L (zh yb) (F s1).1) :
  PSt ((w5.alloc (.cells #[.pointer (some ⟨yb,0,none⟩)] 103)).setCell ⟨xb,7,none⟩ (.slice (some ⟨w5.heap.size,0,none⟩) 1 1)) pb tg (F s1).2 f ∧ Mods [pb,xb] W ((w5.alloc (.cells #[.pointer (some ⟨yb,0,none⟩)] 103)).setCell ⟨xb,7,none⟩ (.slice (some ⟨w5.heap.size,0,none⟩) 1 1)) ∧ Filled W xb h F s1 W ((w5.alloc (.cells #[.pointer (some ⟨yb,0,none⟩)] 103)).setCell ⟨xb,7,none⟩ (.slice (some ⟨w5.heap.size,0,none⟩) 1 1)):=by
 have z6:=(QM [] w5).alloc (.cells #[.pointer (some ⟨yb,0,none⟩)] 103);have z7:∀ L,xb ∈ L → Mods L w5 ((w5.alloc (.cells #[.pointer (some ⟨yb,0,none⟩)] 103)).setCell ⟨xb,7,none⟩ (.slice (some ⟨w5.heap.size,0,none⟩) 1 1)):=fun L hL => (z6.mono).setCell (.inl hL) _;have hs5:=hM5.size;have hs5':W.heap.size ≤ w5.heap.size:=hs5;have hM5w:Mods [pb] W w5:=((QM [pb] W).drew).trans hM5;refine ⟨hP5.mods (z7 [xb] AB) (by simpa using hxp.symm) (by simpa using hxt.symm),(hM5w.mono).trans (z7 [pb,xb] AB),w5.heap.size,yb,zb (z6.heap hx5) 7 _,?_,hs5',fun he L hL => ?_⟩
 ·exact ((QM [xb] _).setCell (p:=⟨xb,7,none⟩) (.inl AB) _).heap (QN w5 _) AE
 ·have h1:=hE5 he (xb :: L) (fun x hx => by
   rcases MC hx with rfl | hx
   ·exact hxw
   ·exact hL x hx)
  exact (h1.mods (z7 (xb :: L) AB)).weaken (fun x hx => CM _ hx)
theorem zgu (W:World) (pb tg:Nat) (f:Nat) (F:PF) (s1:PS) (ob xc xb:Nat) (h:Hd)
  (ho:W.cell? ⟨ob,0,none⟩ = some (.func (.func 222) #[zh pb] #[])) (hx:W.cell? ⟨xc,0,none⟩ = some (zh xb)) (hxb:W.heap[xb]? = some (.cells (hdC h (.slice none 0 0)).toArray 171 (0,0))) (hxp:xb ≠ pb) (hxt:xb ≠ tg) (hcp:xc ≠ pb) (hop:ob ≠ pb)
  (hown:∀ W2,Mods [] W W2 → Calls Tryz.prog 222 #[zh pb] W2 (PRes pb tg f F s1 W2)) :
  Calls Tryz.prog 197 #[.pointer (some ⟨ob,0,none⟩),.pointer (some ⟨xc,0,none⟩)] W fun e W' => e = .returned (.tuple #[]) ∧ PSt W' pb tg (F s1).2 f ∧ Mods [pb,xb] W W' ∧ Filled W xb h F s1 W W':=by
 exact yaq
theorem zhT (W:World) (pb tg:Nat) (f:Nat) (F:PF) (s1:PS) (ob xc xb:Nat) (h:Hd)
  (ho:W.cell? ⟨ob,0,none⟩ = some (.func (.func 131) #[zh pb] #[])) (hx:W.cell? ⟨xc,0,none⟩ = some (zh xb)) (hxb:W.heap[xb]? = some (.cells (hdC h (.slice none 0 0)).toArray 171 (0,0))) (hxp:xb ≠ pb) (hxt:xb ≠ tg) (hcp:xc ≠ pb) (hop:ob ≠ pb)
  (hown:∀ W2,Mods [] W W2 → Calls Tryz.prog 131 #[zh pb] W2 (PRes pb tg f F s1 W2)) :
  Calls Tryz.prog 197 #[.pointer (some ⟨ob,0,none⟩),.pointer (some ⟨xc,0,none⟩)] W fun e W' => e = .returned (.tuple #[]) ∧ PSt W' pb tg (F s1).2 f ∧ Mods [pb,xb] W W' ∧ Filled W xb h F s1 W W':=by
 exact yaq
end Go.Proofs.YtcabeljiobiojaaGreatDoor
