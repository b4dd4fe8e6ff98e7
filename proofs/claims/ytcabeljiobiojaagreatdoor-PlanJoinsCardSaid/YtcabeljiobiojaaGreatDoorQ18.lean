/-
  A region that draws its order: operations that change the world, in an order that is forced, and others that only read: what only reads is gone through ahead, each stretch once, in any world of a class; what changes the world is gone through in its order. No condition.
-/
import Derived.Test.YtcabeljiobiojaaGreatDoorMix
import Derived.Test.YtcabeljiobiojaaGreatDoorQ16
import Derived.StillTailTactics
import Derived.Deep.MidRow
set_option linter.unusedVariables false
set_option maxRecDepth 100000
set_option maxHeartbeats 4000000
namespace Go.Proofs.YtcabeljiobiojaaGreatDoor
open Go.RowKit
theorem BM {p:Prop} (h:p:=by rw [HH.out.2.2.2.2.2.2.2.2.2.2.1]; rfl):p:=h
theorem BJ {p:Prop} (h:p:=by rw [zl]; exact hg9):p:=h
theorem BE {p:Prop} (h:p:=by simpa using hnsb):p:=h
theorem BD {p:Prop} (h:p:=by rw [hOO]; exact HC.out.2.1):p:=h
theorem BC {p:Prop} (h:p:=by have h1:=HW.out.1; have h2:(w7b.alloc (.cells #[v1,v2] 76)).drew.heap.size=w7b.heap.size + 1:=hs8; omega):p:=h
theorem AU {p:Prop} (h:p:=by rw [(zJ _ _ _).2,(zJ _ _ _).2]; exact hd):p:=h
theorem AP {p:Prop} (h:p:=by simp [Value.oneCell']):p:=h
theorem AO {p:Prop} (h:p:=by have h1:=HW.out.1; have h2:=HZ.out.2.1; omega):p:=h
theorem AH {p:Prop} (h:p:=by simpa using hm):p:=h
theorem yeH {p:Prop} (h:p:=by
  rw [← HH.out.1];obtain ⟨hOO,-,hkd6,-,-,hxs,he,hp,hlx,hlv,he1⟩:=HT.out;obtain ⟨hav,hao2,hav0⟩:=HA.out;have hE:=zcm env d t HH.out.2.2.2.2.2.2.2.2.2.1;rw [HH.out.2.2.2.2.2.2.2.2.1,hxs] at hE;have hE:zq env t d=zcX d t.hd (zcy xs 0) (zcy xs 1) (fun n => mkN n xs):=hE
  first
  |clear gEh
   have hff:=zdD (d:=d) (h:=t.hd) (a:=zcy xs 0) (b:=zcy xs 1) (mk:=fun n => mkN n xs) (c:=false) (ok:=true) BD BM pos;have gD3:=QH trivial;exact yeC
  |clear gEi
   have hff:=zdD (d:=d) (h:=t.hd) (a:=zcy xs 0) (b:=zcy xs 1) (mk:=fun n => mkN n xs) (c:=true) (ok:=false) BD BM pos;have gD4:=QH trivial;exact yeC
  |clear gEj
   have hff:=zdD (d:=d) (h:=t.hd) (a:=zcy xs 0) (b:=zcy xs 1) (mk:=fun n => mkN n xs) (c:=true) (ok:=false) BD BM pos;have gD5:=QH trivial;exact yeC
  |clear gEk
   have hff:=zdD (d:=d) (h:=t.hd) (a:=zcy xs 0) (b:=zcy xs 1) (mk:=fun n => mkN n xs) (c:=false) (ok:=true) BD (by rw [HH.out.2.2.2.2.2.2.2.2.2.2.1]; rw [decide_eq_false (by have:=HD0.out; omega)]; rfl) pos;have gD6:=QH trivial;exact yeC
  |clear gEl
   have hff:=zdD (d:=d) (h:=t.hd) (a:=zcy xs 0) (b:=zcy xs 1) (mk:=fun n => mkN n xs) (c:=true) (ok:=true) BD (by rw [HH.out.2.2.2.2.2.2.2.2.2.2.1]; rw [decide_eq_true hd0]; rfl) pos;have gD7:=QH trivial;exact yeC
 ):p:=h
theorem yeG {p:Prop} (h:p:=by
  change zct _ _ _ _ _ [(_,[])] _ _;refine zv fun R1 hR1 => ?_;have hcl:=HC.out.1 _ (show zaX (World.drew _) sb cv mb d p1 e1 from HC.out.2.2.2.2.1) false 4 t.hd.pos;change Calls _ _ #[.pointer (some ⟨sb,0,none⟩),.bool false,.int .i64 4,.int .i64 t.hd.pos] _ _ at hcl
  first
  |clear gEf
   have gC2:=QH trivial;exact yef
  |clear gEg
   have gC5:=QH trivial;exact yef
 ):p:=h
theorem yeE {p:Prop} (h:p:=by
  change zct _ _ _ _ _ [(_,[])] _ _;refine zv fun R1 hR1 => ?_;have hcl:=HC.out.1 _ (show zaX (World.drew _) sb cv mb d p1 e1 from HC.out.2.2.2.2.1) true 4 t.hd.pos;change Calls _ _ #[.pointer (some ⟨sb,0,none⟩),.bool true,.int .i64 4,.int .i64 t.hd.pos] _ _ at hcl
  first
  |clear gEa
   have gC3:=QH trivial;exact yef
  |clear gEb
   have gC4:=QH trivial;exact yef
  |clear gEc
   have gC6:=QH trivial;exact yef
 ):p:=h
theorem yeD {p:Prop} (h:p:=by
  obtain ⟨ab,tt,rfl,rfl,hab,hbab,hM7,htt⟩:=hcut;unfold zh;obtain ⟨ok,hok⟩:=EX (OO.isSome);rw [hok];have st7:=hM7.heap HI.out.2.2.2.2.1;have c2:=za st7 2;change World.cell? _ _=some (Value.int .i64 d) at c2;have x17:=hM7.cell x1;have hnode7:=hM7.heap HT.out.2.2.2.1;have hcf:=fun W (h:zaX W sb cv mb d p1 e1) => zF W sb cv mb d p1 e1 h;have HC:=QH (AI hcf (AI hok (AI htt (AI hM7 (AI st7 (AI hbab (AI hab hnode7)))))));clear hcf hok htt hM7 st7 hbab hnode7 x0 x1 a7 c4
  first
  |clear gD8
   cases ok with
   | true =>have gDM:=QH trivial;exact yew
   | false =>have gDN:=QH trivial;exact yew
  |clear gD9
   cases ok with
   | false =>have gDO:=QH trivial;exact yew
   | true =>
    rcases Nat.eq_zero_or_pos d with hd0 | hd0
    ·have q2:decide ((0:Int) < (d:Int))=false:=decide_eq_false AA;have q3:¬ (0:Int) < (d:Int):=by omega
     have q4:decide (0 < d)=false:=decide_eq_false AA;have HD0:=QH hd0;clear hd0;have gDP:=QH trivial;exact yew
    ·have q2:decide ((0:Int) < (d:Int))=true:=decide_eq_true AA;have q3:(0:Int) < (d:Int):=by omega
     have gDQ:=QH trivial;exact yew
 ):p:=h
theorem yeC {p:Prop} (h:p:=by
  refine ⟨nb,rfl,HI.out.1.nbl,(HI.out.2.2.2.2.2.trans hM69 (fun x hx => by simp at hx; rcases hx with rfl | rfl; exact .inl AB; exact .inr HI.out.1.nbl)),?_,fun _ m hm L hL => ?_⟩
  ·rw [hE,he,hff];have:=hM9.heap st8 (by simpa using hnsb.symm);rw [hp,he1] at this;exact this
  first
  |clear gD3
   ·have gDH:=QH trivial;exact yev
  |clear gD4
   ·have gDI:=QH trivial;exact yev
  |clear gD5
   ·have gDJ:=QH trivial;exact yev
  |clear gD6
   ·have gDK:=QH trivial;exact yev
  |clear gD7
   ·have gDL:=QH trivial;exact yev
 ):p:=h
theorem yez {p:Prop} (h:p:=by
  obtain rfl:n=i:=by omega
  have hchk:=hI.chk;rw [List.take_of_length_le (by rw [HH.out.2.2.2.2.2.2.2.2.2.2.2.1]; exact LR _)] at hchk;have hkids:=hI.kids;rw [List.take_of_length_le (by rw [HH.out.2.2.2.2.2.2.2.2.2.2.2.1]; exact LR _)] at hkids;have s2:=za hI.st 2
  first
  |clear gDW
   change wr.cell? _=some (.int .i64 ((d:Int))) at s2;have gDd:=QH trivial;exact yei
  |clear gDX
   change wr.cell? _=some (.int .i64 ((d:Int) + 1)) at s2;have gDe:=QH trivial;exact yei
 ):p:=h
theorem yey {p:Prop} (h:p:=by
  obtain ⟨i0,hi,hz0,hz1,hz2⟩:=info_parts (show (Tryz.prog.info? 51).map (fun i => (i.zero,i.size,i.bytes))=some (some (.pointer none),1,8) by kernel_rfl)
  first
  |guard_hyp gDT
   have HI:=QH (AI hI (AI hat hca));have HU:=QH (AI hi (AI hz0 (AI hz1 hz2)));clear hI hat hca hu hae hcells hcs hi hz0 hz1 hz2;go_upto_region 17 with fail;apply zr AC [0,1,2,3,4,5,6,10,11] [(7,[]),(8,[]),(9,[]),(12,[])] false AC (fun y => y.cell? ⟨nb,7,none⟩ = some av)
   case hC => exact a7
   case hwalk =>intro y hy;change wpQuiet _ _ _ _ [_,_,_,_,_,_,_,_,_] _;(repeat go_big_quiet_step (fail));refine QW ?_;exact rfl
   first
   |clear gC7
    case hrun =>have gBB:=QH trivial;exact ydx
   |clear gC8
    case hrun =>have gBC:=QH trivial;exact ydx
  |guard_hyp gDU
   have HC:=QH (AI c7 (AI k0 k1));have HH:=QH (AI hPP (AI h2 (AI hlen (AI hi (AI hz0 (AI hz1 hz2))))));clear hN0 hb hA0 hD0 hM0 hop hs hPP h2 hlen iha ihd hi hz0 hz1 hz2;unfold zh at *;go_enter Tryz.func12, Tryz.ntmps12;go_upto_region 4 with fail;apply zr AC [0,1,2,3,4,5,7,8,9,10,11,12] [(6,[]),(13,[]),(14,[]),(15,[])] false AC (fun y => y.cell? ⟨b,7,none⟩ = some (.slice (some ⟨c,0,none⟩) 2 cap) ∧ y.cell? ⟨c,0,none⟩ = some (.pointer (some ⟨pa,0,none⟩)) ∧ y.cell? ⟨c,1,none⟩ = some (.pointer (some ⟨pd,0,none⟩)))
   case hC => exact ⟨c7,k0,k1⟩
   case hwalk =>rintro y ⟨y7,y0,y1⟩;change wpQuiet _ _ _ _ [_,_,_,_,_,_,_,_,_,_,_,_] _;(repeat go_big_quiet_step (fail));refine QW ?_;exact rfl
   case hrun =>
    change zct _ _ _ _ _ [(_,[]),(_,[]),(_,[]),(_,[])] _ _;refine zv fun R1 hR1 => ?_;go_wp2_with fail;(with_reducible refine h1.mono ?_);rintro r w2 ⟨v1,bs1,rfl,ho1,hn1⟩;have hl1:=hn1.len;have hC2:w2.cell? ⟨b,7,none⟩ = _ ∧ w2.cell? ⟨c,0,none⟩ = _ ∧ w2.cell? ⟨c,1,none⟩ = _:=⟨ho1.1.cell c7,ho1.1.cell k0,ho1.1.cell k1⟩;have h2:=HH.out.2.1 w2 ho1.1;have H1:=QH (AI ho1 (AI hn1 hl1));clear h1 ho1 hn1 hl1 c0;unfold zh at h2;go_wp2_with fail;refine zd (hR1 _ _ (.inr hC2) ?_);clear hR1 R1;refine zv fun R2 hR2 => ?_;go_wp2_with fail;(with_reducible refine h2.mono ?_);rintro r w3 ⟨v2,bs2,rfl,ho2,hn2⟩;have hl2:=hn2.len;have hp2:0 < bs2.length:=by rw [hl2]; exact zpQ d
    have hC3:w3.cell? ⟨b,7,none⟩ = _ ∧ w3.cell? ⟨c,0,none⟩ = _ ∧ w3.cell? ⟨c,1,none⟩ = _:=⟨ho2.1.cell hC2.1,ho2.1.cell hC2.2.1,ho2.1.cell hC2.2.2⟩;obtain ⟨g2,cap2,rfl⟩:=zpU ho2.2.1 hp2;have hown1:=zm H1.out.1.2.1 ho2.1 AB;have hcells2:=(zqw ho2.2.1).2.2;have H2:=QH (AI ho2 (AI hn2 (AI hl2 hp2)));clear h2 ho2 hn2 hC2 c7 k0 k1 hl2;go_wp2_with fail;refine zd (hR2 _ _ (.inr hC3) ?_);clear hR2 R2;refine zv fun R3 hR3 => ?_;obtain ⟨hi,hz0,hz1,hz2⟩:=HH.out.2.2.2;refine zw _ rfl _ _ 46 rfl 51 i0 _ 1 8 Tryz.underlying46 hi hz0 hz1 hz2 rfl AD v1 bs1.length (bs1.map zh) rfl hown1 ⟨g2,0,none⟩ bs2.length cap2 (bs2.map zh) rfl ?c1 ?c2 ?c3 ?c4 ?c5 ?c6 ?_
    case c1 => simp
    case c2 => intro j u hj; rw [zci,Nat.zero_add]; exact hcells2 j u hj
    case c3 => intro u hu; simp at hu; obtain ⟨z,-,rfl⟩:=hu; rfl
    case c4 => exact hp2
    case c5 => have h1:=HH.out.2.2.1; have h2:=H1.out.2.2; have h3:=H2.out.2.2.1; unfold maxLen; omega
    case c6 => have h1:=HH.out.2.2.1; have h2:=H1.out.2.2; have h3:=H2.out.2.2.1; omega
    intro g5 cap5 w5 hown5 hM5 hg5
    have hold:∀ {p:Addr} {z:Value},w.cell? p=some z → w3.cell? p=some z → w5.cell? p=some z:=fun hp hp3 => hM5.cell hp3 (fun hm => by
     have h1:=H1.out.1.2.2 _ AH;have h2:=zD hp;change w.heap.size ≤ _ at h1
     omega)
    have hC5:=AI (hold HC.out.1 hC3.1) (AI (hold HC.out.2.1 hC3.2.1) (hold HC.out.2.2 hC3.2.2));have hfin:PP (.returned (.slice (some ⟨g5,0,none⟩) (bs1.length + bs2.length) cap5)) w5:=by
     rw [← HH.out.1];refine ⟨_,bs1 ++ bs2,rfl,⟨?_,?_,fun g hg => ?_⟩,NodesAt.append H2.out.2.1 H1.out.2.1⟩
     ·exact ((((QM [] w).drew).trans H1.out.1.1).trans H2.out.1.1).trans hM5 (fun x hx => .inr (by have:=H1.out.1.2.2 x AJ; exact this))
     ·rw [List.length_append,List.map_append]; exact hown5
     ·obtain rfl:g5=g:=by simpa [Value.ownBlock] using hg
      rcases hg5 with h | h
      ·exact H1.out.1.2.2 g5 h
      ·have h1:=H1.out.1.1.size;have h2:=H2.out.1.1.size;change w.heap.size ≤ _ at h1;omega
    have HFIN:=QH hfin;clear hfin hold hown5 hM5 hg5 hi hz0 hz1 hz2 hown1 hcells2 hC3;go_wp2_with fail;refine zd (hR3 _ _ (.inr hC5) ?_);clear hR3 R3;refine zv fun R4 hR4 => ?_;go_wp2_with fail;refine zd (hR4 _ _ AB ?_);clear hR4 R4;refine zI ?_;go_wp2_with fail;exact HFIN.out
  |guard_hyp gDV
   obtain ⟨PP,hPP⟩:=EX (MakeRes w cb (makeP 4 one (splitO c.on ++ splitO c.whr)));rw [hPP];have HR:=QH hRo;have HC0:=QH c1;have HU:=QH (AI hi (AI hz0 (AI hz1 hz2)));have HH:=QH (AI hPP (AI hsp1 (AI hsp2 hlen)));clear hst hOn hWh hcols hI hT hR hone hleft hright hPP hsp1 hsp2 hRo hi hz0 hz1 hz2 hlen;unfold zh;go_enter Tryz.func11, Tryz.ntmps11;go_wp2_with fail;(with_reducible refine hrt.mono ?_);rintro e w1 ⟨rfl,hM1⟩;replace c0:=hM1.cell c0;replace c1:=hM1.cell c1;replace c2:=hM1.cell c2;replace c3:=hM1.cell c3;replace t1:=hM1.cell t1;clear hrt;go_upto_region 4 with fail;have hMa:=(QM [] w1).alloc (.cells #[.pointer (some ⟨cb,0,none⟩),.int .i64 4,.slice none 0 0,.slice none 0 0,.slice none 0 0,.slice none 0 0] 49);have hba:=QN w1 (.cells #[.pointer (some ⟨cb,0,none⟩),.int .i64 4,.slice none 0 0,.slice none 0 0,.slice none 0 0,.slice none 0 0] 49);have hsz1:=hM1.size;replace c1:=hMa.cell c1;replace c2:=hMa.cell c2;replace c3:=hMa.cell c3;have hMw:=hM1.trans hMa;generalize w1.alloc (.cells #[.pointer (some ⟨cb,0,none⟩),.int .i64 4,.slice none 0 0,.slice none 0 0,.slice none 0 0,.slice none 0 0] 49)=w2 at *;obtain ⟨pb,hpb⟩:=EX (w1.heap.size);rw [hpb] at hba hsz1;rw [hpb];have HB:=QH (AI hMw (AI hba hsz1));clear c0 t1 hM1 hMa hba hsz1 hMw hpb;apply zr AC [0,1,2,3,5,6,7,8,12] [(4,[]),(9,[]),(10,[]),(11,[])] true AC (fun y => y.cell? ⟨cb,2,none⟩ = some von ∧ y.cell? ⟨cb,3,none⟩ = some vwh)
   case hC => exact ⟨c2,c3⟩
   case hwalk =>rintro y ⟨y2,y3⟩;change wpQuiet _ _ _ _ [_,_,_,_,_,_,_,_,_] _;(repeat go_big_quiet_step (fail));refine QW ?_;exact rfl
   case hrun =>
    change zct _ _ _ _ _ [(_,[]),(_,[]),(_,[]),(_,[])] _ _;refine zv fun R1 hR1 => ?_;have h1:=HH.out.2.1 w2.drew HB.out.1.drew;go_wp2_with fail;(with_reducible refine h1.mono ?_);rintro r w3 ⟨v1,bs1,rfl,ho1,hn1,-⟩;have hC3:w3.cell? ⟨cb,2,none⟩ = _ ∧ w3.cell? ⟨cb,3,none⟩ = _:=⟨ho1.1.cell c2,ho1.1.cell c3⟩;have hk1:=(QM [] w2).drew.cell c1;replace hk1:=ho1.1.cell hk1;have h2:=HH.out.2.2.1 w3 (HB.out.1.drew.trans ho1.1);have H1:=QH (AI ho1 hn1);clear h1 ho1 hn1 c1;go_wp2_with fail;refine zd (hR1 _ _ (.inr hC3) ?_);clear hR1 R1;refine zv fun R2 hR2 => ?_;go_wp2_with fail;(with_reducible refine h2.mono ?_);rintro r w4 ⟨v2,bs2,rfl,ho2,hn2,hz⟩;have hC4:w4.cell? ⟨cb,2,none⟩ = _ ∧ w4.cell? ⟨cb,3,none⟩ = _:=⟨ho2.1.cell hC3.1,ho2.1.cell hC3.2⟩;replace hk1:=ho2.1.cell hk1;have H2:=QH (AI ho2 (AI hn2 hz));clear h2 ho2 hn2 hz hC3;go_wp2_with fail;refine zd (hR2 _ _ (.inr hC4) ?_);clear hR2 R2;refine zv fun R3 hR3 => ?_;obtain ⟨hi,hz0,hz1,hz2⟩:=HU.out;refine zp7 _ rfl _ _ 46 rfl 51 i0 _ 1 8 Tryz.underlying46 hi hz0 hz1 hz2 rfl AD v1 bs1.length (bs1.map zh) rfl (zm H1.out.1.2.1 H2.out.1.1 AB) v2 bs2.length (bs2.map zh) rfl H2.out.1.2.1 H2.out.2.2 ?c3 ?c5 ?c6 ?_
    case c3 => intro u hu; simp at hu; obtain ⟨z,-,rfl⟩:=hu; rfl
    case c5 => have h1:=HH.out.2.2.2; have h2:=H1.out.2.len; have h3:=H2.out.2.1.len; unfold maxLen; omega
    case c6 => have h1:=HH.out.2.2.2; have h2:=H1.out.2.len; have h3:=H2.out.2.1.len; omega
    intro v3 w5 hown5 hM5 hg5
    have hold:∀ {p:Addr} {z:Value},p.block < w2.heap.size → w4.cell? p=some z → w5.cell? p=some z:=fun hp h4 => hM5.cell h4 (fun hm => by
     have h1:=H1.out.1.2.2 _ AH;change w2.heap.size ≤ _ at h1
     omega)
    have hcb:=zD c2;change cb < w2.heap.size at hcb;have hC5:=AI (hold hcb hC4.1) (hold hcb hC4.2);have k5:=hold hcb hk1;obtain ⟨hMw2,hba,hpw⟩:=HB.out;have hpl:=zj hba;have hs12:=H1.out.1.1.size;have hs34:=H2.out.1.1.size;change w2.heap.size ≤ _ at hs12
    have hb5:=hM5.heap (H2.out.1.1.heap (H1.out.1.1.heap (show w2.drew.heap[pb]? = _ from hba) AB)) (fun hm => by
     have h1:=H1.out.1.2.2 _ AH;change w2.heap.size ≤ _ at h1
     omega)
    have hM05:Mods [] w w5:=(((hMw2.drew).trans H1.out.1.1).trans H2.out.1.1).trans hM5 (fun x hx => .inr (by
     have h1:=H1.out.1.2.2 x AJ;change w2.heap.size ≤ _ at h1;have:=hMw2.size
     omega))
    have hnodes:NodesAt w [] (bs1 ++ bs2) (splitO c.on ++ splitO c.whr):=NodesAt.append H2.out.2.1 H1.out.2;obtain ⟨base,cap3,rfl,hcap3⟩:=zqc hown5;have hbase:∀ g,base=some ⟨g,0,none⟩ → g ≠ pb:=fun g hg hx => by
     have h1:=hg5 g (by rw [hg]; rfl);rcases h1 with h1 | h1
     ·have h2:=H1.out.1.2.2 g h1;change w2.heap.size ≤ _ at h2;omega
     ·omega
    obtain ⟨l,hl⟩:=EX (splitO c.on ++ splitO c.whr);obtain ⟨bs,hbs⟩:=EX (bs1 ++ bs2);obtain ⟨n,hn⟩:=EX (bs1.length + bs2.length);have hbn:bs.length=n:=by rw [← hbs,← hn,List.length_append]
    rw [hl,hbs] at hnodes;have hln:l.length=n:=by rw [← hbn]; exact hnodes.len.symm
    rw [hn,← List.map_append,hbs] at hown5;rw [hn];have hnb:n ≤ 200000:=by have h1:=HH.out.2.2.2; have h2:=H1.out.2.len; have h3:=H2.out.2.1.len; omega
    have hMI:MakeI w w5 cb pb l one 0 w5:=⟨QM _ _,_,_,_,_,_,_,_,_,PlanM.start w w5 [] cb pb _ hb5⟩;have hPP:∀ pl w',Mods [] w w' → PlanAt w w' cb pb pl → makeP 4 one l=pl → PP (.returned (.tuple #[zh pb,.int .i64 0])) w':=fun pl w' h1 h2 h3 => by rw [← HH.out.1,hl,h3];exact ⟨pb,rfl,h1,hpw,h2⟩
    have hp5:pb < w5.heap.size:=by have:=hM5.size; omega
    have hcbw:=zD HC0.out;have HL:=QH (AI hown5 (AI hnodes (AI hM05 (AI hbase (AI hbn (AI hln (AI hnb (AI hpw (AI hp5 hcbw)))))))));have HI:=QH hMI;have HP:=QH hPP;have HK:=QH k5;clear hcbw hold hC4 hk1 k5 hMw2 hba hpl hs12 hs34 hb5 hM05 hnodes hbase hl hbs hn hbn hln hMI hPP hp5 hown5 hM5 hg5 hcap3 hi hz0 hz1 hz2 hpw hcb hnb;go_wp2_with fail;refine zd (hR3 _ _ (.inr hC5) ?_);clear hR3 R3;refine zv fun R4 hR4 => ?_;go_wp2_with fail;refine zd (hR4 _ _ (.inr hC5) ?_);clear hR4 R4;refine zI ?_;clear c2 c3 hC5 hq1 hq2;go_wp2_with fail;go_loopg [75] n (fun gk t75 wr => ∃ i:Nat,i + gk=n ∧ t75 = .int .i64 i ∧ MakeI w w5 cb pb l one i wr)
    case atStart => exact ⟨0,by omega,rfl,HI.out⟩
    obtain ⟨i,hin,rfl,hI⟩:=hrel;by_cases hlt:i < n
    ·obtain ⟨hMr,vl,vr,vt,vk,bl,br,bt,ps,hP⟩:=hI;obtain ⟨hown5,hnodes,hM05,hbase,hbn,hln,hnb,hpw,hp5,hcbw⟩:=HL.out;obtain ⟨g0,cap4,hv⟩:=zpU hown5 AA;simp only [Value.slice.injEq] at hv;obtain ⟨rfl,-,rfl⟩:=hv;have hib:i < bs.length:=by omega
     have hil:i < l.length:=by omega
     have k0:w5.cell? ⟨g0,i,none⟩ = some (zh bs[i]):=(zqw hown5).2.2 i _ (by simp [hib]);have hg0:=hbase g0 rfl;replace k0:=hMr.cell k0 (by simpa using hg0);have hN:=hnodes.at i hib hil;have hst:=zqC one l i hil;have hln2:=zqE one (l.take i);rw [List.length_take] at hln2;generalize bs[i]=b at *;generalize l[i]=nd at *;generalize makeP 4 one (l.take i)=p at *;have hMw:Mods [] w wr:=hM05.trans hMr (fun x hx => .inr AQ);have hsz:=hMr.size;have hpr:pb < wr.heap.size:=by omega
     have hl1:=hP.nl.len;have hl2:=hP.nr.len;have hl3:=hP.nt.len;have hl4:=hP.nk.len;have hbnd:bl.length ≤ 200000 ∧ br.length ≤ 200000 ∧ bt.length ≤ 200000 ∧ ps.length ≤ 200000:=by omega
     have c1p:=za hP.blk 1;change wr.cell? _=some (.int .i64 4) at c1p;have kR:=hMr.cell HK.out AE;have hNr:=hN.mods (hMw.mono (L':=[]));have hof:=zp5 wr [] _ nd 4 hNr;have hpr2:=fun W (hM:Mods [] wr W) => zra w W [] _ nd 4 hN (hMw.trans hM);obtain ⟨u1,hu1⟩:=EX ((usesN 4 nd).1);obtain ⟨u2,hu2⟩:=EX ((usesN 4 nd).2);unfold sideV at hof;rw [hu1,hu2] at hof;have HS:=QH (AI hu1 hu2);have HN:=QH hN;have HX:=QH (AI hMr hst);have HY:=QH (AI hP hpr2);clear hown5 hnodes hM05 hbase hbn hln hpw hp5 hcbw hib hil hg0 hN hst hMr hMw hsz hl1 hl2 hl3 hl4 hNr hpr2 hu1 hu2 hln2 hP;unfold zh at k0 hof;change Calls _ _ #[_,.int .i64 4] _ _ at hof;go_wp2_with fail;(with_reducible refine hof.mono ?_);rintro e w6 ⟨rfl,hM6⟩;have hz6:=QN w6 (.cells #[.bool false,.bool false] 73);have hM67:Mods [] w6 ((w6.alloc (.cells #[.bool false,.bool false] 73)).setRow w6.heap.size #[.bool u1,.bool u2]):=((QM [] w6).alloc _).setRow (.inr (LR _)) _;have hr7:=zi #[.bool u1,.bool u2] hz6;replace kR:=hM6.cell kR;have c1q:=hM6.cell c1p;have HQ6:=QH (AI hM6 (AI hM67 hr7));clear hof k0 c1p hM6 hM67 hr7;go_upto_region 8 with (refine wpList_store_row rfl 73 (.tmp 9) (.tmp 84) rfl w6.heap.size #[.bool u1,.bool u2] rfl rfl 73 _ hz6 AC rfl AP ?_);obtain ⟨hM6,hM67,hr7⟩:=HQ6.out;have e0:=za hr7 0;have e1:=za hr7 1;change World.cell? _ _=some (.bool u1) at e0;change World.cell? _ _=some (.bool u2) at e1;replace kR:=hM67.cell kR;replace c1q:=hM67.cell c1q;have hP7:=HY.out.1.later (hM6.trans hM67);have hQ7:=hM6.trans hM67;have hpa:=HY.out.2 _ hQ7;generalize (w6.alloc (.cells #[.bool false,.bool false] 73)).setRow w6.heap.size #[.bool u1,.bool u2]=w7 at *;generalize w6.heap.size=sb at *;have HQ:=QH hQ7;have HW:=QH (AI (show w5.heap.size ≤ w7.heap.size ∧ pb < w7.heap.size by have h1:=hQ7.size; have h2:=HX.out.1.size; omega) (show (bl.length ≤ 200000 ∧ br.length ≤ 200000 ∧ bt.length ≤ 200000 ∧ ps.length ≤ 200000) from hbnd));clear hz6 hr7 hM6 hM67 hQ7 HQ6 hbnd hpr;rcases HR.out with ⟨rfl,rfl⟩ | ⟨rfl,rfl⟩
     ·clear hpa;have hPz:=hP7.later ((QM [] w7).alloc (.cells #[.pointer (some ⟨b,0,none⟩)] 51));have cv:=za hP7.blk 2;change w7.cell? _=some vl at cv;have gCm:=QH trivial;exact ydQ
     ·cases u2 with
      | false =>clear hpa;have hPz:=hP7.later ((QM [] w7).alloc (.cells #[.pointer (some ⟨b,0,none⟩)] 51));have cv:=za hP7.blk 2;change w7.cell? _=some vl at cv;have gCn:=QH trivial;exact ydQ
      | true =>
       cases u1 with
       | false =>clear hpa;have hPz:=hP7.later ((QM [] w7).alloc (.cells #[.pointer (some ⟨b,0,none⟩)] 51));have cv:=za hP7.blk 3;change w7.cell? _=some vr at cv;have gCo:=QH trivial;exact ydQ
       | true =>
        have c1w:=za hP7.blk 1;change w7.cell? _=some (.int .i64 4) at c1w;change Calls _ _ #[.pointer (some ⟨b,0,none⟩),.int .i64 4] _ _ at hpa;go_wp2_with fail;(with_reducible refine hpa.mono ?_);rintro e w8 ⟨v1,v2,ok,rfl,hM8,hone,hno,hyes⟩;have hz8:=QN w8 (.cells #[.pointer none,.pointer none] 76);have hM89:Mods [] w8 ((w8.alloc (.cells #[.pointer none,.pointer none] 76)).setRow w8.heap.size #[v1,v2]):=((QM [] w8).alloc _).setRow (.inr (LR _)) _;have hr9:=zi #[v1,v2] hz8;have hkb:∀ g,vk.ownBlock=some g → g < w8.heap.size:=fun g hg => LL (hP7.k.lt g hg) hM8.size;have h1c:(#[v1,v2]:Array Value).all (·.oneCell')=true:=by simp [hone.1,hone.2]
        have HP8:=QH (AI hM8 (AI hM89 (AI hr9 (AI hno (AI hyes (AI hkb (AI hP7 hone)))))));clear hpa hM8 hM89 hr9 hno hyes hkb hP7 e0 e1 kR c1w c1q hone;go_upto_region 13 with (refine wpList_store_row rfl 76 (.tmp 10) (.tmp 125) rfl w8.heap.size #[v1,v2] rfl rfl 76 _ hz8 AC rfl h1c ?_);obtain ⟨hM8,hM89,hr9,hno,hyes,hkb,hP8,hone⟩:=HP8.out;have q0:=za hr9 0;have q1:=za hr9 1;change World.cell? _ _=some v1 at q0;change World.cell? _ _=some v2 at q1;have hP7:=(hP8.later hM8).later hM89;have hQ7:=(HQ.out.trans hM8).trans hM89;have hw7:=(hM8.trans hM89).size;have hWW:=HW.out;clear hz8 hr9 hM8 hM89 HP8 hP8 HQ HW h1c;generalize (w8.alloc (.cells #[.pointer none,.pointer none] 76)).setRow w8.heap.size #[v1,v2]=w7b at *;generalize w8.heap.size=kb at *;replace hWW:=AI (show w5.heap.size ≤ w7b.heap.size ∧ pb < w7b.heap.size by omega) hWW.2;clear hw7;clear w8;clear w7;have HQ:=QH hQ7;have HW:=QH hWW;clear hQ7 hWW
        cases ok with
        | false =>
         have hpn:zps 4 nd=none:=by
          cases hp:zps 4 nd with
          | none => rfl
          | some k => exact absurd (hyes k hp).1 AD
         have HPN:=QH hpn;clear hyes hno hpn hkb q0 q1 hone;have hPz:=hP7.later ((QM [] w7b).alloc (.cells #[.pointer (some ⟨b,0,none⟩)] 51));have cv:=za hP7.blk 4;change w7b.cell? _=some vt at cv;have hs8:=zl w7b (.cells #[.pointer (some ⟨b,0,none⟩)] 51);have hlit:=zdy w7b #[.pointer (some ⟨b,0,none⟩)] 51;have HZ:=QH (AI hPz (AI hs8 hlit));clear hPz hs8 hlit;obtain ⟨hi,hz0,hz1,hz2⟩:=HU.out;go_wp2_with (at_builtin; refine zw _ rfl _ _ 46 rfl 51 i0 _ 1 8 Tryz.underlying46 hi hz0 hz1 hz2 rfl AD vt bt.length (bt.map zh) rfl HZ.out.1.t.own ⟨w7b.heap.size,0,none⟩ 1 1 [.pointer (some ⟨b,0,none⟩)] rfl rfl ?c2_4 ?c3_4 AD ?c5_4 ?c6_4 ?_)
         case c3_4 => rfl
         case c5_4 => obtain ⟨q1,q2,q3,q4⟩:=HW.out.2; unfold maxLen; omega
         case c6_4 => obtain ⟨q1,q2,q3,q4⟩:=HW.out.2; omega
         intro g9 cap9 w9 hown9 hM9 hg9;have hadd:=PlanM.addt HZ.out.1 AO AO HN.out hown9 hM9 BJ;have hb9:=hM9.heap HZ.out.1.blk (fun hm => (HZ.out.1.t.blk pb AH).2.1 rfl);have d9:=za hb9 4;have f9:=zc hb9 4;have hM99:Mods [pb] w5 w9:=(HX.out.1.trans (HQ.out.trans ((QM [] w7b).alloc _) AB)).trans hM9 (fun x hx => .inr (HZ.out.1.t.blk x AJ).1);have HA:=QH (AI hadd hM99);clear hadd hb9 hown9 hM9 hg9 hM99 hi hz0 hz1 hz2 cv;go_wp2_with fail;go_roundg (n - (i + 1))
         case measure => omega
         case rel => exact ⟨i + 1,by omega,by go_num,HA.out.2.setCell (.inl AB) _,_,_,_,_,_,_,_,_,by rw [HX.out.2,zrN HS.out.2 HS.out.1 HPN.out]; exact HA.out.1⟩
        | true =>
         obtain ⟨kk,hkk⟩ : ∃ k,zps 4 nd=some k:=by
          cases hp:zps 4 nd with
          | none => exact absurd (hno hp) AD
          | some k => exact ⟨k,rfl⟩
         obtain ⟨-,hv1,hv2⟩:=hyes kk hkk;have HPN:=QH (AI hkk (show NAt w [] (v1,v2).1 kk.1 ∧ NAt w [] (v1,v2).2 kk.2 from ⟨hv1,hv2⟩));have cv:=za hP7.blk 5;change w7b.cell? _=some vk at cv;obtain ⟨j0,hj,hj0,hj1,hj2⟩:=info_parts (show (Tryz.prog.info? 76).map (fun i => (i.zero,i.size,i.bytes))=some (some (.agg #[.pointer none,.pointer none]),2,16) by kernel_rfl);have hPz:=hP7.later (((QM [] w7b).alloc (.cells #[v1,v2] 76)).drew);have hs8:=zl w7b (.cells #[v1,v2] 76);have hlit:=zdy w7b #[v1,v2] 76;have hma:=((QM [] w7b).alloc (.cells #[v1,v2] 76)).drew;have HZ:=QH (AI hPz (AI hs8 (AI hlit (AI hma (AI hkb (AI hone (AI hj (AI hj0 (AI hj1 hj2)))))))));clear hPz hs8 hlit hma hyes hno hkb hone hkk hv1 hv2 hj hj0 hj1 hj2 hP7;go_upto_region 14 with fail;apply zr AC [0,1,2,3,4,5] [(6,[]),(7,[]),(8,[]),(9,[]),(10,[])] false AC (fun y => y.cell? ⟨pb,5,none⟩ = some vk ∧ y.cell? ⟨kb,0,none⟩ = some v1 ∧ y.cell? ⟨kb,1,none⟩ = some v2)
         case hC => exact ⟨cv,q0,q1⟩
         case hwalk =>rintro y ⟨y5,y0,y1⟩;change wpQuiet _ _ _ _ [_,_,_,_,_,_] _;(repeat go_big_quiet_step (fail));refine QW ?_;exact rfl
         case hrun =>
          change zct _ _ _ _ _ [(_,[]),(_,[]),(_,[]),(_,[]),(_,[])] _ _;refine zv fun R1 hR1 => ?_;have hC1:=AI (HZ.out.2.2.2.1.cell cv) (AI (HZ.out.2.2.2.1.cell q0) (HZ.out.2.2.2.1.cell q1));go_wp2_with fail;refine zd (hR1 _ _ (.inr hC1) ?_);clear hR1 R1;refine zv fun R2 hR2 => ?_;obtain ⟨hPz,hs8,hlit,hma,hkb,hone,hj,hj0,hj1,hj2⟩:=HZ.out;refine zw _ rfl _ _ 47 rfl 76 j0 _ 2 16 Tryz.underlying47 hj hj0 hj1 hj2 rfl AD vk ps.length (ps.flatMap fun p => [p.1,p.2]) rfl hPz.k.own ⟨w7b.heap.size,0,none⟩ 1 1 [v1,v2] rfl rfl ?kc2 ?kc3 AD ?kc5 ?kc6 ?_
          case kc2 => exact hlit
          case kc3 => intro u hu; simp at hu; rcases hu with rfl | rfl; exact hone.1; exact hone.2
          case kc5 => obtain ⟨q1,q2,q3,q4⟩:=HW.out.2; unfold maxLen; omega
          case kc6 => obtain ⟨q1,q2,q3,q4⟩:=HW.out.2; omega
          intro g9 cap9 w9 hown9 hM9 hg9;have hadd:=PlanM.addk (p1:=(v1,v2)) (n:=kk) hPz BC BC HPN.out.2 hown9 hM9 hg9;have hb9:=hM9.heap hPz.blk (fun hm => (hPz.k.blk pb AH).2.1 rfl);have d9:=za hb9 5;have f9:=zc hb9 5;have hM99:Mods [pb] w5 w9:=(HX.out.1.trans (HQ.out.trans hma AB)).trans hM9 (fun x hx => .inr (hPz.k.blk x AJ).1);have hkn:kb ∉ vk.ownBlock.toList:=fun hm => Nat.lt_irrefl _ (hkb kb AH);have hC9:=AI (show w9.cell? ⟨pb,5,none⟩ = some vk from d9) (AI (hM9.cell hC1.2.1 hkn) (hM9.cell hC1.2.2 hkn));have HA:=QH (AI hadd hM99);clear hadd hb9 hown9 hM9 hg9 hM99 hj hj0 hj1 hj2 cv hPz hs8 hlit hma hkb hone hkn q0 q1 hC1;change w9.cell? _=some vk at d9;go_wp2_with fail;refine zd (hR2 _ _ (.inr hC9) ?_);clear hR2 R2;refine zv fun R3 hR3 => ?_;go_wp2_with fail;refine zd (hR3 _ _ (.inr hC9) ?_);clear hR3 R3;refine zv fun R4 hR4 => ?_;go_wp2_with fail;refine zd (hR4 _ _ (.inr hC9) ?_);clear hR4 R4;refine zv fun R5 hR5 => ?_;go_wp2_with fail;refine zd (hR5 _ _ AB ?_);clear hR5 R5;refine zI ?_;go_wp2_with fail;go_roundg (n - (i + 1))
          case measure => omega
          case rel => exact ⟨i + 1,by omega,by go_num,HA.out.2.setCell (.inl AB) _,_,_,_,_,_,_,_,_,by rw [HX.out.2,zrM HS.out.2 HS.out.1 HPN.out.1]; exact HA.out.1⟩
    ·obtain rfl:n=i:=by omega
     obtain ⟨hMr,vl,vr,vt,vk,bl,br,bt,ps,hP⟩:=hI;rw [List.take_of_length_le (by have:=HL.out.2.2.2.2.2.1; omega)] at hP;have hfin:=HP.out _ wr (HL.out.2.2.1.trans hMr (fun x hx => .inr (by simp at hx; rw [hx]; exact HL.out.2.2.2.2.2.2.2.1))) ⟨_,_,_,_,_,_,_,_,_,hP⟩ rfl;have HFIN:=QH hfin;clear hfin hP hMr;go_wp2_with fail;exact HFIN.out
 ):p:=h
theorem ydY {p:Prop} (h:p:=by
  have hpp:=h.path _ (hpath p hp);obtain ⟨-,o5,o6,o7⟩:=hparts p hp;have hflat:done ++ zL ((i,qs) :: p)=(done ++ i :: qs) ++ zL p:=by rw [zE]; simp
  refine ⟨?_,hflat ▸ hpp.nodup,fun k hk => hflat ▸ hpp.all k hk,fun k hk => hpp.bound k (by rw [hflat]; exact hk),?_,o5,?_⟩
  ·exact yco
  ·exact ybi
  first
  |clear gCK
   ·rcases hpp.last with h1 | h1
    ·exact .inl h1
    ·right
     cases p with
     | nil => rfl
     | cons x r => unfold lastB at h1; exact h1
  |clear gCL
   ·have:=hpp.early;unfold earlyB at this ⊢;rw [List.all_cons,Bool.and_eq_true] at this;exact this.2
 ):p:=h
theorem yew {p:Prop} (h:p:=by
  go_upto_region 23 with fail;apply zr AC [0,1,2,3,4,5,6,7,8,9,10,11,12,13,14,15,16,17] [(18,[])] false AC (fun y => y.cell? ⟨sb,2,none⟩ = some (.int .i64 d) ∧ y.cell? ⟨xb,1,none⟩ = some (.int .i64 t.hd.pos))
  case hC => exact ⟨c2,x17⟩
  first
  |guard_hyp gDM
   case hwalk =>have gDj:=QH trivial;exact yek
   case hrun =>have gEf:=QH trivial;exact yeG
  |guard_hyp gDN
   case hwalk =>have gDk:=QH trivial;exact yek
   case hrun =>have gEa:=QH trivial;exact yeE
  |guard_hyp gDO
   case hwalk =>have gDl:=QH trivial;exact yek
   case hrun =>have gEb:=QH trivial;exact yeE
  |guard_hyp gDP
   case hwalk =>have gDm:=QH trivial;exact yek
   case hrun =>have gEg:=QH trivial;exact yeG
  |guard_hyp gDQ
   case hwalk =>have gDn:=QH trivial;exact yek
   case hrun =>have gEc:=QH trivial;exact yeE
 ):p:=h
theorem yev {p:Prop} (h:p:=by
  rw [hE] at hm;obtain ⟨u,hu,rfl⟩:=zhw hm;have hu2:=HC.out.2.2.1 u (by rw [← hOO]; exact hu);subst hu2;have hnl:nb ∉ L:=fun hx => by have:=hL nb hx; have:=HI.out.1.nbl; omega
  refine zfc hnode9 hnl hlv hlx hn2 (fun h0 => ?_) (fun h0 => ?_) (fun j hx hv => ?_)
  ·exact HI.out.1.zero h0
  ·obtain ⟨c,h1,h2,h3,h4,h5,h6⟩:=hao2 h0;have hb:=HI.out.1.blk c h2;have hs:=HI.out.1.sbl;exact ⟨c,cap2,by rw [hav,h1],fun hx => by have:=hL c hx; omega,h4,h5,fun i hi => hM69.cell (h6 i hi) AE⟩
  first
  |clear gDH
   ·exact ((hkd6 j hx hv (sb :: nb :: L) (fun x hx => by
     rcases MC hx with rfl | hx
     ·exact .inl HI.out.1.sbl
     rcases MC hx with rfl | hx
     ·exact .inr (.inl rfl)
     ·exact .inl (hL x hx))).mods (hM69.mono)).weaken (fun x hx => CM _ (CM _ hx))
  |clear gDI
   ·exact ((hkd6 j hx hv (sb :: nb :: L) (fun x hx => by
     rcases MC hx with rfl | hx
     ·exact .inl HI.out.1.sbl
     rcases MC hx with rfl | hx
     ·exact .inr (.inl rfl)
     ·exact .inl (hL x hx))).mods (hM69.mono)).weaken (fun x hx => CM _ (CM _ hx))
  |clear gDJ
   ·exact ((hkd6 j hx hv (sb :: nb :: L) (fun x hx => by
     rcases MC hx with rfl | hx
     ·exact .inl HI.out.1.sbl
     rcases MC hx with rfl | hx
     ·exact .inr (.inl rfl)
     ·exact .inl (hL x hx))).mods (hM69.mono)).weaken (fun x hx => CM _ (CM _ hx))
  |clear gDK
   ·exact ((hkd6 j hx hv (sb :: nb :: L) (fun x hx => by
     rcases MC hx with rfl | hx
     ·exact .inl HI.out.1.sbl
     rcases MC hx with rfl | hx
     ·exact .inr (.inl rfl)
     ·exact .inl (hL x hx))).mods (hM69.mono)).weaken (fun x hx => CM _ (CM _ hx))
  |clear gDL
   ·exact ((hkd6 j hx hv (sb :: nb :: L) (fun x hx => by
     rcases MC hx with rfl | hx
     ·exact .inl HI.out.1.sbl
     rcases MC hx with rfl | hx
     ·exact .inr (.inl rfl)
     ·exact .inl (hL x hx))).mods (hM69.mono)).weaken (fun x hx => CM _ (CM _ hx))
 ):p:=h
theorem yek {p:Prop} (h:p:=by
  rintro y ⟨hy2,hy1⟩;change wpQuiet _ _ _ _ [_,_,_,_,_,_,_,_,_,_,_,_,_,_,_,_,_,_] (Act.mk _ _);(repeat go_big_quiet_step (fail));refine QW ?_
  first
  |clear gDj
   exact rfl
  |clear gDk
   exact rfl
  |clear gDl
   exact rfl
  |clear gDm
   exact rfl
  |clear gDn
   exact rfl
 ):p:=h
theorem yeM {p:Prop} (h:p:=by
  obtain ⟨t1,t2,t3,t4⟩:=stretch hbq o4 hwalk hne;have hA2:∀ s0,oi.dst ≠ some s0 → AF2.tmps[s0]? = AF.tmps[s0]?:=fun s0 hs0 => by rw [hAt,zbA,if_neg (fun hh => hs0 hh.1)]
  have hA3:∀ s0,oi.dst ≠ some s0 → (∀ k ∈ qs,∀ o,l[k]? = some o → o.dst ≠ some s0) → AF3.tmps[s0]? = AF.tmps[s0]?:=fun s0 h1 h2 => (t4 s0 h2).trans (hA2 s0 h1);have hz2:AF2.tmps.size=AF.tmps.size:=by rw [hAt,(zJ _ _ _).1]
  have hza:a2.tmps.size=a.tmps.size:=by rw [hat,(zJ _ _ _).1]
  first
  |clear gEx
   have hqs:∀ k ∈ qs,k ∈ zL ((i,qs) :: t'.lead):=fun k hk => (zal (p:=(i,qs) :: t'.lead) List.mem_cons_self).2 k hk;have his:i ∈ zL ((i,qs) :: t'.lead):=(zal (p:=(i,qs) :: t'.lead) List.mem_cons_self).1;have hnot2:∀ j ∈ zL ((i,qs) :: t'.lead),listed[j]? ≠ some true:=fun j hj hl =>
    (List.nodup_append.1 hpl.nodup).2.2 j (h.sub j hl) j hj rfl
   first
   |clear gEp
    refine ih (done ++ i :: qs) t' AF3 _ _ _ ⟨by simp [h.size],hcov,fun p hp => ?_,fun k hk => ?_,hdown,fun k hk => ?_,fun s0 hs0 => ?_,by rw [hza,t3,hz2,h.fsize],by rw [t2,hde],?_,hseg⟩ hcount
    ·have gCK:=QH trivial;exact ydY
    ·exact ybx
    ·exact yaB
    ·exact ycN
    ·
     rcases hcls with ⟨hz,hr⟩ | hC
     ·right;have hr0:=zk9 hr;subst hr0;have hl:=(h.path _ (hpath [] (by simp [SpT.paths]))).last.resolve_left (by rw [hz]; decide);exact ybr
     ·exact .inl hC
   |clear gEq
    refine ih (done ++ i :: qs) t' AF3 _ _ _ ⟨by simp [h.size],hcov,fun p hp => ?_,fun k hk => ?_,hdown,fun k hk => ?_,fun s0 hs0 => ?_,by rw [hza,t3,hz2,h.fsize],by rw [t2,hde],?_,fun k hk => ?_,fun k hk => List.mem_append_left _ (h.frd k hk),fun k hk hz => ?_,hseg⟩ hcount
    ·have gCL:=QH trivial;exact ydY
    ·exact ybx
    ·exact yaB
    ·exact ycN
    ·
     cases hzi:z.contains i with
     | false =>rw [hzi] at hcls;exact .inl (hcls.resolve_left AD)
     | true =>right;intro k hk hkz hkf;have h1:=List.all_eq_true.1 hlt i (List.contains_iff_mem.1 hzi);have h2:=List.all_eq_true.1 h1 k (List.mem_range.2 hk);rw [hkz,hkf,Bool.false_or,Bool.false_or] at h2;exact hmono k (hwt k h2)
    ·
     rcases h.free k hk with h1 | h1
     ·exact .inl (hmono k h1)
     ·refine .inr (h1.later (t3.trans hz2) fun ok hok => ?_);have hkd:=h.frd k hk;have hq1:=hpl.once k i ok oi hok hoi hkd his;have hq2:=fun k2 (hk2:k2 ∈ qs) o2 (ho2:l[k2]? = some o2) => hpl.once k k2 ok o2 hok ho2 hkd (hqs k2 hk2);exact ycy
    ·
     rcases List.mem_append.1 hk with hk | hk
     ·exact hmono k (h.late k hk hz)
     rcases MC hk with rfl | hk
     ·exact hself
     ·exfalso;have h1:=hpl.early;unfold earlyB at h1;have h2:=List.all_eq_true.1 (List.all_eq_true.1 h1 (i,qs) List.mem_cons_self) k hk;rw [hz] at h2;cases h2
  |clear gEy
   refine ih (done ++ i :: qs) rest (some i) AF3 _ _ _ ⟨by simp [h.size],g4,hflat ▸ h.nodup,fun k hk => hflat ▸ h.all k hk,fun k hk => h.bound k (by rw [hflat]; exact hk),?_,o5,fun k hk => ?_,hdown,fun j hj => by cases hj; exact hself,fun k hk => ?_,fun s0 hs0 => ?_,by rw [hza,t3,hz2,h.fsize],by rw [t2,hde],?_,?_,hseg⟩ hcount
   ·
    intro k j ok oj hok hoj hk hj;rcases List.mem_append.1 hk with hk | hk
    ·exact h.once k j ok oj hok hoj hk (by rw [zE]; exact CM _ (List.mem_append_right _ hj))
    rcases MC hk with rfl | hk
    ·exact o3 ok (zM List.mem_cons_self hok) oj (List.mem_append_right _ (zM hj hoj))
    ·exact o6 ok (zM hk hok) oj (zM hj hoj)
   ·exact ybx
   ·
    rcases List.mem_append.1 hk with hk | hk
    ·rcases h.quiet k hk with h1 | h1
     ·exact .inl (hmono k h1)
     ·refine .inr (h1.later (t3.trans hz2) fun ok hok => ?_);have hq1:=h.once k i ok oi hok hoi hk (by rw [zE]; exact List.mem_cons_self);have hq2:=fun k2 (hk2:k2 ∈ qs) o2 (ho2:l[k2]? = some o2) => h.once k k2 ok o2 hok ho2 hk (by rw [zE]; exact CM _ (List.mem_append_left _ hk2));exact ycy
    rcases MC hk with rfl | hk
    ·exact .inl hself
    ·exact .inr (t1 k hk)
   ·
    have hnq:∀ k ∈ qs,∀ o,l[k]? = some o → o.dst ≠ some s0:=fun k hk o ho hds => by
     have h1:=hs0 k o ho hds (by simp [hk]);rw [hset] at h1;by_cases hki:k=i
     ·subst hki;have:=(List.nodup_append.1 h.nodup).2.1;rw [zE] at this;exact (List.nodup_cons.1 this).1 (List.mem_append_left _ hk)
     ·rw [if_neg hki] at h1;exact hnot k (by rw [zE]; simp [hk]) h1
    exact yao
   ·
    rcases hcls with ⟨hz,hr⟩ | hC
    ·right;have hr0:rest=[]:=by
      cases rest with
      | nil => rfl
      | cons x r =>exfalso;obtain ⟨s3,q3⟩:=x;have hb3:=h.bound s3 (List.mem_append_right _ (by rw [zE,zE]; simp));rw [zgb (List.getElem?_eq_getElem hb3)] at hr;cases hr
     subst hr0;have hl:=h.last.resolve_left (by rw [hz]; decide);exact ybr
    ·exact .inl hC
   ·rcases h.last with h1 | h1
    ·exact .inl h1
    ·right
     cases rest with
     | nil => rfl
     | cons x r => unfold lastB at h1; exact h1
 ):p:=h
theorem yei {p:Prop} (h:p:=by
  have gs2:=zc hI.st 2;have hM6:Mods [sb] wr (wr.setCell ⟨sb,2,none⟩ (.int .i64 d)):=(QM _ _).setCell (.inl AB) _;have st6:zaX (wr.setCell ⟨sb,2,none⟩ (.int .i64 d)) sb cv mb d p1 e1:=zb hI.st 2 (.int .i64 d);have hnsb:nb ≠ sb:=by have:=hI.nbl; have:=hI.sbl; omega
  have c4:=za st6 4;change World.cell? _ _=some (Value.int .i64 (e1:Nat)) at c4;have hMw6:=hI.mods.trans hM6;have HI:=QH (AI hI (AI hchk (AI hkids (AI hM6 (AI st6 hMw6)))));clear hI hchk hkids hM6 st6 hMw6 hlt;by_cases he1:e1=0
  first
  |clear gDd
   ·have gBz:=QH trivial;exact ydw
   ·have gBQ:=QH trivial;exact ydC
  |clear gDe
   ·have gBA:=QH trivial;exact ydw
   ·have gBR:=QH trivial;exact ydC
 ):p:=h
theorem yeL {p:Prop} (h:p:=by
  have hp0:=h.path _ t.lead_mem;have hir:i ∈ zL t.lead:=by
   rcases List.mem_append.1 (hp0.all i hil) with h1 | h1
   ·exact absurd h1 hid
   ·exact h1
  have hnot:∀ j ∈ zL t.lead,listed[j]? ≠ some true:=fun j hj hl =>
   (List.nodup_append.1 hp0.nodup).2.2 j (h.sub j hl) j hj rfl
  have hwt:∀ j,zbf l l.length i j=true → listed[j]? = some true:=fun j hj => zcq h.down l.length i j oi hoi hdep hj;obtain ⟨x,hx,hxi⟩:=zfa hir;have hisp:i=x.1:=by exact ybH
  obtain ⟨x1,x2⟩:=x;simp only at hisp;subst hisp
  obtain ⟨qs,t',hhd,hcov,hpath⟩:=zfW h.cover hx (fun y hy hne => by
   cases hw:zbf l l.length i y.1 with
   | false => rfl
   | true => exact absurd (hwt y.1 hw) (hnot y.1 (zal hy).1))
  have hpl:=h.path _ (hpath _ t'.lead_mem);have g0:=List.all_eq_true.1 hpl.ok (i,qs) List.mem_cons_self;simp only [hoi,Bool.and_eq_true] at g0;have g1:=g0.1
  first
  |clear gEv
   have hrest:=zmQ h.rest hhd hoi;unfold zfA at hrest;have gEp:=QH trivial;exact yeJ
  |clear gEw
   have hrest:=zl8 h.rest hhd hoi;unfold stgV at hrest;have gEq:=QH trivial;exact yeJ
 ):p:=h
theorem yeg {p:Prop} (h:p:=by
  obtain ⟨c,rfl,hcs,hcells⟩:=HH.out.2.2.2.2.2.2.2.2.2.2.2.2.2.1 AA;have hiu:i < us.length:=by rw [HH.out.2.2.2.2.2.2.2.2.2.2.2.2.1]; exact hlt
  have hia:i < t.args.length:=by rw [HH.out.2.2.2.2.2.2.2.2.2.2.2.1]; exact hlt
  have k0:=hI.mods.cell (hcells i hiu) (by simpa using hcs);have hca:=HH.out.2.2.2.2.1 i hiu hia;obtain ⟨u,hu⟩:=EX (us[i]);obtain ⟨a,hae⟩:=EX (t.args[i]);rw [hu] at k0 hca;rw [hae] at hca;have hat:t.args[i]? = some a:=by rw [List.getElem?_eq_getElem hia,hae]
  have a7:=za hI.node 7;change wr.cell? _=some av at a7;have hnsb:nb ≠ sb:=by have:=hI.nbl; have:=hI.sbl; omega
  have gDT:=QH trivial;exact yey
 ):p:=h
theorem yef {p:Prop} (h:p:=by
  clear c2 x17;go_wp2_with fail;(with_reducible refine hcl.mono ?_);rintro r w8 ⟨rfl,hM8,st8⟩;clear hcl;have hsb6:sb < ab:=by have h1:=HI.out.1.sbl; have h2:=HI.out.2.2.2.2.2.size; have h3:=HC.out.2.2.2.2.2.2.1; omega
  have hab8:=hM8.heap (show (World.drew _).heap[ab]? = _ from HC.out.2.2.2.2.2.1) AE;have hnode8:=hM8.heap (show (World.drew _).heap[nb]? = _ from HC.out.2.2.2.2.2.2.2) BE;have q0:=za hab8 0;have q1:=za hab8 1;change w8.cell? _=some (.int .i64 tt.k) at q0;change w8.cell? _=some (.int .i64 tt.s) at q1;have HTH:w8.there nb 1 2:=fun j hj => by
   have hj2:j=0 ∨ j=1:=by omega
   rcases hj2 with rfl | rfl
   ·exact ⟨(congrArg Option.isSome (za hnode8 1)).trans rfl,zc hnode8 1⟩
   ·exact ⟨(congrArg Option.isSome (za hnode8 2)).trans rfl,zc hnode8 2⟩
  have hM9:Mods [nb] w8 (w8.setCells nb 1 [.int .i64 tt.k,.int .i64 tt.s]):=((QM [nb] w8).setCell (p:=⟨nb,1,none⟩) (.inl AB) (.int .i64 tt.k)).setCell (p:=⟨nb,2,none⟩) (.inl AB) (.int .i64 tt.s);have hnode9:(w8.setCells nb 1 [.int .i64 tt.k,.int .i64 tt.s]).heap[nb]? = some (.cells (nhC { op:=t.hd.op,t:=tt } av).toArray 80 (0,0)):=zb (zb hnode8 1 (.int .i64 tt.k)) 2 (.int .i64 tt.s);have hM69:Mods [sb,nb] w6 (w8.setCells nb 1 [.int .i64 tt.k,.int .i64 tt.s]):=(((HC.out.2.2.2.1.drew).mono (L':=[sb,nb])).trans (hM8.mono (L':=[sb,nb]) AB)).trans (hM9.mono (L':=[sb,nb]) AB)
  first
  |clear gC2
   have hfin:PP (.returned (.pointer (some ⟨nb,0,none⟩))) (w8.setCells nb 1 [.int .i64 tt.k,.int .i64 tt.s]):=by have gEh:=QH trivial;exact yeH
   have HFIN:=QH hfin;clear hfin hM69 hnode9 hM9 hnode8 hab8 st8 hM8 hsb6;go_wp2_with fail;refine zd (hR1 _ _ AB ?_);clear hR1 R1;refine zI ?_;generalize hw9:w8.setCells nb 1 [.int .i64 tt.k,.int .i64 tt.s]=w9 at HFIN;have HW9:=QH hw9;clear hw9;go_wp2_with (refine wpList_store_mid rfl 59 (.tmp 140) (.tmp 138) rfl nb 1 #[.int .i64 tt.k,.int .i64 tt.s] rfl rfl HTH zk (zA _ _) ?_);have hw9:=HW9.out;rw [← hw9] at HFIN;exact HFIN.out
  |clear gC3
   have hfin:PP (.returned (.pointer (some ⟨nb,0,none⟩))) (w8.setCells nb 1 [.int .i64 tt.k,.int .i64 tt.s]):=by have gEi:=QH trivial;exact yeH
   have HFIN:=QH hfin;clear hfin hM69 hnode9 hM9 hnode8 hab8 st8 hM8 hsb6;go_wp2_with fail;refine zd (hR1 _ _ AB ?_);clear hR1 R1;refine zI ?_;generalize hw9:w8.setCells nb 1 [.int .i64 tt.k,.int .i64 tt.s]=w9 at HFIN;have HW9:=QH hw9;clear hw9;go_wp2_with (refine wpList_store_mid rfl 59 (.tmp 140) (.tmp 138) rfl nb 1 #[.int .i64 tt.k,.int .i64 tt.s] rfl rfl HTH zk (zA _ _) ?_);have hw9:=HW9.out;rw [← hw9] at HFIN;exact HFIN.out
  |clear gC4
   have hfin:PP (.returned (.pointer (some ⟨nb,0,none⟩))) (w8.setCells nb 1 [.int .i64 tt.k,.int .i64 tt.s]):=by have gEj:=QH trivial;exact yeH
   have HFIN:=QH hfin;clear hfin hM69 hnode9 hM9 hnode8 hab8 st8 hM8 hsb6;go_wp2_with fail;refine zd (hR1 _ _ AB ?_);clear hR1 R1;refine zI ?_;generalize hw9:w8.setCells nb 1 [.int .i64 tt.k,.int .i64 tt.s]=w9 at HFIN;have HW9:=QH hw9;clear hw9;go_wp2_with (refine wpList_store_mid rfl 59 (.tmp 140) (.tmp 138) rfl nb 1 #[.int .i64 tt.k,.int .i64 tt.s] rfl rfl HTH zk (zA _ _) ?_);have hw9:=HW9.out;rw [← hw9] at HFIN;exact HFIN.out
  |clear gC5
   have hfin:PP (.returned (.pointer (some ⟨nb,0,none⟩))) (w8.setCells nb 1 [.int .i64 tt.k,.int .i64 tt.s]):=by have gEk:=QH trivial;exact yeH
   have HFIN:=QH hfin;clear hfin hM69 hnode9 hM9 hnode8 hab8 st8 hM8 hsb6;go_wp2_with fail;refine zd (hR1 _ _ AB ?_);clear hR1 R1;refine zI ?_;generalize hw9:w8.setCells nb 1 [.int .i64 tt.k,.int .i64 tt.s]=w9 at HFIN;have HW9:=QH hw9;clear hw9;go_wp2_with (refine wpList_store_mid rfl 59 (.tmp 140) (.tmp 138) rfl nb 1 #[.int .i64 tt.k,.int .i64 tt.s] rfl rfl HTH zk (zA _ _) ?_);have hw9:=HW9.out;rw [← hw9] at HFIN;exact HFIN.out
  |clear gC6
   have hfin:PP (.returned (.pointer (some ⟨nb,0,none⟩))) (w8.setCells nb 1 [.int .i64 tt.k,.int .i64 tt.s]):=by have gEl:=QH trivial;exact yeH
   have HFIN:=QH hfin;clear hfin hM69 hnode9 hM9 hnode8 hab8 st8 hM8 hsb6;go_wp2_with fail;refine zd (hR1 _ _ AB ?_);clear hR1 R1;refine zI ?_;generalize hw9:w8.setCells nb 1 [.int .i64 tt.k,.int .i64 tt.s]=w9 at HFIN;have HW9:=QH hw9;clear hw9;go_wp2_with (refine wpList_store_mid rfl 59 (.tmp 140) (.tmp 138) rfl nb 1 #[.int .i64 tt.k,.int .i64 tt.s] rfl rfl HTH zk (zA _ _) ?_);have hw9:=HW9.out;rw [← hw9] at HFIN;exact HFIN.out
 ):p:=h
theorem yeW {p:Prop} (h:p:=by
  have hC:C w:=by
   rcases h.cls with hc | hc
   ·exact hc
   ·have:=hc i hil;rw [hun] at this;cases this
  have hq:QF P l C AF i:=by
   rcases h.quiet i hid with hq | hq
   ·rw [hun] at hq; cases hq
   ·exact hq
  obtain ⟨hsel,hq2⟩:=hq oi hoi;obtain ⟨v,hy,hv⟩:=hq2 w hC;obtain ⟨c1,c2⟩:=zaL hsel hlook;have hya:=hy.of_same c1 c2
  first
  |clear gER
   have hK:wpAny P .any l.toArray Q fuel (listed.setIfInBounds i true) (a.put oi.dst v) w:=by
    refine ih done rem p AF _ _ _ ⟨by simp [h.size],h.isOrder,h.nodup,h.all,h.bound,h.once,h.onceR,fun k hk => ?_,hdown,fun j hj => hmono _ (h.prev j hj),fun k hk => (h.quiet k hk).imp (hmono k) id,fun s hs => ?_,by rw [(zJ _ _ _).1,h.fsize],by rw [(zJ _ _ _).2,h.defers],.inl hC,h.last,h.rest⟩ hcount
    ·exact yeQ
    exact yeP
   exact yaF
  |clear gES
   have hK:wpAny P .any l.toArray Q fuel (listed.setIfInBounds i true) (a.put oi.dst v) w:=by
    refine ih done t AF _ _ _ ⟨by simp [h.size],h.cover,h.path,fun k hk => ?_,hdown,fun k hk => (h.quiet k hk).imp (hmono k) id,fun s hs => ?_,by rw [(zJ _ _ _).1,h.fsize],by rw [(zJ _ _ _).2,h.defers],.inl hC,h.rest⟩ hcount
    ·exact yeQ
    exact yeP
   exact yaF
 ):p:=h
theorem ydC {p:Prop} (h:p:=by
  
  have hz1:((e1:Int) != 0)=true:=bne_iff_ne.2 AA;have hfin:PP (.returned (.pointer (some ⟨nb,0,none⟩))) (wr.setCell ⟨sb,2,none⟩ (.int .i64 d)):=by rw [← HH.out.1];have hE:=zcm env d t HH.out.2.2.2.2.2.2.2.2.2.1;rw [HH.out.2.2.2.2.2.2.2.2.1] at hE;have hst:=zdA (ze7 env _ _) HI.out.2.1 he1 (f:=fun xs => zcX d t.hd (zcy xs 0) (zcy xs 1) fun n => mkN n xs);rw [← hE] at hst;refine ⟨nb,rfl,HI.out.1.nbl,HI.out.2.2.2.2.2,by rw [hst]; exact HI.out.2.2.2.2.1,fun he m hm => ?_⟩;exfalso;rw [hm,zaP] at hst;simp only [Prod.mk.injEq] at hst;omega
  have HFIN:=QH hfin;clear hfin he1 HI;go_wp2_with fail
  first
  |clear gBQ
   exact HFIN.out
  |clear gBR
   exact HFIN.out
 ):p:=h
theorem yeJ {p:Prop} (h:p:=by
  obtain ⟨c1,c2⟩:=zaL g1 hlook;refine zg0 hoi0 h.defers c1 c2 hrest ?_;intro a2 AF2 w2 v hde hat hAt hK;obtain ⟨hcls,AF3,hwalk,hseg⟩:=(show (_ ∨ C w2) ∧ ∃ AF3,_ ∧ _ from hK);have hbq:∀ k ∈ qs,k < l.length:=fun k hk => hpl.bound k (List.mem_append_right _ ((zal (p:=(i,qs) :: t'.lead) List.mem_cons_self).2 k hk));have hparts:∀ p ∈ t'.paths,zbQ l.toArray (zat l qs)=true ∧ zbQ l.toArray (zat l (zL p))=true ∧ (∀ oj ∈ zat l (zL p),(∀ s ∈ oi.looksAt l.toArray,oj.dst ≠ some s) ∧ ∀ d,oi.dst=some d → oj.dst ≠ some d) ∧ ∀ ok ∈ zat l qs,∀ oj ∈ zat l (zL p),(∀ s ∈ ok.looksAt l.toArray,oj.dst ≠ some s) ∧ ∀ d,ok.dst=some d → oj.dst ≠ some d:=by exact ybn
  obtain ⟨o4,-,-,-⟩:=hparts _ t'.lead_mem;have gEx:=QH trivial;exact yeM
 ):p:=h
theorem ydx {p:Prop} (h:p:=by
  change zct _ _ _ _ _ [(_,[]),(_,[]),(_,[]),(_,[])] _ _;refine zv fun R1 hR1 => ?_;have hcl:=HI.out.2.2 wr.drew p1 e1 HI.out.1.mods.drew HI.out.1.st;unfold zh at hcl;go_wp2_with fail;(with_reducible refine hcl.mono ?_);rintro r w2 ⟨b,rfl,hb,hM2,hst2,hk2⟩;have hC2:=hM2.cell (show wr.drew.cell? ⟨nb,7,none⟩ = some av from a7) BE;have hown2:=zm (zm HI.out.1.own ((QM [] wr).drew) AB) hM2 (fun g he => by have h1:=HI.out.1.blk g he; have h2:=HI.out.1.sbl; simp; omega);have hnav:nb ∉ av.ownBlock.toList:=fun hm => (HI.out.1.blk nb AH).2 rfl;have hC3:=((QM [] w2).alloc (.cells #[.pointer (some ⟨b,0,none⟩)] 51)).cell hC2;have hnode3:=((QM [] w2).alloc (.cells #[.pointer (some ⟨b,0,none⟩)] 51)).heap (hM2.heap (show wr.drew.heap[nb]? = _ from HI.out.1.node) BE);have H2:=QH (AI hM2 (AI hst2 (AI hk2 (AI hown2 (AI hnav (AI hC3 hnode3))))));(try unfold zh);clear hcl hM2 hst2 hk2 hb hown2 hnav hC3 hnode3;go_wp2_with fail;refine zd (hR1 _ _ (.inr hC2) ?_);clear hR1 R1;refine zv fun R2 hR2 => ?_;go_wp2_with fail;refine zd (hR2 _ _ (.inr H2.out.2.2.2.2.2.1) ?_);clear hC2 hR2 R2;refine zv fun R3 hR3 => ?_;obtain ⟨hi,hz0,hz1,hz2⟩:=HU.out;have hown2:=H2.out.2.2.2.1;go_wp2_with (at_builtin; refine zw _ rfl _ _ 46 rfl 51 i0 _ 1 8 Tryz.underlying46 hi hz0 hz1 hz2 rfl AD av i vs rfl (hown2.alloc _) ⟨w2.heap.size,0,none⟩ 1 1 [.pointer (some ⟨b,0,none⟩)] rfl rfl ?c1 ?c2 AD ?c3 ?c4 ?_)
  case c2 => rfl
  case c3 => unfold maxLen; omega
  case c4 => omega
  intro g' cap2 w5 hown5 hM5 hg5;have hC5:=hM5.cell H2.out.2.2.2.2.2.1 H2.out.2.2.2.2.1;have hstep:=OpI.step HI.out.1 HI.out.2.1 (b:=b) (((QM [] wr).drew.mono (L':=[sb])).trans H2.out.1) H2.out.2.1 (fun he1 m hm L hL => H2.out.2.2.1 he1 m hm L hL) hown5 hM5 (by rw [zl]; exact hg5);have hn5:=zc (hM5.heap H2.out.2.2.2.2.2.2 H2.out.2.2.2.2.1) 7;have H5:=QH hstep;clear hstep hown5 hM5 hg5 hi hz0 hz1 hz2 hown2 a7;go_wp2_with fail;refine zd (hR3 _ _ (.inr hC5) ?_);clear hR3 R3;refine zv fun R4 hR4 => ?_;go_wp2_with fail;refine zd (hR4 _ _ AB ?_);clear hR4 R4;refine zI ?_;go_wp2_with fail;go_roundg (n - (i + 1))
  case measure => omega
  first
  |guard_hyp gBB
   case rel => exact ⟨i + 1,_,_,_,_,by omega,by go_num,H5.out⟩
  |guard_hyp gBC
   case rel => exact ⟨i + 1,_,_,_,_,by omega,by go_num,H5.out⟩
 ):p:=h
theorem ydw {p:Prop} (h:p:=by
  obtain ⟨he,hp,xs,hxs⟩:=zaU (ze7 env _ _) (by rw [← he1]; exact HI.out.2.1);have hz1:((e1:Int) != 0)=false:=bne_eq_false_iff_eq.2 AA;obtain ⟨hlx,hkd⟩:=HI.out.2.2.1 he xs hxs;have hlv:=HI.out.1.len;have hx6:=HI.out.2.2.2.2.2.heap HH.out.2.2.1 AS;have x0:=za hx6 0;change World.cell? _ _=some (.string ⟨t.hd.op.toArray⟩) at x0;rw [HH.out.2.2.2.2.2.2.2.1] at x0;have x1:=za hx6 1;change World.cell? _ _=some (.int .i64 t.hd.pos) at x1;have hnode6:=HI.out.2.2.2.1.heap HI.out.1.node BE;have a7:=za hnode6 7;change World.cell? _ _=some av at a7;have hV6:CkVars (wr.setCell ⟨sb,2,none⟩ (.int .i64 d)):=by have hv:=HH.out.2.2.2.1;have hm:=HI.out.2.2.2.2.2;have hg1 : 0 ≠ sb:=HSB.out.1;have hg2 : 2 ≠ sb:=HSB.out.2;exact ⟨⟨hm.cell hv.1.1 (by simpa using hg1),hm.cell hv.1.2 (by simpa using hg1)⟩,hm.cell hv.2.1 (by simpa using hg2),hm.cell hv.2.2 (by simpa using hg2)⟩
  have hown6:=zm HI.out.1.own HI.out.2.2.2.1 (fun g hg => by have h1:=HI.out.1.blk g hg; have h2:=HI.out.1.sbl; simp; omega);obtain ⟨ao2,cap2,hav,-,hao2,hav0⟩:=ziX hown6 hlv;have hkd6:∀ j (hx:j < xs.length) (hv:j < vs.length),∀ L:List Nat,(∀ x ∈ L,x < w.heap.size ∨ x=nb ∨ av.ownBlock=some x) → NAt (wr.setCell ⟨sb,2,none⟩ (.int .i64 d)) L vs[j] xs[j]:=fun j hx hv L hL =>
   ((
    hkd j hx hv (sb :: L) (fun x hx => by
    rcases MC hx with rfl | hx
    ·exact .inl HI.out.1.sbl
    ·exact hL x hx)).mods (HI.out.2.2.2.1.mono)).weaken (fun x hx => CM _ hx)
  have hty:=fun W (hM:Mods [] (wr.setCell ⟨sb,2,none⟩ (.int .i64 d)) W) => zhv W (hV6.later hM) t.hd.op vs (xs.map (fun x:NT => x.hd.t)) n hlv (by rw [List.length_map]; exact hlx) hn2 ao2 cap2 (fun h0 => by
    obtain ⟨c,h1,-,-,-,-,h2⟩:=hao2 h0
    exact ⟨c,h1,fun i hi => hM.cell (h2 i hi)⟩) HH.out.2.2.2.2.2.1 (fun hh => HH.out.2.2.2.2.2.2.1 hh xs hxs) (fun i hi hx => by
    rw [List.length_map] at hx;obtain ⟨b,args,h1,-,h2⟩:=(hkd6 i hx hi [] AB).head;refine ⟨b,h1,?_,?_⟩
    ·have:=za (hM.heap h2) 1;rw [this,List.getElem_map]; rfl
    ·have:=za (hM.heap h2) 2
     rw [this,List.getElem_map]; rfl)
  rw [HH.out.2.2.2.2.2.2.2.1,← hav] at hty;obtain ⟨OO,hOO⟩:=EX (zx t.hd.op (zcy xs 0) (zcy xs 1));have hty2:∀ W,Mods [] (wr.setCell ⟨sb,2,none⟩ (.int .i64 d)) W → Calls Tryz.prog 97 #[.string S,av] W (RuleRes OO W):=fun W hM => by rw [← hOO]; exact hty W hM
  have HT:=QH (AI hOO (AI hty2 (AI hkd6 (AI hnode6 (AI hown6 (AI hxs (AI he (AI hp (AI hlx (AI hlv he1))))))))));have HA:=QH (AI hav (AI hao2 hav0));clear hOO hty hty2 hkd6 hnode6 hown6 hxs he hp hlx hlv hav hao2 hav0 hkd hV6 hx6 he1;have HSZ:Hid ((wr.setCell ⟨sb,2,none⟩ (.int .i64 d)).heap.size=wr.heap.size):=QH (by simp [World.setCell]);have hxl:xb < (wr.setCell ⟨sb,2,none⟩ (.int .i64 d)).heap.size:=zD x0;have hnl:nb < (wr.setCell ⟨sb,2,none⟩ (.int .i64 d)).heap.size:=zD a7;go_upto_region 22 with fail;clear s2 gs2;generalize wr.setCell ⟨sb,2,none⟩ (.int .i64 d)=w6 at *;go_cut [12,13] from 106 to 117 (fun s12 s13 wx => CutT w6 OO s12 s13 wx)
  case first =>
   apply zfb AC [0,1,2,3,4,5,6,7] (.two 8 [9,10,11] (.one 12 [] (.one 13 [14] .fin)) 12 [] (.one 8 [9,10,11] (.one 13 [14] .fin))) true AC (fun y => y.cell? ⟨xb,0,none⟩ = some (.string S) ∧ y.cell? ⟨nb,7,none⟩ = some av)
   case hC => exact ⟨x0,a7⟩
   case hwalk =>rintro y ⟨hy0,hy7⟩;change wpQuiet _ _ _ _ [_,_,_,_,_,_,_,_] _;(repeat go_big_quiet_step (fail));refine QW ?_;exact rfl
   case hrun =>
    change segT _ _ _ _ _ (.two _ [_,_,_] (.one _ [] (.one _ [_] .fin)) _ [] (.one _ [_,_,_] (.one _ [_] .fin))) _ _;refine ziW ?_ ?_
    ·refine zbD fun R1 hR1 => ?_;have hcl:=HT.out.2.1 w6.drew (QM _ _).drew;go_wp2_with fail;(with_reducible refine hcl.mono ?_);intro r w7 hres;obtain ⟨⟨tt,rfl,htt⟩,hM7⟩:=hres;clear hcl;unfold tyA;obtain ⟨ok,hok⟩:=EX (OO.isSome);rw [hok];have HO:=QH (AI hok (AI htt hM7));have x7:=hM7.cell (show w6.drew.cell? _=_ from x0);have a77:=hM7.cell (show w6.drew.cell? _=_ from a7);have hs7:w6.heap.size ≤ w7.heap.size:=hM7.size;clear hok htt hM7;go_wp2_with fail;refine zd ?_;apply hR1 _ _ (.inr ⟨x7,a77⟩)
     ·intro y hy;change wpQuiet _ _ _ _ [_,_,_] _;(repeat go_big_quiet_step (fail));refine QW ?_;exact rfl
     ·clear hR1 R1;refine zbY (zdC fun R2 hR2 => ?_);go_wp2_with fail;have hM8:=(QM [] w7).alloc (.cells #[.int .i64 0,.int .i64 0] 59);have hb8:=QN w7 (.cells #[.int .i64 0,.int .i64 0] 59);have x8:=hM8.cell x7;have a8:=hM8.cell a77;refine zd (hR2 _ _ (.inr ⟨x8,a8⟩) ?_);clear hR2 R2;refine zbY (zbD fun R3 hR3 => ?_);go_wp2_with (refine wpList_store_row rfl 59 (.tmp 12) (.tmp 116) rfl w7.heap.size #[.int .i64 tt.k,.int .i64 tt.s] rfl rfl 59 _ hb8 zk rfl (zA _ _) ?_);have hM9:Mods [] w7 ((w7.alloc (.cells #[.int .i64 0,.int .i64 0] 59)).setRow w7.heap.size #[.int .i64 tt.k,.int .i64 tt.s]):=hM8.setRow (.inr (LR _)) _;have hb9:=zi #[.int .i64 tt.k,.int .i64 tt.s] hb8;refine zd ?_;apply hR3 _ _ (.inr ⟨hM9.cell x7,hM9.cell a77⟩)
      ·intro y hy;change wpQuiet _ _ _ _ [_] (Act.mk _ _);(repeat go_big_quiet_step (fail));refine QW ?_;exact rfl
      ·refine zex ?_;clear hR3 R3;go_wp2_with fail
       go_meet
       exact ⟨w7.heap.size,tt,rfl,by rw [HO.out.1],hs7,hb9,((QM [] w6).drew.trans HO.out.2.2).trans hM9,HO.out.2.1⟩
    ·refine zdC fun R1 hR1 => ?_;go_wp2_with fail;have hM8:Mods [] w6 (w6.drew.alloc (.cells #[.int .i64 0,.int .i64 0] 59)):=((QM [] w6).drew).alloc (.cells #[.int .i64 0,.int .i64 0] 59);have hb8:((w6.alloc (.cells #[.int .i64 0,.int .i64 0] 59)).drew).heap[w6.heap.size]? = _:=QN w6 (.cells #[.int .i64 0,.int .i64 0] 59);have hM8d:Mods [] w6 ((w6.alloc (.cells #[.int .i64 0,.int .i64 0] 59)).drew):=((QM [] w6).alloc (.cells #[.int .i64 0,.int .i64 0] 59)).drew;have x8:=hM8d.cell x0;have a8:=hM8d.cell a7;refine zd (hR1 _ _ (.inr ⟨x8,a8⟩) ?_);clear hR1 R1;refine zbY (zbD fun R2 hR2 => ?_);have hcl:=HT.out.2.1 _ hM8d;generalize hw8:(w6.alloc (.cells #[.int .i64 0,.int .i64 0] 59)).drew=w8 at *;clear hw8 hM8;go_wp2_with fail;(with_reducible refine hcl.mono ?_);intro r w7 hres;obtain ⟨⟨tt,rfl,htt⟩,hM7⟩:=hres;clear hcl;unfold tyA;obtain ⟨ok,hok⟩:=EX (OO.isSome);rw [hok];have HO:=QH (AI hok (AI htt (AI hM7 hM8d)));have x7:=hM7.cell x8;have a77:=hM7.cell a8;have hb7:=hM7.heap hb8;clear hok htt hM7 hM8d hb8 x8 a8;go_wp2_with fail;refine zd ?_;apply hR2 _ _ (.inr ⟨x7,a77⟩)
     ·intro y hy;change wpQuiet _ _ _ _ [_,_,_] (Act.mk _ _);(repeat go_big_quiet_step (fail));refine QW ?_;exact rfl
     ·clear hR2 R2;refine zbY (zbD fun R3 hR3 => ?_);go_wp2_with (refine wpList_store_row rfl 59 (.tmp 12) (.tmp 116) rfl w6.heap.size #[.int .i64 tt.k,.int .i64 tt.s] rfl rfl 59 _ hb7 zk rfl (zA _ _) ?_);have hb9:=zi #[.int .i64 tt.k,.int .i64 tt.s] hb7;have hM9:Mods [w6.heap.size] w7 (w7.setRow w6.heap.size #[.int .i64 tt.k,.int .i64 tt.s]):=(QM _ _).setRow (.inl AB) _;refine zd ?_;apply hR3 _ _ (.inr ⟨hM9.cell x7 AE,hM9.cell a77 AE⟩)
      ·intro y hy;change wpQuiet _ _ _ _ [_] (Act.mk _ _);(repeat go_big_quiet_step (fail));refine QW ?_;exact rfl
      ·refine zex ?_;clear hR3 R3;go_wp2_with fail
       go_meet
       exact ⟨w6.heap.size,tt,rfl,by rw [HO.out.1],LR _,hb9,(HO.out.2.2.2.trans HO.out.2.2.1).setRow (.inr (LR _)) _,HO.out.2.1⟩
  first
  |guard_hyp gBz
   case rest =>have gD8:=QH trivial;exact yeD
  |guard_hyp gBA
   case rest =>have gD9:=QH trivial;exact yeD
 ):p:=h
theorem ydn {p:Prop} (h:p:=by
  go_enter Tryz.func67, Tryz.ntmps67;go_wp2_with fail;(with_reducible refine hc.mono ?_)
  first
  |guard_hyp gBc
   rintro r w2 ⟨hM,b,rfl,hb,hbx⟩;have hfin:PP (.returned (.pointer (some ⟨b,0,none⟩))) w2:=by rw [← HPP.out.1];refine ⟨b,rfl,hb,hM.mono,by rw [zaP]; exact hM.heap HPP.out.2,fun _ n' hn' L hL => ?_⟩;cases hn';exact ⟨b,rfl,fun hm => by have:=hL b hm; omega,hbx⟩
   have HFIN:=QH hfin;unfold zh;clear hfin hM hb hbx hc;go_wp2_with fail;exact HFIN.out
  |guard_hyp gBd
   rintro r w2 ⟨hM,rfl⟩;have y0:=hM.cell x0;have hS2:=HH.out.2.1.later hM;have hx2:=hM.heap HH.out.2.2.1;have hcol:=ze5 w2 sb cv mb d pos e hS2.st env hS2.map xb h va hx2 hne HH.out.2.2.2.1 HH.out.2.2.2.2;unfold zh at hcol;have H2:=QH (AI hS2 (AI hx2 hM));clear hc x0 hS2 hx2 hM;go_wp2_with fail;(with_reducible refine hcol.mono ?_);rintro r w3 ⟨rfl,hM3,hS3⟩;obtain ⟨kk,hkk⟩:=EX (colK env h e);obtain ⟨p3,hp3⟩:=EX ((zai (zbF env h) pos e).1);obtain ⟨e3,he3⟩:=EX ((zai (zbF env h) pos e).2);rw [hp3,he3] at hS3;rw [hkk];have HK:=QH (AI hkk (AI hp3 he3));clear hcol hkk hp3 he3 y0;have hz:=(QM [] w3).alloc (.cells #[.string ⟨#[99,111,108,117,109,110]⟩,.int .i64 0,.int .i64 0,.int .i64 kk,.bool false,.int .i64 0,.string ⟨#[]⟩,.slice none 0 0] 80);have hnb:=QN w3 (.cells #[.string ⟨#[99,111,108,117,109,110]⟩,.int .i64 0,.int .i64 0,.int .i64 kk,.bool false,.int .i64 0,.string ⟨#[]⟩,.slice none 0 0] 80);have hS4:Scope (w3.alloc (.cells #[.string ⟨#[99,111,108,117,109,110]⟩,.int .i64 0,.int .i64 0,.int .i64 kk,.bool false,.int .i64 0,.string ⟨#[]⟩,.slice none 0 0] 80)) sb cv mb d p3 e3 env:=(H2.out.1.go hM3 hS3).later hz;have hM4:Mods [sb] w (w3.alloc (.cells #[.string ⟨#[99,111,108,117,109,110]⟩,.int .i64 0,.int .i64 0,.int .i64 kk,.bool false,.int .i64 0,.string ⟨#[]⟩,.slice none 0 0] 80)):=(((H2.out.2.2.mono (L':=[sb])).trans hM3).trans (hz.mono (L':=[sb]) AB));have hsz:w.heap.size ≤ w3.heap.size:=by have h1:=H2.out.2.2.size; have h2:=hM3.size; omega
   have hsbl:sb < w3.heap.size:=zj hS3;go_upto_region 6 with fail;generalize w3.alloc (.cells #[.string ⟨#[99,111,108,117,109,110]⟩,.int .i64 0,.int .i64 0,.int .i64 kk,.bool false,.int .i64 0,.string ⟨#[]⟩,.slice none 0 0] 80)=w4 at *;generalize w3.heap.size=nb at *;have c4:=za hS4.st 4;change w4.cell? _=some (.int .i64 (e3:Nat)) at c4;have H4:=QH (AI hS4 (AI hM4 (AI hnb (AI hsz hsbl))));by_cases hz3:e3=0
   ·have z3:((e3:Int) == 0)=true:=by rw [beq_iff_eq]; omega
    have hec:e=0 ∧ zbF env h = .ok kk ∧ p3=pos ∧ kk < env.length:=by
     have h1:=HK.out;unfold zai colK at h1;by_cases he:e=0
     ·rw [if_neg AA,if_neg AA] at h1
      cases hq:zbF env h with
      | ok k =>rw [hq] at h1;simp only at h1;refine ⟨he,by rw [h1.1],h1.2.1.symm,?_⟩;rw [← h1.1];exact zh5 hq
      | bad p k =>rw [hq] at h1;simp only at h1;have:=zgD hq;omega
     ·rw [if_pos he,if_pos he] at h1;simp only at h1;omega
    obtain ⟨he,hq,hpp,hlt⟩:=hec;obtain ⟨ao,cap,hcv,hg⟩:=hS4.cols;obtain ⟨g,rfl,hg1,hg2,hg3,hg4⟩:=hg AA;obtain ⟨q0,q1,q2,nl,q3⟩:=hg4 kk hlt;have s0:=za hS4.st 0;change w4.cell? _=some cv at s0;rw [hcv] at s0;have hgd:env.getD kk ⟨[],[],tyNone⟩ = env[kk]:=by simp [hlt]
    obtain ⟨T,hT⟩:=EX (env[kk].t);rw [hT] at q1 q2;have n3:w4.cell? ⟨nb,3,none⟩ = some (.int .i64 kk):=za hnb 3;obtain ⟨len,hlen⟩:=EX (env.length);rw [hlen] at hlt hel hg2 s0;have b1:(kk:Int) < (len:Int):=by omega
    have hM5:Mods [sb] w ((w4.drew).setCells nb 1 [.int .i64 T.k,.int .i64 T.s]):=((hM4.drew.setCell (p:=⟨nb,1,none⟩) (.inr hsz) (.int .i64 T.k)).setCell (p:=⟨nb,2,none⟩) (.inr hsz) (.int .i64 T.s));have hnb5:((w4.drew).setCells nb 1 [.int .i64 T.k,.int .i64 T.s]).heap[nb]? = some (.cells (nhC { op:=oColumn,t:=T,col:=kk } (.slice none 0 0)).toArray 80 (0,0)):=zb (zb (show w4.drew.heap[nb]? = _ from hnb) 1 (.int .i64 T.k)) 2 (.int .i64 T.s);have hst5:zaX ((w4.drew).setCells nb 1 [.int .i64 T.k,.int .i64 T.s]) sb cv mb d p3 e3:=(show Mods [nb] w4 ((w4.drew).setCells nb 1 [.int .i64 T.k,.int .i64 T.s]) from ((QM [nb] w4).drew.setCell (p:=⟨nb,1,none⟩) (.inl AB) (.int .i64 T.k)).setCell (p:=⟨nb,2,none⟩) (.inl AB) (.int .i64 T.s)).heap hS4.st AE;have hfin:PP (.returned (.pointer (some ⟨nb,0,none⟩))) ((w4.drew).setCells nb 1 [.int .i64 T.k,.int .i64 T.s]):=by
     rw [← HH.out.1,hq];refine ⟨nb,rfl,hsz,hM5,?_,fun _ n hn L hL => ?_⟩
     ·show zaX _ _ _ _ _ (zai (.ok _) pos e).1 (zai (.ok _) pos e).2;rw [zaP,← hpp,he,← hz3];exact hst5
     ·simp only [Chk.bind,Chk.ok.injEq] at hn;subst hn;exact ⟨nb,rfl,fun hm => by have:=hL nb hm; omega,by rw [hgd,hT]; exact hnb5⟩
    have HFIN:=QH hfin;have HT:w4.drew.there nb 1 2:=fun j hj => by
     have hj2:j=0 ∨ j=1:=by omega
     rcases hj2 with rfl | rfl
     ·exact ⟨(congrArg Option.isSome (za hnb 1)).trans rfl,zc hnb 1⟩
     ·exact ⟨(congrArg Option.isSome (za hnb 2)).trans rfl,zc hnb 2⟩
    clear hfin hM5 hnb5 hst5 hg4 hgd hT hq hpp he hlen hz3 hS4 hM4 hnb hcv HK HH H2 H4 hM3 hS3 hz;go_upto_region 7 with fail;go_still_tail 14,AC;change wpList _ _ _ _ _ w4.drew;refine wpList_store_mid rfl 59 (.tmp 49) (.tmp 47) rfl nb 1 #[.int .i64 T.k,.int .i64 T.s] rfl rfl HT zk (zA _ _) ?_;generalize hw5:(w4.drew).setCells nb 1 (#[.int .i64 T.k,.int .i64 T.s]:Array Value).toList=w5;change (w4.drew).setCells nb 1 [.int .i64 T.k,.int .i64 T.s]=w5 at hw5;rw [hw5] at HFIN;clear hw5;go_wp2_with fail;exact HFIN.out
   ·have z3:((e3:Int) == 0)=false:=by rw [beq_eq_false_iff_ne]; omega
    have hfin:PP (.returned (.pointer (some ⟨nb,0,none⟩))) w4:=by
     rw [← HH.out.1];have hk:=HK.out;have hbind:zai ((zbF env h).bind fun k => .ok (NT.leaf { op:=oColumn,t:=(env.getD k ⟨[],[],tyNone⟩).t,col:=k })) pos e=(p3,e3):=by
      rw [← hk.2.1,← hk.2.2];unfold zai;by_cases he:e=0
      ·rw [if_neg AA,if_neg AA]
       cases hq:zbF env h with
       | ok k =>exfalso;have h2:=hk.2.2;unfold zai at h2;rw [if_neg AA,hq] at h2;simp only at h2;omega
       | bad p k => rfl
      ·rw [if_pos he,if_pos he]
     refine ⟨nb,rfl,hsz,hM4,by rw [hbind]; exact hS4.st,fun he n hn => ?_⟩;exfalso;have h2:=hk.2.2
     cases hq:zbF env h with
     | ok k =>unfold zai at h2;rw [if_neg AA,hq] at h2;simp only at h2;omega
     | bad p k => rw [hq] at hn; cases hn
    have HFIN:=QH hfin;clear hfin hM4 hS4 hz3 HK HH H2 H4 hM3 hS3 hz hnb;go_wp2_with fail;exact HFIN.out
  |guard_hyp gBe
   rintro r w1 ⟨hM1,rfl⟩;have y0:=hM1.cell x0;clear hc x0;have hz2:=(QM [] w1).alloc (.cells #[.string S,.int .i64 0,.int .i64 0,.int .i64 0,.bool false,.int .i64 0,.string ⟨#[]⟩,.slice none 0 0] 80);have hnb:=QN w1 (.cells #[.string S,.int .i64 0,.int .i64 0,.int .i64 0,.bool false,.int .i64 0,.string ⟨#[]⟩,.slice none 0 0] 80);have y2:=hz2.cell y0;have hS2:=HH.out.2.1.later (hM1.trans hz2);have hxz:=hM1.size;have hgg:=HGG.out (w1.alloc (.cells #[.string S,.int .i64 0,.int .i64 0,.int .i64 0,.bool false,.int .i64 0,.string ⟨#[]⟩,.slice none 0 0] 80));have H2:=QH (AI hM1 (AI hz2 (AI hnb (AI hS2 hxz))));clear hM1 hz2 hnb hS2 hxz HGG;go_wp2_with fail;(with_reducible refine hgg.mono ?_);rintro r w3 ⟨rfl,hM3⟩;obtain ⟨hM1,hz2,hnb,hS2,hxz⟩:=H2.out;have hS3:=hS2.later hM3;have hnb3:=hM3.heap hnb;have hMw3:=(hM1.trans hz2).trans hM3;obtain ⟨nb,hnbe⟩:=EX (w1.heap.size);rw [hnbe] at hnb3 hxz;rw [hnbe];have st3:=hS3.st;have s2:=za st3 2;change w3.cell? _=some (.int .i64 d) at s2;have gs2:=zc st3 2;have hMs:Mods [sb] w3 (w3.setCell ⟨sb,2,none⟩ (.int .i64 ((d:Int)))):=(QM _ _).setCell (.inl AB) _;have st4:zaX (w3.setCell ⟨sb,2,none⟩ (.int .i64 ((d:Int)))) sb cv mb (d) pos e:=zb st3 2 (.int .i64 ((d:Int)));have hMw4:Mods [sb] w (w3.setCell ⟨sb,2,none⟩ (.int .i64 ((d:Int)))):=(hMw3.mono (L':=[sb])).trans hMs;have hsbw:sb < w.heap.size:=zj HH.out.2.1.st;have hnsb:nb ≠ sb:=by omega
   have hnb4:=hMs.heap hnb3 BE;have hx4:=hMw4.heap HH.out.2.2.1 AS;have y4:=za hx4 7;rw [show (hdC t.hd va).toArray[7]? = some va from rfl,HH.out.2.2.2.2.2.2.2.2.2.2.2.2.2.2] at y4
   have hST:OpI w sb cv mb (d) pos e env t.args t.hd.op nb 0 (.slice none 0 0) [] pos e (w3.setCell ⟨sb,2,none⟩ (.int .i64 ((d:Int)))):=
    ⟨rfl,zaP _ _ _,st4,hMw4,hxz,by rw [hnb4,← HH.out.2.2.2.2.2.2.2.1]; rfl,⟨rfl,.inl ⟨rfl,rfl⟩⟩,fun g he => by simp [Value.ownBlock] at he,hsbw,fun _ => rfl,fun _ xs hxs => by
     simp only [List.take_zero,zcY,Chk.ok.injEq] at hxs;subst hxs
     exact ⟨rfl,fun j hx => by simp at hx⟩⟩
   have H4:=QH (AI hST (AI hsbw (AI hnsb hxz)));clear hST st4 hMw4 hMs hnb4 hx4 hMw3 hnb3 hS3 hnbe hM3 hgg H2 hM1 hz2 hnb hS2 st3 hxz y0 y2;go_wp2_with fail;go_loopg [75] n (fun gk t75 wr => ∃ (i:Nat) (av:Value) (vs:List Value) (p1 e1:Nat),i + gk=n ∧ t75 = .int .i64 i ∧ OpI w sb cv mb (d) pos e env t.args t.hd.op nb i av vs p1 e1 wr)
   case atStart => exact ⟨0,_,_,_,_,by omega,rfl,H4.out.1⟩
   clear s2 gs2 y4 H4;obtain ⟨i,av,vs,p1,e1,hin,rfl,hI⟩:=hrel;by_cases hlt:i < n
   ·have gC7:=QH trivial;exact yeg
   ·have gDW:=QH trivial;exact yez
  |guard_hyp gBf
   rintro r w1 ⟨hM1,rfl⟩;have y0:=hM1.cell x0;clear hc x0;have hz2:=(QM [] w1).alloc (.cells #[.string S,.int .i64 0,.int .i64 0,.int .i64 0,.bool false,.int .i64 0,.string ⟨#[]⟩,.slice none 0 0] 80);have hnb:=QN w1 (.cells #[.string S,.int .i64 0,.int .i64 0,.int .i64 0,.bool false,.int .i64 0,.string ⟨#[]⟩,.slice none 0 0] 80);have y2:=hz2.cell y0;have hS2:=HH.out.2.1.later (hM1.trans hz2);have hxz:=hM1.size;have hgg:=HGG.out (w1.alloc (.cells #[.string S,.int .i64 0,.int .i64 0,.int .i64 0,.bool false,.int .i64 0,.string ⟨#[]⟩,.slice none 0 0] 80));have H2:=QH (AI hM1 (AI hz2 (AI hnb (AI hS2 hxz))));clear hM1 hz2 hnb hS2 hxz HGG;go_wp2_with fail;(with_reducible refine hgg.mono ?_);rintro r w3 ⟨rfl,hM3⟩;obtain ⟨hM1,hz2,hnb,hS2,hxz⟩:=H2.out;have hS3:=hS2.later hM3;have hnb3:=hM3.heap hnb;have hMw3:=(hM1.trans hz2).trans hM3;obtain ⟨nb,hnbe⟩:=EX (w1.heap.size);rw [hnbe] at hnb3 hxz;rw [hnbe];have st3:=hS3.st;have s2:=za st3 2;change w3.cell? _=some (.int .i64 d) at s2;have gs2:=zc st3 2;have hMs:Mods [sb] w3 (w3.setCell ⟨sb,2,none⟩ (.int .i64 ((d:Int) + 1))):=(QM _ _).setCell (.inl AB) _;have st4:zaX (w3.setCell ⟨sb,2,none⟩ (.int .i64 ((d:Int) + 1))) sb cv mb (d + 1) pos e:=zb st3 2 (.int .i64 ((d:Int) + 1));have hMw4:Mods [sb] w (w3.setCell ⟨sb,2,none⟩ (.int .i64 ((d:Int) + 1))):=(hMw3.mono (L':=[sb])).trans hMs;have hsbw:sb < w.heap.size:=zj HH.out.2.1.st;have hnsb:nb ≠ sb:=by omega
   have hnb4:=hMs.heap hnb3 BE;have hx4:=hMw4.heap HH.out.2.2.1 AS;have y4:=za hx4 7;rw [show (hdC t.hd va).toArray[7]? = some va from rfl,HH.out.2.2.2.2.2.2.2.2.2.2.2.2.2.2] at y4
   have hST:OpI w sb cv mb (d + 1) pos e env t.args t.hd.op nb 0 (.slice none 0 0) [] pos e (w3.setCell ⟨sb,2,none⟩ (.int .i64 ((d:Int) + 1))):=
    ⟨rfl,zaP _ _ _,st4,hMw4,hxz,by rw [hnb4,← HH.out.2.2.2.2.2.2.2.1]; rfl,⟨rfl,.inl ⟨rfl,rfl⟩⟩,fun g he => by simp [Value.ownBlock] at he,hsbw,fun _ => rfl,fun _ xs hxs => by
     simp only [List.take_zero,zcY,Chk.ok.injEq] at hxs;subst hxs
     exact ⟨rfl,fun j hx => by simp at hx⟩⟩
   have H4:=QH (AI hST (AI hsbw (AI hnsb hxz)));clear hST st4 hMw4 hMs hnb4 hx4 hMw3 hnb3 hS3 hnbe hM3 hgg H2 hM1 hz2 hnb hS2 st3 hxz y0 y2;go_wp2_with fail;go_loopg [75] n (fun gk t75 wr => ∃ (i:Nat) (av:Value) (vs:List Value) (p1 e1:Nat),i + gk=n ∧ t75 = .int .i64 i ∧ OpI w sb cv mb (d + 1) pos e env t.args t.hd.op nb i av vs p1 e1 wr)
   case atStart => exact ⟨0,_,_,_,_,by omega,rfl,H4.out.1⟩
   clear s2 gs2 y4 H4;obtain ⟨i,av,vs,p1,e1,hin,rfl,hI⟩:=hrel;by_cases hlt:i < n
   ·have gC8:=QH trivial;exact yeg
   ·have gDX:=QH trivial;exact yez
 ):p:=h
theorem yeS {p:Prop} (h:p:=by
  obtain ⟨hun0,oi,hoi0,hdep0⟩:=mem_ready.1 hi;have gEW:=QH trivial;exact yeY
 ):p:=h
theorem ycy {p:Prop} (h:p:=by
  exact ⟨fun s0 hs0 => hA3 s0 (hq1.1 s0 hs0) fun k2 hk2 o2 ho2 => (hq2 k2 hk2 o2 ho2).1 s0 hs0,fun d hd => hA3 d (hq1.2 d hd) fun k2 hk2 o2 ho2 => (hq2 k2 hk2 o2 ho2).2 d hd⟩
 ):p:=h
theorem ycD {p:Prop} (h:p:=by
  have ht:a.tmps=AF.tmps:=Array.ext_getElem? fun s => h.frame s fun m om hm _ _ => main m (List.getElem?_eq_some_iff.1 hm).1;have hd:=h.defers;cases a;cases AF;simp only at ht hd;subst ht;subst hd;rfl
 ):p:=h
theorem yao {p:Prop} (h:p:=by
  rw [t4 s0 hnq,hat,hAt,zbA,zbA];by_cases hds:oi.dst=some s0
  ·by_cases hlt:s0 < a.tmps.size
   ·rw [if_pos ⟨hds,hlt⟩,if_pos ⟨hds,by rw [← h.fsize]; exact hlt⟩]
   ·have hlt2:¬ s0 < AF.tmps.size:=by rw [← h.fsize]; exact hlt
    rw [if_neg (fun hh => hlt hh.2),if_neg (fun hh => hlt2 hh.2),Array.getElem?_eq_none (Nat.le_of_not_lt hlt),Array.getElem?_eq_none (Nat.le_of_not_lt hlt2)]
  ·rw [if_neg (fun hh => hds hh.1),if_neg (fun hh => hds hh.1)];refine h.frame s0 fun m om hm hms hmd => ?_;have h1:=hs0 m om hm hms (List.mem_append_left _ hmd);rw [hset] at h1;by_cases hmi:m=i
   ·subst hmi; exact absurd hmd hid
   ·rw [if_neg hmi] at h1; exact h1
 ):p:=h
theorem yeP {p:Prop} (h:p:=by
  ·rw [zbA];by_cases hds:oi.dst=some s ∧ s < a.tmps.size
   ·rw [if_pos hds,hv s hds.1 (by rw [← h.fsize]; exact hds.2)]
   ·rw [if_neg hds];by_cases hlt:s < a.tmps.size
    ·have hne2:oi.dst ≠ some s:=fun e => hds ⟨e,hlt⟩;refine h.frame s fun m om hm hms hmd => ?_;have h3:=hs m om hm hms hmd;rw [hset] at h3;by_cases hmi:m=i
     ·subst hmi;rw [hoi] at hm;cases hm;exact absurd hms hne2
     ·rw [if_neg hmi] at h3;exact h3
    exact ycG
 ):p:=h
theorem yaF {p:Prop} (h:p:=by
  have hqq:=YieldsIn.qOp (K:=fun a2 => a2=a.put oi.dst v) hoi0 hya rfl
  exact wpOp_of_qOp (Q':=Q) (K':=wpAny P .any l.toArray Q fuel (listed.setIfInBounds i true)) (C:=fun u => ∃ k:Unit,u=w) ⟨(),rfl⟩ (fun a2 w2 hw2 ha2 => by
   obtain ⟨-,rfl⟩:=hw2;rw [ha2]
   exact hK) hqq
 ):p:=h
theorem yba {p:Prop} (h:p:=by
  intro k o hk ho e he hb;rw [hset] at hk;by_cases hki:k=i
  ·subst hki;rw [hoi] at ho;cases ho;exact hmono _ (hdep e he hb)
  ·rw [if_neg hki] at hk;exact hmono _ (h.down k o hk ho e he hb)
 ):p:=h
theorem ybf {p:Prop} (h:p:=by
  have h3:=hdep0 e BB hb;have hlt:e.on < listed.size:=by rw [h.size]; have:=(hwl i oi hoi).1 e he hb; omega
  rw [Array.getElem?_eq_getElem hlt];simp [hlt] at h3;rw [h3]
 ):p:=h
theorem ybr {p:Prop} (h:p:=by
  unfold lastB at hl;simp only [Bool.and_eq_true] at hl;intro k hk;have h1:=List.all_eq_true.1 hl.2 k (List.mem_range.2 hk);simp only [Bool.or_eq_true,decide_eq_true_eq] at h1;rcases h1 with rfl | h1
  ·exact hself
  ·exact hmono k (hwt k h1)
 ):p:=h
theorem ybx {p:Prop} (h:p:=by
  rw [hset] at hk;by_cases hki:k=i
  ·subst hki; simp
  ·rw [if_neg hki] at hk; exact List.mem_append_left _ (h.sub k hk)
 ):p:=h
theorem yeQ {p:Prop} (h:p:=by
  rw [hset] at hk;by_cases hki:k=i
  ·subst hki; exact hid
  ·rw [if_neg hki] at hk; exact h.sub k hk
 ):p:=h
theorem ybR {p:Prop} (h:p:=by
  obtain ⟨e,he,hb,rfl⟩:=(hwl i oi hoi).2 s hs m om hm hms;exact hdep e he hb
 ):p:=h
def zeI (R:Act → World → Prop) (x:Exit) (a:Act) (w:World):Prop:=match x with | .normal => R a w | _ => False
theorem zd {R:Act → World → Prop} {a:Act} {w:World} (h:R a w):zeI R .normal a w:=h
def zct (P:Program) (ops:Array Oper) (C:World → Prop) (z:Bool) (Q:Act → World → Prop):List (Oper × List Oper) → Act → World → Prop
 | [],a,w => Q a w
 | x :: rest,a,w => wpList P ops (zeI fun a' w' => ((z=false ∧ rest=[]) ∨ C w') ∧ ∃ AF,(∀ y,C y → wpQuiet P ops (fun u => ∃ k:Unit,u=y) (fun af => af=AF) x.2 a') ∧ zct P ops C z Q rest AF w') [x.1] a w
theorem zP {P:Program} {ops:Array Oper} {C:World → Prop} {z:Bool} {Q:Act → World → Prop} {s:Oper} {qs:List Oper} {rest:List (Oper × List Oper)} {a:Act} {w:World}
  (h:∀ R:Act → World → Prop,(∀ a' w',((z=false ∧ rest=[]) ∨ C w') → ∀ AF,(∀ y,C y → wpQuiet P ops (fun u => ∃ k:Unit,u=y) (fun af => af=AF) qs a') → zct P ops C z Q rest AF w' → R a' w') → wpList P ops (zeI R) [s] a w):zct P ops C z Q ((s,qs) :: rest) a w:=
 h _ fun a' w' h1 AF h2 h3 => ⟨h1,AF,h2,h3⟩
theorem zv {P:Program} {ops:Array Oper} {C:World → Prop} {z:Bool} {Q:Act → World → Prop} {s:Oper} {rest:List (Oper × List Oper)} {a:Act} {w:World}
  (h:∀ R:Act → World → Prop,(∀ a' w',((z=false ∧ rest=[]) ∨ C w') → zct P ops C z Q rest a' w' → R a' w') → wpList P ops (zeI R) [s] a w):zct P ops C z Q ((s,[]) :: rest) a w:=
 zP fun R hR => h R fun a' w' h1 h2 => hR a' w' h1 a' (fun y _ => rfl) h2
theorem zI {P:Program} {ops:Array Oper} {C:World → Prop} {z:Bool} {Q:Act → World → Prop} {a:Act} {w:World} (h:Q a w):zct P ops C z Q [] a w:=h
def zbf (l:List Oper):Nat → Nat → Nat → Bool
 | 0,_,_ => false
 | f + 1,i,j => match l[i]? with
  | none => false
  | some o => o.after.toList.any fun e => Region.binds .any e && (decide (e.on=j) || zbf l f e.on j)
def zL (sp:List (Nat × List Nat)):List Nat:=sp.flatMap fun x => x.1 :: x.2
def zat (l:List Oper) (q:List Nat):List Oper:=q.filterMap fun i => l[i]?
def pickS (l:List Oper) (sp:List (Nat × List Nat)):List (Oper × List Oper):=sp.filterMap fun x => (l[x.1]?).map fun o => (o,zat l x.2)
def zfJ (l:List Oper):Option Nat → List (Nat × List Nat) → Bool
 | _,[] => true
 | p,(s,qs) :: rest => (match l[s]? with | none => false | some o => noSel o) && (match p with | none => true | some j => zbf l l.length s j) && (qs.all fun q => zbf l l.length q s) && zfJ l (some s) rest
def lastB (l:List Oper):List (Nat × List Nat) → Bool
 | [] => true
 | [(s,qs)] => qs.isEmpty && (List.range l.length).all fun i => decide (i=s) || zbf l l.length s i
 | _ :: rest => lastB l rest
def spineB (l:List Oper) (q0:List Nat) (sp:List (Nat × List Nat)) (z:Bool):Bool:=
 decide (q0 ++ zL sp).Nodup && ((List.range l.length).all fun i => (q0 ++ zL sp).contains i) && ((q0 ++ zL sp).all fun i => decide (i < l.length)) && zbQ l.toArray (zat l (q0 ++ zL sp)) && waitB l && zfJ l none sp && (z || lastB l sp)
section
variable {P:Program} {l:List Oper} {C:World → Prop}
theorem zcq {listed:Array Bool} (hdown:∀ (i:Nat) (o:Oper),listed[i]? = some true → l[i]? = some o → ∀ e ∈ o.after.toList,Region.binds .any e=true → listed[e.on]? = some true) :
  ∀ (f i j:Nat) (o:Oper),l[i]? = some o → (∀ e ∈ o.after.toList,Region.binds .any e=true → listed[e.on]? = some true) → zbf l f i j=true → listed[j]? = some true:=by
 intro f
 induction f with
 | zero => intro i j o _ _ h; cases h
 | succ f ih =>
  intro i j o hi hd h;unfold zbf at h;rw [hi] at h;simp only [List.any_eq_true,Bool.and_eq_true,Bool.or_eq_true,decide_eq_true_eq] at h;obtain ⟨e,he,hb,h⟩:=h;have hl:=hd e he hb;rcases h with h | h
  ·rw [← h]; exact hl
  ·cases ho:l[e.on]? with
   | none =>
    cases f with
    | zero => cases h
    | succ f => unfold zbf at h; rw [ho] at h; cases h
   | some o2 => exact ih e.on j o2 ho (hdown _ _ hl ho) h
def QF (P:Program) (l:List Oper) (C:World → Prop) (AF:Act) (i:Nat):Prop:=
 ∀ o,l[i]? = some o → noSel o=true ∧ ∀ y,C y → ∃ v,YieldsIn P l.toArray (fun u => ∃ k:Unit,u=y) o v AF ∧ ∀ d,o.dst=some d → d < AF.tmps.size → AF.tmps[d]? = some v
theorem QF.later {AF AF':Act} {i:Nat} (h:QF P l C AF i) (hs:AF'.tmps.size=AF.tmps.size) (hk:∀ o,l[i]? = some o → (∀ s ∈ o.looksAt l.toArray,AF'.tmps[s]? = AF.tmps[s]?) ∧ ∀ d,o.dst=some d → AF'.tmps[d]? = AF.tmps[d]?):QF P l C AF' i:=by intro o ho;obtain ⟨h1,h2⟩:=h o ho;obtain ⟨k1,k2⟩:=hk o ho;refine ⟨h1,fun y hy => ?_⟩;obtain ⟨v,h3,h4⟩:=h2 y hy;obtain ⟨c1,c2⟩:=zaL h1 k1;exact ⟨v,h3.of_same c1 c2,fun d hd hlt => by rw [k2 d hd]; exact h4 d hd (by rw [← hs]; exact hlt)⟩
structure SpAt (P:Program) (l:List Oper) (C:World → Prop) (z:Bool) (Q:Act → World → Prop) (done:List Nat) (rem:List (Nat × List Nat)) (p:Option Nat) (AF:Act) (listed:Array Bool) (a:Act) (w:World):Prop where
 size:listed.size=l.length
 isOrder:zfJ l p rem=true
 nodup:(done ++ zL rem).Nodup
 all:∀ i,i < l.length → i ∈ done ++ zL rem
 bound:∀ i ∈ done ++ zL rem,i < l.length
 once:∀ (i j:Nat) (oi oj:Oper),l[i]? = some oi → l[j]? = some oj → i ∈ done → j ∈ zL rem → (∀ s ∈ oi.looksAt l.toArray,oj.dst ≠ some s) ∧ ∀ d,oi.dst=some d → oj.dst ≠ some d
 onceR:zbQ l.toArray (zat l (zL rem))=true
 sub:∀ i:Nat,listed[i]? = some true → i ∈ done
 down:∀ (i:Nat) (o:Oper),listed[i]? = some true → l[i]? = some o → ∀ e ∈ o.after.toList,Region.binds .any e=true → listed[e.on]? = some true
 prev:∀ j,p=some j → listed[j]? = some true
 quiet:∀ i ∈ done,listed[i]? = some true ∨ QF P l C AF i
 frame:∀ s,(∀ (m:Nat) (om:Oper),l[m]? = some om → om.dst=some s → m ∈ done → listed[m]? = some true) → a.tmps[s]? = AF.tmps[s]?
 fsize:a.tmps.size=AF.tmps.size
 defers:a.defers=AF.defers
 cls:C w ∨ ∀ i:Nat,i < l.length → listed[i]? = some true
 last:z=true ∨ lastB l rem=true
 rest:zct P l.toArray C z Q (pickS l rem) AF w
theorem zW (x y:List Nat):zat l (x ++ y)=zat l x ++ zat l y:=by simp [zat]
theorem zl6 {q:List Nat} {o:Oper} (h:o ∈ zat l q):∃ i ∈ q,l[i]? = some o:=by obtain ⟨i,hi,ho⟩:=List.mem_filterMap.1 h;exact ⟨i,hi,ho⟩
theorem zM {q:List Nat} {i:Nat} {o:Oper} (h:i ∈ q) (ho:l[i]? = some o):o ∈ zat l q:=List.mem_filterMap.2 ⟨i,h,ho⟩
theorem zX {ops:Array Oper}:∀ {x y:List Oper},zbQ ops (x ++ y)=true → zbQ ops x=true ∧ zbQ ops y=true ∧ ∀ oi ∈ x,∀ oj ∈ y,(∀ s ∈ oi.looksAt ops,oj.dst ≠ some s) ∧ ∀ d,oi.dst=some d → oj.dst ≠ some d:=by
 intro x
 induction x with
 | nil => intro y h; exact ⟨rfl,h,fun oi ho => by cases ho⟩
 | cons o x ih =>
  intro y h;rw [List.cons_append] at h;unfold zbQ at h;simp only [Bool.and_eq_true] at h;obtain ⟨⟨⟨k1,k2⟩,k3⟩,k4⟩:=h;obtain ⟨i1,i2,i3⟩:=ih k4;refine ⟨?_,i2,fun oi hoi oj hoj => ?_⟩
  ·unfold zbQ;simp only [Bool.and_eq_true];refine ⟨⟨⟨k1,?_⟩,?_⟩,i1⟩
   ·rw [List.all_eq_true];intro s hs;have:=List.all_eq_true.1 k2 s hs;rw [List.all_eq_true] at this ⊢;intro o' ho';refine this o' ?_;rcases MC ho' with rfl | h
    ·exact List.mem_cons_self
    ·exact CM _ (List.mem_append_left _ h)
   ·cases hd:o.dst with
    | none => rfl
    | some d =>rw [hd] at k3;simp only [List.all_eq_true] at k3 ⊢;exact fun o' ho' => k3 o' (List.mem_append_left _ ho')
  ·rcases MC hoi with rfl | hoi
   ·refine ⟨fun s hs => ?_,fun d hd => ?_⟩
    ·have h1:=List.all_eq_true.1 (List.all_eq_true.1 k2 s hs) oj (CM _ (List.mem_append_right _ hoj));simpa using h1
    ·rw [hd] at k3;have h1:=List.all_eq_true.1 k3 oj (List.mem_append_right _ hoj);simpa using h1
   ·exact i3 oi hoi oj hoj
theorem stretch {q:List Nat} {AF a:Act} (hb:∀ i ∈ q,i < l.length) (hon:zbQ l.toArray (zat l q)=true) (h:∀ y,C y → wpQuiet P l.toArray (fun u => ∃ k:Unit,u=y) (fun af => af=AF) (zat l q) a) (hne:∃ y,C y) :
  (∀ i ∈ q,QF P l C AF i) ∧ AF.defers=a.defers ∧ AF.tmps.size=a.tmps.size ∧ ∀ s,(∀ i ∈ q,∀ o,l[i]? = some o → o.dst ≠ some s) → AF.tmps[s]? = a.tmps[s]?:=by
 obtain ⟨y0,hy0⟩:=hne;obtain ⟨f1,f2,f3⟩:=zgc _ _ (h y0 hy0);refine ⟨fun i hi o ho => ?_,f1,f2,fun s hs => f3 s fun o ho => ?_⟩
 ·obtain ⟨k,hk⟩:=List.mem_iff_getElem?.1 (zM hi ho);exact ⟨(zc9 _ _ hon (h y0 hy0) k o hk).1,fun y hy => (zc9 _ _ hon (h y hy) k o hk).2⟩
 ·obtain ⟨i,hi,hio⟩:=zl6 ho;exact hs i hi o hio
theorem znF {o:Oper} {a AF:Act} {K K':Act → World → Prop} {Q Q':Exit → Act → World → Prop} {r:Result Next} (hd:a.defers=AF.defers)
  (h:∀ a2 AF2 w v,a2.defers=AF2.defers → a2.tmps=(a.put o.dst v).tmps → AF2.tmps=(AF.put o.dst v).tmps → K' AF2 w → K a2 w) (hq:∀ x a w,x ≠ .normal → ¬ Q' x a w) (hr:o.upon P AF K' Q' r):o.upon P a K Q r:=by
 cases r with
 | ok n w' =>
  cases n <;> simp only [Oper.upon] at hr ⊢
  case value v => exact h _ _ _ v AU rfl rfl hr
  case skip => exact h _ _ _ undef AU rfl rfl hr
  case defer d =>
   refine h _ _ _ undef ?_ ?_ ?_ hr
   ·rw [(zJ _ _ _).2,(zJ _ _ _).2,hd]
   ·cases o.dst <;> rfl
   ·cases o.dst <;> rfl
  case enter f args =>
   refine Calls.mono hr ?_;intro e w'' he
   cases e with
   | returned v => exact h _ _ _ v AU rfl rfl he
   | panicked c => exact absurd he (hq _ _ _ AB)
   | outgrown =>obtain ⟨a3,w3,h3⟩:=he;exact absurd h3 (hq _ _ _ AB)
  case row row args =>refine Rows.mono hr ?_;intro v w'' he;exact h _ _ _ v AU rfl rfl he
 | halt x w' =>cases x <;> simp only [Oper.upon] at hr ⊢;exact absurd hr (hq _ _ _ AB)
theorem zg0 {ops:Array Oper} {i:Nat} {o:Oper} {a AF:Act} {w:World} {K:Act → World → Prop} {R:Act → World → Prop} {Q:Exit → Act → World → Prop} (ho:ops[i]? = some o) (hd:a.defers=AF.defers) (c1:execOp a.eval o=execOp AF.eval o) (c2:Region.wanted o (yielded ops a.tmps)=Region.wanted o (yielded ops AF.tmps))
  (h:wpList P ops (zeI R) [o] AF w) (H:∀ a2 AF2 w2 v,a2.defers=AF2.defers → a2.tmps=(a.put o.dst v).tmps → AF2.tmps=(AF.put o.dst v).tmps → R AF2 w2 → K a2 w2):wpOp P ops Q i K a w:=by
 unfold wpList at h;unfold wpOp;rw [ho];simp only;rw [c2];by_cases hw:Region.wanted o (yielded ops AF.tmps)=true
 ·rw [if_pos hw] at h ⊢;have hwp:=h.resolve_right (fun hh => by obtain ⟨a3,w3,h3⟩:=hh.2; exact h3);refine .inl ?_;unfold Oper.wp at hwp ⊢;rw [c1];exact znF hd H (fun x a w hx hs => by cases x <;> first | exact hx rfl | exact hs) hwp
 ·rw [if_neg hw] at h ⊢;exact H _ _ _ undef AU rfl rfl h
theorem zE (s:Nat) (qs:List Nat) (rest:List (Nat × List Nat)):zL ((s,qs) :: rest)=s :: (qs ++ zL rest):=by simp [zL]
theorem zgb {s:Nat} {qs:List Nat} {rest:List (Nat × List Nat)} {o:Oper} (h:l[s]? = some o):pickS l ((s,qs) :: rest)=(o,zat l qs) :: pickS l rest:=by simp [pickS,h]
theorem zkc:∀ (rest:List (Nat × List Nat)) (s:Nat),zfJ l (some s) rest=true → ∀ i ∈ zL rest,∃ j ∈ s :: zL rest,zbf l l.length i j=true:=by
 intro rest
 induction rest with
 | nil => intro s _ i hi; simp [zL] at hi
 | cons x rest ih =>
  intro s h i hi;obtain ⟨s2,qs⟩:=x;unfold zfJ at h;simp only [Bool.and_eq_true] at h;obtain ⟨⟨⟨h1,h2⟩,h3⟩,h4⟩:=h;rw [zE] at hi ⊢;rcases MC hi with rfl | hi
  ·exact ⟨s,List.mem_cons_self,h2⟩
  rcases List.mem_append.1 hi with hi | hi
  ·exact ⟨s2,by simp,List.all_eq_true.1 h3 i hi⟩
  ·obtain ⟨j,hj,hw⟩:=ih s2 h4 i hi;refine ⟨j,?_,hw⟩;rcases MC hj with rfl | hj
   ·simp
   ·simp [hj]
theorem zl7 {z:Bool} {Q:Exit → Act → World → Prop} (hwait:waitB l=true) (hne:∃ y,C y) :
  ∀ (fuel:Nat) (done:List Nat) (rem:List (Nat × List Nat)) (p:Option Nat) (AF:Act) (listed:Array Bool) (a:Act) (w:World),SpAt P l C z (fun a w => Q .normal a w) done rem p AF listed a w → listed.toList.countP (fun b => !b) ≤ fuel → wpAny P .any l.toArray Q fuel listed a w:=by
 have gEJ:=QH trivial;exact yeU
theorem zr {id:Nat} {Q:Exit → Act → World → Prop} {a:Act} {w:World} (hm:P.follows .mixedOrders=true) (q0:List Nat) (sp:List (Nat × List Nat)) (z:Bool) (hok:spineB l q0 sp z=true) (C:World → Prop) (hC:C w.drew)
  (AF:Act) (hwalk:∀ y,C y → wpQuiet P l.toArray (fun u => ∃ k:Unit,u=y) (fun af => af=AF) (zat l q0) a) (hrun:zct P l.toArray C z (fun a w => Q .normal a w) (pickS l sp) AF w.drew):(Code.region id l.toArray true).wp P Q a w:=by
 refine wp_region_any hm ?_;unfold spineB at hok;simp only [Bool.and_eq_true] at hok;obtain ⟨⟨⟨⟨⟨⟨k1,k2⟩,k3⟩,k4⟩,k5⟩,k6⟩,k7⟩:=hok;have hnd:(q0 ++ zL sp).Nodup:=by simpa using k1
 have hbd:∀ i ∈ q0 ++ zL sp,i < l.length:=fun i hi => by simpa using List.all_eq_true.1 k3 i hi
 rw [zW] at k4;obtain ⟨o1,o2,o3⟩:=zX k4;obtain ⟨t1,t2,t3,t4⟩:=stretch (fun i hi => hbd i (List.mem_append_left _ hi)) o1 hwalk ⟨_,hC⟩;have hrep:∀ i:Nat,(Array.replicate l.toArray.size false)[i]? ≠ some true:=fun i => by simp [Array.getElem?_replicate]
 refine zl7 k5 ⟨_,hC⟩ _ q0 sp none AF _ _ _ ⟨by simp,k6,hnd,fun i hi => ?_,hbd,fun i j oi oj hoi hoj hi hj => o3 oi (zM hi hoi) oj (zM hj hoj),o2,fun i hi => absurd hi (hrep i),fun i o hi => absurd hi (hrep i),fun j hj => (by cases hj),fun i hi => .inr (t1 i hi),fun s hs => ?_,t3.symm,t2.symm,.inl hC,?_,hrun⟩ ?_
 ·exact List.contains_iff_mem.1 (List.all_eq_true.1 k2 i (List.mem_range.2 hi))
 ·exact (t4 s fun i hi o ho hds => hrep i (hs i o ho hds hi)).symm
 ·simpa using k7
 ·refine Nat.le_trans List.countP_le_length ?_;simp
end
open Go.Maps
theorem zbX (w:World) (hV:CkVars w) (xb:Nat) (h:Hd) (va:Value) (hb:w.heap[xb]? = some (.cells (hdC h va).toArray 171 (0,0))):Calls Tryz.prog 96 #[zh xb] w (zaG w (zS h)):=by
 by_cases h1:h.op=oNumber
 ·have:zS h=some { op:=oValue,t:=if 0 < h.scale then ⟨2,h.scale⟩ else tyInt,n:=h.n }:=by unfold zS; rw [if_pos h1]
  rw [this]; exact ze6 w hV xb h va hb h1
 by_cases h2:h.op=oText
 ·have:zS h=some { op:=oValue,t:=tyBytes,s:=h.s }:=by unfold zS; rw [if_neg h1,if_pos h2]
  rw [this]; exact zgK w hV xb h va hb h2
 by_cases h4:h.op=oNull
 ·have:zS h=some { op:=oValue,t:=tyBool,null:=true }:=by unfold zS; rw [if_neg h1,if_neg h2,if_pos h4]
  rw [this]; exact zgJ w hV xb h va hb h4
 by_cases h3:h.op=oBool
 ·have:zS h=some (val0 h.n):=by unfold zS; rw [if_neg h1,if_neg h2,if_neg h4,if_pos h3]; rfl
  rw [this]; exact zgI w hV xb h va hb h3
 ·have:zS h=none:=by unfold zS; rw [if_neg h1,if_neg h2,if_neg h4,if_neg h3]
  rw [this]; exact (zgH w hV xb h va hb h1 h2 h3 h4).mono fun e w' h => ⟨h.2,h.1⟩
def EnvCols (w:World) (L:List Nat) (cv:Value) (env:List EC):Prop:=
 ∃ ao cap,cv = .slice ao env.length cap ∧ (0 < env.length → ∃ g,ao=some ⟨g,0,none⟩ ∧ g ∉ L ∧ env.length ≤ cap ∧ cap ≤ 9223372036854775807 ∧ ∀ i (hi:i < env.length),w.cell? ⟨g,i * 4,none⟩ = some (.string ⟨env[i].name.toArray⟩) ∧ w.cell? ⟨g,i * 4 + 1,none⟩ = some (.int .i64 env[i].t.k) ∧ w.cell? ⟨g,i * 4 + 2,none⟩ = some (.int .i64 env[i].t.s) ∧ ∃ nl,w.cell? ⟨g,i * 4 + 3,none⟩ = some (.bool nl))
theorem EnvCols.mods {w w':World} {L:List Nat} {cv:Value} {env:List EC} (h:EnvCols w L cv env) (hM:Mods L w w'):EnvCols w' L cv env:=by obtain ⟨ao,cap,h1,h2⟩:=h;refine ⟨ao,cap,h1,fun h0 => ?_⟩;obtain ⟨g,q1,q2,q3,q4,q5⟩:=h2 h0;refine ⟨g,q1,q2,q3,q4,fun i hi => ?_⟩;obtain ⟨p1,p2,p3,nl,p4⟩:=q5 i hi;exact ⟨hM.cell p1 q2,hM.cell p2 q2,hM.cell p3 q2,nl,hM.cell p4 q2⟩
structure Scope (w:World) (sb:Nat) (cv:Value) (mb d pos e:Nat) (env:List EC):Prop where
 st:zaX w sb cv mb d pos e
 map:EnvMap w [sb] mb env
 cols:EnvCols w [sb] cv env
theorem Scope.go {w w':World} {sb:Nat} {cv:Value} {mb d pos e d' pos' e':Nat} {env:List EC} (h:Scope w sb cv mb d pos e env) (hM:Mods [sb] w w') (hS:zaX w' sb cv mb d' pos' e'):Scope w' sb cv mb d' pos' e' env:=
 ⟨hS,h.map.mods hM,h.cols.mods hM⟩
theorem Scope.later {w w':World} {sb:Nat} {cv:Value} {mb d pos e:Nat} {env:List EC} (h:Scope w sb cv mb d pos e env) (hM:Mods [] w w'):Scope w' sb cv mb d pos e env:=
 h.go (hM.mono) (hM.heap h.st)
def ERes (w:World) (sb:Nat) (cv:Value) (mb d pos e:Nat) (env:List EC) (r0:Chk NT) (r:Ending) (w':World):Prop:=
 ∃ b,r = .returned (zh b) ∧ w.heap.size ≤ b ∧ Mods [sb] w w' ∧ zaX w' sb cv mb d (zai r0 pos e).1 (zai r0 pos e).2 ∧ (e=0 → ∀ n,r0 = .ok n → ∀ L:List Nat,(∀ x ∈ L,x < w.heap.size) → NAt w' L (zh b) n)
theorem zaP {α:Type} (a:α) (pos e:Nat):zai (.ok a) pos e=(pos,e):=by unfold zai; split <;> rfl
theorem zjK (w:World) (hV:CkVars w) (sb:Nat) (cv:Value) (mb d pos e:Nat) (env:List EC) (hS:Scope w sb cv mb d pos e env) (xb:Nat) (h:Hd) (va:Value) (hx:w.heap[xb]? = some (.cells (hdC h va).toArray 171 (0,0))) (n:NHd) (hn:zS h=some n) :
  Calls Tryz.prog 67 #[zh sb,zh xb] w (ERes w sb cv mb d pos e env (.ok (.leaf n))):=by
 have hc:=zbX w hV xb h va hx;rw [hn] at hc;have hst:=hS.st;obtain ⟨PP,hPP⟩:=EX (ERes w sb cv mb d pos e env (.ok (.leaf n)));rw [hPP];have HPP:=QH (AI hPP hst);clear hPP hst hS hx hn hV;unfold zh at *;have gBc:=QH trivial;exact ydn
theorem zh6 (w:World) (hV:CkVars w) (sb:Nat) (cv:Value) (mb d pos e:Nat) (env:List EC) (hS:Scope w sb cv mb d pos e env) (hel:env.length ≤ 1000) (xb:Nat) (h:Hd) (va:Value) (hx:w.heap[xb]? = some (.cells (hdC h va).toArray 171 (0,0))) (hne:xb ≠ sb) (hop:h.op=oColumn)
  (ht:h.table.length ≤ 9223372036854775807) (hn:h.name.length ≤ 9223372036854775807) :
  Calls Tryz.prog 67 #[zh sb,zh xb] w (ERes w sb cv mb d pos e env ((zbF env h).bind fun k => .ok (.leaf { op:=oColumn,t:=(env.getD k ⟨[],[],tyNone⟩).t,col:=k }))):=by
 have hc:=zbX w hV xb h va hx;have hcn:zS h=none:=by unfold zS; rw [hop]; rfl
 rw [hcn] at hc;have x0:=za hx 0;change w.cell? _=some (.string ⟨h.op.toArray⟩) at x0;rw [hop] at x0;change w.cell? _=some (.string ⟨#[99,111,108,117,109,110]⟩) at x0;obtain ⟨PP,hPP⟩:=EX (ERes w sb cv mb d pos e env ((zbF env h).bind fun k => .ok (.leaf { op:=oColumn,t:=(env.getD k ⟨[],[],tyNone⟩).t,col:=k })));rw [hPP];have HH:=QH (AI hPP (AI hS (AI hx (AI ht hn))));clear hPP hS hx ht hn hV hcn hop;unfold zh at *;have gBd:=QH trivial;exact ydn
end Go.Proofs.YtcabeljiobiojaaGreatDoor
