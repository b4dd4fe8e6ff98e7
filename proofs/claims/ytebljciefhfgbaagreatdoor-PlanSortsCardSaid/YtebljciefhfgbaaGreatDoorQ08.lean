/-
  parse's test, walked. No condition.
-/
import Derived.Test.YtebljciefhfgbaaGreatDoorQ07
set_option linter.unusedVariables false
set_option maxRecDepth 100000
set_option maxHeartbeats 4000000
namespace Go.Proofs.YtebljciefhfgbaaGreatDoor
open Go.RowKit
theorem yag {p:Prop} (h:p:=by
  have hxz:=hMz.heap hxb n3;have xz:wz.drew.cell? ⟨xp,0,none⟩ = some (.pointer (some ⟨pb,0,none⟩)):=hMz.cell hx n1;have cz:wz.drew.cell? ⟨xc,0,none⟩ = some (.pointer (some ⟨xb,0,none⟩)):=hMz.cell hc n2;have hcall:=HEX.out wz.drew s3 (hPz.later (QM [] wz).drew);have hwz:=hMz.size;clear hPz;go_region_with ((with_reducible refine hcall.mono ?_); rintro e w5 ⟨yb,rfl,hM5,hP5,hE5⟩; dsimp only [zh]; have hx5:=hM5.heap (show wz.drew.heap[xb]? = _ from hxz) n3; have c5:w5.cell? ⟨xc,0,none⟩ = some (.pointer (some ⟨xb,0,none⟩)):=hM5.cell cz n2; have y5:w5.cell? ⟨xb,7,none⟩ = some (.slice none 0 0):=za hx5 7; have f5:=zc hx5 7; have z6:=((QM [] w5).alloc (.cells #[.pointer (some ⟨yb,0,none⟩)] 107)); have c6:=z6.cell c5; have y6:=z6.cell y5; have f6:=zc (z6.heap hx5) 7)
  all_goals
   obtain ⟨hP7,hM7,ab,yb',hf1,hf2,hf3,hf4⟩:=zdv hxp hxt (LL hxw hwz) hx5 hM5 hP5 hE5;have x7:=hM7.cell (show wz.cell? ⟨xp,0,none⟩ = _ from xz) n4;have H7:=QH (AI hP7 (AI hM7 (AI hf1 (AI hf2 (AI hf3 hf4)))));clear hP7 hM7 hf1 hf2 hf3 hf4 hP5 hE5 hM5 hx5 z6 hcall;go_upto_region 4 with fail;generalize (w5.alloc (.cells #[.pointer (some ⟨yb,0,none⟩)] 107)).setCell ⟨xb,7,none⟩ (.slice (some ⟨w5.heap.size,0,none⟩) 1 1)=w7 at *;have hMs:=(QM [] w7).alloc (.cells #[.string ⟨#[41]⟩] 9);have hl7:=H7.out.1.lt;have hwa:Calls Tryz.prog 53 #[zh pb,.slice (some ⟨w7.heap.size,0,none⟩) 1 1] (w7.alloc (.cells #[.string ⟨#[41]⟩] 9)) _:=zbq _ pb tg _ f (H7.out.1.later hMs) _ [wShut] (zaT w7 wShut 9) AD (fun g off n c he => by simp only [Value.slice.injEq,Option.some.injEq,Addr.mk.injEq] at he; omega);unfold zh at hwa;go_wp2_with fail;(with_reducible refine hwa.mono ?_);rintro e w9 ⟨rfl,hM9,hP9⟩;clear hwa;go_wp2_with fail;go_end0;obtain ⟨-,hM7,hf1,hf2,hf3,hf4⟩:=H7.out;have h79:Mods [pb] w7 w9:=(hMs.mono (L':=[pb])).trans hM9;refine ⟨rfl,by rw [HFz.out]; exact hP9,((hMz.mono (L':=[pb,xb])).trans hM7).trans (h79.mono (L':=[pb,xb]) AB),?_⟩;unfold AggAt;rw [HFz.out];intro he L hL;refine ⟨xb,ab,zh yb',rfl,fun hm => (hL _ hm).2 rfl,fun hm => by have:=(hL _ hm).1; omega,h79.heap hf1 n3,h79.heap hf2 AE,?_⟩
   exact ((hf4 (zeV he) (pb :: L) fun z hm => by
    rcases MC hm with rfl | hm
    ·omega
    ·have:=(hL _ hm).1; omega).mods (h79.mono)).weaken (fun z hm => CM _ hm)
 ):p:=h
theorem ybG {p:Prop} (h:p:=by
  go_wp2_with fail;(with_reducible refine hwa.mono ?_);rintro e w9 ⟨rfl,hM9,hP9⟩;clear hwa;go_wp2_with fail;go_ret;exact HEND.out w9 ((hMs.mono (L':=[pb])).trans hM9) hP9
 ):p:=h
theorem zkF (w:World) (ws:List Bs) (T:TypeId):StrsIn (w.alloc (.cells (ws.map (fun a => Value.string ⟨a.toArray⟩)).toArray T)) (.slice (some ⟨w.heap.size,0,none⟩) ws.length ws.length) ws:=by refine ⟨w.heap.size,0,ws.length,rfl,?_⟩;intro j hj;rw [Nat.zero_add,za (QN w _) j];simp [hj]
theorem zmy (w:World) (pb tg f:Nat) (s:PS) (h:PSt w pb tg s f) (hgo:zbn (zc6 (subOf f)))
  (hsum:∀ W s1,PSt W pb tg s1 f → Calls Tryz.prog 200 #[zh pb] W (PRes pb tg f (zc6 (subOf f)) s1 W)) :
  Calls Tryz.prog 168 #[zh pb] w (PRes pb tg f (zbg (subOf f)) s w):=by
 have hpw:=h.lt;have h1:=hsum w s h;have HSUM:=QH hsum;have FIN:Hid (∀ b w' t s2,zbg (subOf f) s=(t,s2) → Mods [pb] w w' → PSt w' pb tg s2 f → (s2.e=0 → ∀ L:List Nat,(∀ x ∈ L,x < w.heap.size) → ExprAt 175 107 w' L (zh b) t) → PRes pb tg f (zbg (subOf f)) s w (.returned (zh b)) w'):=QH (fun b w' t s2 h1 h2 h3 h4 => ⟨b,rfl,h2,by rw [h1]; exact h3,by rw [h1]; exact h4⟩);obtain ⟨x,s1,hp⟩ : ∃ x s1,zc6 (subOf f) s=(x,s1):=⟨_,_,rfl⟩
 have hT:zbg (subOf f) s=if s1.is relWords=true then (.bin { op:=s1.now.s,pos:=s1.now.pos } x (zc6 (subOf f) s1.next).1,(zc6 (subOf f) s1.next).2)
  else if (s1.takes wIs).1=true then (.un { op:=if ((s1.takes wIs).2.takes wNot).1=true then oIsNot else oIs,pos:=s1.now.pos } x,((s1.takes wIs).2.takes wNot).2.wants [wNull])
  else (x,s1):=by unfold zbg; rw [hp]
 have HT:=QH hT;unfold zh at *;clear h hsum hT;go_enter Tryz.func168, Tryz.ntmps168;go_wp2_with fail;(with_reducible refine h1.mono ?_);rintro e w1 ⟨b1,rfl,hM1,hP1,hE1⟩;rw [hp] at hP1 hE1;dsimp only [zh] at *;clear h1 hp;have hnow:=zaO w1 pb tg s1 f hP1;have hfd:=zaA s1.now;unfold zh at hnow;go_wp2_with fail;(with_reducible refine hnow.mono ?_);rintro e w2 ⟨rfl,hM2⟩;clear hnow;have hMr:=(QM [] w2).alloc (.cells #[.string ⟨#[61]⟩,.string ⟨#[60,62]⟩,.string ⟨#[60]⟩,.string ⟨#[60,61]⟩,.string ⟨#[62]⟩,.string ⟨#[62,61]⟩] 9);have hM12:=hM2.trans hMr;have hP2:=hP1.later hM12;have hst:StrsIn (w2.alloc (.cells #[.string ⟨#[61]⟩,.string ⟨#[60,62]⟩,.string ⟨#[60]⟩,.string ⟨#[60,61]⟩,.string ⟨#[62]⟩,.string ⟨#[62,61]⟩] 9)) (.slice (some ⟨w2.heap.size,0,none⟩) 6 6) relWords:=zkF w2 relWords 9;have his:=zea _ pb tg s1 f hP2 _ relWords hst AD;clear hst hMr;unfold zh at his;go_wp2_with fail;(with_reducible refine his.mono ?_);rintro e w3 ⟨rfl,hM3⟩;have hM13:=hM12.trans hM3;have hMw3:=hM1.trans (hM13.mono (L':=[pb]) AB);have hP3:=hP1.later hM13;clear his hP2 hM12 hM3 hM2 hP1 hfd
 cases hi:s1.is relWords with
 | true =>
  have hk:=zQ hi;have hT2:=HT.out;rw [if_pos hi] at hT2;have HT2:=QH hT2;have hnx:=za9 w3 pb tg s1 f hP3 (hP3.wfTail hk.2);have HK:=QH hk;unfold zh at hnx;clear hT2 HT hi hk;go_wp2_with fail;(with_reducible refine hnx.mono ?_);rintro e w4 ⟨rfl,hM4,hP4⟩;clear hnx;go_wp2_with fail;have hMt:=(QM [] w4).alloc (.cells #[.int .i64 s1.now.kind,.int .i64 s1.now.pos,.string ⟨s1.now.s.toArray⟩,.int .i64 s1.now.n,.int .i64 s1.now.scale] 96);have ht4:=QN w4 (.cells #[.int .i64 s1.now.kind,.int .i64 s1.now.pos,.string ⟨s1.now.s.toArray⟩,.int .i64 s1.now.n,.int .i64 s1.now.scale] 96);have hpl:=hP4.lt;have hM35:=hM4.trans (hMt.drew.mono (L':=[pb]) AB);have hP5:=hP4.later hMt.drew;generalize w4.alloc (.cells #[.int .i64 s1.now.kind,.int .i64 s1.now.pos,.string ⟨s1.now.s.toArray⟩,.int .i64 s1.now.n,.int .i64 s1.now.scale] 96)=w5 at *;generalize w4.heap.size=tb at *;have ht5:w5.drew.heap[tb]? = _:=ht4;have t52:w5.drew.cell? ⟨tb,2,none⟩ = some (.string ⟨s1.now.s.toArray⟩):=za ht5 2;have hcall:=HSUM.out w5.drew s1.next hP5;clear ht4 hM4 hP4 hP3 hMt;go_region_with ((with_reducible refine hcall.mono ?_); rintro e w6 ⟨yb,rfl,hM6,hP6,hE6⟩; dsimp only [zh]; have ht6:=hM6.heap ht5 AE; have t62:w6.cell? ⟨tb,2,none⟩ = some (.string ⟨s1.now.s.toArray⟩):=za ht6 2; have z7:=((QM [] w6).alloc (.cells #[.pointer (some ⟨b1,0,none⟩),.pointer (some ⟨yb,0,none⟩)] 107)); have t72:=z7.cell t62)
  all_goals
   have hz:=((QM [] w6).alloc (.cells #[.pointer (some ⟨b1,0,none⟩),.pointer (some ⟨yb,0,none⟩)] 107)).alloc (.cells #[.string ⟨s1.now.s.toArray⟩,.int .i64 s1.now.pos,.string ⟨#[]⟩,.string ⟨#[]⟩,.int .i64 0,.int .i64 0,.string ⟨#[]⟩,.slice (some ⟨w6.heap.size,0,none⟩) 2 2] 175);have hr6:Mods [pb] w1 w6:=((hM13.mono (L':=[pb])).trans hM35).trans hM6;have hsz1:=hM1.size;have hsz2:=hr6.size;have hsz3:=hM13.size;have hsz4:=hM35.size
   have hfin:=FIN.out (w6.heap.size + 1) _ _ _ HT2.out ((hM1.trans hr6).trans (hz.mono (L':=[pb]) AB)) (hP6.later hz) (fun he2 L hL => (zkD (h:={ op:=s1.now.s,pos:=s1.now.pos }) (L:=pb :: L) (fun z hm => by
    rcases MC hm with rfl | hm
    ·omega
    ·have:=hL _ hm; omega) ((hE1 HK.out.1 (pb :: L) fun z hm => by
    rcases MC hm with rfl | hm
    ·omega
    ·have:=hL _ hm; omega).mods (hr6.mono)) (hE6 he2 (pb :: L) fun z hm => by
    rcases MC hm with rfl | hm
    ·omega
    ·have:=hL _ hm; omega)).weaken (fun z hm => CM _ hm))
   have HFIN:=QH hfin;clear hfin hz hr6 hE6 hP6 hM6 hE1 ht6 z7 hcall HT2 FIN;go_wp2_with fail;go_ret;exact HFIN.out
 | false =>
  have hT2:=HT.out;rw [if_neg (by rw [hi]; decide)] at hT2;have htk:Calls Tryz.prog 54 #[zh pb,.string ⟨#[73,83]⟩] w3 _:=zU w3 pb tg s1 f hP3 wIs;obtain ⟨b,hb⟩:=EX ((s1.takes wIs).1);have hs2:b=false → (s1.takes wIs).2=s1:=by
   intro h;rw [h] at hb;unfold PS.takes at hb ⊢;split at hb
   ·exact absurd hb AB
   ·rename_i h2; rw [if_neg h2]
  have he1:b=true → s1.e=0:=by
   intro h;rw [h] at hb;unfold PS.takes at hb;split at hb
   ·rename_i h2; exact (zQ h2).1
   ·exact absurd hb AB
  have HS2:=QH hs2;have HE1:=QH he1;rw [hb] at htk hT2;have HT2:=QH hT2;unfold zh at htk;clear hs2 he1 hT2 hb hi HT HSUM hP3;go_wp2_with fail;(with_reducible refine htk.mono ?_);rintro e w4 ⟨rfl,hM4,hP4⟩;clear htk;have hMw4:=hMw3.trans hM4;have hM14:=(hM13.mono (L':=[pb])).trans hM4;have hs1:=hM1.size;have hs14:=hM14.size
  cases b with
  | false =>
   have hs2:=HS2.out rfl;have hT2:=HT2.out;rw [if_neg AD] at hT2;rw [hs2] at hP4
   have hfin:=FIN.out b1 w4 x s1 hT2 hMw4 hP4 (fun he L hL => (((hE1 he (pb :: L) fun z hm => by
    rcases MC hm with rfl | hm
    ·omega
    ·have:=hL _ hm; omega).mods (hM14.mono)).weaken (fun z hm => CM _ hm)))
   have HFIN:=QH hfin;clear hfin hE1 hP4 hT2 HT2 FIN hs2 HS2 HE1;go_wp2_with fail;go_ret;exact HFIN.out
  | true =>
   have he1:=HE1.out rfl;have hT2:=HT2.out;rw [if_pos rfl] at hT2;generalize (s1.takes wIs).2=s2 at *;obtain ⟨b2,hb2⟩:=EX ((s2.takes wNot).1);have hz:=((QM [] w4).alloc (.cells #[.pointer (some ⟨b1,0,none⟩)] 107)).alloc (.cells #[.string ⟨#[105,115,110,117,108,108]⟩,.int .i64 s1.now.pos,.string ⟨#[]⟩,.string ⟨#[]⟩,.int .i64 0,.int .i64 0,.string ⟨#[]⟩,.slice (some ⟨w4.heap.size,0,none⟩) 1 1] 175);obtain ⟨hc5,hn5⟩:=zck w4 (.cells #[.pointer (some ⟨b1,0,none⟩)] 107) (.cells #[.string ⟨#[105,115,110,117,108,108]⟩,.int .i64 s1.now.pos,.string ⟨#[]⟩,.string ⟨#[]⟩,.int .i64 0,.int .i64 0,.string ⟨#[]⟩,.slice (some ⟨w4.heap.size,0,none⟩) 1 1] 175);have hP5:=hP4.later hz;have htk:Calls Tryz.prog 54 #[zh pb,.string ⟨#[78,79,84]⟩] _ _:=zU _ pb tg s2 f hP5 wNot;have hpl:=hP4.lt;rw [hb2] at htk hT2;have HT3:=QH hT2;have HEE:=QH he1;unfold zh at htk;clear hT2 hb2 HT2 HS2 HE1 hP5 hP4 he1;go_wp2_with fail;(with_reducible refine htk.mono ?_);rintro e w6 ⟨rfl,hM6,hP6⟩;clear htk;have hc6:=hM6.heap hc5 AE;have hn6:=hM6.heap hn5 AE;have hM16:Mods [pb] w1 w6:=(hM14.trans (hz.mono (L':=[pb]) AB)).trans hM6;have hp6:=hP6.lt;have hcl:w4.heap.size < w6.heap.size:=zj hc6;have hnl:w4.heap.size + 1 < w6.heap.size:=zj hn6;generalize hcb:w4.heap.size=cb at *
   have END:Hid (∀ (b3:Bool) (w7 w9:World),b2=b3 → Mods [cb + 1] w6 w7 → PSt w7 pb tg (s2.takes wNot).2 f → w7.heap[cb + 1]? = some (.cells (hdC { op:=if b3=true then oIsNot else oIs,pos:=s1.now.pos } (.slice (some ⟨cb,0,none⟩) 1 1)).toArray 175 (0,0)) → Mods [pb] w7 w9 → PSt w9 pb tg ((s2.takes wNot).2.wants [wNull]) f → PRes pb tg f (zbg (subOf f)) s w (.returned (.pointer (some ⟨cb + 1,0,none⟩))) w9):=QH (by
    intro b3 w7 w9 hb3 h7 hP7 hn7 h9 hP9;subst hb3;have h19:Mods [pb] w1 w9:=(hM16.trans h7 (fun y hy => by simp at hy; exact .inr AA)).trans h9;refine FIN.out (cb + 1) w9 _ _ HT3.out (hM1.trans h19) hP9 (fun he L hL => ?_);refine ⟨cb + 1,cb,.pointer (some ⟨b1,0,none⟩),rfl,fun hm => by have:=hL _ hm; omega,fun hm => by have:=hL _ hm; omega,h9.heap hn7 AE,h9.heap (h7.heap hc6) AE,?_⟩
    exact ((hE1 HEE.out (pb :: L) fun z hm => by
     rcases MC hm with rfl | hm
     ·omega
     ·have:=hL _ hm; omega).mods (h19.mono)).weaken (fun z hm => CM _ hm))
   clear HT3 HEE FIN hE1
   cases b2 with
   | false =>have hMs:=(QM [] w6).alloc (.cells #[.string ⟨#[78,85,76,76]⟩] 9);have hwa:Calls Tryz.prog 53 #[zh pb,.slice (some ⟨w6.heap.size,0,none⟩) 1 1] (w6.alloc (.cells #[.string ⟨#[78,85,76,76]⟩] 9)) _:=zbq _ pb tg _ f (hP6.later hMs) _ [wNull] (zaT w6 wNull 9) AD (fun g off n c he => by simp only [Value.slice.injEq,Option.some.injEq,Addr.mk.injEq] at he; omega);have hend:=fun w9 => END.out false w6 w9 rfl (QM _ _) hP6 hn6;have HEND:=QH hend;unfold zh at hwa;clear END hend hP6;exact ybG
   | true =>have n0:w6.cell? ⟨cb + 1,0,none⟩ = some (.string ⟨#[105,115,110,117,108,108]⟩):=za hn6 0;have f0:=zc hn6 0;have hM7:Mods [cb + 1] w6 (w6.setCell ⟨cb + 1,0,none⟩ (.string ⟨#[110,111,116,110,117,108,108]⟩)):=(QM _ _).setCell (.inl AB) _;have hn7:=zb hn6 0 (.string ⟨#[110,111,116,110,117,108,108]⟩);have hP7:=hP6.mods hM7 AE AE;have hend:=fun w9 => END.out true _ w9 rfl hM7 hP7 hn7;have HEND:=QH hend;have HP7:=QH hP7;clear END hend hP6 hP7 hM7 hn7;go_upto_region 10 with fail;generalize w6.setCell ⟨cb + 1,0,none⟩ (.string ⟨#[110,111,116,110,117,108,108]⟩)=w7 at *;have hMs:=(QM [] w7).alloc (.cells #[.string ⟨#[78,85,76,76]⟩] 9);have hl7:=HP7.out.lt;have hwa:Calls Tryz.prog 53 #[zh pb,.slice (some ⟨w7.heap.size,0,none⟩) 1 1] (w7.alloc (.cells #[.string ⟨#[78,85,76,76]⟩] 9)) _:=zbq _ pb tg _ f (HP7.out.later hMs) _ [wNull] (zaT w7 wNull 9) AD (fun g off n c he => by simp only [Value.slice.injEq,Option.some.injEq,Addr.mk.injEq] at he; omega);unfold zh at hwa;clear HP7;exact ybG
theorem zkG (w:World) (A B C:Obj):(((w.alloc A).alloc B).alloc C).heap[w.heap.size]? = some A ∧ (((w.alloc A).alloc B).alloc C).heap[w.heap.size + 1]? = some B ∧ (((w.alloc A).alloc B).alloc C).heap[w.heap.size + 1 + 1]? = some C:=by obtain ⟨h1,h2⟩:=zck w A B;have hM:=(QM [] ((w.alloc A).alloc B)).alloc C;refine ⟨hM.heap h1,hM.heap h2,?_⟩;have:=QN ((w.alloc A).alloc B) C;rw [zl,zl] at this;exact this
theorem zdb (w:World) (pb:Nat) (op:Bs) (n:Int) :
  Calls Tryz.prog 226 #[zh pb,.string ⟨op.toArray⟩,.int .i64 n] w fun e w' => ∃ a p q,e = .returned (.func (.func 229) #[] #[zh a,zh p,zh q]) ∧ Mods [] w w' ∧ w'.cell? ⟨a,0,none⟩ = some (.string ⟨op.toArray⟩) ∧ w'.cell? ⟨p,0,none⟩ = some (zh pb) ∧ w'.cell? ⟨q,0,none⟩ = some (.int .i64 n) ∧ w.heap.size ≤ a ∧ w.heap.size ≤ p ∧ w.heap.size ≤ q ∧ a < w'.heap.size ∧ p < w'.heap.size ∧ q < w'.heap.size:=by
 unfold zh;go_enter Tryz.func226, Tryz.ntmps226;go_wp2_with fail;go_ret;obtain ⟨h0,h1,h2⟩:=zkG w (.cells #[.pointer (some ⟨pb,0,none⟩)] 97) (.cells #[.string ⟨op.toArray⟩] 9) (.cells #[.int .i64 n] 2);exact ⟨w.heap.size + 1,w.heap.size,w.heap.size + 1 + 1,rfl,(((QM [] w).alloc _).alloc _).alloc _,za h1 0,za h0 0,za h2 0,by omega,by omega,by omega,zj h1,zj h0,zj h2⟩
theorem zdc (w:World) (pb tg f:Nat) (s:PS) (h:PSt w pb tg s f) (hw:WfT s.rest.tail) (op:Bs) (n:Nat) (a p q:Nat) (ca:w.cell? ⟨a,0,none⟩ = some (.string ⟨op.toArray⟩)) (cp:w.cell? ⟨p,0,none⟩ = some (zh pb)) (cq:w.cell? ⟨q,0,none⟩ = some (.int .i64 n)) (ha:a ≠ pb) (hp:p ≠ pb) (hq:q ≠ pb) :
  Calls Tryz.prog 229 #[zh a,zh p,zh q] w (PRes pb tg f (fun s => (.leaf { op:=op,pos:=s.now.pos,n:=n },s.next)) s w):=by
 have hn:=za9 w.drew pb tg s f (h.later (QM [] w).drew) hw;have hfd:=zaA s.now;have ad:w.drew.cell? ⟨a,0,none⟩ = some (.string ⟨op.toArray⟩):=ca;have pd:w.drew.cell? ⟨p,0,none⟩ = some (zh pb):=cp;have qd:w.drew.cell? ⟨q,0,none⟩ = some (.int .i64 n):=cq;unfold zh at *;clear ca cp cq;go_enter Tryz.func229, Tryz.ntmps229;go_wp2_with fail;go_region_with ((with_reducible refine hn.mono ?_); rintro e w5 ⟨rfl,hM5,hP5⟩; have a5:=hM5.cell ad (by simpa using ha); have p5:=hM5.cell pd (by simpa using hp); have q5:=hM5.cell qd (by simpa using hq))
 all_goals
  have hz:=(QM [] w5).alloc (.cells #[.string ⟨op.toArray⟩,.int .i64 s.now.pos,.string ⟨#[]⟩,.string ⟨#[]⟩,.int .i64 n,.int .i64 0,.string ⟨#[]⟩,.slice none 0 0] 175);have hb:=QN w5 (.cells #[.string ⟨op.toArray⟩,.int .i64 s.now.pos,.string ⟨#[]⟩,.string ⟨#[]⟩,.int .i64 n,.int .i64 0,.string ⟨#[]⟩,.slice none 0 0] 175);have hMw:Mods [pb] w w5:=((QM [] w).drew.mono (L':=[pb])).trans hM5;have hsz:=hMw.size;have hfin:PRes pb tg f (fun s => (.leaf { op:=op,pos:=s.now.pos,n:=n },s.next)) s w (.returned (.pointer (some ⟨w5.heap.size,0,none⟩))) _:=⟨w5.heap.size,rfl,hMw.trans (hz.mono (L':=[pb]) AB),hP5.later hz,fun he L hL => ⟨w5.heap.size,rfl,fun hm => by have:=hL _ hm; omega,hb⟩⟩;have HFIN:=QH hfin;clear hfin hb hz hP5 hM5 hMw hn;go_wp2_with fail;go_ret;exact HFIN.out
def Held (xc:Nat) (F:PF) (s1:PS) (W W':World):Prop:=
 ∃ yb,W'.heap[xc]? = some (.cells #[zh yb] 107 (0,0)) ∧ (((F s1).2.wants [wShut]).e=0 → ∀ L:List Nat,(∀ z ∈ L,z < W.heap.size) → ExprAt 175 107 W' L (zh yb) (F s1).1)
theorem zeV {s:PS} {l:List Bs} (h:(s.wants l).e=0):s.e=0:=Classical.byContradiction fun hn => by rw [(Aft.wants l s).err hn] at h; exact hn h
theorem brackets1 (W:World) (pb tg:Nat) (f:Nat) (F:PF) (s1:PS) (xp xc:Nat) (u:Value)
  (hx:W.cell? ⟨xp,0,none⟩ = some (zh pb)) (hc:W.heap[xc]? = some (.cells #[u] 107 (0,0))) (n1:xp ≠ pb) (n2:xc ≠ pb) (n3:xc ≠ tg) (n4:xp ≠ xc)
  (hpw:pb < W.heap.size) (hexpr:Calls Tryz.prog 59 #[zh pb] W (PRes pb tg f F s1 W)) :
  Calls Tryz.prog 230 #[.pointer (some ⟨xp,0,none⟩),.pointer (some ⟨xc,0,none⟩)] W fun e W' => e = .returned (.tuple #[]) ∧ PSt W' pb tg ((F s1).2.wants [wShut]) f ∧ Mods [pb,xc] W W' ∧ Held xc F s1 W W':=by
 have hxw:xc < W.heap.size:=zj hc;unfold zh at *;go_enter Tryz.func230, Tryz.ntmps230;go_wp2_with fail;(with_reducible refine hexpr.mono ?_);rintro e w5 ⟨yb,rfl,hM5,hP5,hE5⟩;dsimp only [zh];clear hexpr;have hc5:=hM5.heap hc (by simpa using n2);have c5:w5.cell? ⟨xc,0,none⟩ = some u:=za hc5 0;have g5:=zc hc5 0;have hM6:Mods [xc] w5 (w5.setCell ⟨xc,0,none⟩ (.pointer (some ⟨yb,0,none⟩))):=(QM _ _).setCell (.inl AB) _;have hc6:=zb hc5 0 (.pointer (some ⟨yb,0,none⟩));have hx6:=hM6.cell (hM5.cell hx (by simpa using n1)) (by simpa using n4);have hP6:=hP5.mods hM6 (by simpa using n2.symm) (by simpa using n3.symm);have hpl:=hP6.lt;have H56:=QH (AI hM5 hM6);have H6:=QH (AI hP6 hc6);clear hP5 hP6 hc6 hM5 hM6;go_upto_region 1 with fail;generalize w5.setCell ⟨xc,0,none⟩ (.pointer (some ⟨yb,0,none⟩))=w6 at *;have hMs:=(QM [] w6).alloc (.cells #[.string ⟨#[41]⟩] 9);have hwa:Calls Tryz.prog 53 #[zh pb,.slice (some ⟨w6.heap.size,0,none⟩) 1 1] (w6.alloc (.cells #[.string ⟨#[41]⟩] 9)) _:=zbq _ pb tg _ f (H6.out.1.later hMs) _ [wShut] (zaT w6 wShut 9) AD (fun g off n c he => by simp only [Value.slice.injEq,Option.some.injEq,Addr.mk.injEq] at he; omega);unfold zh at hwa;go_wp2_with fail;(with_reducible refine hwa.mono ?_);rintro e w9 ⟨rfl,hM9,hP9⟩;clear hwa;go_wp2_with fail;go_end0;obtain ⟨hM5,hM6⟩:=H56.out;have h69:Mods [pb] w6 w9:=(hMs.mono (L':=[pb])).trans hM9;have hs5:=hM5.size;refine ⟨rfl,hP9,((hM5.mono (L':=[pb,xc])).trans (hM6.mono (L':=[pb,xc]) AB)).trans (h69.mono (L':=[pb,xc]) AB),yb,h69.heap H6.out.2 (by simpa using n2),fun he L hL => ?_⟩
 exact (((hE5 (zeV he) (pb :: xc :: L) fun z hm => by
  rcases MC hm with rfl | hm
  ·exact hpw
  ·rcases MC hm with rfl | hm
   ·exact hxw
   ·exact hL _ hm).mods (hM6.mono)).mods (h69.mono)).weaken (fun z hm => CM _ (CM _ hm))
theorem zhj (w:World) (pb tg:Nat) (f:Nat) (s:PS) (h:PSt w pb tg s f) (he:s.e=0) (hk:s.now.kind ≠ 0)
  (hexpr:∀ f',f=f' + 1 → ∀ W s1,PSt W pb tg s1 f' → Calls Tryz.prog 59 #[zh pb] W (PRes pb tg f' (lvl f').expr s1 W)) :
  Calls Tryz.prog 227 #[zh pb] w (PRes pb tg f (zaE (subOf f)) s w):=by
 have hpw:=h.lt;have hMX:=(((QM [] w).alloc (.cells #[.pointer (some ⟨pb,0,none⟩)] 97)).alloc (.cells #[.string ⟨#[]⟩,.int .i64 0,.string ⟨#[]⟩,.string ⟨#[]⟩,.int .i64 0,.int .i64 0,.string ⟨#[]⟩,.slice none 0 0] 175)).alloc (.cells #[.pointer (some ⟨w.heap.size + 1,0,none⟩)] 107);obtain ⟨hp0,hx0,hc0⟩:=zkG w (.cells #[.pointer (some ⟨pb,0,none⟩)] 97) (.cells #[.string ⟨#[]⟩,.int .i64 0,.string ⟨#[]⟩,.string ⟨#[]⟩,.int .i64 0,.int .i64 0,.string ⟨#[]⟩,.slice none 0 0] 175) (.cells #[.pointer (some ⟨w.heap.size + 1,0,none⟩)] 107);have hP0:=h.later hMX;have HO:=QH hexpr;unfold zh at *;clear h hexpr;go_enter Tryz.func227, Tryz.ntmps227
 cases f with
 | zero =>
  have hin:=zcj _ pb tg s hP0 (.func (.func 230) #[] #[.pointer (some ⟨w.heap.size,0,none⟩),.pointer (some ⟨w.heap.size + 1 + 1,0,none⟩)]);have HF:Hid (zaE (subOf 0) s=(emp,s.fail 9)):=QH rfl;have he9:(s.fail 9).e ≠ 0:=by unfold PS.fail; rw [if_pos he]; simp
  unfold zh at hin;clear HO hP0;go_wp2_with fail;(with_reducible refine hin.mono ?_);rintro e w5 ⟨rfl,hM5,hP5⟩;have c5:=hM5.cell ((za hc0 0).trans rfl) AE;change w5.cell? _=some (.pointer (some ⟨w.heap.size + 1,0,none⟩)) at c5;clear hin;go_wp2_with fail;go_ret;exact ⟨w.heap.size + 1,rfl,(hMX.mono (L':=[pb])).trans hM5,by rw [HF.out]; exact hP5,by rw [HF.out]; exact fun h => absurd h he9⟩
 | succ f =>
  have HF:Hid (zaE (subOf (f + 1)) s=(((lvl f).expr s.next).1,((lvl f).expr s.next).2.wants [wShut])):=QH (by
   show (if s.e=0 then _ else _)=_
   rw [if_pos he])
  have hin:=zdu _ pb tg s f hP0 he hk 230 (.inr (.inl rfl)) (.pointer (some ⟨w.heap.size,0,none⟩)) (.pointer (some ⟨w.heap.size + 1 + 1,0,none⟩)) (((lvl f).expr s.next).2.wants [wShut])
   (fun W' => ∃ W,Mods [pb] _ W ∧ Mods [pb,w.heap.size + 1 + 1] W W' ∧ Held (w.heap.size + 1 + 1) (lvl f).expr s.next W W')
   (fun W hM hP => (brackets1 W pb tg f (lvl f).expr s.next w.heap.size (w.heap.size + 1 + 1) (.pointer (some ⟨w.heap.size + 1,0,none⟩)) (hM.cell ((za hp0 0).trans rfl) AE) (hM.heap hc0 AE) AA AA AA AA hP.lt.1 (HO.out f rfl W s.next hP)).mono fun e W' h => ⟨h.1,h.2.1,W,hM,h.2.2.1,h.2.2.2⟩)
  unfold zh at hin;clear HO hP0;go_wp2_with fail;(with_reducible refine hin.mono ?_);rintro e w5 ⟨rfl,hP5,W1,⟨W,hMa,hMb,yb,hfx,hfe⟩,hMc⟩;clear hin;have hx5:=hMc.heap hfx AE;have c5:w5.cell? ⟨w.heap.size + 1 + 1,0,none⟩ = some (.pointer (some ⟨yb,0,none⟩)):=za hx5 0;have hMw:Mods [pb] w w5:=(((hMX.mono (L':=[pb])).trans hMa).trans hMb (fun y hy => by simp at hy; rcases hy with rfl | rfl; exact .inl AB; exact .inr AA)).trans hMc;have hsa:=hMX.size;have hsb:=hMa.size;have hfin:PRes pb tg (f + 1) (zaE (subOf (f + 1))) s w (.returned (.pointer (some ⟨yb,0,none⟩))) w5:=by
   refine ⟨yb,rfl,hMw,by rw [HF.out]; exact hP5,?_⟩;rw [HF.out];intro he L hL
   exact ((hfe he (pb :: L) (fun y hy => by
    rcases MC hy with rfl | hy
    ·omega
    ·have:=hL _ hy; omega)).mods (hMc.mono)).weaken (fun y hy => CM _ hy)
  have HFIN:=QH hfin;clear hfin hfx hfe hP5 hMa hMb hMc hMw hMX;go_wp2_with fail;go_ret;exact HFIN.out
def aggB (F:PF) (op:Bs) (pos:Nat) (s1:PS):Tree × PS:=
 let s2:=s1.wants [wOpen]
 if op=oCount ∧ (s2.takes wStar).1=true then (.leaf { op:=oAll,pos:=pos },(s2.takes wStar).2.wants [wShut])
 else
  let s3:=if op=oCount then (s2.takes wStar).2 else s2
  (.un { op:=op,pos:=pos } (F s3).1,(F s3).2.wants [wShut])
def AggAt (xb:Nat) (F:PF) (op:Bs) (pos:Nat) (s1:PS) (W W':World):Prop:=
 (aggB F op pos s1).2.e=0 → ∀ L:List Nat,(∀ z ∈ L,z < W.heap.size ∧ z ≠ xb) → ExprAt 175 107 W' L (zh xb) (aggB F op pos s1).1
theorem aggregate1 (W:World) (pb tg:Nat) (f:Nat) (F:PF) (s1:PS) (xp xc xb:Nat) (op:Bs) (pos:Nat) (h:PSt W pb tg s1 f)
  (hx:W.cell? ⟨xp,0,none⟩ = some (zh pb)) (hc:W.cell? ⟨xc,0,none⟩ = some (zh xb)) (hxb:W.heap[xb]? = some (.cells (hdC { op:=op,pos:=pos } (.slice none 0 0)).toArray 175 (0,0))) (hpp:xp ≠ pb) (hcp:xc ≠ pb) (hxp:xb ≠ pb) (hxt:xb ≠ tg) (hpx:xp ≠ xb)
  (hexpr:∀ W2 s2,PSt W2 pb tg s2 f → Calls Tryz.prog 59 #[zh pb] W2 (PRes pb tg f F s2 W2)) :
  Calls Tryz.prog 231 #[.pointer (some ⟨xp,0,none⟩),.pointer (some ⟨xc,0,none⟩)] W fun e W' => e = .returned (.tuple #[]) ∧ PSt W' pb tg (aggB F op pos s1).2 f ∧ Mods [pb,xb] W W' ∧ AggAt xb F op pos s1 W W':=by
 have hxw:xb < W.heap.size:=zj hxb;have hpw:=h.lt;have n1:xp ∉ [pb]:=by simpa using hpp
 have n2:xc ∉ [pb]:=by simpa using hcp
 have n3:xb ∉ [pb]:=by simpa using hxp
 have n4:xp ∉ [pb,xb]:=by simp; exact ⟨hpp,hpx⟩
 have hMs:=(QM [] W).alloc (.cells #[.string ⟨#[40]⟩] 9);have hwa:Calls Tryz.prog 53 #[zh pb,.slice (some ⟨W.heap.size,0,none⟩) 1 1] (W.alloc (.cells #[.string ⟨#[40]⟩] 9)) _:=zbq _ pb tg _ f (h.later hMs) _ [wOpen] (zaT W wOpen 9) AD (fun g off n c he => by simp only [Value.slice.injEq,Option.some.injEq,Addr.mk.injEq] at he; omega);have HEX:=QH hexpr;unfold zh at *;clear h hexpr;go_enter Tryz.func231, Tryz.ntmps231;go_wp2_with fail;(with_reducible refine hwa.mono ?_);rintro e w2 ⟨rfl,hM2,hP2⟩;clear hwa;have hMw2:Mods [pb] W w2:=(hMs.mono (L':=[pb])).trans hM2;clear hM2 hMs;have x2:=hMw2.cell hx n1;have c2:=hMw2.cell hc n2;have hx2:=hMw2.heap hxb n3;have y2:w2.cell? ⟨xb,0,none⟩ = some (.string ⟨op.toArray⟩):=za hx2 0;by_cases hop:op=oCount
 ·subst hop;change w2.cell? _=some (.string ⟨#[99,111,117,110,116]⟩) at y2;have htk:Calls Tryz.prog 54 #[zh pb,.string ⟨#[42]⟩] _ _:=zU _ pb tg _ f hP2 wStar;obtain ⟨b,hb⟩:=EX (((s1.wants [wOpen]).takes wStar).1);rw [hb] at htk;unfold zh at htk;have HB:=QH hb;clear hP2 hb hx2;go_wp2_with fail;(with_reducible refine htk.mono ?_);rintro e w3 ⟨rfl,hM3,hP3⟩;clear htk;have hMz:=hMw2.trans hM3
  cases b with
  | true =>have hxz:=hMz.heap hxb n3;have xz:=hMz.cell hx n1;have cz:=hMz.cell hc n2;have y3:w3.cell? ⟨xb,0,none⟩ = some (.string ⟨#[99,111,117,110,116]⟩):=za hxz 0;have g3:=zc hxz 0;have HFz:Hid (aggB F oCount pos s1=(.leaf { op:=oAll,pos:=pos },((s1.wants [wOpen]).takes wStar).2.wants [wShut])):=QH (by unfold aggB; simp only [HB.out]; rfl);generalize ((s1.wants [wOpen]).takes wStar).2=s3 at *;have hM4:Mods [xb] w3 (w3.setCell ⟨xb,0,none⟩ (.string ⟨#[99,111,117,110,116,97,108,108]⟩)):=(QM _ _).setCell (.inl AB) _;have hx4:=zb hxz 0 (.string ⟨#[99,111,117,110,116,97,108,108]⟩);have x4:=hM4.cell xz (by simpa using hpx);have hP4:=hP3.mods hM4 (by simpa using hxp.symm) (by simpa using hxt.symm);have H4:=QH (AI hP4 (AI hM4 hx4));clear hP4 hM4 hx4 hP3 hM3 hMw2 x2 c2 y2 hxz HEX;go_upto_region 4 with fail;generalize w3.setCell ⟨xb,0,none⟩ (.string ⟨#[99,111,117,110,116,97,108,108]⟩)=w7 at *;have hMs:=(QM [] w7).alloc (.cells #[.string ⟨#[41]⟩] 9);have hl7:=H4.out.1.lt;have hwa:Calls Tryz.prog 53 #[zh pb,.slice (some ⟨w7.heap.size,0,none⟩) 1 1] (w7.alloc (.cells #[.string ⟨#[41]⟩] 9)) _:=zbq _ pb tg _ f (H4.out.1.later hMs) _ [wShut] (zaT w7 wShut 9) AD (fun g off n c he => by simp only [Value.slice.injEq,Option.some.injEq,Addr.mk.injEq] at he; omega);unfold zh at hwa;go_wp2_with fail;(with_reducible refine hwa.mono ?_);rintro e w9 ⟨rfl,hM9,hP9⟩;clear hwa;go_wp2_with fail;go_end0;obtain ⟨-,hM7,hf1⟩:=H4.out;have h79:Mods [pb] w7 w9:=(hMs.mono (L':=[pb])).trans hM9;refine ⟨rfl,by rw [HFz.out]; exact hP9,((hMz.mono (L':=[pb,xb])).trans (hM7.mono (L':=[pb,xb]) AB)).trans (h79.mono (L':=[pb,xb]) AB),?_⟩;unfold AggAt;rw [HFz.out];intro he L hL;exact ⟨xb,rfl,fun hm => (hL _ hm).2 rfl,h79.heap hf1 n3⟩
  | false =>have HFz:Hid (aggB F oCount pos s1=(.un { op:=oCount,pos:=pos } (F ((s1.wants [wOpen]).takes wStar).2).1,(F ((s1.wants [wOpen]).takes wStar).2).2.wants [wShut])):=QH (by unfold aggB; simp only [HB.out]; rfl);generalize ((s1.wants [wOpen]).takes wStar).2=s3 at *;have hPz:=hP3;clear hP3 hM3 hMw2 x2 c2 y2;generalize w3=wz at *;go_wp2_with fail;exact yag
 ·have HFz:Hid (aggB F op pos s1=(.un { op:=op,pos:=pos } (F (s1.wants [wOpen])).1,(F (s1.wants [wOpen])).2.wants [wShut])):=QH (by unfold aggB; simp only [hop]; rfl);generalize s1.wants [wOpen]=s3 at *
  have e0:¬ (⟨op.toArray⟩ : ByteArray) = ⟨#[99,111,117,110,116]⟩:=fun h => hop (by
   have:=congrArg (fun b => b.data.toList) h
   exact (by simpa using this:op=[99,111,117,110,116]))
  have e2:¬ (⟨op.toArray⟩ : ByteArray).toList=[99,111,117,110,116]:=by rw [ByteArray.toList_eq]; exact fun h => hop (by simpa using h:op=[99,111,117,110,116])
  have e3:((⟨op.toArray⟩ : ByteArray).toList == [99,111,117,110,116])=false:=by rw [beq_eq_false_iff_ne]; exact e2
  have hMz:=hMw2;have hPz:=hP2;clear hP2 hMw2;generalize w2=wz at *;go_wp2_with fail;clear e0 e2 e3 x2 c2 y2 hx2;exact yag
end Go.Proofs.YtebljciefhfgbaaGreatDoor
