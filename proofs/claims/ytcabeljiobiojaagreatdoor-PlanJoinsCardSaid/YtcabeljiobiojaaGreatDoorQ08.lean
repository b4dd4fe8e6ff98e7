/-
  parse's aggregate's inner function, walked. No condition.
-/
import Derived.Test.YtcabeljiobiojaaGreatDoorQ07
import Derived.Deep.RegionHeld3
import Derived.Orders
set_option linter.unusedVariables false
set_option maxRecDepth 100000
set_option maxHeartbeats 4000000
namespace Go.Proofs.YtcabeljiobiojaaGreatDoor
open Go.RowKit
theorem AW {p:Prop} (h:p:=by rw [h.size]; exact hn):p:=h
theorem yag {p:Prop} (h:p:=by
  have hxz:=hMz.heap hxb n3;have xz:wz.drew.cell? ⟨xp,0,none⟩ = some (.pointer (some ⟨pb,0,none⟩)):=hMz.cell hx n1;have cz:wz.drew.cell? ⟨xc,0,none⟩ = some (.pointer (some ⟨xb,0,none⟩)):=hMz.cell hc n2;have hcall:=HEX.out wz.drew s3 (hPz.later (QM [] wz).drew);have hwz:=hMz.size;clear hPz;go_region_with ((with_reducible refine hcall.mono ?_); rintro e w5 ⟨yb,rfl,hM5,hP5,hE5⟩; dsimp only [zh]; have hx5:=hM5.heap (show wz.drew.heap[xb]? = _ from hxz) n3; have c5:w5.cell? ⟨xc,0,none⟩ = some (.pointer (some ⟨xb,0,none⟩)):=hM5.cell cz n2; have y5:w5.cell? ⟨xb,7,none⟩ = some (.slice none 0 0):=za hx5 7; have f5:=zc hx5 7; have z6:=((QM [] w5).alloc (.cells #[.pointer (some ⟨yb,0,none⟩)] 103)); have c6:=z6.cell c5; have y6:=z6.cell y5; have f6:=zc (z6.heap hx5) 7)
  all_goals
   obtain ⟨hP7,hM7,ab,yb',hf1,hf2,hf3,hf4⟩:=zdv hxp hxt (LL hxw hwz) hx5 hM5 hP5 hE5;have x7:=hM7.cell (show wz.cell? ⟨xp,0,none⟩ = _ from xz) n4;have H7:=QH (AI hP7 (AI hM7 (AI hf1 (AI hf2 (AI hf3 hf4)))));clear hP7 hM7 hf1 hf2 hf3 hf4 hP5 hE5 hM5 hx5 z6 hcall;go_upto_region 4 with fail;generalize (w5.alloc (.cells #[.pointer (some ⟨yb,0,none⟩)] 103)).setCell ⟨xb,7,none⟩ (.slice (some ⟨w5.heap.size,0,none⟩) 1 1)=w7 at *;have hMs:=(QM [] w7).alloc (.cells #[.string ⟨#[41]⟩] 9);have hl7:=H7.out.1.lt;have hwa:Calls Tryz.prog 51 #[zh pb,.slice (some ⟨w7.heap.size,0,none⟩) 1 1] (w7.alloc (.cells #[.string ⟨#[41]⟩] 9)) _:=zbq _ pb tg _ f (H7.out.1.later hMs) _ [wShut] (zaT w7 wShut 9) AD (fun g off n c he => by simp only [Value.slice.injEq,Option.some.injEq,Addr.mk.injEq] at he; omega);unfold zh at hwa;go_wp2_with fail;(with_reducible refine hwa.mono ?_);rintro e w9 ⟨rfl,hM9,hP9⟩;clear hwa;go_wp2_with fail;go_end0;obtain ⟨-,hM7,hf1,hf2,hf3,hf4⟩:=H7.out;have h79:Mods [pb] w7 w9:=(hMs.mono (L':=[pb])).trans hM9;refine ⟨rfl,by rw [HFz.out]; exact hP9,((hMz.mono (L':=[pb,xb])).trans hM7).trans (h79.mono (L':=[pb,xb]) AB),?_⟩;unfold AggAt;rw [HFz.out];intro he L hL;refine ⟨xb,ab,zh yb',rfl,fun hm => (hL _ hm).2 rfl,fun hm => by have:=(hL _ hm).1; omega,h79.heap hf1 n3,h79.heap hf2 AE,?_⟩
   exact ((hf4 (zeV he) (pb :: L) fun z hm => by
    rcases MC hm with rfl | hm
    ·omega
    ·have:=(hL _ hm).1; omega).mods (h79.mono)).weaken (fun z hm => CM _ hm)
 ):p:=h
theorem yaH {p:Prop} (h:p:=by
  have h1:(listed.setIfInBounds i true).toList=listed.toList.set i true:=by simp
  rw [h1];have:=zcI listed.toList i (by simpa using hun);omega
 ):p:=h
theorem yaO {p:Prop} (h:p:=by
  intro k;rw [Array.getElem?_setIfInBounds];by_cases hk:i=k
  ·subst hk; simp [hnl]
  ·rw [if_neg hk,if_neg (fun e => hk e.symm)]
 ):p:=h
def aggB (F:PF) (op:Bs) (pos:Nat) (s1:PS):Tree × PS:=
 let s2:=s1.wants [wOpen]
 if op=oCount ∧ (s2.takes wStar).1=true then (.leaf { op:=oAll,pos:=pos },(s2.takes wStar).2.wants [wShut])
 else
  let s3:=if op=oCount then (s2.takes wStar).2 else s2
  (.un { op:=op,pos:=pos } (F s3).1,(F s3).2.wants [wShut])
def AggAt (xb:Nat) (F:PF) (op:Bs) (pos:Nat) (s1:PS) (W W':World):Prop:=
 (aggB F op pos s1).2.e=0 → ∀ L:List Nat,(∀ z ∈ L,z < W.heap.size ∧ z ≠ xb) → ExprAt 171 103 W' L (zh xb) (aggB F op pos s1).1
theorem aggregate1 (W:World) (pb tg:Nat) (f:Nat) (F:PF) (s1:PS) (xp xc xb:Nat) (op:Bs) (pos:Nat) (h:PSt W pb tg s1 f)
  (hx:W.cell? ⟨xp,0,none⟩ = some (zh pb)) (hc:W.cell? ⟨xc,0,none⟩ = some (zh xb)) (hxb:W.heap[xb]? = some (.cells (hdC { op:=op,pos:=pos } (.slice none 0 0)).toArray 171 (0,0))) (hpp:xp ≠ pb) (hcp:xc ≠ pb) (hxp:xb ≠ pb) (hxt:xb ≠ tg) (hpx:xp ≠ xb)
  (hexpr:∀ W2 s2,PSt W2 pb tg s2 f → Calls Tryz.prog 57 #[zh pb] W2 (PRes pb tg f F s2 W2)) :
  Calls Tryz.prog 229 #[.pointer (some ⟨xp,0,none⟩),.pointer (some ⟨xc,0,none⟩)] W fun e W' => e = .returned (.tuple #[]) ∧ PSt W' pb tg (aggB F op pos s1).2 f ∧ Mods [pb,xb] W W' ∧ AggAt xb F op pos s1 W W':=by
 have hxw:xb < W.heap.size:=zj hxb;have hpw:=h.lt;have n1:xp ∉ [pb]:=by simpa using hpp
 have n2:xc ∉ [pb]:=by simpa using hcp
 have n3:xb ∉ [pb]:=by simpa using hxp
 have n4:xp ∉ [pb,xb]:=by simp; exact ⟨hpp,hpx⟩
 have hMs:=(QM [] W).alloc (.cells #[.string ⟨#[40]⟩] 9);have hwa:Calls Tryz.prog 51 #[zh pb,.slice (some ⟨W.heap.size,0,none⟩) 1 1] (W.alloc (.cells #[.string ⟨#[40]⟩] 9)) _:=zbq _ pb tg _ f (h.later hMs) _ [wOpen] (zaT W wOpen 9) AD (fun g off n c he => by simp only [Value.slice.injEq,Option.some.injEq,Addr.mk.injEq] at he; omega);have HEX:=QH hexpr;unfold zh at *;clear h hexpr;go_enter Tryz.func229, Tryz.ntmps229;go_wp2_with fail;(with_reducible refine hwa.mono ?_);rintro e w2 ⟨rfl,hM2,hP2⟩;clear hwa;have hMw2:Mods [pb] W w2:=(hMs.mono (L':=[pb])).trans hM2;clear hM2 hMs;have x2:=hMw2.cell hx n1;have c2:=hMw2.cell hc n2;have hx2:=hMw2.heap hxb n3;have y2:w2.cell? ⟨xb,0,none⟩ = some (.string ⟨op.toArray⟩):=za hx2 0;by_cases hop:op=oCount
 ·subst hop;change w2.cell? _=some (.string ⟨#[99,111,117,110,116]⟩) at y2;have htk:Calls Tryz.prog 52 #[zh pb,.string ⟨#[42]⟩] _ _:=zU _ pb tg _ f hP2 wStar;obtain ⟨b,hb⟩:=EX (((s1.wants [wOpen]).takes wStar).1);rw [hb] at htk;unfold zh at htk;have HB:=QH hb;clear hP2 hb hx2;go_wp2_with fail;(with_reducible refine htk.mono ?_);rintro e w3 ⟨rfl,hM3,hP3⟩;clear htk;have hMz:=hMw2.trans hM3
  cases b with
  | true =>have hxz:=hMz.heap hxb n3;have xz:=hMz.cell hx n1;have cz:=hMz.cell hc n2;have y3:w3.cell? ⟨xb,0,none⟩ = some (.string ⟨#[99,111,117,110,116]⟩):=za hxz 0;have g3:=zc hxz 0;have HFz:Hid (aggB F oCount pos s1=(.leaf { op:=oAll,pos:=pos },((s1.wants [wOpen]).takes wStar).2.wants [wShut])):=QH (by unfold aggB; simp only [HB.out]; rfl);generalize ((s1.wants [wOpen]).takes wStar).2=s3 at *;have hM4:Mods [xb] w3 (w3.setCell ⟨xb,0,none⟩ (.string ⟨#[99,111,117,110,116,97,108,108]⟩)):=(QM _ _).setCell (.inl AB) _;have hx4:=zb hxz 0 (.string ⟨#[99,111,117,110,116,97,108,108]⟩);have x4:=hM4.cell xz (by simpa using hpx);have hP4:=hP3.mods hM4 (by simpa using hxp.symm) (by simpa using hxt.symm);have H4:=QH (AI hP4 (AI hM4 hx4));clear hP4 hM4 hx4 hP3 hM3 hMw2 x2 c2 y2 hxz HEX;go_upto_region 4 with fail;generalize w3.setCell ⟨xb,0,none⟩ (.string ⟨#[99,111,117,110,116,97,108,108]⟩)=w7 at *;have hMs:=(QM [] w7).alloc (.cells #[.string ⟨#[41]⟩] 9);have hl7:=H4.out.1.lt;have hwa:Calls Tryz.prog 51 #[zh pb,.slice (some ⟨w7.heap.size,0,none⟩) 1 1] (w7.alloc (.cells #[.string ⟨#[41]⟩] 9)) _:=zbq _ pb tg _ f (H4.out.1.later hMs) _ [wShut] (zaT w7 wShut 9) AD (fun g off n c he => by simp only [Value.slice.injEq,Option.some.injEq,Addr.mk.injEq] at he; omega);unfold zh at hwa;go_wp2_with fail;(with_reducible refine hwa.mono ?_);rintro e w9 ⟨rfl,hM9,hP9⟩;clear hwa;go_wp2_with fail;go_end0;obtain ⟨-,hM7,hf1⟩:=H4.out;have h79:Mods [pb] w7 w9:=(hMs.mono (L':=[pb])).trans hM9;refine ⟨rfl,by rw [HFz.out]; exact hP9,((hMz.mono (L':=[pb,xb])).trans (hM7.mono (L':=[pb,xb]) AB)).trans (h79.mono (L':=[pb,xb]) AB),?_⟩;unfold AggAt;rw [HFz.out];intro he L hL;exact ⟨xb,rfl,fun hm => (hL _ hm).2 rfl,h79.heap hf1 n3⟩
  | false =>have HFz:Hid (aggB F oCount pos s1=(.un { op:=oCount,pos:=pos } (F ((s1.wants [wOpen]).takes wStar).2).1,(F ((s1.wants [wOpen]).takes wStar).2).2.wants [wShut])):=QH (by unfold aggB; simp only [HB.out]; rfl);generalize ((s1.wants [wOpen]).takes wStar).2=s3 at *;have hPz:=hP3;clear hP3 hM3 hMw2 x2 c2 y2;generalize w3=wz at *;go_wp2_with fail;exact yag
 ·have HFz:Hid (aggB F op pos s1=(.un { op:=op,pos:=pos } (F (s1.wants [wOpen])).1,(F (s1.wants [wOpen])).2.wants [wShut])):=QH (by unfold aggB; simp only [hop]; rfl);generalize s1.wants [wOpen]=s3 at *
  have e0:¬ (⟨op.toArray⟩ : ByteArray) = ⟨#[99,111,117,110,116]⟩:=fun h => hop (by
   have:=congrArg (fun b => b.data.toList) h
   exact (by simpa using this:op=[99,111,117,110,116]))
  have e2:¬ (⟨op.toArray⟩ : ByteArray).toList=[99,111,117,110,116]:=by rw [ByteArray.toList_eq]; exact fun h => hop (by simpa using h:op=[99,111,117,110,116])
  have e3:((⟨op.toArray⟩ : ByteArray).toList == [99,111,117,110,116])=false:=by rw [beq_eq_false_iff_ne]; exact e2
  have hMz:=hMw2;have hPz:=hP2;clear hP2 hMw2;generalize w2=wz at *;go_wp2_with fail;clear e0 e2 e3 x2 c2 y2 hx2;exact yag
theorem Mods.rules0 {w w':World} (h:Mods [] w w'):(∀ b o,b < w.heap.size → w'.cell? ⟨b,o,none⟩ = w.cell? ⟨b,o,none⟩) ∧ (∀ b o,b < w.heap.size → w'.frozen? ⟨b,o,none⟩ = w.frozen? ⟨b,o,none⟩) ∧ w.heap.size ≤ w'.heap.size:=
 ⟨fun b o hb => World.cell?_of_block (h.block b hb AB),fun b o hb => World.frozen?_of_block (h.block b hb AB),h.size⟩
theorem keepS1 {W w':World} {p:Addr} {x:Value} (h0:W.cell? p=some x) (h:Mods [] W w'):w'.cell? p=some x ∧ W.heap.size ≤ w'.heap.size ∧ Mods [] W w':=⟨h.cell h0,h.size,h⟩
theorem zfR (w:World):w.drew.heap=w.heap:=rfl
def CutAgg (W0:World) (op:Bs) (pos:Nat) (s3:Value) (wx:World):Prop:=
 ∃ xb xc,s3 = .pointer (some ⟨xc,0,none⟩) ∧ W0.heap.size ≤ xb ∧ W0.heap.size ≤ xc ∧ xb ≠ xc ∧ Mods [] W0 wx ∧ wx.heap[xc]? = some (.cells #[zh xb] 103 (0,0)) ∧ wx.heap[xb]? = some (.cells (hdC { op:=op,pos:=pos } (.slice none 0 0)).toArray 171 (0,0))
theorem zpf {L L':List Nat} {a b c:World} (h:Mods L a b) (k:Mods L' b c) (hs:∀ x ∈ L',x ∈ L ∨ a.heap.size ≤ x):Mods L a c:=Mods.trans h k hs
theorem cutAggA {W0 W w1:World} {op:Bs} {pos:Nat} (h:Mods [] W0 W) (h':Mods [] (W.alloc (.cells #[.pointer none] 103)) w1) :
  CutAgg W0 op pos (.pointer (some ⟨W.heap.size,0,none⟩)) ((w1.setCell ⟨W.heap.size,0,none⟩ (.pointer (some ⟨w1.heap.size,0,none⟩))).alloc (.cells #[.string ⟨op.toArray⟩,.int .i64 pos,.string ⟨#[]⟩,.string ⟨#[]⟩,.int .i64 0,.int .i64 0,.string ⟨#[]⟩,.slice none 0 0] 171)):=by
 have hs:=h'.size;rw [zl] at hs;have hm:=h.size;have hx:=h'.heap (QN W (.cells #[.pointer none] 103));have hx2:=zb hx 0 (.pointer (some ⟨w1.heap.size,0,none⟩));have hw:=((h.alloc (.cells #[.pointer none] 103)).trans h').setCell (p:=⟨W.heap.size,0,none⟩) (.inr (by show W0.heap.size ≤ W.heap.size; omega)) (.pointer (some ⟨w1.heap.size,0,none⟩));have hz:(w1.setCell ⟨W.heap.size,0,none⟩ (.pointer (some ⟨w1.heap.size,0,none⟩))).heap.size=w1.heap.size:=by simp [World.setCell]
 generalize w1.setCell ⟨W.heap.size,0,none⟩ (.pointer (some ⟨w1.heap.size,0,none⟩))=w2 at *;rw [← hz] at hx2;exact ⟨w2.heap.size,W.heap.size,rfl,by omega,by omega,by omega,hw.alloc _,((QM [] w2).alloc _).heap hx2,QN w2 _⟩
theorem cutAggD {W0 W w1:World} {op:Bs} {pos:Nat} (h:Mods [] W0 W) (h':Mods [] (W.alloc (.cells #[.pointer none] 103)).drew w1) :
  CutAgg W0 op pos (.pointer (some ⟨W.heap.size,0,none⟩)) ((w1.setCell ⟨W.heap.size,0,none⟩ (.pointer (some ⟨w1.heap.size,0,none⟩))).alloc (.cells #[.string ⟨op.toArray⟩,.int .i64 pos,.string ⟨#[]⟩,.string ⟨#[]⟩,.int .i64 0,.int .i64 0,.string ⟨#[]⟩,.slice none 0 0] 171)):=
 cutAggA h ((QM [] _).drew.trans h')
theorem cutAggC {W0 w1:World} {op:Bs} {pos:Nat} (h:Mods [] W0 w1) :
  CutAgg W0 op pos (.pointer (some ⟨w1.heap.size,0,none⟩)) ((w1.alloc (.cells #[.pointer (some ⟨w1.heap.size + 1,0,none⟩)] 103)).alloc (.cells #[.string ⟨op.toArray⟩,.int .i64 pos,.string ⟨#[]⟩,.string ⟨#[]⟩,.int .i64 0,.int .i64 0,.string ⟨#[]⟩,.slice none 0 0] 171)):=by
 have hm:=h.size;obtain ⟨h1,h2⟩:=zck w1 (.cells #[.pointer (some ⟨w1.heap.size + 1,0,none⟩)] 103) (.cells #[.string ⟨op.toArray⟩,.int .i64 pos,.string ⟨#[]⟩,.string ⟨#[]⟩,.int .i64 0,.int .i64 0,.string ⟨#[]⟩,.slice none 0 0] 171);exact ⟨w1.heap.size + 1,w1.heap.size,rfl,by omega,by omega,by omega,(h.alloc _).alloc _,h1,h2⟩
theorem cutAggB {W0 w1:World} {op:Bs} {pos:Nat} (h:Mods [] W0 w1) :
  CutAgg W0 op pos (.pointer (some ⟨w1.heap.size + 1,0,none⟩)) ((w1.alloc (.cells #[.string ⟨op.toArray⟩,.int .i64 pos,.string ⟨#[]⟩,.string ⟨#[]⟩,.int .i64 0,.int .i64 0,.string ⟨#[]⟩,.slice none 0 0] 171)).alloc (.cells #[.pointer (some ⟨w1.heap.size,0,none⟩)] 103)):=by
 have hm:=h.size;obtain ⟨h1,h2⟩:=zck w1 (.cells #[.string ⟨op.toArray⟩,.int .i64 pos,.string ⟨#[]⟩,.string ⟨#[]⟩,.int .i64 0,.int .i64 0,.string ⟨#[]⟩,.slice none 0 0] 171) (.cells #[.pointer (some ⟨w1.heap.size,0,none⟩)] 103);exact ⟨w1.heap.size,w1.heap.size + 1,rfl,by omega,by omega,by omega,(h.alloc _).alloc _,h2,h1⟩
theorem zgw (w:World) (pb tg:Nat) (f:Nat) (s:PS) (h:PSt w pb tg s f) (he:s.e=0) (hk:s.now.kind ≠ 0) (hlen:s.now.s.length ≤ 1000) (hasc:∀ b ∈ s.now.s,b.toNat < 128)
  (hexpr:∀ f',f=f' + 1 → ∀ W s1,PSt W pb tg s1 f' → Calls Tryz.prog 57 #[zh pb] W (PRes pb tg f' (lvl f').expr s1 W)) :
  Calls Tryz.prog 226 #[zh pb] w (PRes pb tg f (zK (subOf f)) s w):=by
 have hpw:=h.lt;have hlow:=fun W => zcH s.now.s hlen hasc W;have hMa:=(QM [] w).alloc (.cells #[.pointer (some ⟨pb,0,none⟩)] 93);have hb0:=QN w (.cells #[.pointer (some ⟨pb,0,none⟩)] 93);have hP0:=h.later hMa;have hfd1:=zaA s.now;have hfd2:=zjx s.now;have c0:(w.alloc (.cells #[.pointer (some ⟨pb,0,none⟩)] 93)).cell? ⟨w.heap.size,0,none⟩ = some (.pointer (some ⟨pb,0,none⟩)):=za hb0 0;have HO:=QH hexpr
 have hnowG:∀ W,Mods [] (w.alloc (.cells #[.pointer (some ⟨pb,0,none⟩)] 93)) W → Calls Tryz.prog 55 #[.pointer (some ⟨pb,0,none⟩)] W fun e w' => e = .returned (.agg #[.int .i64 s.now.kind,.int .i64 s.now.pos,.string ⟨s.now.s.toArray⟩,.int .i64 s.now.n,.int .i64 s.now.scale]) ∧ Mods [] (w.alloc (.cells #[.pointer (some ⟨pb,0,none⟩)] 93)) w' ∧ Mods [] W w':=
  fun W hM => (zaO W pb tg s f (hP0.later hM)).mono fun e w' h => ⟨h.1,hM.trans h.2,h.2⟩
 have hlowG:∀ W,Mods [] (w.alloc (.cells #[.pointer (some ⟨pb,0,none⟩)] 93)) W → Calls Tryz.prog 130 #[.string ⟨s.now.s.toArray⟩] W fun e w' => e = .returned (.string ⟨(s.now.s.map zb5).toArray⟩) ∧ Mods [] (w.alloc (.cells #[.pointer (some ⟨pb,0,none⟩)] 93)) w' ∧ Mods [] W w':=
  fun W hM => (hlow W).mono fun e w' h => ⟨h.1,hM.trans h.2,h.2⟩
 have HM0:=QH hMa;have HP0:=QH (AI hP0 hb0);have hsz:(w.alloc (.cells #[.pointer (some ⟨pb,0,none⟩)] 93)).heap.size=w.heap.size + 1:=zl _ _;have HSZ:=QH hsz;clear hsz;unfold zh at *;clear h hexpr hMa hb0 hP0 hlow;go_enter Tryz.func226, Tryz.ntmps226;go_upto_region 1 with fail;generalize w.alloc (.cells #[.pointer (some ⟨pb,0,none⟩)] 93)=W0 at *;obtain ⟨op,hop⟩:=EX (s.now.s.map zb5);obtain ⟨t,ht⟩:=EX (s.now);rw [hop] at hlowG;rw [ht] at hlowG hnowG hfd1 hfd2;have HOP:=QH (AI hop ht);clear hop ht;go_cut [3] (fun s3 wx => CutAgg W0 op t.pos s3 wx)
 case first =>
  go_region_held3 (fun w' => w'.cell? ⟨w.heap.size,0,none⟩ = some (.pointer (some ⟨pb,0,none⟩)) ∧ W0.heap.size ≤ w'.heap.size ∧ Mods [] W0 w')
   (((with_reducible refine keepS1 c0 ?_); (repeat (first | (with_reducible refine Mods.drew ?_) | (with_reducible refine Mods.alloc ?_ _) | (with_reducible refine Mods.setCell ?_ (.inr (by show _ ≤ (_:Nat); dsimp only; omega)) _))); first | assumption | exact QM _ _ | simp only [*]))
   (first | (go_at_call 55; refine (hnowG _ ?_).mono ?_; (first | assumption | simp only [*]); rintro e w'' ⟨rfl,hm1,hr1⟩; have hs1:=hm1.size; obtain ⟨ha1,hb1,hc1⟩:=hr1.rules0; (try simp only [zfR] at ha1 hb1 hc1); (try simp only [zl] at ha1 hb1 hc1); (first | (have hd1:=Nat.lt_of_succ_le hc1; skip) | (have hd1:=LL hd2 hc1; skip) | skip)) | (go_at_call 130; refine (hlowG _ ?_).mono ?_; (first | assumption | simp only [*]); rintro e w'' ⟨rfl,hm2,hr2⟩; have hs2:=hm2.size; obtain ⟨ha2,hb2,hc2⟩:=hr2.rules0; (try simp only [zfR] at ha2 hb2 hc2); (try simp only [zl] at ha2 hb2 hc2); (first | (have hd2:=Nat.lt_of_succ_le hc2; skip) | (have hd2:=LL hd1 hc2; skip) | skip)))
  all_goals
   go_wp2_with fail
   go_meet
   first
    | exact cutAggB (by assumption)
    | exact cutAggC (by assumption)
    | exact cutAggA (QM _ _) (by assumption)
    | exact cutAggA (by assumption) (by assumption)
    | (refine cutAggA (by first | assumption | exact QM _ _) ?_; apply zpf (L':=[]); assumption; (first | assumption | (apply zpf (L':=[]); assumption; assumption; simp)); simp)
    | (refine cutAggD (by first | assumption | exact QM _ _) ?_; apply zpf (L':=[]); assumption; (first | assumption | (apply zpf (L':=[]); assumption; assumption; simp)); simp)
 case rest =>
  obtain ⟨xb,xc,rfl,hxb,hxc,hne,hMx,hcx,hbx⟩:=hcut;have c0x:wc.cell? ⟨w.heap.size,0,none⟩ = some (.pointer (some ⟨pb,0,none⟩)):=hMx.cell c0;have hPx:=HP0.out.1.later hMx;have hsz:=HSZ.out;have hMw:Mods [pb] w wc:=((HM0.out.trans hMx).mono);obtain ⟨hop,ht⟩:=HOP.out;have ccx:wc.cell? ⟨xc,0,none⟩ = some (zh xb):=za hcx 0;clear hnowG hlowG hfd1 hfd2 c0
  cases f with
  | zero =>
   have hin:=zcj wc pb tg s hPx (.func (.func 229) #[] #[.pointer (some ⟨w.heap.size,0,none⟩),.pointer (some ⟨xc,0,none⟩)]);have HF:Hid (zK (subOf 0) s=(.leaf { op:=op,pos:=t.pos },s.fail 9)):=QH (by rw [← hop,← ht]; rfl);have he9:(s.fail 9).e ≠ 0:=by unfold PS.fail; rw [if_pos he]; simp
   unfold zh at hin;clear HO hPx hop ht;go_wp2_with fail;(with_reducible refine hin.mono ?_);rintro e w5 ⟨rfl,hM5,hP5⟩;have c5:=hM5.cell ccx AE;unfold zh at c5;clear hin;go_wp2_with fail;go_ret;exact ⟨xb,rfl,hMw.trans hM5,by rw [HF.out]; exact hP5,by rw [HF.out]; exact fun h => absurd h he9⟩
  | succ f =>
   have HF:Hid (zK (subOf (f + 1)) s=aggB (lvl f).expr op t.pos s.next):=QH (by
    rw [← hop,← ht];show (if s.e=0 then _ else _)=_;rw [if_pos he]
    rfl)
   have hin:=zdu wc pb tg s f hPx he hk 229 (.inr (.inr rfl)) (.pointer (some ⟨w.heap.size,0,none⟩)) (.pointer (some ⟨xc,0,none⟩)) (aggB (lvl f).expr op t.pos s.next).2
    (fun W' => ∃ W,Mods [pb] wc W ∧ Mods [pb,xb] W W' ∧ AggAt xb (lvl f).expr op t.pos s.next W W')
    (fun W hM hP => (aggregate1 W pb tg f (lvl f).expr s.next w.heap.size xc xb op t.pos hP (hM.cell c0x AE) (hM.cell ccx AE) (hM.heap hbx AE) AA AA AA AA AA (fun W2 s2 hP2 => HO.out f rfl W2 s2 hP2)).mono fun e W' h => ⟨h.1,h.2.1,W,hM,h.2.2.1,h.2.2.2⟩)
   unfold zh at hin;clear HO hPx hop ht;go_wp2_with fail;(with_reducible refine hin.mono ?_);rintro e w5 ⟨rfl,hP5,W1,⟨W,hMa,hMb,hfe⟩,hMc⟩;clear hin;have hsa:=hMa.size;have hsx:=hMx.size;have c5:=hMc.cell (hMb.cell (hMa.cell ccx AE) AE) AE;unfold zh at c5;have hMw5:Mods [pb] w w5:=((hMw.trans hMa).trans hMb (fun y hy => by simp at hy; rcases hy with rfl | rfl; exact .inl AB; exact .inr AA)).trans hMc;have hfin:PRes pb tg (f + 1) (zK (subOf (f + 1))) s w (.returned (.pointer (some ⟨xb,0,none⟩))) w5:=by
    refine ⟨xb,rfl,hMw5,by rw [HF.out]; exact hP5,?_⟩;rw [HF.out];intro he L hL
    exact ((hfe he (pb :: L) (fun y hy => by
     rcases MC hy with rfl | hy
     ·exact ⟨by omega,by omega⟩
     ·have:=hL _ hy; exact ⟨by omega,by omega⟩)).mods (hMc.mono)).weaken (fun y hy => CM _ hy)
   have HFIN:=QH hfin;clear hfin hfe hP5 hMa hMb hMc hMw hMw5 hMx;go_wp2_with fail;go_ret;exact HFIN.out
def zbL (D:List Nat) (f:Nat → Value):Nat → List Value → List Value
 | _,[] => []
 | i,v :: l => (if D.contains i=true then f i else v) :: zbL D f (i + 1) l
def upd (f:Nat → Value) (d:Option Nat) (v:Value):Nat → Value:=match d with | none => f | some d => fun j => if j=d then v else f j
theorem zhW (D:List Nat) (f:Nat → Value):∀ (l:List Value) (i:Nat),(zbL D f i l).length=l.length:=by
 intro l
 induction l with
 | nil => intro i; rfl
 | cons v l ih => intro i; simp [zbL,ih]
theorem zdd (D:List Nat) (f:Nat → Value):∀ (l:List Value) (i j:Nat),(zbL D f i l)[j]? = (l[j]?).map fun v => if D.contains (i + j)=true then f (i + j) else v:=by
 intro l
 induction l with
 | nil => intro i j; simp [zbL]
 | cons v l ih =>
  intro i j
  cases j with
  | zero => simp [zbL]
  | succ j =>simp only [zbL,List.getElem?_cons_succ,ih];rw [show i + 1 + j=i + (j + 1) by omega]
theorem zhX (D:List Nat) (f:Nat → Value) (l:List Value) (d:Nat) (hd:D.contains d=true) (v:Value):(zbL D f 0 l).set d v=zbL D (upd f (some d) v) 0 l:=by
 apply List.ext_getElem?;intro j;rw [List.getElem?_set,zdd,zdd,Nat.zero_add,zhW];by_cases hj:d=j
 ·subst hj;rw [if_pos rfl,hd];by_cases hl:d < l.length
  ·rw [if_pos hl,List.getElem?_eq_getElem hl]; simp [upd]
  ·rw [if_neg hl,List.getElem?_eq_none AA]; rfl
 ·rw [if_neg hj];congr 1;funext v';have hj2:¬ j=d:=fun h => hj h.symm;simp only [upd,hj2,if_false]
theorem zhk (D:List Nat):∀ (l:List Value) (i:Nat),zbL D (fun j => (l[j - i]?).getD undef) i l=l:=by
 intro l i;apply List.ext_getElem?;intro j;rw [zdd]
 cases h:l[j]? with
 | none => rfl
 | some v => simp [h]
def zbh (D:List Nat) (l:List Value) (ds:List Deferred) (f:Nat → Value):Act:=⟨(zbL D f 0 l).toArray,ds⟩
theorem zmz (D:List Nat) (l:List Value) (ds:List Deferred) (f:Nat → Value) (d:Option Nat) (hd:∀ x,d=some x → D.contains x=true) (v:Value):(zbh D l ds f).put d v=zbh D l ds (upd f d v):=by
 cases d with
 | none => rfl
 | some d =>unfold zbh Act.put;simp only [Act.mk.injEq,and_true];rw [List.setIfInBounds_toArray,zhX D f l d (hd d rfl)]
def factsOk (md:Region.Mode) (ops:Array Oper) (D:List Nat) (looks:Nat → List Nat):Bool:=
 (List.range ops.size).all fun i => match ops[i]? with
  | none => true
  | some o => o.guard.isNone && (match o.dst with | none => true | some d => D.contains d && (List.range i).all fun j => decide ((ops[j]?).bind (·.dst) ≠ some d)) &&
   (o.after.toList.all fun e => !Region.binds md e || decide (e.on < i)) && ((looks i).all fun s => decide (o.dst=some s) || o.after.toList.any fun e => Region.binds md e && decide ((ops[e.on]?).bind (·.dst)=some s))
theorem zb9 {md:Region.Mode} {ops:Array Oper} {D:List Nat} {looks:Nat → List Nat} (h:factsOk md ops D looks=true) {i:Nat} {o:Oper} (hi:ops[i]? = some o) :
  o.guard=none ∧ (∀ d,o.dst=some d → D.contains d=true ∧ ∀ j,j < i → (ops[j]?).bind (·.dst) ≠ some d) ∧ (∀ e ∈ o.after.toList,Region.binds md e=true → e.on < i) ∧
  (∀ s ∈ looks i,o.dst=some s ∨ ∃ e ∈ o.after.toList,Region.binds md e=true ∧ (ops[e.on]?).bind (·.dst)=some s):=by
 have hlt:i < ops.size:=(Array.getElem?_eq_some_iff.1 hi).1;have h1:=List.all_eq_true.1 h i (List.mem_range.2 hlt);rw [hi] at h1;simp only [Bool.and_eq_true] at h1;obtain ⟨⟨⟨h2,h3⟩,h4⟩,h5⟩:=h1;refine ⟨by simpa using h2,fun d hd => ?_,fun e he hb => ?_,fun s hs => ?_⟩
 ·rw [hd] at h3;simp only [Bool.and_eq_true] at h3;refine ⟨h3.1,fun j hj => ?_⟩;have:=List.all_eq_true.1 h3.2 j (List.mem_range.2 hj);simpa using this
 ·have:=List.all_eq_true.1 h4 e he;rw [hb] at this;simpa using this
 ·have:=List.all_eq_true.1 h5 s hs;simp only [Bool.or_eq_true,decide_eq_true_eq,List.any_eq_true,Bool.and_eq_true] at this;exact this
theorem zcI:∀ (l:List Bool) (i:Nat),l[i]? = some false → (l.set i true).countP (fun b => !b) + 1=l.countP (fun b => !b):=by
 intro l
 induction l with
 | nil => intro i h; simp at h
 | cons b l ih =>
  intro i h
  cases i with
  | zero =>simp at h;subst h;simp
  | succ i =>have:=ih i AN;simp only [List.set_cons_succ,List.countP_cons];omega
section
variable {P:Program} {ops:Array Oper} {md:Region.Mode} {Q:Exit → Act → World → Prop} {D:List Nat} {looks:Nat → List Nat} {l:List Value} {ds:List Deferred}
 {Inv:World → Prop} {Step:World → World → Prop} {F:Nat → (Nat → Value) → World → Prop}
structure FaxAt (P:Program) (ops:Array Oper) (md:Region.Mode) (Inv:World → Prop) (F:Nat → (Nat → Value) → World → Prop) (listed:Array Bool) (f:Nat → Value) (w:World):Prop where
 size:listed.size=ops.size
 inv:Inv w
 fact:∀ i:Nat,listed[i]? = some true → F i f w
 down:∀ (i:Nat) (o:Oper),listed[i]? = some true → ops[i]? = some o → ∀ e ∈ o.after.toList,Region.binds md e=true → listed[e.on]? = some true
theorem zkH (hok:factsOk md ops D looks=true)
  (hstable:∀ (i:Nat) (f f':Nat → Value) (w w':World),Inv w → Inv w' → Step w w' → (∀ s ∈ looks i,f s=f' s) → F i f w → F i f' w')
  (hstep:∀ (i:Nat) (o:Oper),ops[i]? = some o → ∀ (f:Nat → Value) (w:World),Inv w → (∀ e ∈ o.after.toList,Region.binds md e=true → F e.on f w) →
   ∀ K:Act → World → Prop,(∀ (v:Value) (w':World),Inv w' → Step w w' → F i (upd f o.dst v) w' → K ((zbh D l ds f).put o.dst v) w') → Oper.wp P o (zbh D l ds f) w K Q)
  (hend:∀ (f:Nat → Value) (w:World),Inv w → (∀ i,i < ops.size → F i f w) → Q .normal (zbh D l ds f) w) :
  ∀ (fuel:Nat) (listed:Array Bool) (f:Nat → Value) (w:World),FaxAt P ops md Inv F listed f w → listed.toList.countP (fun b => !b) ≤ fuel → wpAny P md ops Q fuel listed (zbh D l ds f) w:=by
 have hall:∀ (listed:Array Bool) (f:Nat → Value) (w:World),FaxAt P ops md Inv F listed f w → Region.ready md ops listed=[] → Q .normal (zbh D l ds f) w:=by
  intro listed f w h hr;refine hend f w h.inv fun i hi => h.fact i ?_;have main:∀ n,n < ops.size → listed[n]? = some true:=by
   intro n
   induction n using Nat.strongRecOn with
   | ind n ih =>
    intro hn;have ho:ops[n]? = some ops[n]:=Array.getElem?_eq_getElem hn;have hs:listed[n]? = some (listed[n]'AW):=Array.getElem?_eq_getElem AW;by_cases hb:listed[n]'AW=true
    ·rw [hs,hb]
    ·exfalso;have hmem:n ∈ Region.ready md ops listed:=by
      unfold Region.ready;rw [List.mem_filter];refine ⟨List.mem_range.2 hn,?_⟩;rw [ho];have hg:listed.getD n true=listed[n]'AW:=by simp [Array.getD,h.size,hn]
      have hb2:listed[n]'AW=false:=by simpa using hb
      rw [hg,hb2];simp only [Bool.not_false,Bool.true_and,Option.map_some,Option.getD_some];rw [← Array.all_toList];rw [List.all_eq_true];intro e he;by_cases hbd:Region.binds md e=true
      ·have hlt:=(zb9 hok ho).2.2.1 e he hbd;have:=ih e.on hlt AA;have hlt2:e.on < listed.size:=by rw [h.size]; omega
       have h3:listed[e.on]'hlt2=true:=by rw [Array.getElem?_eq_getElem hlt2] at this;simpa using this
       simp [Array.getD,hlt2,h3]
      ·simp [hbd]
     rw [hr] at hmem;cases hmem
  exact main i hi
 intro fuel
 induction fuel with
 | zero =>
  intro listed f w h hc;have hr:Region.ready md ops listed=[]:=by
   unfold Region.ready;rw [List.filter_eq_nil_iff];intro i hi;have hlt:i < listed.size:=by rw [h.size]; exact List.mem_range.1 hi
   have h0:listed.toList.countP (fun b => !b)=0:=by omega
   rw [List.countP_eq_zero] at h0;have:=h0 listed[i] AB;have hb:listed[i]=true:=by simpa using this
   simp [Array.getD,hlt,hb]
  exact ⟨hr,hall listed f w h hr⟩
 | succ fuel ih =>
  intro listed f w h hc;refine ⟨hall listed f w h,fun i hi => ?_⟩;unfold Region.ready at hi;rw [List.mem_filter] at hi;obtain ⟨hi1,hi2⟩:=hi;have hn:i < ops.size:=List.mem_range.1 hi1;have hnl:i < listed.size:=by rw [h.size]; exact hn
  have ho:ops[i]? = some ops[i]:=Array.getElem?_eq_getElem hn;rw [ho] at hi2;simp only [Bool.and_eq_true,Option.map_some,Option.getD_some] at hi2;obtain ⟨hu,hd⟩:=hi2;have hun:listed[i]? = some false:=by rw [Array.getElem?_eq_getElem hnl];simp [Array.getD,hnl] at hu;rw [hu]
  have hdep:∀ e ∈ (ops[i]).after.toList,Region.binds md e=true → listed[e.on]? = some true:=by
   intro e he hb;rw [← Array.all_toList,List.all_eq_true] at hd;have:=hd e he;rw [hb] at this;simp only [Bool.not_true,Bool.false_or] at this;have hlt:=(zb9 hok ho).2.2.1 e he hb;have hlt2:e.on < listed.size:=by rw [h.size]; omega
   simp [Array.getD,hlt2] at this;rw [Array.getElem?_eq_getElem hlt2,this]
  have hok1:=zb9 hok ho;have hg:=hok1.1;have hdst:=hok1.2.1;unfold wpOp;rw [ho];simp only;rw [if_pos (by simp [Region.wanted,hg])];refine .inl (hstep i _ ho f w h.inv (fun e he hb => h.fact _ (hdep e he hb)) _ fun v w' hI hS hF => ?_);rw [zmz D l ds f _ (fun d hd2 => (hdst d hd2).1) v];have hset:∀ k,(listed.setIfInBounds i true)[k]? = if k=i then some true else listed[k]?:=by exact yaO
  refine ih _ _ _ ⟨by simp [h.size],hI,fun k hk => ?_,fun k o hk hko e he hb => ?_⟩ ?_
  ·rw [hset] at hk;by_cases hki:k=i
   ·subst hki; exact hF
   ·rw [if_neg hki] at hk;refine hstable k f _ w w' h.inv hI hS (fun s hs => ?_) (h.fact k hk);have hkn:k < ops.size:=by
     rw [← h.size]; exact (Array.getElem?_eq_some_iff.1 hk).1
    have hok2:ops[k]? = some ops[k]:=Array.getElem?_eq_getElem hkn;have hw:∃ m:Nat,listed[m]? = some true ∧ (ops[m]?).bind (·.dst)=some s:=by
     rcases (zb9 hok hok2).2.2.2 s hs with h1 | ⟨e,he,hb,h1⟩
     ·exact ⟨k,hk,by rw [hok2]; exact h1⟩
     ·exact ⟨e.on,h.down k _ hk hok2 e he hb,h1⟩
    obtain ⟨m,hm,hms⟩:=hw;have hmi:m ≠ i:=fun e => by rw [e,hun] at hm; cases hm
    cases hdi:(ops[i]).dst with
    | none => rfl
    | some d =>
     simp only [upd];rw [if_neg];intro hsd;subst hsd;rcases Nat.lt_or_ge m i with hlt | hge
     ·exact (hdst s hdi).2 m hlt hms
     ·have hmn:m < ops.size:=by
       rw [← h.size]; exact (Array.getElem?_eq_some_iff.1 hm).1
      have hom:ops[m]? = some ops[m]:=Array.getElem?_eq_getElem hmn;have hms2:(ops[m]).dst=some s:=by rw [hom] at hms; exact hms
      exact ((zb9 hok hom).2.1 s hms2).2 i AA (by rw [ho]; exact hdi)
  ·rw [hset] at hk ⊢;by_cases hei:e.on=i
   ·rw [if_pos hei]
   ·rw [if_neg hei];by_cases hki:k=i
    ·subst hki;rw [ho] at hko;cases hko;exact hdep e he hb
    ·rw [if_neg hki] at hk;exact h.down k o hk hko e he hb
  ·exact yaH
end
theorem zjD {P:Program} {id:Nat} {ops:Array Oper} {Q:Exit → Act → World → Prop} {w:World} {l:List Value} {ds:List Deferred} (hm:P.follows .mixedOrders=true) (D:List Nat) (looks:Nat → List Nat) (hok:factsOk .any ops D looks=true)
  (Inv:World → Prop) (Step:World → World → Prop) (F:Nat → (Nat → Value) → World → Prop) (h0:Inv w.drew)
  (hstable:∀ (i:Nat) (f f':Nat → Value) (w w':World),Inv w → Inv w' → Step w w' → (∀ s ∈ looks i,f s=f' s) → F i f w → F i f' w')
  (hstep:∀ (i:Nat) (o:Oper),ops[i]? = some o → ∀ (f:Nat → Value) (w:World),Inv w → (∀ e ∈ o.after.toList,Region.binds .any e=true → F e.on f w) →
   ∀ K:Act → World → Prop,(∀ (v:Value) (w':World),Inv w' → Step w w' → F i (upd f o.dst v) w' → K ((zbh D l ds f).put o.dst v) w') → Oper.wp P o (zbh D l ds f) w K Q)
  (hend:∀ (f:Nat → Value) (w:World),Inv w → (∀ i,i < ops.size → F i f w) → Q .normal (zbh D l ds f) w):(Code.region id ops true).wp P Q ⟨l.toArray,ds⟩ w:=by
 refine wp_region_any hm ?_;have hst:(⟨l.toArray,ds⟩ : Act)=zbh D l ds (fun j => (l[j]?).getD undef):=by unfold zbh;have:=zhk D l 0;simp only [Nat.sub_zero] at this;rw [this]
 rw [hst];refine zkH hok hstable hstep hend _ _ _ _ ⟨by simp,h0,fun i hi => ?_,fun i o hi => ?_⟩ ?_
 ·simp [Array.getElem?_replicate] at hi
 ·simp [Array.getElem?_replicate] at hi
 ·refine Nat.le_trans List.countP_le_length ?_;simp
end Go.Proofs.YtcabeljiobiojaaGreatDoor
