/-
  parse's column, inside, walked. No condition.
-/
import Derived.Test.YtebljciefhfgbaaGreatDoorQ05
import Derived.Deep.RegionWith
import Derived.Deep.RegionHeld
set_option linter.unusedVariables false
set_option maxRecDepth 100000
set_option maxHeartbeats 2000000
namespace Go.Proofs.YtebljciefhfgbaaGreatDoor
open Go.RowKit
theorem yel {p:Prop} (h:p:=by
  have hM2:=hM1.alloc (.cells #[.string ⟨x.toArray⟩] 9);have his:=zea _ pb tg s f (h.later hM2) _ [x] (zgt _ x) AB;have hob2:=((QM [] _).alloc (.cells #[.string ⟨x.toArray⟩] 9)).heap hob;have HP:=QH h;have HF:Hid (∀ z,zR (subOf f) x op own RF s=z → z=zR (subOf f) x op own RF s):=QH (fun z h => h.symm);have HO:=QH hown
  first
  |clear gDo
   have hsz:=zl w (.cells #[.func (.func 224) #[zh pb] #[]] 166);have gCt:=QH trivial;exact ydT
  |clear gDp
   have hsz:=zl w (.cells #[.func (.func 133) #[zh pb] #[]] 166);have gCu:=QH trivial;exact ydT
 ):p:=h
theorem ydZ {p:Prop} (h:p:=by
  have hF3:zR (subOf (f + 1)) x op own RF s=(.un { op:=op,pos:=s.now.pos } (own (lvl f) s.next).1,(own (lvl f) s.next).2):=by rw [HF2.out];show (if s.e=0 then _ else _)=_;rw [if_pos HK.out.1]
  have HF3:=QH hF3;obtain ⟨h1,hh1⟩ : ∃ h1:Hd,h1 = { op:=op,pos:=s.now.pos }:=⟨_,rfl⟩
  first
  |clear gCM
   have hin:=zdu _ pb tg s f hP4 HK.out.1 HK.out.2 199 (.inl rfl) (.pointer (some ⟨ob,0,none⟩)) (.pointer (some ⟨w3.heap.size + 1,0,none⟩)) (own (lvl f) s.next).2
    (fun W' => ∃ W,Mods [pb] ((w3.alloc (.cells #[.string ⟨op.toArray⟩,.int .i64 s.now.pos,.string ⟨#[]⟩,.string ⟨#[]⟩,.int .i64 0,.int .i64 0,.string ⟨#[]⟩,.slice none 0 0] 175)).alloc (.cells #[.pointer (some ⟨w3.heap.size,0,none⟩)] 107)) W ∧ Mods [pb,w3.heap.size] W W' ∧ Filled W w3.heap.size h1 (own (lvl f)) s.next W W')
    (fun W hM hP => (zgu W pb tg f (own (lvl f)) s.next ob (w3.heap.size + 1) w3.heap.size h1 (hM.cell ((za hb4 0).trans rfl) AE) (hM.cell ((za hc4 0).trans rfl) AE) (by rw [hh1]; exact hM.heap hx4 AE) AA AA AA AA (fun W2 h2 => HO.out f rfl W2 s.next (hP.later h2))).mono fun e W' h => ⟨h.1,h.2.1,W,hM,h.2.2.1,h.2.2.2⟩)
   exact yan
  |clear gCN
   have hin:=zdu _ pb tg s f hP4 HK.out.1 HK.out.2 199 (.inl rfl) (.pointer (some ⟨ob,0,none⟩)) (.pointer (some ⟨w3.heap.size + 1,0,none⟩)) (own (lvl f) s.next).2
    (fun W' => ∃ W,Mods [pb] ((w3.alloc (.cells #[.string ⟨op.toArray⟩,.int .i64 s.now.pos,.string ⟨#[]⟩,.string ⟨#[]⟩,.int .i64 0,.int .i64 0,.string ⟨#[]⟩,.slice none 0 0] 175)).alloc (.cells #[.pointer (some ⟨w3.heap.size,0,none⟩)] 107)) W ∧ Mods [pb,w3.heap.size] W W' ∧ Filled W w3.heap.size h1 (own (lvl f)) s.next W W')
    (fun W hM hP => (zhT W pb tg f (own (lvl f)) s.next ob (w3.heap.size + 1) w3.heap.size h1 (hM.cell ((za hb4 0).trans rfl) AE) (hM.cell ((za hc4 0).trans rfl) AE) (by rw [hh1]; exact hM.heap hx4 AE) AA AA AA AA (fun W2 h2 => HO.out f rfl W2 s.next (hP.later h2))).mono fun e W' h => ⟨h.1,h.2.1,W,hM,h.2.2.1,h.2.2.2⟩)
   exact yan
 ):p:=h
theorem ydT {p:Prop} (h:p:=by
  rw [hsz] at his;unfold zh at *;clear h hown;go_enter Tryz.func167, Tryz.ntmps167;go_wp2_with fail;(with_reducible refine his.mono ?_);rintro e w2 ⟨rfl,hM3⟩;have hM02:=hM2.trans hM3;have hb2:=hM3.heap hob2;have hP2:=HP.out.later hM02;clear his hob hob2 hM1 hM2 hM3 hsz;generalize hoe:w.heap.size=ob at *
  first
  |clear gCt
   cases hi:s.is [x] with
   | false =>exact yaT
   | true =>have gAt:=QH trivial;exact ycU
  |clear gCu
   cases hi:s.is [x] with
   | false =>exact yaT
   | true =>have gAu:=QH trivial;exact ycU
 ):p:=h
theorem ycU {p:Prop} (h:p:=by
  have hk:=zQ hi;have hnow:=zaO w2 pb tg s f hP2;have hfd:=zaA s.now;have hF:zR (subOf f) x op own RF s=inF (subOf f) (fun L s1 => (.un { op:=op,pos:=s.now.pos } (own L s1).1,(own L s1).2)) (.leaf { op:=op,pos:=s.now.pos }) s:=by unfold zR; rw [if_pos hi]
  have HF2:=QH hF;have HK:=QH hk;unfold zh at hnow;clear hF hk hi HF hrest;go_wp2_with fail;(with_reducible refine hnow.mono ?_);rintro e w3 ⟨rfl,hM4⟩;clear hnow;have hMX:=((QM [] w3).alloc (.cells #[.string ⟨op.toArray⟩,.int .i64 s.now.pos,.string ⟨#[]⟩,.string ⟨#[]⟩,.int .i64 0,.int .i64 0,.string ⟨#[]⟩,.slice none 0 0] 175)).alloc (.cells #[.pointer (some ⟨w3.heap.size,0,none⟩)] 107);obtain ⟨hx4,hc4⟩:=zck w3 (.cells #[.string ⟨op.toArray⟩,.int .i64 s.now.pos,.string ⟨#[]⟩,.string ⟨#[]⟩,.int .i64 0,.int .i64 0,.string ⟨#[]⟩,.slice none 0 0] 175) (.cells #[.pointer (some ⟨w3.heap.size,0,none⟩)] 107);have hM04:=(hM02.trans hM4).trans hMX;have hP4:=HP.out.later hM04;have hb4:=hMX.heap (hM4.heap hb2 AB);have hs04:=(hM02.trans hM4).size;have hobl:ob < w3.heap.size:=zj (hM4.heap hb2)
  first
  |clear gAt
   cases f with
   | zero =>exact yax
   | succ f =>have gCM:=QH trivial;exact ydZ
  |clear gAu
   cases f with
   | zero =>exact yax
   | succ f =>have gCN:=QH trivial;exact ydZ
 ):p:=h
theorem yan {p:Prop} (h:p:=by
  have HH1:=QH hh1;unfold zh at hin;clear hF3 HF2 HO hP4 hP2 hh1;go_wp2_with fail;(with_reducible refine hin.mono ?_);rintro e w5 ⟨rfl,hP5,W1,⟨W,hMa,hMb,ab,yb,hfx,hfa,hfs,hfe⟩,hMc⟩;clear hin;have hMW1:Mods [pb,w3.heap.size] _ W1:=(hMa.mono).trans hMb;have hM5:Mods [pb,w3.heap.size] _ w5:=hMW1.trans hMc;have c5:=hM5.cell ((za hc4 0).trans rfl) AE;change w5.cell? _=some (.pointer (some ⟨w3.heap.size,0,none⟩)) at c5;have hMw:Mods [pb] w w5:=(hM04.mono).trans hM5 (fun y hy => by simp at hy; rcases hy with rfl | rfl; exact .inl AB; exact .inr AA);have hsa:=hMa.size;rw [zl,zl] at hsa;have hfin:PRes pb tg (f + 1) (zR (subOf (f + 1)) x op own RF) s w (.returned (.pointer (some ⟨w3.heap.size,0,none⟩))) w5:=by
   refine ⟨w3.heap.size,rfl,hMw,by rw [HF3.out]; exact hP5,?_⟩;rw [HF3.out];intro he L hL;refine ⟨w3.heap.size,ab,zh yb,rfl,fun hm => by have:=hL _ hm; omega,fun hm => by have:=hL _ hm; omega,?_,hMc.heap hfa AE,?_⟩
   ·rw [← HH1.out];exact hMc.heap hfx AE
   ·exact (((hfe he (pb :: L) (fun y hy => by
     rcases MC hy with rfl | hy
     ·omega
     ·have:=hL _ hy; omega))).mods (hMc.mono)).weaken (fun y hy => CM _ hy)
  have HFIN:=QH hfin;clear hfin hfx hfa hfe hP5 hMa hMb hMc hMW1 hM5 hMw;go_wp2_with fail;go_ret;exact HFIN.out
 ):p:=h
theorem yaq {p:Prop} (h:p:=by
  have hcall:=hown W.drew ((QM [] W).drew);have hxw:xb < W.heap.size:=zj hxb;have n1:xc ∉ [pb]:=by simpa using hcp
  have n2:ob ∉ [pb]:=by simpa using hop
  have n3:xb ∉ [pb]:=by simpa using hxp
  unfold zh at *;have xd:W.drew.cell? ⟨xc,0,none⟩ = some (.pointer (some ⟨xb,0,none⟩)):=hx;have od:W.drew.cell? ⟨ob,0,none⟩ = _:=ho;clear hown;go_enter Tryz.func199, Tryz.ntmps199;go_wp2_with fail;go_region_with ((with_reducible refine hcall.mono ?_); rintro e w5 ⟨yb,rfl,hM5,hP5,hE5⟩; dsimp only [zh]; have hx5:=hM5.heap (show W.drew.heap[xb]? = _ from hxb) (by simpa using hxp); have c5:w5.cell? ⟨xc,0,none⟩ = some (.pointer (some ⟨xb,0,none⟩)):=hM5.cell xd n1; have y5:w5.cell? ⟨xb,7,none⟩ = some (.slice none 0 0):=za hx5 7; have f5:=zc hx5 7; have z6:=((QM [] w5).alloc (.cells #[.pointer (some ⟨yb,0,none⟩)] 107)); have c6:=z6.cell c5; have y6:=z6.cell y5; have f6:=zc (z6.heap hx5) 7)
  all_goals
   have hfin:=zdv hxp hxt hxw hx5 hM5 hP5 hE5;have HFIN:=QH hfin;clear hfin hP5 hE5 hM5 hx5 z6 hcall;go_wp2_with fail;go_end0;exact ⟨rfl,HFIN.out.1,HFIN.out.2.1,HFIN.out.2.2⟩
 ):p:=h
theorem yax {p:Prop} (h:p:=by
  have hin:=zcj _ pb tg s hP4 (.func (.func 199) #[] #[.pointer (some ⟨ob,0,none⟩),.pointer (some ⟨w3.heap.size + 1,0,none⟩)]);have hF3:zR (subOf 0) x op own RF s=(.leaf { op:=op,pos:=s.now.pos },s.fail 9):=HF2.out;have HF3:=QH hF3;have he9:(s.fail 9).e ≠ 0:=by unfold PS.fail; rw [if_pos HK.out.1]; simp
  unfold zh at hin;clear hF3 HF2 HO hP4 hP2;go_wp2_with fail;(with_reducible refine hin.mono ?_);rintro e w5 ⟨rfl,hM5,hP5⟩;have c5:=hM5.cell ((za hc4 0).trans rfl) AE;change w5.cell? _=some (.pointer (some ⟨w3.heap.size,0,none⟩)) at c5;clear hin;go_wp2_with fail;go_ret;exact ⟨w3.heap.size,rfl,(hM04.mono).trans hM5,by rw [HF3.out]; exact hP5,by rw [HF3.out]; exact fun h => absurd h he9⟩
 ):p:=h
theorem yaT {p:Prop} (h:p:=by
  have hF:zR (subOf f) x op own RF s=RF s:=by unfold zR; rw [hi]; rfl
  have hr:=hrest w2 hP2;have HF2:=QH hF;clear hF hrest HF hi hP2;go_wp2_with fail;(with_reducible refine hr.mono ?_);rintro e w3 ⟨b,rfl,hM4,hP4,hE4⟩;dsimp only [zh];go_wp2_with fail;go_ret;exact ⟨b,rfl,(hM02.mono).trans hM4,by rw [HF2.out]; exact hP4,by rw [HF2.out]; exact fun he L hL => hE4 he L (fun y hy => LL (hL y hy) hM02.size)⟩
 ):p:=h
theorem PSt.f64 {w:World} {pb tg:Nat} {s:PS} {f:Nat} (h:PSt w pb tg s f):f ≤ 64:=by obtain ⟨l,-,-,-,h4,-⟩:=h; exact h4
theorem zdW (w:World) (pb tg:Nat) (s:PS) (f:Nat) (h:PSt w pb tg s f) :
  Calls Tryz.prog 61 #[zh pb] w (PRes pb tg f zY s w):=by
 have hnow:=zaO w pb tg s f h;have hfd:=zaA s.now;have hname:=fun W s1 (hP:PSt W pb tg s1 f) => zdt W pb tg s1 f hP;have htk:=fun W s1 (hP:PSt W pb tg s1 f) => zU W pb tg s1 f hP wPoint;have hpw:=h.lt;have HP:=QH h;have HF:Hid (zY s=if (s.name.2.takes wPoint).1=true then (.leaf { op:=oColumn,pos:=s.now.pos,table:=s.name.1,name:=(s.name.2.takes wPoint).2.name.1 },(s.name.2.takes wPoint).2.name.2) else (.leaf { op:=oColumn,pos:=s.now.pos,name:=s.name.1 },(s.name.2.takes wPoint).2)):=QH rfl;have FIN:Hid (∀ b w',Mods [pb] w w' → PSt w' pb tg (zY s).2 f → (∀ L:List Nat,(∀ x ∈ L,x < w.heap.size) → ExprAt 175 107 w' L (zh b) (zY s).1) → PRes pb tg f zY s w (.returned (zh b)) w'):=QH (fun b w' h1 h2 h3 => ⟨b,rfl,h1,h2,fun _ => h3⟩);unfold zh at *;clear h;go_enter Tryz.func61, Tryz.ntmps61;go_wp2_with fail;(with_reducible refine hnow.mono ?_);rintro e w2 ⟨rfl,hM2⟩;have hn1:=hname w2 s (HP.out.later hM2);clear hnow;go_wp2_with fail;(with_reducible refine hn1.mono ?_);rintro e w3 ⟨rfl,hM3,hP3⟩;have hMA:=(QM [] w3).alloc (.cells #[.string ⟨#[99,111,108,117,109,110]⟩,.int .i64 s.now.pos,.string ⟨#[]⟩,.string ⟨s.name.1.toArray⟩,.int .i64 0,.int .i64 0,.string ⟨#[]⟩,.slice none 0 0] 175);have hxb:=QN w3 (.cells #[.string ⟨#[99,111,108,117,109,110]⟩,.int .i64 s.now.pos,.string ⟨#[]⟩,.string ⟨s.name.1.toArray⟩,.int .i64 0,.int .i64 0,.string ⟨#[]⟩,.slice none 0 0] 175);have ht:=htk _ _ (hP3.later hMA);have hs2:=hM2.size;have hs3:=hM3.size;have hMw:=((hM2.mono (L':=[pb])).trans hM3).trans (hMA.mono (L':=[pb]) AB);unfold wPoint at ht;clear hn1 htk hP3;go_wp2_with fail;(with_reducible refine ht.mono ?_);rintro e w4 ⟨rfl,hM4,hP4⟩;clear ht;have hx4:=hM4.heap hxb AE;have hMw4:=hMw.trans hM4;have hlt:w3.heap.size < w4.heap.size:=zj hx4;generalize hxe:w3.heap.size=xb at *;have hpx:pb < xb:=by omega
 have htx:tg < xb:=by omega
 have hwx:w.heap.size ≤ xb:=by omega
 clear hM4 hMw hxb hMA hM2 hM3 hs2 hs3;change PSt w4 pb tg (s.name.2.takes wPoint).2 f at hP4;obtain ⟨b,hb⟩:=EX ((s.name.2.takes wPoint).1);have hb':(s.name.2.takes [46]).1=b:=hb;rw [hb']
 cases b with
 | false =>
  have hF2:zY s=(.leaf { op:=oColumn,pos:=s.now.pos,name:=s.name.1 },(s.name.2.takes wPoint).2):=by rw [HF.out,if_neg (by rw [hb]; decide)]
  have hfin:=FIN.out xb w4 hMw4 (by rw [hF2]; exact hP4) (by rw [hF2]; exact fun L hL => ⟨xb,rfl,fun hm => by have:=hL _ hm; omega,hx4⟩);clear FIN HF hname hP4 hb hb' hF2;go_wp2_with fail;go_ret;exact hfin
 | true =>
  have hF2:zY s=(.leaf { op:=oColumn,pos:=s.now.pos,table:=s.name.1,name:=(s.name.2.takes wPoint).2.name.1 },(s.name.2.takes wPoint).2.name.2):=by rw [HF.out,if_pos hb]
  have hn2:=hname w4.drew _ (hP4.later ((QM [] w4).drew));have HF2:=QH hF2;clear hname hb hb' hF2 HF;generalize (s.name.2.takes wPoint).2=s2 at *;have x3:w4.drew.cell? ⟨xb,3,none⟩ = some (.string ⟨s.name.1.toArray⟩):=(za hx4 3).trans rfl;go_wp2_with fail;go_region_with ((with_reducible refine hn2.mono ?_); rintro e w5 ⟨rfl,hM5,hP5⟩; have hx5:=hM5.heap (show w4.drew.heap[xb]? = _ from hx4) AE; have y2:=(za hx5 2).trans rfl; have y3:=(za hx5 3).trans rfl; have g2:=zc hx5 2; have g3:=zc hx5 3)
  all_goals
   have hM6:Mods [xb] w5 ((w5.setCell ⟨xb,2,none⟩ (.string ⟨s.name.1.toArray⟩)).setCell ⟨xb,3,none⟩ (.string ⟨s2.name.1.toArray⟩)):=((QM _ _).setCell (.inl AB) _).setCell (.inl AB) _;have hx6:=zb (zb hx5 2 (.string ⟨s.name.1.toArray⟩)) 3 (.string ⟨s2.name.1.toArray⟩);have hMw6:=((hMw4.trans ((QM [] w4).drew)).trans hM5).trans hM6 (fun x hx => .inr AP);have hfin:=FIN.out xb _ hMw6 (by rw [HF2.out]; exact hP5.mods hM6 AE AE) (by rw [HF2.out]; exact fun L hL => ⟨xb,rfl,fun hm => by have:=hL _ hm; omega,hx6⟩);have HFIN:=QH hfin;clear hfin hx6 hM6 hMw6 hP5 hM5 hn2 FIN;go_wp2_with fail;go_ret;exact HFIN.out
theorem zcj (w:World) (pb tg:Nat) (s:PS) (h:PSt w pb tg s 0) (v:Value) :
  Calls Tryz.prog 198 #[zh pb,v] w fun e w' => e = .returned (.tuple #[]) ∧ Mods [pb] w w' ∧ PSt w' pb tg (s.fail 9) 0:=by
 obtain ⟨off,cap,hb,-⟩:=h.tok;have hf1:=zkB w pb tg s 0 h;have a1:=(za hb 1).trans rfl;change w.cell? _=some (.int .i64 (64 - ((0:Nat):Int))) at a1;rw [show (64 - ((0:Nat):Int))=64 from rfl] at a1;unfold zh at *;clear h;go_enter Tryz.func198, Tryz.ntmps198;go_wp2_with fail;(with_reducible refine hf1.mono ?_);rintro e w2 ⟨rfl,hM2,hP2⟩;obtain ⟨off2,cap2,hb2,-⟩:=hP2.tok;have he:(s.fail 9).e ≠ 0:=by
  unfold PS.fail;split
  ·simp
  ·assumption
 have a3:=(za hb2 3).trans rfl;change w2.cell? _=some (.int .i64 (s.fail 9).e) at a3;have z:(((s.fail 9).e:Int) != 0)=true:=bne_iff_ne.2 AA;have HP:=QH hP2;obtain ⟨s2,hs2⟩:=EX (s.fail 9);rw [hs2] at a3 z;clear hf1 hb2 hP2 a1 he hs2;go_wp2_with fail;exact bodyPost_ret (results_none rfl _ _ _) rfl ⟨rfl,hM2,HP.out⟩
theorem zdu (w:World) (pb tg:Nat) (s:PS) (f:Nat) (h:PSt w pb tg s (f + 1)) (he:s.e=0) (hk:s.now.kind ≠ 0) (c:FuncId) (hc:c = 199 ∨ c = 230 ∨ c = 231) (x y:Value) (s2:PS) (B:World → Prop)
  (hB:∀ W,Mods [pb] w W → PSt W pb tg s.next f → Calls Tryz.prog c #[x,y] W fun e W' => e = .returned (.tuple #[]) ∧ PSt W' pb tg s2 f ∧ B W') :
  Calls Tryz.prog 198 #[zh pb,.func (.func c) #[] #[x,y]] w fun e w' => e = .returned (.tuple #[]) ∧ PSt w' pb tg s2 (f + 1) ∧ ∃ W1,B W1 ∧ Mods [pb] W1 w':=by
 obtain ⟨off,cap,hb,-⟩:=h.tok;have hf:=h.f64;have a1:=(za hb 1).trans rfl;change w.cell? _=some (.int .i64 (64 - ((f + 1:Nat):Int))) at a1;have a3:=(za hb 3).trans rfl;change w.cell? _=some (.int .i64 s.e) at a3;have z0:((64 - ((f + 1:Nat):Int)) == 64)=false:=by rw [beq_eq_false_iff_ne]; omega
 have z:((s.e:Int) != 0)=false:=bne_eq_false_iff_eq.2 AA;obtain ⟨d,hd⟩:=EX ((64 - ((f + 1:Nat):Int)):Int);obtain ⟨d1,hd1⟩:=EX ((64 - (f:Int)):Int);have hdd:d + 1=d1:=by omega
 rw [hd] at a1 z0;have g1:=zc hb 1;have hM1:Mods [pb] w (w.setCell ⟨pb,1,none⟩ (.int .i64 d1)):=(QM _ _).setCell (.inl AB) _;have hP1:=h.turn (s':=s) (f':=f) hM1 hb rfl AA (by rw [hd1]; exact zb hb 1 (.int .i64 d1));have hn:=za9 _ pb tg s f hP1 (h.wfTail hk);have HD:=QH (AI hd hd1);have hbd:(-9223372036854775808 ≤ d ∧ d ≤ 9223372036854775807) ∧ (0 ≤ d1 ∧ d1 ≤ 64):=by omega
 have HB:=QH hB;unfold zh at *;clear h hb he hd hd1 hP1 hB;rcases hc with rfl | rfl | rfl
 all_goals
  go_enter Tryz.func198, Tryz.ntmps198;go_wp2_with fail;(with_reducible refine hn.mono ?_);rintro e w2 ⟨rfl,hM2,hP2⟩;have hb2:=HB.out w2 (hM1.trans hM2) hP2;clear hn hP2 hM2 hM1 a1 a3 g1;go_wp2_with fail;(with_reducible refine hb2.mono ?_);rintro e w3 ⟨rfl,hP3,hB3⟩;obtain ⟨off3,cap3,hb3,-⟩:=hP3.tok;rw [HD.out.2] at hb3;have b1:=(za hb3 1).trans rfl;change w3.cell? _=some (.int .i64 d1) at b1;have g1:=zc hb3 1;have hdd2:d1 - 1=d:=by omega
  have hM4:Mods [pb] w3 (w3.setCell ⟨pb,1,none⟩ (.int .i64 d)):=(QM _ _).setCell (.inl AB) _;have hP4:=hP3.turn (s':=s2) (f':=f + 1) hM4 (by rw [HD.out.2]; exact hb3) rfl AA (by rw [HD.out.1]; exact zb hb3 1 (.int .i64 d));have HP4:=QH hP4;clear hb2 hb3 hP3 hP4 hdd;go_wp2_with fail;go_end0;exact ⟨rfl,HP4.out,w3,hB3,hM4⟩
def Filled (W0:World) (xb:Nat) (h:Hd) (F:PF) (s1:PS) (W W':World):Prop:=
 ∃ ab yb,W'.heap[xb]? = some (.cells (hdC h (.slice (some ⟨ab,0,none⟩) 1 1)).toArray 175 (0,0)) ∧ W'.heap[ab]? = some (.cells #[zh yb] 107 (0,0)) ∧ W.heap.size ≤ ab ∧ ((F s1).2.e=0 → ∀ L:List Nat,(∀ x ∈ L,x < W.heap.size) → ExprAt 175 107 W' L (zh yb) (F s1).1)
theorem zdv {W w5:World} {pb tg f xb yb:Nat} {h:Hd} {F:PF} {s1:PS} (hxp:xb ≠ pb) (hxt:xb ≠ tg) (hxw:xb < W.heap.size) (hx5:w5.heap[xb]? = some (.cells (hdC h (.slice none 0 0)).toArray 175 (0,0))) (hM5:Mods [pb] W.drew w5) (hP5:PSt w5 pb tg (F s1).2 f)
  (hE5:(F s1).2.e=0 → ∀ L:List Nat,(∀ x ∈ L,x < W.drew.heap.size) → ExprAt 175 107 w5 L (zh yb) (F s1).1) :
  PSt ((w5.alloc (.cells #[.pointer (some ⟨yb,0,none⟩)] 107)).setCell ⟨xb,7,none⟩ (.slice (some ⟨w5.heap.size,0,none⟩) 1 1)) pb tg (F s1).2 f ∧ Mods [pb,xb] W ((w5.alloc (.cells #[.pointer (some ⟨yb,0,none⟩)] 107)).setCell ⟨xb,7,none⟩ (.slice (some ⟨w5.heap.size,0,none⟩) 1 1)) ∧ Filled W xb h F s1 W ((w5.alloc (.cells #[.pointer (some ⟨yb,0,none⟩)] 107)).setCell ⟨xb,7,none⟩ (.slice (some ⟨w5.heap.size,0,none⟩) 1 1)):=by
 have z6:=(QM [] w5).alloc (.cells #[.pointer (some ⟨yb,0,none⟩)] 107);have z7:∀ L,xb ∈ L → Mods L w5 ((w5.alloc (.cells #[.pointer (some ⟨yb,0,none⟩)] 107)).setCell ⟨xb,7,none⟩ (.slice (some ⟨w5.heap.size,0,none⟩) 1 1)):=fun L hL => (z6.mono).setCell (.inl hL) _;have hs5:=hM5.size;have hs5':W.heap.size ≤ w5.heap.size:=hs5;have hM5w:Mods [pb] W w5:=((QM [pb] W).drew).trans hM5;refine ⟨hP5.mods (z7 [xb] AB) (by simpa using hxp.symm) (by simpa using hxt.symm),(hM5w.mono).trans (z7 [pb,xb] AB),w5.heap.size,yb,zb (z6.heap hx5) 7 _,?_,hs5',fun he L hL => ?_⟩
 ·exact ((QM [xb] _).setCell (p:=⟨xb,7,none⟩) (.inl AB) _).heap (QN w5 _) AE
 ·have h1:=hE5 he (xb :: L) (fun x hx => by
   rcases MC hx with rfl | hx
   ·exact hxw
   ·exact hL x hx)
  exact (h1.mods (z7 (xb :: L) AB)).weaken (fun x hx => CM _ hx)
theorem zgu (W:World) (pb tg:Nat) (f:Nat) (F:PF) (s1:PS) (ob xc xb:Nat) (h:Hd)
  (ho:W.cell? ⟨ob,0,none⟩ = some (.func (.func 224) #[zh pb] #[])) (hx:W.cell? ⟨xc,0,none⟩ = some (zh xb)) (hxb:W.heap[xb]? = some (.cells (hdC h (.slice none 0 0)).toArray 175 (0,0))) (hxp:xb ≠ pb) (hxt:xb ≠ tg) (hcp:xc ≠ pb) (hop:ob ≠ pb)
  (hown:∀ W2,Mods [] W W2 → Calls Tryz.prog 224 #[zh pb] W2 (PRes pb tg f F s1 W2)) :
  Calls Tryz.prog 199 #[.pointer (some ⟨ob,0,none⟩),.pointer (some ⟨xc,0,none⟩)] W fun e W' => e = .returned (.tuple #[]) ∧ PSt W' pb tg (F s1).2 f ∧ Mods [pb,xb] W W' ∧ Filled W xb h F s1 W W':=by
 exact yaq
theorem zhT (W:World) (pb tg:Nat) (f:Nat) (F:PF) (s1:PS) (ob xc xb:Nat) (h:Hd)
  (ho:W.cell? ⟨ob,0,none⟩ = some (.func (.func 133) #[zh pb] #[])) (hx:W.cell? ⟨xc,0,none⟩ = some (zh xb)) (hxb:W.heap[xb]? = some (.cells (hdC h (.slice none 0 0)).toArray 175 (0,0))) (hxp:xb ≠ pb) (hxt:xb ≠ tg) (hcp:xc ≠ pb) (hop:ob ≠ pb)
  (hown:∀ W2,Mods [] W W2 → Calls Tryz.prog 133 #[zh pb] W2 (PRes pb tg f F s1 W2)) :
  Calls Tryz.prog 199 #[.pointer (some ⟨ob,0,none⟩),.pointer (some ⟨xc,0,none⟩)] W fun e W' => e = .returned (.tuple #[]) ∧ PSt W' pb tg (F s1).2 f ∧ Mods [pb,xb] W W' ∧ Filled W xb h F s1 W W':=by
 exact yaq
theorem zck (w:World) (A B:Obj):((w.alloc A).alloc B).heap[w.heap.size]? = some A ∧ ((w.alloc A).alloc B).heap[w.heap.size + 1]? = some B:=by
 refine ⟨?_,?_⟩
 ·rw [Below.heap_alloc _ _ _ (by rw [zl]; omega)]; exact QN _ _
 ·have:=QN (w.alloc A) B;rw [zl] at this;exact this
theorem zhg (w:World) (pb tg:Nat) (f:Nat) (s:PS) (h:PSt w pb tg s f) (x op:Bs) (own:Lvl → PF) (RF:PF)
  (hrest:∀ W,PSt W pb tg s f → Calls Tryz.prog 225 #[zh pb] W (PRes pb tg f RF s W))
  (hown:∀ f',f=f' + 1 → ∀ W s1,PSt W pb tg s1 f' → Calls Tryz.prog 224 #[zh pb] W (PRes pb tg f' (own (lvl f')) s1 W)) :
  Calls Tryz.prog 167 #[zh pb,.string ⟨x.toArray⟩,.string ⟨op.toArray⟩,.func (.func 224) #[zh pb] #[],.func (.func 225) #[zh pb] #[]] w (PRes pb tg f (zR (subOf f) x op own RF) s w):=by
 have hpw:=h.lt;have hM1:=(QM [] w).alloc (.cells #[.func (.func 224) #[zh pb] #[]] 166);have hob:=QN w (.cells #[.func (.func 224) #[zh pb] #[]] 166);have gDo:=QH trivial;exact yel
theorem zjA (w:World) (pb tg:Nat) (f:Nat) (s:PS) (h:PSt w pb tg s f) (x op:Bs) (own:Lvl → PF) (RF:PF)
  (hrest:∀ W,PSt W pb tg s f → Calls Tryz.prog 168 #[zh pb] W (PRes pb tg f RF s W))
  (hown:∀ f',f=f' + 1 → ∀ W s1,PSt W pb tg s1 f' → Calls Tryz.prog 133 #[zh pb] W (PRes pb tg f' (own (lvl f')) s1 W)) :
  Calls Tryz.prog 167 #[zh pb,.string ⟨x.toArray⟩,.string ⟨op.toArray⟩,.func (.func 133) #[zh pb] #[],.func (.func 168) #[zh pb] #[]] w (PRes pb tg f (zR (subOf f) x op own RF) s w):=by
 have hpw:=h.lt;have hM1:=(QM [] w).alloc (.cells #[.func (.func 133) #[zh pb] #[]] 166);have hob:=QN w (.cells #[.func (.func 133) #[zh pb] #[]] 166);have gDp:=QH trivial;exact yel
end Go.Proofs.YtebljciefhfgbaaGreatDoor
