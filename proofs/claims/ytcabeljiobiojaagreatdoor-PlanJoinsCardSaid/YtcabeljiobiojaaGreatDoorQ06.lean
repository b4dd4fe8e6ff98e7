/-
  parse's before, walked. No condition.
-/
import Derived.Test.YtcabeljiobiojaaGreatDoorQ05
set_option linter.unusedVariables false
set_option maxRecDepth 100000
set_option maxHeartbeats 4000000
namespace Go.Proofs.YtcabeljiobiojaaGreatDoor
open Go.RowKit
theorem BQ {p:Prop} (h:p:=by simpa using hgp):p:=h
theorem yel {p:Prop} (h:p:=by
  have hM2:=hM1.alloc (.cells #[.string ⟨x.toArray⟩] 9);have his:=zea _ pb tg s f (h.later hM2) _ [x] (zgt _ x) AB;have hob2:=((QM [] _).alloc (.cells #[.string ⟨x.toArray⟩] 9)).heap hob;have HP:=QH h;have HF:Hid (∀ z,zR (subOf f) x op own RF s=z → z=zR (subOf f) x op own RF s):=QH (fun z h => h.symm);have HO:=QH hown
  first
  |clear gDo
   have hsz:=zl w (.cells #[.func (.func 222) #[zh pb] #[]] 162);have gCt:=QH trivial;exact ydT
  |clear gDp
   have hsz:=zl w (.cells #[.func (.func 131) #[zh pb] #[]] 162);have gCu:=QH trivial;exact ydT
 ):p:=h
theorem ydZ {p:Prop} (h:p:=by
  have hF3:zR (subOf (f + 1)) x op own RF s=(.un { op:=op,pos:=s.now.pos } (own (lvl f) s.next).1,(own (lvl f) s.next).2):=by rw [HF2.out];show (if s.e=0 then _ else _)=_;rw [if_pos HK.out.1]
  have HF3:=QH hF3;obtain ⟨h1,hh1⟩ : ∃ h1:Hd,h1 = { op:=op,pos:=s.now.pos }:=⟨_,rfl⟩
  first
  |clear gCM
   have hin:=zdu _ pb tg s f hP4 HK.out.1 HK.out.2 197 (.inl rfl) (.pointer (some ⟨ob,0,none⟩)) (.pointer (some ⟨w3.heap.size + 1,0,none⟩)) (own (lvl f) s.next).2
    (fun W' => ∃ W,Mods [pb] ((w3.alloc (.cells #[.string ⟨op.toArray⟩,.int .i64 s.now.pos,.string ⟨#[]⟩,.string ⟨#[]⟩,.int .i64 0,.int .i64 0,.string ⟨#[]⟩,.slice none 0 0] 171)).alloc (.cells #[.pointer (some ⟨w3.heap.size,0,none⟩)] 103)) W ∧ Mods [pb,w3.heap.size] W W' ∧ Filled W w3.heap.size h1 (own (lvl f)) s.next W W')
    (fun W hM hP => (zgu W pb tg f (own (lvl f)) s.next ob (w3.heap.size + 1) w3.heap.size h1 (hM.cell ((za hb4 0).trans rfl) AE) (hM.cell ((za hc4 0).trans rfl) AE) (by rw [hh1]; exact hM.heap hx4 AE) AA AA AA AA (fun W2 h2 => HO.out f rfl W2 s.next (hP.later h2))).mono fun e W' h => ⟨h.1,h.2.1,W,hM,h.2.2.1,h.2.2.2⟩)
   exact yan
  |clear gCN
   have hin:=zdu _ pb tg s f hP4 HK.out.1 HK.out.2 197 (.inl rfl) (.pointer (some ⟨ob,0,none⟩)) (.pointer (some ⟨w3.heap.size + 1,0,none⟩)) (own (lvl f) s.next).2
    (fun W' => ∃ W,Mods [pb] ((w3.alloc (.cells #[.string ⟨op.toArray⟩,.int .i64 s.now.pos,.string ⟨#[]⟩,.string ⟨#[]⟩,.int .i64 0,.int .i64 0,.string ⟨#[]⟩,.slice none 0 0] 171)).alloc (.cells #[.pointer (some ⟨w3.heap.size,0,none⟩)] 103)) W ∧ Mods [pb,w3.heap.size] W W' ∧ Filled W w3.heap.size h1 (own (lvl f)) s.next W W')
    (fun W hM hP => (zhT W pb tg f (own (lvl f)) s.next ob (w3.heap.size + 1) w3.heap.size h1 (hM.cell ((za hb4 0).trans rfl) AE) (hM.cell ((za hc4 0).trans rfl) AE) (by rw [hh1]; exact hM.heap hx4 AE) AA AA AA AA (fun W2 h2 => HO.out f rfl W2 s.next (hP.later h2))).mono fun e W' h => ⟨h.1,h.2.1,W,hM,h.2.2.1,h.2.2.2⟩)
   exact yan
 ):p:=h
theorem ydT {p:Prop} (h:p:=by
  rw [hsz] at his;unfold zh at *;clear h hown;go_enter Tryz.func165, Tryz.ntmps165;go_wp2_with fail;(with_reducible refine his.mono ?_);rintro e w2 ⟨rfl,hM3⟩;have hM02:=hM2.trans hM3;have hb2:=hM3.heap hob2;have hP2:=HP.out.later hM02;clear his hob hob2 hM1 hM2 hM3 hsz;generalize hoe:w.heap.size=ob at *
  first
  |clear gCt
   cases hi:s.is [x] with
   | false =>exact yaT
   | true =>have gAt:=QH trivial;exact ycU
  |clear gCu
   cases hi:s.is [x] with
   | false =>exact yaT
   | true =>have gAu:=QH trivial;exact ycU
 ):p:=h
theorem ycU {p:Prop} (h:p:=by
  have hk:=zQ hi;have hnow:=zaO w2 pb tg s f hP2;have hfd:=zaA s.now;have hF:zR (subOf f) x op own RF s=inF (subOf f) (fun L s1 => (.un { op:=op,pos:=s.now.pos } (own L s1).1,(own L s1).2)) (.leaf { op:=op,pos:=s.now.pos }) s:=by unfold zR; rw [if_pos hi]
  have HF2:=QH hF;have HK:=QH hk;unfold zh at hnow;clear hF hk hi HF hrest;go_wp2_with fail;(with_reducible refine hnow.mono ?_);rintro e w3 ⟨rfl,hM4⟩;clear hnow;have hMX:=((QM [] w3).alloc (.cells #[.string ⟨op.toArray⟩,.int .i64 s.now.pos,.string ⟨#[]⟩,.string ⟨#[]⟩,.int .i64 0,.int .i64 0,.string ⟨#[]⟩,.slice none 0 0] 171)).alloc (.cells #[.pointer (some ⟨w3.heap.size,0,none⟩)] 103);obtain ⟨hx4,hc4⟩:=zck w3 (.cells #[.string ⟨op.toArray⟩,.int .i64 s.now.pos,.string ⟨#[]⟩,.string ⟨#[]⟩,.int .i64 0,.int .i64 0,.string ⟨#[]⟩,.slice none 0 0] 171) (.cells #[.pointer (some ⟨w3.heap.size,0,none⟩)] 103);have hM04:=(hM02.trans hM4).trans hMX;have hP4:=HP.out.later hM04;have hb4:=hMX.heap (hM4.heap hb2 AB);have hs04:=(hM02.trans hM4).size;have hobl:ob < w3.heap.size:=zj (hM4.heap hb2)
  first
  |clear gAt
   cases f with
   | zero =>exact yax
   | succ f =>have gCM:=QH trivial;exact ydZ
  |clear gAu
   cases f with
   | zero =>exact yax
   | succ f =>have gCN:=QH trivial;exact ydZ
 ):p:=h
theorem yaa {p:Prop} (h:p:=by
  have hpw:=h.lt;have h1:=hpart w s h;have HW:=QH (AI hws (AI hasc hwx));have HPT:=QH hpart;have FIN:Hid (∀ b w',Mods [pb] w w' → PSt w' pb tg (zac F ws s).2 f → ((zac F ws s).2.e=0 → ∀ L:List Nat,(∀ x ∈ L,x < w.heap.size) → ExprAt 171 103 w' L (zh b) (zac F ws s).1) → PRes pb tg f (zac F ws) s w (.returned (zh b)) w'):=QH (fun b w' h1 h2 h3 => ⟨b,rfl,h1,h2,h3⟩);unfold zh at *;clear h hpart hws hasc hwx;go_enter Tryz.func91, Tryz.ntmps91;go_wp2_with fail;(with_reducible refine h1.mono ?_);rintro e w1 ⟨b1,rfl,hM1,hP1,hE1⟩;dsimp only [zh];clear h1;have HJ:Hid (zac F ws s=zaq F ws (F s).2.rest.length (F s).1 (F s).2):=QH rfl;go_wp2_with fail;go_loopg [7] (F s).2.rest.length (fun gk t7 wr => ∃ (b:Nat) (x:Tree) (s1:PS),s1.rest.length=gk ∧ t7 = .pointer (some ⟨b,0,none⟩) ∧ Mods [pb] w wr ∧ PSt wr pb tg s1 f ∧ Hid (zac F ws s=zaq F ws s1.rest.length x s1) ∧ Hid (s1.e=0 → ∀ L:List Nat,(∀ x ∈ L,x < w.heap.size) → ExprAt 171 103 wr L (zh b) x))
  case atStart => exact ⟨b1,(F s).1,(F s).2,rfl,rfl,hM1,hP1,HJ,QH hE1⟩
  case round =>
   clear hE1 hP1 hM1 HJ;obtain ⟨b,x,s1,hgk,rfl,hM,hP,HJ,HE⟩:=hrel;have hws2:StrsIn wr (.slice (some ⟨g,off,none⟩) n cap) ws:=by obtain ⟨g',off',cap',he,hc⟩:=HW.out.1;simp only [Value.slice.injEq,Option.some.injEq,Addr.mk.injEq,and_true] at he;obtain ⟨⟨rfl,rfl⟩,rfl,rfl⟩:=he;exact ⟨g,off,cap,rfl,fun j hj => hM.cell (hc j hj) BQ⟩
   have his:=zea wr pb tg s1 f hP _ ws hws2 hwl;unfold zh at his;go_wp2_with fail;(with_reducible refine his.mono ?_);rintro e w2 ⟨rfl,hM2⟩;have hP2:=hP.later hM2;have hMw2:=hM.trans (hM2.mono (L':=[pb]) AB);have hwf:WfT s1.rest:=by obtain ⟨l,-,-,h3,-⟩:=hP; exact h3
   have hpos:0 < s1.rest.length:=List.length_pos_iff.2 hwf.ne;clear his hws2 hP
   cases hi:s1.is ws with
   | false =>
    have hJ2:zac F ws s=(x,s1):=by rw [HJ.out];obtain ⟨m,hm⟩ : ∃ m,s1.rest.length=m + 1:=⟨s1.rest.length - 1,by omega⟩;rw [hm];unfold zaq;rw [hi];rfl
    have hfin:=FIN.out b w2 hMw2 (by rw [hJ2]; exact hP2) (by rw [hJ2]; exact fun he L hL => ((HE.out he (L) hL).mods' hM2));have HFIN:=QH hfin;clear hfin hi hJ2 FIN HJ HE;go_wp2_with fail;go_ret;exact HFIN.out
   | true =>
    have hmem:=ziM hi;have hlow:=fun W => zcH s1.now.s (HW.out.2.2 _ hmem) (HW.out.2.1 _ hmem) W;have hk:=(zQ hi).2;have HSE:=QH (zQ hi).1;have HNL:Hid (s1.next.rest.length + 1=s1.rest.length):=QH (by unfold PS.next; rw [List.length_tail]; omega);have hnx:=za9 w2 pb tg s1 f hP2 (hP2.wfTail hk);have hJ2:∀ m,s1.rest.length=m + 1 → zac F ws s=zaq F ws m (.bin { op:=s1.now.s.map zb5,pos:=s1.now.pos } x (F s1.next).1) (F s1.next).2:=by
     intro m hm;rw [HJ.out,hm]
     conv => lhs; unfold zaq
     rw [if_pos hi]
    have HJ2:=QH hJ2;unfold zh at hnx;clear hJ2 hi hmem hk;go_wp2_with fail;(with_reducible refine hnx.mono ?_);rintro e w3 ⟨rfl,hM3,hP3⟩;clear hnx;go_wp2_with fail;have hMt:=(QM [] w3).alloc (.cells #[.int .i64 s1.now.kind,.int .i64 s1.now.pos,.string ⟨s1.now.s.toArray⟩,.int .i64 s1.now.n,.int .i64 s1.now.scale] 92);have ht4:=QN w3 (.cells #[.int .i64 s1.now.kind,.int .i64 s1.now.pos,.string ⟨s1.now.s.toArray⟩,.int .i64 s1.now.n,.int .i64 s1.now.scale] 92);have hpl:=hP3.lt;have hP4:=hP3.later hMt.drew;have hM34:=hM3.trans (hMt.mono (L':=[pb]) AB);generalize w3.alloc (.cells #[.int .i64 s1.now.kind,.int .i64 s1.now.pos,.string ⟨s1.now.s.toArray⟩,.int .i64 s1.now.n,.int .i64 s1.now.scale] 92)=w4 at *;generalize w3.heap.size=tb at *;have hMw4:=hMw2.trans hM34;have ht4d:w4.drew.heap[tb]? = _:=ht4;have t41:w4.drew.cell? ⟨tb,1,none⟩ = some (.int .i64 s1.now.pos):=za ht4d 1;have t42:w4.drew.cell? ⟨tb,2,none⟩ = some (.string ⟨s1.now.s.toArray⟩):=za ht4d 2;have hM2':Mods [pb] wr w2:=hM2.mono;clear ht4 hM3 hP3 hP2 hMt;go_region_with (first | ((with_reducible refine (hlow _).mono ?_); rintro e w5 ⟨rfl,hM5⟩; have ht5:=hM5.heap ht4d; have t51:w5.cell? ⟨tb,1,none⟩ = some (.int .i64 s1.now.pos):=za ht5 1; have t52:w5.cell? ⟨tb,2,none⟩ = some (.string ⟨s1.now.s.toArray⟩):=za ht5 2; have hp5:=HPT.out w5 s1.next (hP4.later hM5)) | ((with_reducible refine hp5.mono ?_); rintro e w6 ⟨yb,rfl,hM6,hP6,hE6⟩; dsimp only [zh]; have ht6:=hM6.heap ht5 AE; have t61:w6.cell? ⟨tb,1,none⟩ = some (.int .i64 s1.now.pos):=za ht6 1; have z7:=((QM [] w6).alloc (.cells #[.pointer (some ⟨b,0,none⟩),.pointer (some ⟨yb,0,none⟩)] 103)); have t71:=z7.cell t61))
    all_goals
     have hst:=zcl hgo hpw.1 hM (hM2'.trans hM34) hM5 hM6 hP6 HE.out hE6 HSE.out HJ2.out HNL.out;have HST:=QH hst;clear hst hp5 hE6 hP6 hM5 hM6 HJ HE HJ2 hlow;go_wp2_with fail;go_roundg (F s1.next).2.rest.length
     case measure => rw [← hgk]; exact HST.out.1
     case rel => exact HST.out.2
 ):p:=h
theorem yan {p:Prop} (h:p:=by
  have HH1:=QH hh1;unfold zh at hin;clear hF3 HF2 HO hP4 hP2 hh1;go_wp2_with fail;(with_reducible refine hin.mono ?_);rintro e w5 ⟨rfl,hP5,W1,⟨W,hMa,hMb,ab,yb,hfx,hfa,hfs,hfe⟩,hMc⟩;clear hin;have hMW1:Mods [pb,w3.heap.size] _ W1:=(hMa.mono).trans hMb;have hM5:Mods [pb,w3.heap.size] _ w5:=hMW1.trans hMc;have c5:=hM5.cell ((za hc4 0).trans rfl) AE;change w5.cell? _=some (.pointer (some ⟨w3.heap.size,0,none⟩)) at c5;have hMw:Mods [pb] w w5:=(hM04.mono).trans hM5 (fun y hy => by simp at hy; rcases hy with rfl | rfl; exact .inl AB; exact .inr AA);have hsa:=hMa.size;rw [zl,zl] at hsa;have hfin:PRes pb tg (f + 1) (zR (subOf (f + 1)) x op own RF) s w (.returned (.pointer (some ⟨w3.heap.size,0,none⟩))) w5:=by
   refine ⟨w3.heap.size,rfl,hMw,by rw [HF3.out]; exact hP5,?_⟩;rw [HF3.out];intro he L hL;refine ⟨w3.heap.size,ab,zh yb,rfl,fun hm => by have:=hL _ hm; omega,fun hm => by have:=hL _ hm; omega,?_,hMc.heap hfa AE,?_⟩
   ·rw [← HH1.out];exact hMc.heap hfx AE
   ·exact (((hfe he (pb :: L) (fun y hy => by
     rcases MC hy with rfl | hy
     ·omega
     ·have:=hL _ hy; omega))).mods (hMc.mono)).weaken (fun y hy => CM _ hy)
  have HFIN:=QH hfin;clear hfin hfx hfa hfe hP5 hMa hMb hMc hMW1 hM5 hMw;go_wp2_with fail;go_ret;exact HFIN.out
 ):p:=h
theorem yax {p:Prop} (h:p:=by
  have hin:=zcj _ pb tg s hP4 (.func (.func 197) #[] #[.pointer (some ⟨ob,0,none⟩),.pointer (some ⟨w3.heap.size + 1,0,none⟩)]);have hF3:zR (subOf 0) x op own RF s=(.leaf { op:=op,pos:=s.now.pos },s.fail 9):=HF2.out;have HF3:=QH hF3;have he9:(s.fail 9).e ≠ 0:=by unfold PS.fail; rw [if_pos HK.out.1]; simp
  unfold zh at hin;clear hF3 HF2 HO hP4 hP2;go_wp2_with fail;(with_reducible refine hin.mono ?_);rintro e w5 ⟨rfl,hM5,hP5⟩;have c5:=hM5.cell ((za hc4 0).trans rfl) AE;change w5.cell? _=some (.pointer (some ⟨w3.heap.size,0,none⟩)) at c5;clear hin;go_wp2_with fail;go_ret;exact ⟨w3.heap.size,rfl,(hM04.mono).trans hM5,by rw [HF3.out]; exact hP5,by rw [HF3.out]; exact fun h => absurd h he9⟩
 ):p:=h
theorem yaT {p:Prop} (h:p:=by
  have hF:zR (subOf f) x op own RF s=RF s:=by unfold zR; rw [hi]; rfl
  have hr:=hrest w2 hP2;have HF2:=QH hF;clear hF hrest HF hi hP2;go_wp2_with fail;(with_reducible refine hr.mono ?_);rintro e w3 ⟨b,rfl,hM4,hP4,hE4⟩;dsimp only [zh];go_wp2_with fail;go_ret;exact ⟨b,rfl,(hM02.mono).trans hM4,by rw [HF2.out]; exact hP4,by rw [HF2.out]; exact fun he L hL => hE4 he L (fun y hy => LL (hL y hy) hM02.size)⟩
 ):p:=h
theorem ycp {p:Prop} (h:p:=by
  unfold PS.is isTok at h;simp only [Bool.and_eq_true] at h;exact List.contains_iff_mem.1 h.2.2
 ):p:=h
theorem zck (w:World) (A B:Obj):((w.alloc A).alloc B).heap[w.heap.size]? = some A ∧ ((w.alloc A).alloc B).heap[w.heap.size + 1]? = some B:=by
 refine ⟨?_,?_⟩
 ·rw [Below.heap_alloc _ _ _ (by rw [zl]; omega)]; exact QN _ _
 ·have:=QN (w.alloc A) B;rw [zl] at this;exact this
theorem zhg (w:World) (pb tg:Nat) (f:Nat) (s:PS) (h:PSt w pb tg s f) (x op:Bs) (own:Lvl → PF) (RF:PF)
  (hrest:∀ W,PSt W pb tg s f → Calls Tryz.prog 223 #[zh pb] W (PRes pb tg f RF s W))
  (hown:∀ f',f=f' + 1 → ∀ W s1,PSt W pb tg s1 f' → Calls Tryz.prog 222 #[zh pb] W (PRes pb tg f' (own (lvl f')) s1 W)) :
  Calls Tryz.prog 165 #[zh pb,.string ⟨x.toArray⟩,.string ⟨op.toArray⟩,.func (.func 222) #[zh pb] #[],.func (.func 223) #[zh pb] #[]] w (PRes pb tg f (zR (subOf f) x op own RF) s w):=by
 have hpw:=h.lt;have hM1:=(QM [] w).alloc (.cells #[.func (.func 222) #[zh pb] #[]] 162);have hob:=QN w (.cells #[.func (.func 222) #[zh pb] #[]] 162);have gDo:=QH trivial;exact yel
theorem zjA (w:World) (pb tg:Nat) (f:Nat) (s:PS) (h:PSt w pb tg s f) (x op:Bs) (own:Lvl → PF) (RF:PF)
  (hrest:∀ W,PSt W pb tg s f → Calls Tryz.prog 166 #[zh pb] W (PRes pb tg f RF s W))
  (hown:∀ f',f=f' + 1 → ∀ W s1,PSt W pb tg s1 f' → Calls Tryz.prog 131 #[zh pb] W (PRes pb tg f' (own (lvl f')) s1 W)) :
  Calls Tryz.prog 165 #[zh pb,.string ⟨x.toArray⟩,.string ⟨op.toArray⟩,.func (.func 131) #[zh pb] #[],.func (.func 166) #[zh pb] #[]] w (PRes pb tg f (zR (subOf f) x op own RF) s w):=by
 have hpw:=h.lt;have hM1:=(QM [] w).alloc (.cells #[.func (.func 131) #[zh pb] #[]] 162);have hob:=QN w (.cells #[.func (.func 131) #[zh pb] #[]] 162);have gDp:=QH trivial;exact yel
theorem ExprAt.mods' {T T2:TypeId} {w w':World} {L:List Nat} {t:Tree} {v:Value} (h:ExprAt T T2 w L v t) (hM:Mods [] w w'):ExprAt T T2 w' L v t:=h.mods (hM.mono)
theorem zhU (c:UInt8):Lib.lowerB c=zb5 c:=by
 have h:Lib.isUpperB c=decide (65 ≤ c.toNat ∧ c.toNat ≤ 90):=by rw [Bool.eq_iff_iff];simp [Lib.isUpperB,UInt8.le_iff_toNat_le]
 unfold Lib.lowerB zb5;rw [h];by_cases h1:65 ≤ c.toNat ∧ c.toNat ≤ 90 <;> simp [h1]
theorem zgv (l:List UInt8):Lib.toLowerA l=l.map zb5:=by unfold Lib.toLowerA;exact List.map_congr_left fun x _ => zhU x
theorem ziM {s:PS} {l:List Bs} (h:s.is l=true):s.now.s ∈ l:=by exact ycp
theorem zcH (t:Bs) (hn:t.length ≤ 1000) (ha:∀ b ∈ t,b.toNat < 128) (W:World):Calls Tryz.prog 130 #[.string ⟨t.toArray⟩] W fun e w' => e = .returned (.string ⟨(t.map zb5).toArray⟩) ∧ Mods [] W w':=
 (Tryz.strings_ToLower_ascii ⟨t.toArray⟩ W (by show t.toArray.size ≤ _; simp; omega) (fun j x hx => ha x (List.mem_of_getElem? hx))).mono (fun e w' h => ⟨h.1.trans (by show Ending.returned (.string ⟨(Lib.toLowerA t).toArray⟩)=_; rw [zgv]),Mods.of_below h.2 (LR _) []⟩)
theorem zkD {T T2:TypeId} {w6:World} {L:List Nat} {h:Hd} {b yb:Nat} {x y:Tree} (hL:∀ z ∈ L,z < w6.heap.size) (hx:ExprAt T T2 w6 L (zh b) x) (hy:ExprAt T T2 w6 L (zh yb) y) :
  ExprAt T T2 ((w6.alloc (.cells #[zh b,zh yb] T2)).alloc (.cells (hdC h (.slice (some ⟨w6.heap.size,0,none⟩) 2 2)).toArray T)) L (zh (w6.heap.size + 1)) (.bin h x y):=by
 have hM:=((QM [] w6).alloc (.cells #[zh b,zh yb] T2)).alloc (.cells (hdC h (.slice (some ⟨w6.heap.size,0,none⟩) 2 2)).toArray T);obtain ⟨h1,h2⟩:=zck w6 (.cells #[zh b,zh yb] T2) (.cells (hdC h (.slice (some ⟨w6.heap.size,0,none⟩) 2 2)).toArray T);exact ⟨w6.heap.size + 1,w6.heap.size,zh b,zh yb,rfl,fun hm => by have:=hL _ hm; omega,fun hm => by have:=hL _ hm; omega,h2,h1,hx.mods' hM,hy.mods' hM⟩
theorem zcl {w wr w4 w5 w6:World} {pb tg f:Nat} {F:PF} {ws:List Bs} {s s1:PS} {b yb:Nat} {x:Tree} (hgo:zbn F) (hpb:pb < w.heap.size) (hM:Mods [pb] w wr) (h4:Mods [pb] wr w4) (h5:Mods [] w4.drew w5) (h6:Mods [pb] w5 w6) (hP6:PSt w6 pb tg (F s1.next).2 f)
  (hE:s1.e=0 → ∀ L:List Nat,(∀ z ∈ L,z < w.heap.size) → ExprAt 171 103 wr L (zh b) x) (hE6:(F s1.next).2.e=0 → ∀ L:List Nat,(∀ z ∈ L,z < w5.heap.size) → ExprAt 171 103 w6 L (zh yb) (F s1.next).1) (he:s1.e=0)
  (hJ:∀ m,s1.rest.length=m + 1 → zac F ws s=zaq F ws m (.bin { op:=s1.now.s.map zb5,pos:=s1.now.pos } x (F s1.next).1) (F s1.next).2) (hnl:s1.next.rest.length + 1=s1.rest.length) :
  (F s1.next).2.rest.length < s1.rest.length ∧ ∃ (b':Nat) (x':Tree) (s':PS),s'.rest.length=(F s1.next).2.rest.length ∧ Value.pointer (some ⟨w6.heap.size + 1,0,none⟩) = .pointer (some ⟨b',0,none⟩) ∧
   Mods [pb] w ((w6.alloc (.cells #[.pointer (some ⟨b,0,none⟩),.pointer (some ⟨yb,0,none⟩)] 103)).alloc (.cells #[.string ⟨(s1.now.s.map zb5).toArray⟩,.int .i64 s1.now.pos,.string ⟨#[]⟩,.string ⟨#[]⟩,.int .i64 0,.int .i64 0,.string ⟨#[]⟩,.slice (some ⟨w6.heap.size,0,none⟩) 2 2] 171)) ∧
   PSt ((w6.alloc (.cells #[.pointer (some ⟨b,0,none⟩),.pointer (some ⟨yb,0,none⟩)] 103)).alloc (.cells #[.string ⟨(s1.now.s.map zb5).toArray⟩,.int .i64 s1.now.pos,.string ⟨#[]⟩,.string ⟨#[]⟩,.int .i64 0,.int .i64 0,.string ⟨#[]⟩,.slice (some ⟨w6.heap.size,0,none⟩) 2 2] 171)) pb tg s' f ∧
   Hid (zac F ws s=zaq F ws s'.rest.length x' s') ∧
   Hid (s'.e=0 → ∀ L:List Nat,(∀ z ∈ L,z < w.heap.size) → ExprAt 171 103 ((w6.alloc (.cells #[.pointer (some ⟨b,0,none⟩),.pointer (some ⟨yb,0,none⟩)] 103)).alloc (.cells #[.string ⟨(s1.now.s.map zb5).toArray⟩,.int .i64 s1.now.pos,.string ⟨#[]⟩,.string ⟨#[]⟩,.int .i64 0,.int .i64 0,.string ⟨#[]⟩,.slice (some ⟨w6.heap.size,0,none⟩) 2 2] 171)) L (zh b') x'):=by
 have hlen:=(hgo s1.next).len;have hwf:WfT (F s1.next).2.rest:=by obtain ⟨l,-,-,h3,-⟩:=hP6; exact h3
 have h45:Mods [] w4 w5:=(QM [] w4).drew.trans h5;have hr6:Mods [pb] wr w6:=(h4.trans (h45.mono (L':=[pb]) AB)).trans h6;have hz:=((QM [] w6).alloc (.cells #[.pointer (some ⟨b,0,none⟩),.pointer (some ⟨yb,0,none⟩)] 103)).alloc (.cells #[.string ⟨(s1.now.s.map zb5).toArray⟩,.int .i64 s1.now.pos,.string ⟨#[]⟩,.string ⟨#[]⟩,.int .i64 0,.int .i64 0,.string ⟨#[]⟩,.slice (some ⟨w6.heap.size,0,none⟩) 2 2] 171);have hsz1:=hM.size;have hsz2:=hr6.size;have hsz3:=h4.size;have hsz4:=h45.size;refine ⟨by omega,w6.heap.size + 1,.bin { op:=s1.now.s.map zb5,pos:=s1.now.pos } x (F s1.next).1,(F s1.next).2,rfl,rfl,(hM.trans hr6).trans (hz.mono (L':=[pb]) AB),hP6.later hz,QH ?_,QH fun he2 L hL => ?_⟩
 ·rw [hJ s1.next.rest.length hnl.symm];exact zjw hgo ws _ _ _ _ hwf hlen (LR _)
 ·refine (zkD (h:={ op:=s1.now.s.map zb5,pos:=s1.now.pos }) (L:=pb :: L) (fun z hm => ?_) ((hE he (pb :: L) fun z hm => ?_).mods (hr6.mono)) (hE6 he2 (pb :: L) fun z hm => ?_)).weaken (fun z hm => CM _ hm)
  all_goals
   rcases MC hm with rfl | hm
   ·omega
   ·have:=hL _ hm; omega
theorem zhh (w:World) (pb tg:Nat) (f:Nat) (s:PS) (h:PSt w pb tg s f) (F:PF) (hgo:zbn F) (ws:List Bs) (hasc:∀ x ∈ ws,∀ b ∈ x,b.toNat < 128) (hwl:ws.length ≤ 1000) (hwx:∀ x ∈ ws,x.length ≤ 1000) (g off n cap:Nat) (hws:StrsIn w (.slice (some ⟨g,off,none⟩) n cap) ws) (hgp:g ≠ pb)
  (hpart:∀ W s1,PSt W pb tg s1 f → Calls Tryz.prog 222 #[zh pb] W (PRes pb tg f F s1 W)) :
  Calls Tryz.prog 91 #[zh pb,.func (.func 222) #[zh pb] #[],.slice (some ⟨g,off,none⟩) n cap] w (PRes pb tg f (zac F ws) s w):=by
 exact yaa
theorem zhV (w:World) (pb tg:Nat) (f:Nat) (s:PS) (h:PSt w pb tg s f) (F:PF) (hgo:zbn F) (ws:List Bs) (hasc:∀ x ∈ ws,∀ b ∈ x,b.toNat < 128) (hwl:ws.length ≤ 1000) (hwx:∀ x ∈ ws,x.length ≤ 1000) (g off n cap:Nat) (hws:StrsIn w (.slice (some ⟨g,off,none⟩) n cap) ws) (hgp:g ≠ pb)
  (hpart:∀ W s1,PSt W pb tg s1 f → Calls Tryz.prog 215 #[zh pb] W (PRes pb tg f F s1 W)) :
  Calls Tryz.prog 91 #[zh pb,.func (.func 215) #[zh pb] #[],.slice (some ⟨g,off,none⟩) n cap] w (PRes pb tg f (zac F ws) s w):=by
 exact yaa
theorem zjB (w:World) (pb tg:Nat) (f:Nat) (s:PS) (h:PSt w pb tg s f) (F:PF) (hgo:zbn F) (ws:List Bs) (hasc:∀ x ∈ ws,∀ b ∈ x,b.toNat < 128) (hwl:ws.length ≤ 1000) (hwx:∀ x ∈ ws,x.length ≤ 1000) (g off n cap:Nat) (hws:StrsIn w (.slice (some ⟨g,off,none⟩) n cap) ws) (hgp:g ≠ pb)
  (hpart:∀ W s1,PSt W pb tg s1 f → Calls Tryz.prog 131 #[zh pb] W (PRes pb tg f F s1 W)) :
  Calls Tryz.prog 91 #[zh pb,.func (.func 131) #[zh pb] #[],.slice (some ⟨g,off,none⟩) n cap] w (PRes pb tg f (zac F ws) s w):=by
 exact yaa
end Go.Proofs.YtcabeljiobiojaaGreatDoor
