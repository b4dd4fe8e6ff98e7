/-
  parse's joined, walked. No condition.
-/
import Derived.Test.YtebljciefhfgbaaGreatDoorQ06
set_option linter.unusedVariables false
set_option maxRecDepth 100000
set_option maxHeartbeats 4000000
namespace Go.Proofs.YtebljciefhfgbaaGreatDoor
open Go.RowKit
theorem BQ {p:Prop} (h:p:=by simpa using hgp):p:=h
theorem yaa {p:Prop} (h:p:=by
  have hpw:=h.lt;have h1:=hpart w s h;have HW:=QH (AI hws (AI hasc hwx));have HPT:=QH hpart;have FIN:Hid (∀ b w',Mods [pb] w w' → PSt w' pb tg (zac F ws s).2 f → ((zac F ws s).2.e=0 → ∀ L:List Nat,(∀ x ∈ L,x < w.heap.size) → ExprAt 175 107 w' L (zh b) (zac F ws s).1) → PRes pb tg f (zac F ws) s w (.returned (zh b)) w'):=QH (fun b w' h1 h2 h3 => ⟨b,rfl,h1,h2,h3⟩);unfold zh at *;clear h hpart hws hasc hwx;go_enter Tryz.func93, Tryz.ntmps93;go_wp2_with fail;(with_reducible refine h1.mono ?_);rintro e w1 ⟨b1,rfl,hM1,hP1,hE1⟩;dsimp only [zh];clear h1;have HJ:Hid (zac F ws s=zaq F ws (F s).2.rest.length (F s).1 (F s).2):=QH rfl;go_wp2_with fail;go_loopg [7] (F s).2.rest.length (fun gk t7 wr => ∃ (b:Nat) (x:Tree) (s1:PS),s1.rest.length=gk ∧ t7 = .pointer (some ⟨b,0,none⟩) ∧ Mods [pb] w wr ∧ PSt wr pb tg s1 f ∧ Hid (zac F ws s=zaq F ws s1.rest.length x s1) ∧ Hid (s1.e=0 → ∀ L:List Nat,(∀ x ∈ L,x < w.heap.size) → ExprAt 175 107 wr L (zh b) x))
  case atStart => exact ⟨b1,(F s).1,(F s).2,rfl,rfl,hM1,hP1,HJ,QH hE1⟩
  case round =>
   clear hE1 hP1 hM1 HJ;obtain ⟨b,x,s1,hgk,rfl,hM,hP,HJ,HE⟩:=hrel;have hws2:StrsIn wr (.slice (some ⟨g,off,none⟩) n cap) ws:=by obtain ⟨g',off',cap',he,hc⟩:=HW.out.1;simp only [Value.slice.injEq,Option.some.injEq,Addr.mk.injEq,and_true] at he;obtain ⟨⟨rfl,rfl⟩,rfl,rfl⟩:=he;exact ⟨g,off,cap,rfl,fun j hj => hM.cell (hc j hj) BQ⟩
   have his:=zea wr pb tg s1 f hP _ ws hws2 hwl;unfold zh at his;go_wp2_with fail;(with_reducible refine his.mono ?_);rintro e w2 ⟨rfl,hM2⟩;have hP2:=hP.later hM2;have hMw2:=hM.trans (hM2.mono (L':=[pb]) AB);have hwf:WfT s1.rest:=by obtain ⟨l,-,-,h3,-⟩:=hP; exact h3
   have hpos:0 < s1.rest.length:=List.length_pos_iff.2 hwf.ne;clear his hws2 hP
   cases hi:s1.is ws with
   | false =>
    have hJ2:zac F ws s=(x,s1):=by rw [HJ.out];obtain ⟨m,hm⟩ : ∃ m,s1.rest.length=m + 1:=⟨s1.rest.length - 1,by omega⟩;rw [hm];unfold zaq;rw [hi];rfl
    have hfin:=FIN.out b w2 hMw2 (by rw [hJ2]; exact hP2) (by rw [hJ2]; exact fun he L hL => ((HE.out he (L) hL).mods' hM2));have HFIN:=QH hfin;clear hfin hi hJ2 FIN HJ HE;go_wp2_with fail;go_ret;exact HFIN.out
   | true =>
    have hmem:=ziM hi;have hlow:=fun W => zcH s1.now.s (HW.out.2.2 _ hmem) (HW.out.2.1 _ hmem) W;have hk:=(zQ hi).2;have HSE:=QH (zQ hi).1;have HNL:Hid (s1.next.rest.length + 1=s1.rest.length):=QH (by unfold PS.next; rw [List.length_tail]; omega);have hnx:=za9 w2 pb tg s1 f hP2 (hP2.wfTail hk);have hJ2:∀ m,s1.rest.length=m + 1 → zac F ws s=zaq F ws m (.bin { op:=s1.now.s.map zb5,pos:=s1.now.pos } x (F s1.next).1) (F s1.next).2:=by
     intro m hm;rw [HJ.out,hm]
     conv => lhs; unfold zaq
     rw [if_pos hi]
    have HJ2:=QH hJ2;unfold zh at hnx;clear hJ2 hi hmem hk;go_wp2_with fail;(with_reducible refine hnx.mono ?_);rintro e w3 ⟨rfl,hM3,hP3⟩;clear hnx;go_wp2_with fail;have hMt:=(QM [] w3).alloc (.cells #[.int .i64 s1.now.kind,.int .i64 s1.now.pos,.string ⟨s1.now.s.toArray⟩,.int .i64 s1.now.n,.int .i64 s1.now.scale] 96);have ht4:=QN w3 (.cells #[.int .i64 s1.now.kind,.int .i64 s1.now.pos,.string ⟨s1.now.s.toArray⟩,.int .i64 s1.now.n,.int .i64 s1.now.scale] 96);have hpl:=hP3.lt;have hP4:=hP3.later hMt.drew;have hM34:=hM3.trans (hMt.mono (L':=[pb]) AB);generalize w3.alloc (.cells #[.int .i64 s1.now.kind,.int .i64 s1.now.pos,.string ⟨s1.now.s.toArray⟩,.int .i64 s1.now.n,.int .i64 s1.now.scale] 96)=w4 at *;generalize w3.heap.size=tb at *;have hMw4:=hMw2.trans hM34;have ht4d:w4.drew.heap[tb]? = _:=ht4;have t41:w4.drew.cell? ⟨tb,1,none⟩ = some (.int .i64 s1.now.pos):=za ht4d 1;have t42:w4.drew.cell? ⟨tb,2,none⟩ = some (.string ⟨s1.now.s.toArray⟩):=za ht4d 2;have hM2':Mods [pb] wr w2:=hM2.mono;clear ht4 hM3 hP3 hP2 hMt;go_region_with (first | ((with_reducible refine (hlow _).mono ?_); rintro e w5 ⟨rfl,hM5⟩; have ht5:=hM5.heap ht4d; have t51:w5.cell? ⟨tb,1,none⟩ = some (.int .i64 s1.now.pos):=za ht5 1; have t52:w5.cell? ⟨tb,2,none⟩ = some (.string ⟨s1.now.s.toArray⟩):=za ht5 2; have hp5:=HPT.out w5 s1.next (hP4.later hM5)) | ((with_reducible refine hp5.mono ?_); rintro e w6 ⟨yb,rfl,hM6,hP6,hE6⟩; dsimp only [zh]; have ht6:=hM6.heap ht5 AE; have t61:w6.cell? ⟨tb,1,none⟩ = some (.int .i64 s1.now.pos):=za ht6 1; have z7:=((QM [] w6).alloc (.cells #[.pointer (some ⟨b,0,none⟩),.pointer (some ⟨yb,0,none⟩)] 107)); have t71:=z7.cell t61))
    all_goals
     have hst:=zcl hgo hpw.1 hM (hM2'.trans hM34) hM5 hM6 hP6 HE.out hE6 HSE.out HJ2.out HNL.out;have HST:=QH hst;clear hst hp5 hE6 hP6 hM5 hM6 HJ HE HJ2 hlow;go_wp2_with fail;go_roundg (F s1.next).2.rest.length
     case measure => rw [← hgk]; exact HST.out.1
     case rel => exact HST.out.2
 ):p:=h
theorem yaK {p:Prop} (h:p:=by
  go_wp2_with fail;(with_reducible refine hb.mono ?_);rintro e w3 ⟨b,rfl,hM4,hP4,hE4⟩;dsimp only [zh];go_wp2_with fail;go_ret;exact PRes.earlier ⟨b,rfl,hM4,hP4,hE4⟩ HMA.out
 ):p:=h
theorem ybN {p:Prop} (h:p:=by
  go_wp2_with fail;(with_reducible refine hb.mono ?_);rintro e w3 ⟨b,rfl,hM4,hP4,hE4⟩;dsimp only [zh];go_wp2_with fail;go_ret;exact ⟨b,rfl,hM4,hP4,hE4⟩
 ):p:=h
theorem ycp {p:Prop} (h:p:=by
  unfold PS.is isTok at h;simp only [Bool.and_eq_true] at h;exact List.contains_iff_mem.1 h.2.2
 ):p:=h
theorem ExprAt.mods' {T T2:TypeId} {w w':World} {L:List Nat} {t:Tree} {v:Value} (h:ExprAt T T2 w L v t) (hM:Mods [] w w'):ExprAt T T2 w' L v t:=h.mods (hM.mono)
theorem zhU (c:UInt8):Lib.lowerB c=zb5 c:=by
 have h:Lib.isUpperB c=decide (65 ≤ c.toNat ∧ c.toNat ≤ 90):=by rw [Bool.eq_iff_iff];simp [Lib.isUpperB,UInt8.le_iff_toNat_le]
 unfold Lib.lowerB zb5;rw [h];by_cases h1:65 ≤ c.toNat ∧ c.toNat ≤ 90 <;> simp [h1]
theorem zgv (l:List UInt8):Lib.toLowerA l=l.map zb5:=by unfold Lib.toLowerA;exact List.map_congr_left fun x _ => zhU x
theorem ziM {s:PS} {l:List Bs} (h:s.is l=true):s.now.s ∈ l:=by exact ycp
theorem zcH (t:Bs) (hn:t.length ≤ 1000) (ha:∀ b ∈ t,b.toNat < 128) (W:World):Calls Tryz.prog 132 #[.string ⟨t.toArray⟩] W fun e w' => e = .returned (.string ⟨(t.map zb5).toArray⟩) ∧ Mods [] W w':=
 (Tryz.strings_ToLower_ascii ⟨t.toArray⟩ W (by show t.toArray.size ≤ _; simp; omega) (fun j x hx => ha x (List.mem_of_getElem? hx))).mono (fun e w' h => ⟨h.1.trans (by show Ending.returned (.string ⟨(Lib.toLowerA t).toArray⟩)=_; rw [zgv]),Mods.of_below h.2 (LR _) []⟩)
theorem zkD {T T2:TypeId} {w6:World} {L:List Nat} {h:Hd} {b yb:Nat} {x y:Tree} (hL:∀ z ∈ L,z < w6.heap.size) (hx:ExprAt T T2 w6 L (zh b) x) (hy:ExprAt T T2 w6 L (zh yb) y) :
  ExprAt T T2 ((w6.alloc (.cells #[zh b,zh yb] T2)).alloc (.cells (hdC h (.slice (some ⟨w6.heap.size,0,none⟩) 2 2)).toArray T)) L (zh (w6.heap.size + 1)) (.bin h x y):=by
 have hM:=((QM [] w6).alloc (.cells #[zh b,zh yb] T2)).alloc (.cells (hdC h (.slice (some ⟨w6.heap.size,0,none⟩) 2 2)).toArray T);obtain ⟨h1,h2⟩:=zck w6 (.cells #[zh b,zh yb] T2) (.cells (hdC h (.slice (some ⟨w6.heap.size,0,none⟩) 2 2)).toArray T);exact ⟨w6.heap.size + 1,w6.heap.size,zh b,zh yb,rfl,fun hm => by have:=hL _ hm; omega,fun hm => by have:=hL _ hm; omega,h2,h1,hx.mods' hM,hy.mods' hM⟩
theorem zcl {w wr w4 w5 w6:World} {pb tg f:Nat} {F:PF} {ws:List Bs} {s s1:PS} {b yb:Nat} {x:Tree} (hgo:zbn F) (hpb:pb < w.heap.size) (hM:Mods [pb] w wr) (h4:Mods [pb] wr w4) (h5:Mods [] w4.drew w5) (h6:Mods [pb] w5 w6) (hP6:PSt w6 pb tg (F s1.next).2 f)
  (hE:s1.e=0 → ∀ L:List Nat,(∀ z ∈ L,z < w.heap.size) → ExprAt 175 107 wr L (zh b) x) (hE6:(F s1.next).2.e=0 → ∀ L:List Nat,(∀ z ∈ L,z < w5.heap.size) → ExprAt 175 107 w6 L (zh yb) (F s1.next).1) (he:s1.e=0)
  (hJ:∀ m,s1.rest.length=m + 1 → zac F ws s=zaq F ws m (.bin { op:=s1.now.s.map zb5,pos:=s1.now.pos } x (F s1.next).1) (F s1.next).2) (hnl:s1.next.rest.length + 1=s1.rest.length) :
  (F s1.next).2.rest.length < s1.rest.length ∧ ∃ (b':Nat) (x':Tree) (s':PS),s'.rest.length=(F s1.next).2.rest.length ∧ Value.pointer (some ⟨w6.heap.size + 1,0,none⟩) = .pointer (some ⟨b',0,none⟩) ∧
   Mods [pb] w ((w6.alloc (.cells #[.pointer (some ⟨b,0,none⟩),.pointer (some ⟨yb,0,none⟩)] 107)).alloc (.cells #[.string ⟨(s1.now.s.map zb5).toArray⟩,.int .i64 s1.now.pos,.string ⟨#[]⟩,.string ⟨#[]⟩,.int .i64 0,.int .i64 0,.string ⟨#[]⟩,.slice (some ⟨w6.heap.size,0,none⟩) 2 2] 175)) ∧
   PSt ((w6.alloc (.cells #[.pointer (some ⟨b,0,none⟩),.pointer (some ⟨yb,0,none⟩)] 107)).alloc (.cells #[.string ⟨(s1.now.s.map zb5).toArray⟩,.int .i64 s1.now.pos,.string ⟨#[]⟩,.string ⟨#[]⟩,.int .i64 0,.int .i64 0,.string ⟨#[]⟩,.slice (some ⟨w6.heap.size,0,none⟩) 2 2] 175)) pb tg s' f ∧
   Hid (zac F ws s=zaq F ws s'.rest.length x' s') ∧
   Hid (s'.e=0 → ∀ L:List Nat,(∀ z ∈ L,z < w.heap.size) → ExprAt 175 107 ((w6.alloc (.cells #[.pointer (some ⟨b,0,none⟩),.pointer (some ⟨yb,0,none⟩)] 107)).alloc (.cells #[.string ⟨(s1.now.s.map zb5).toArray⟩,.int .i64 s1.now.pos,.string ⟨#[]⟩,.string ⟨#[]⟩,.int .i64 0,.int .i64 0,.string ⟨#[]⟩,.slice (some ⟨w6.heap.size,0,none⟩) 2 2] 175)) L (zh b') x'):=by
 have hlen:=(hgo s1.next).len;have hwf:WfT (F s1.next).2.rest:=by obtain ⟨l,-,-,h3,-⟩:=hP6; exact h3
 have h45:Mods [] w4 w5:=(QM [] w4).drew.trans h5;have hr6:Mods [pb] wr w6:=(h4.trans (h45.mono (L':=[pb]) AB)).trans h6;have hz:=((QM [] w6).alloc (.cells #[.pointer (some ⟨b,0,none⟩),.pointer (some ⟨yb,0,none⟩)] 107)).alloc (.cells #[.string ⟨(s1.now.s.map zb5).toArray⟩,.int .i64 s1.now.pos,.string ⟨#[]⟩,.string ⟨#[]⟩,.int .i64 0,.int .i64 0,.string ⟨#[]⟩,.slice (some ⟨w6.heap.size,0,none⟩) 2 2] 175);have hsz1:=hM.size;have hsz2:=hr6.size;have hsz3:=h4.size;have hsz4:=h45.size;refine ⟨by omega,w6.heap.size + 1,.bin { op:=s1.now.s.map zb5,pos:=s1.now.pos } x (F s1.next).1,(F s1.next).2,rfl,rfl,(hM.trans hr6).trans (hz.mono (L':=[pb]) AB),hP6.later hz,QH ?_,QH fun he2 L hL => ?_⟩
 ·rw [hJ s1.next.rest.length hnl.symm];exact zjw hgo ws _ _ _ _ hwf hlen (LR _)
 ·refine (zkD (h:={ op:=s1.now.s.map zb5,pos:=s1.now.pos }) (L:=pb :: L) (fun z hm => ?_) ((hE he (pb :: L) fun z hm => ?_).mods (hr6.mono)) (hE6 he2 (pb :: L) fun z hm => ?_)).weaken (fun z hm => CM _ hm)
  all_goals
   rcases MC hm with rfl | hm
   ·omega
   ·have:=hL _ hm; omega
theorem zhh (w:World) (pb tg:Nat) (f:Nat) (s:PS) (h:PSt w pb tg s f) (F:PF) (hgo:zbn F) (ws:List Bs) (hasc:∀ x ∈ ws,∀ b ∈ x,b.toNat < 128) (hwl:ws.length ≤ 1000) (hwx:∀ x ∈ ws,x.length ≤ 1000) (g off n cap:Nat) (hws:StrsIn w (.slice (some ⟨g,off,none⟩) n cap) ws) (hgp:g ≠ pb)
  (hpart:∀ W s1,PSt W pb tg s1 f → Calls Tryz.prog 224 #[zh pb] W (PRes pb tg f F s1 W)) :
  Calls Tryz.prog 93 #[zh pb,.func (.func 224) #[zh pb] #[],.slice (some ⟨g,off,none⟩) n cap] w (PRes pb tg f (zac F ws) s w):=by
 exact yaa
theorem zhV (w:World) (pb tg:Nat) (f:Nat) (s:PS) (h:PSt w pb tg s f) (F:PF) (hgo:zbn F) (ws:List Bs) (hasc:∀ x ∈ ws,∀ b ∈ x,b.toNat < 128) (hwl:ws.length ≤ 1000) (hwx:∀ x ∈ ws,x.length ≤ 1000) (g off n cap:Nat) (hws:StrsIn w (.slice (some ⟨g,off,none⟩) n cap) ws) (hgp:g ≠ pb)
  (hpart:∀ W s1,PSt W pb tg s1 f → Calls Tryz.prog 217 #[zh pb] W (PRes pb tg f F s1 W)) :
  Calls Tryz.prog 93 #[zh pb,.func (.func 217) #[zh pb] #[],.slice (some ⟨g,off,none⟩) n cap] w (PRes pb tg f (zac F ws) s w):=by
 exact yaa
theorem zjB (w:World) (pb tg:Nat) (f:Nat) (s:PS) (h:PSt w pb tg s f) (F:PF) (hgo:zbn F) (ws:List Bs) (hasc:∀ x ∈ ws,∀ b ∈ x,b.toNat < 128) (hwl:ws.length ≤ 1000) (hwx:∀ x ∈ ws,x.length ≤ 1000) (g off n cap:Nat) (hws:StrsIn w (.slice (some ⟨g,off,none⟩) n cap) ws) (hgp:g ≠ pb)
  (hpart:∀ W s1,PSt W pb tg s1 f → Calls Tryz.prog 133 #[zh pb] W (PRes pb tg f F s1 W)) :
  Calls Tryz.prog 93 #[zh pb,.func (.func 133) #[zh pb] #[],.slice (some ⟨g,off,none⟩) n cap] w (PRes pb tg f (zac F ws) s w):=by
 exact yaa
theorem zjC (w:World) (pb tg:Nat) (f:Nat) (s:PS) (h:PSt w pb tg s f) (F:PF) (hgo:zbn F) (ws:List Bs) (hasc:∀ x ∈ ws,∀ b ∈ x,b.toNat < 128) (hwl:ws.length ≤ 1000) (hwx:∀ x ∈ ws,x.length ≤ 1000) (g off n cap:Nat) (hws:StrsIn w (.slice (some ⟨g,off,none⟩) n cap) ws) (hgp:g ≠ pb)
  (hpart:∀ W s1,PSt W pb tg s1 f → Calls Tryz.prog 94 #[zh pb] W (PRes pb tg f F s1 W)) :
  Calls Tryz.prog 93 #[zh pb,.func (.func 94) #[zh pb] #[],.slice (some ⟨g,off,none⟩) n cap] w (PRes pb tg f (zac F ws) s w):=by
 exact yaa
theorem zaT (w:World) (a:Bs) (T:TypeId):StrsIn (w.alloc (.cells #[.string ⟨a.toArray⟩] T)) (.slice (some ⟨w.heap.size,0,none⟩) 1 1) [a]:=⟨_,0,1,rfl,fun j hj => by
 obtain rfl:j=0:=by simp at hj; omega
 rw [za (QN w _)]; rfl⟩
theorem PRes.earlier {pb tg f:Nat} {F:PF} {s:PS} {w w1:World} {e:Ending} {w':World} (h:PRes pb tg f F s w1 e w') (hM:Mods [] w w1):PRes pb tg f F s w e w':=by obtain ⟨b,h1,h2,h3,h4⟩:=h;exact ⟨b,h1,(hM.mono (L':=[pb])).trans h2,h3,fun he L hL => h4 he L (fun x hx => LL (hL x hx) hM.size)⟩
theorem zkE (w:World) (pb tg f:Nat) (s:PS) (h:PSt w pb tg s f)
  (hrest:∀ W,PSt W pb tg s f → Calls Tryz.prog 225 #[zh pb] W (PRes pb tg f (zo (subOf f)) s W))
  (hown:∀ f',f=f' + 1 → ∀ W s1,PSt W pb tg s1 f' → Calls Tryz.prog 224 #[zh pb] W (PRes pb tg f' (lvl f').minus s1 W)) :
  Calls Tryz.prog 224 #[zh pb] w (PRes pb tg f (zbo (subOf f)) s w):=by
 have hb:Calls Tryz.prog 167 #[zh pb,.string ⟨#[45]⟩,.string ⟨#[110,101,103]⟩,.func (.func 224) #[zh pb] #[],.func (.func 225) #[zh pb] #[]] w (PRes pb tg f (zbo (subOf f)) s w):=zhg w pb tg f s h wMinus oNeg Lvl.minus (zo (subOf f)) hrest hown;unfold zh at *;clear h hrest hown;go_enter Tryz.func224, Tryz.ntmps224;exact ybN
theorem zn2 (w:World) (pb tg f:Nat) (s:PS) (h:PSt w pb tg s f)
  (hrest:∀ W,PSt W pb tg s f → Calls Tryz.prog 168 #[zh pb] W (PRes pb tg f (zbg (subOf f)) s W))
  (hown:∀ f',f=f' + 1 → ∀ W s1,PSt W pb tg s1 f' → Calls Tryz.prog 133 #[zh pb] W (PRes pb tg f' (lvl f').not s1 W)) :
  Calls Tryz.prog 133 #[zh pb] w (PRes pb tg f (notF (subOf f)) s w):=by
 have hb:Calls Tryz.prog 167 #[zh pb,.string ⟨#[78,79,84]⟩,.string ⟨#[110,111,116]⟩,.func (.func 133) #[zh pb] #[],.func (.func 168) #[zh pb] #[]] w (PRes pb tg f (notF (subOf f)) s w):=zjA w pb tg f s h wNot oNot Lvl.not (zbg (subOf f)) hrest hown;unfold zh at *;clear h hrest hown;go_enter Tryz.func133, Tryz.ntmps133;exact ybN
theorem zdw {l:List Bs} (h:l.all (fun x => x.all (fun b => decide (b.toNat < 128)) && decide (x.length ≤ 1000))=true):(∀ x ∈ l,∀ b ∈ x,b.toNat < 128) ∧ ∀ x ∈ l,x.length ≤ 1000:=by simp only [List.all_eq_true,Bool.and_eq_true,decide_eq_true_eq] at h;exact ⟨fun x hx => (h x hx).1,fun x hx => (h x hx).2⟩
theorem zhi (w:World) (a c:Bs) (T:TypeId):StrsIn (w.alloc (.cells #[.string ⟨a.toArray⟩,.string ⟨c.toArray⟩] T)) (.slice (some ⟨w.heap.size,0,none⟩) 2 2) [a,c]:=by
 refine ⟨w.heap.size,0,2,rfl,?_⟩;intro j hj;have hb:=QN w (.cells #[.string ⟨a.toArray⟩,.string ⟨c.toArray⟩] T)
 match j,hj with
 | 0,_ => exact za hb 0
 | 1,_ => exact za hb 1
theorem zmw (w:World) (pb tg f:Nat) (s:PS) (h:PSt w pb tg s f) (hgo:zbn (zbo (subOf f)))
  (hpart:∀ W s1,PSt W pb tg s1 f → Calls Tryz.prog 224 #[zh pb] W (PRes pb tg f (zbo (subOf f)) s1 W)) :
  Calls Tryz.prog 217 #[zh pb] w (PRes pb tg f (termF (subOf f)) s w):=by
 have hlt:=h.lt;have hMa:=(QM [] w).alloc (.cells #[.string ⟨#[42]⟩,.string ⟨#[47]⟩] 9);have hasc:=zdw (l:=[wStar,[47]]) AD
 have hb:Calls Tryz.prog 93 #[zh pb,.func (.func 224) #[zh pb] #[],.slice (some ⟨w.heap.size,0,none⟩) 2 2] (w.alloc (.cells #[.string ⟨#[42]⟩,.string ⟨#[47]⟩] 9)) (PRes pb tg f (termF (subOf f)) s (w.alloc (.cells #[.string ⟨#[42]⟩,.string ⟨#[47]⟩] 9))):=
  zhh _ pb tg f s (h.later hMa) (zbo (subOf f)) hgo [wStar,[47]] hasc.1 AD hasc.2 w.heap.size 0 2 2 (zhi w wStar [47] 9) AA hpart
 unfold zh at *;have HMA:=QH hMa;clear h hpart hgo hasc hMa;go_enter Tryz.func217, Tryz.ntmps217;exact yaK
theorem zn3 (w:World) (pb tg f:Nat) (s:PS) (h:PSt w pb tg s f) (hgo:zbn (termF (subOf f)))
  (hpart:∀ W s1,PSt W pb tg s1 f → Calls Tryz.prog 217 #[zh pb] W (PRes pb tg f (termF (subOf f)) s1 W)) :
  Calls Tryz.prog 200 #[zh pb] w (PRes pb tg f (zc6 (subOf f)) s w):=by
 have hlt:=h.lt;have hMa:=(QM [] w).alloc (.cells #[.string ⟨#[43]⟩,.string ⟨#[45]⟩] 9);have hasc:=zdw (l:=[[43],wMinus]) AD
 have hb:Calls Tryz.prog 93 #[zh pb,.func (.func 217) #[zh pb] #[],.slice (some ⟨w.heap.size,0,none⟩) 2 2] (w.alloc (.cells #[.string ⟨#[43]⟩,.string ⟨#[45]⟩] 9)) (PRes pb tg f (zc6 (subOf f)) s (w.alloc (.cells #[.string ⟨#[43]⟩,.string ⟨#[45]⟩] 9))):=
  zhV _ pb tg f s (h.later hMa) (termF (subOf f)) hgo [[43],wMinus] hasc.1 AD hasc.2 w.heap.size 0 2 2 (zhi w [43] wMinus 9) AA hpart
 unfold zh at *;have HMA:=QH hMa;clear h hpart hgo hasc hMa;go_enter Tryz.func200, Tryz.ntmps200;exact yaK
theorem zn4 (w:World) (pb tg f:Nat) (s:PS) (h:PSt w pb tg s f) (hgo:zbn (notF (subOf f)))
  (hpart:∀ W s1,PSt W pb tg s1 f → Calls Tryz.prog 133 #[zh pb] W (PRes pb tg f (notF (subOf f)) s1 W)) :
  Calls Tryz.prog 94 #[zh pb] w (PRes pb tg f (andF (subOf f)) s w):=by
 have hlt:=h.lt;have hMa:=(QM [] w).alloc (.cells #[.string ⟨#[65,78,68]⟩] 9);have hasc:=zdw (l:=[[65,78,68]]) AD
 have hb:Calls Tryz.prog 93 #[zh pb,.func (.func 133) #[zh pb] #[],.slice (some ⟨w.heap.size,0,none⟩) 1 1] (w.alloc (.cells #[.string ⟨#[65,78,68]⟩] 9)) (PRes pb tg f (andF (subOf f)) s (w.alloc (.cells #[.string ⟨#[65,78,68]⟩] 9))):=
  zjB _ pb tg f s (h.later hMa) (notF (subOf f)) hgo [[65,78,68]] hasc.1 AD hasc.2 w.heap.size 0 1 1 (zaT w [65,78,68] 9) AA hpart
 unfold zh at *;have HMA:=QH hMa;clear h hpart hgo hasc hMa;go_enter Tryz.func94, Tryz.ntmps94;exact yaK
theorem zmx (w:World) (pb tg f:Nat) (s:PS) (h:PSt w pb tg s f) (hgo:zbn (andF (subOf f)))
  (hpart:∀ W s1,PSt W pb tg s1 f → Calls Tryz.prog 94 #[zh pb] W (PRes pb tg f (andF (subOf f)) s1 W)) :
  Calls Tryz.prog 59 #[zh pb] w (PRes pb tg f (exprF (subOf f)) s w):=by
 have hlt:=h.lt;have hMa:=(QM [] w).alloc (.cells #[.string ⟨#[79,82]⟩] 9);have hasc:=zdw (l:=[[79,82]]) AD
 have hb:Calls Tryz.prog 93 #[zh pb,.func (.func 94) #[zh pb] #[],.slice (some ⟨w.heap.size,0,none⟩) 1 1] (w.alloc (.cells #[.string ⟨#[79,82]⟩] 9)) (PRes pb tg f (exprF (subOf f)) s (w.alloc (.cells #[.string ⟨#[79,82]⟩] 9))):=
  zjC _ pb tg f s (h.later hMa) (andF (subOf f)) hgo [[79,82]] hasc.1 AD hasc.2 w.heap.size 0 1 1 (zaT w [79,82] 9) AA hpart
 unfold zh at *;have HMA:=QH hMa;clear h hpart hgo hasc hMa;go_enter Tryz.func59, Tryz.ntmps59;exact yaK
end Go.Proofs.YtebljciefhfgbaaGreatDoor
