/-
  parse's joined over and, walked. No condition.
-/
import Derived.Test.YtcabeljiobiojaaGreatDoorQ06
set_option linter.unusedVariables false
set_option maxRecDepth 100000
set_option maxHeartbeats 4000000
namespace Go.Proofs.YtcabeljiobiojaaGreatDoor
open Go.RowKit
theorem yaK {p:Prop} (h:p:=by
  go_wp2_with fail;(with_reducible refine hb.mono ?_);rintro e w3 ⟨b,rfl,hM4,hP4,hE4⟩;dsimp only [zh];go_wp2_with fail;go_ret;exact PRes.earlier ⟨b,rfl,hM4,hP4,hE4⟩ HMA.out
 ):p:=h
theorem ybG {p:Prop} (h:p:=by
  go_wp2_with fail;(with_reducible refine hwa.mono ?_);rintro e w9 ⟨rfl,hM9,hP9⟩;clear hwa;go_wp2_with fail;go_ret;exact HEND.out w9 ((hMs.mono (L':=[pb])).trans hM9) hP9
 ):p:=h
theorem ybN {p:Prop} (h:p:=by
  go_wp2_with fail;(with_reducible refine hb.mono ?_);rintro e w3 ⟨b,rfl,hM4,hP4,hE4⟩;dsimp only [zh];go_wp2_with fail;go_ret;exact ⟨b,rfl,hM4,hP4,hE4⟩
 ):p:=h
theorem zjC (w:World) (pb tg:Nat) (f:Nat) (s:PS) (h:PSt w pb tg s f) (F:PF) (hgo:zbn F) (ws:List Bs) (hasc:∀ x ∈ ws,∀ b ∈ x,b.toNat < 128) (hwl:ws.length ≤ 1000) (hwx:∀ x ∈ ws,x.length ≤ 1000) (g off n cap:Nat) (hws:StrsIn w (.slice (some ⟨g,off,none⟩) n cap) ws) (hgp:g ≠ pb)
  (hpart:∀ W s1,PSt W pb tg s1 f → Calls Tryz.prog 92 #[zh pb] W (PRes pb tg f F s1 W)) :
  Calls Tryz.prog 91 #[zh pb,.func (.func 92) #[zh pb] #[],.slice (some ⟨g,off,none⟩) n cap] w (PRes pb tg f (zac F ws) s w):=by
 exact yaa
theorem zaT (w:World) (a:Bs) (T:TypeId):StrsIn (w.alloc (.cells #[.string ⟨a.toArray⟩] T)) (.slice (some ⟨w.heap.size,0,none⟩) 1 1) [a]:=⟨_,0,1,rfl,fun j hj => by
 obtain rfl:j=0:=by simp at hj; omega
 rw [za (QN w _)]; rfl⟩
theorem PRes.earlier {pb tg f:Nat} {F:PF} {s:PS} {w w1:World} {e:Ending} {w':World} (h:PRes pb tg f F s w1 e w') (hM:Mods [] w w1):PRes pb tg f F s w e w':=by obtain ⟨b,h1,h2,h3,h4⟩:=h;exact ⟨b,h1,(hM.mono (L':=[pb])).trans h2,h3,fun he L hL => h4 he L (fun x hx => LL (hL x hx) hM.size)⟩
theorem zkE (w:World) (pb tg f:Nat) (s:PS) (h:PSt w pb tg s f)
  (hrest:∀ W,PSt W pb tg s f → Calls Tryz.prog 223 #[zh pb] W (PRes pb tg f (zo (subOf f)) s W))
  (hown:∀ f',f=f' + 1 → ∀ W s1,PSt W pb tg s1 f' → Calls Tryz.prog 222 #[zh pb] W (PRes pb tg f' (lvl f').minus s1 W)) :
  Calls Tryz.prog 222 #[zh pb] w (PRes pb tg f (zbo (subOf f)) s w):=by
 have hb:Calls Tryz.prog 165 #[zh pb,.string ⟨#[45]⟩,.string ⟨#[110,101,103]⟩,.func (.func 222) #[zh pb] #[],.func (.func 223) #[zh pb] #[]] w (PRes pb tg f (zbo (subOf f)) s w):=zhg w pb tg f s h wMinus oNeg Lvl.minus (zo (subOf f)) hrest hown;unfold zh at *;clear h hrest hown;go_enter Tryz.func222, Tryz.ntmps222;exact ybN
theorem zn2 (w:World) (pb tg f:Nat) (s:PS) (h:PSt w pb tg s f)
  (hrest:∀ W,PSt W pb tg s f → Calls Tryz.prog 166 #[zh pb] W (PRes pb tg f (zbg (subOf f)) s W))
  (hown:∀ f',f=f' + 1 → ∀ W s1,PSt W pb tg s1 f' → Calls Tryz.prog 131 #[zh pb] W (PRes pb tg f' (lvl f').not s1 W)) :
  Calls Tryz.prog 131 #[zh pb] w (PRes pb tg f (notF (subOf f)) s w):=by
 have hb:Calls Tryz.prog 165 #[zh pb,.string ⟨#[78,79,84]⟩,.string ⟨#[110,111,116]⟩,.func (.func 131) #[zh pb] #[],.func (.func 166) #[zh pb] #[]] w (PRes pb tg f (notF (subOf f)) s w):=zjA w pb tg f s h wNot oNot Lvl.not (zbg (subOf f)) hrest hown;unfold zh at *;clear h hrest hown;go_enter Tryz.func131, Tryz.ntmps131;exact ybN
theorem zdw {l:List Bs} (h:l.all (fun x => x.all (fun b => decide (b.toNat < 128)) && decide (x.length ≤ 1000))=true):(∀ x ∈ l,∀ b ∈ x,b.toNat < 128) ∧ ∀ x ∈ l,x.length ≤ 1000:=by simp only [List.all_eq_true,Bool.and_eq_true,decide_eq_true_eq] at h;exact ⟨fun x hx => (h x hx).1,fun x hx => (h x hx).2⟩
theorem zhi (w:World) (a c:Bs) (T:TypeId):StrsIn (w.alloc (.cells #[.string ⟨a.toArray⟩,.string ⟨c.toArray⟩] T)) (.slice (some ⟨w.heap.size,0,none⟩) 2 2) [a,c]:=by
 refine ⟨w.heap.size,0,2,rfl,?_⟩;intro j hj;have hb:=QN w (.cells #[.string ⟨a.toArray⟩,.string ⟨c.toArray⟩] T)
 match j,hj with
 | 0,_ => exact za hb 0
 | 1,_ => exact za hb 1
theorem zmw (w:World) (pb tg f:Nat) (s:PS) (h:PSt w pb tg s f) (hgo:zbn (zbo (subOf f)))
  (hpart:∀ W s1,PSt W pb tg s1 f → Calls Tryz.prog 222 #[zh pb] W (PRes pb tg f (zbo (subOf f)) s1 W)) :
  Calls Tryz.prog 215 #[zh pb] w (PRes pb tg f (termF (subOf f)) s w):=by
 have hlt:=h.lt;have hMa:=(QM [] w).alloc (.cells #[.string ⟨#[42]⟩,.string ⟨#[47]⟩] 9);have hasc:=zdw (l:=[wStar,[47]]) AD
 have hb:Calls Tryz.prog 91 #[zh pb,.func (.func 222) #[zh pb] #[],.slice (some ⟨w.heap.size,0,none⟩) 2 2] (w.alloc (.cells #[.string ⟨#[42]⟩,.string ⟨#[47]⟩] 9)) (PRes pb tg f (termF (subOf f)) s (w.alloc (.cells #[.string ⟨#[42]⟩,.string ⟨#[47]⟩] 9))):=
  zhh _ pb tg f s (h.later hMa) (zbo (subOf f)) hgo [wStar,[47]] hasc.1 AD hasc.2 w.heap.size 0 2 2 (zhi w wStar [47] 9) AA hpart
 unfold zh at *;have HMA:=QH hMa;clear h hpart hgo hasc hMa;go_enter Tryz.func215, Tryz.ntmps215;exact yaK
theorem zn3 (w:World) (pb tg f:Nat) (s:PS) (h:PSt w pb tg s f) (hgo:zbn (termF (subOf f)))
  (hpart:∀ W s1,PSt W pb tg s1 f → Calls Tryz.prog 215 #[zh pb] W (PRes pb tg f (termF (subOf f)) s1 W)) :
  Calls Tryz.prog 198 #[zh pb] w (PRes pb tg f (zc6 (subOf f)) s w):=by
 have hlt:=h.lt;have hMa:=(QM [] w).alloc (.cells #[.string ⟨#[43]⟩,.string ⟨#[45]⟩] 9);have hasc:=zdw (l:=[[43],wMinus]) AD
 have hb:Calls Tryz.prog 91 #[zh pb,.func (.func 215) #[zh pb] #[],.slice (some ⟨w.heap.size,0,none⟩) 2 2] (w.alloc (.cells #[.string ⟨#[43]⟩,.string ⟨#[45]⟩] 9)) (PRes pb tg f (zc6 (subOf f)) s (w.alloc (.cells #[.string ⟨#[43]⟩,.string ⟨#[45]⟩] 9))):=
  zhV _ pb tg f s (h.later hMa) (termF (subOf f)) hgo [[43],wMinus] hasc.1 AD hasc.2 w.heap.size 0 2 2 (zhi w [43] wMinus 9) AA hpart
 unfold zh at *;have HMA:=QH hMa;clear h hpart hgo hasc hMa;go_enter Tryz.func198, Tryz.ntmps198;exact yaK
theorem zn4 (w:World) (pb tg f:Nat) (s:PS) (h:PSt w pb tg s f) (hgo:zbn (notF (subOf f)))
  (hpart:∀ W s1,PSt W pb tg s1 f → Calls Tryz.prog 131 #[zh pb] W (PRes pb tg f (notF (subOf f)) s1 W)) :
  Calls Tryz.prog 92 #[zh pb] w (PRes pb tg f (andF (subOf f)) s w):=by
 have hlt:=h.lt;have hMa:=(QM [] w).alloc (.cells #[.string ⟨#[65,78,68]⟩] 9);have hasc:=zdw (l:=[[65,78,68]]) AD
 have hb:Calls Tryz.prog 91 #[zh pb,.func (.func 131) #[zh pb] #[],.slice (some ⟨w.heap.size,0,none⟩) 1 1] (w.alloc (.cells #[.string ⟨#[65,78,68]⟩] 9)) (PRes pb tg f (andF (subOf f)) s (w.alloc (.cells #[.string ⟨#[65,78,68]⟩] 9))):=
  zjB _ pb tg f s (h.later hMa) (notF (subOf f)) hgo [[65,78,68]] hasc.1 AD hasc.2 w.heap.size 0 1 1 (zaT w [65,78,68] 9) AA hpart
 unfold zh at *;have HMA:=QH hMa;clear h hpart hgo hasc hMa;go_enter Tryz.func92, Tryz.ntmps92;exact yaK
theorem zmx (w:World) (pb tg f:Nat) (s:PS) (h:PSt w pb tg s f) (hgo:zbn (andF (subOf f)))
  (hpart:∀ W s1,PSt W pb tg s1 f → Calls Tryz.prog 92 #[zh pb] W (PRes pb tg f (andF (subOf f)) s1 W)) :
  Calls Tryz.prog 57 #[zh pb] w (PRes pb tg f (exprF (subOf f)) s w):=by
 have hlt:=h.lt;have hMa:=(QM [] w).alloc (.cells #[.string ⟨#[79,82]⟩] 9);have hasc:=zdw (l:=[[79,82]]) AD
 have hb:Calls Tryz.prog 91 #[zh pb,.func (.func 92) #[zh pb] #[],.slice (some ⟨w.heap.size,0,none⟩) 1 1] (w.alloc (.cells #[.string ⟨#[79,82]⟩] 9)) (PRes pb tg f (exprF (subOf f)) s (w.alloc (.cells #[.string ⟨#[79,82]⟩] 9))):=
  zjC _ pb tg f s (h.later hMa) (andF (subOf f)) hgo [[79,82]] hasc.1 AD hasc.2 w.heap.size 0 1 1 (zaT w [79,82] 9) AA hpart
 unfold zh at *;have HMA:=QH hMa;clear h hpart hgo hasc hMa;go_enter Tryz.func57, Tryz.ntmps57;exact yaK
theorem zkF (w:World) (ws:List Bs) (T:TypeId):StrsIn (w.alloc (.cells (ws.map (fun a => Value.string ⟨a.toArray⟩)).toArray T)) (.slice (some ⟨w.heap.size,0,none⟩) ws.length ws.length) ws:=by refine ⟨w.heap.size,0,ws.length,rfl,?_⟩;intro j hj;rw [Nat.zero_add,za (QN w _) j];simp [hj]
theorem zmy (w:World) (pb tg f:Nat) (s:PS) (h:PSt w pb tg s f) (hgo:zbn (zc6 (subOf f)))
  (hsum:∀ W s1,PSt W pb tg s1 f → Calls Tryz.prog 198 #[zh pb] W (PRes pb tg f (zc6 (subOf f)) s1 W)) :
  Calls Tryz.prog 166 #[zh pb] w (PRes pb tg f (zbg (subOf f)) s w):=by
 have hpw:=h.lt;have h1:=hsum w s h;have HSUM:=QH hsum;have FIN:Hid (∀ b w' t s2,zbg (subOf f) s=(t,s2) → Mods [pb] w w' → PSt w' pb tg s2 f → (s2.e=0 → ∀ L:List Nat,(∀ x ∈ L,x < w.heap.size) → ExprAt 171 103 w' L (zh b) t) → PRes pb tg f (zbg (subOf f)) s w (.returned (zh b)) w'):=QH (fun b w' t s2 h1 h2 h3 h4 => ⟨b,rfl,h2,by rw [h1]; exact h3,by rw [h1]; exact h4⟩);obtain ⟨x,s1,hp⟩ : ∃ x s1,zc6 (subOf f) s=(x,s1):=⟨_,_,rfl⟩
 have hT:zbg (subOf f) s=if s1.is relWords=true then (.bin { op:=s1.now.s,pos:=s1.now.pos } x (zc6 (subOf f) s1.next).1,(zc6 (subOf f) s1.next).2)
  else if (s1.takes wIs).1=true then (.un { op:=if ((s1.takes wIs).2.takes wNot).1=true then oIsNot else oIs,pos:=s1.now.pos } x,((s1.takes wIs).2.takes wNot).2.wants [wNull])
  else (x,s1):=by unfold zbg; rw [hp]
 have HT:=QH hT;unfold zh at *;clear h hsum hT;go_enter Tryz.func166, Tryz.ntmps166;go_wp2_with fail;(with_reducible refine h1.mono ?_);rintro e w1 ⟨b1,rfl,hM1,hP1,hE1⟩;rw [hp] at hP1 hE1;dsimp only [zh] at *;clear h1 hp;have hnow:=zaO w1 pb tg s1 f hP1;have hfd:=zaA s1.now;unfold zh at hnow;go_wp2_with fail;(with_reducible refine hnow.mono ?_);rintro e w2 ⟨rfl,hM2⟩;clear hnow;have hMr:=(QM [] w2).alloc (.cells #[.string ⟨#[61]⟩,.string ⟨#[60,62]⟩,.string ⟨#[60]⟩,.string ⟨#[60,61]⟩,.string ⟨#[62]⟩,.string ⟨#[62,61]⟩] 9);have hM12:=hM2.trans hMr;have hP2:=hP1.later hM12;have hst:StrsIn (w2.alloc (.cells #[.string ⟨#[61]⟩,.string ⟨#[60,62]⟩,.string ⟨#[60]⟩,.string ⟨#[60,61]⟩,.string ⟨#[62]⟩,.string ⟨#[62,61]⟩] 9)) (.slice (some ⟨w2.heap.size,0,none⟩) 6 6) relWords:=zkF w2 relWords 9;have his:=zea _ pb tg s1 f hP2 _ relWords hst AD;clear hst hMr;unfold zh at his;go_wp2_with fail;(with_reducible refine his.mono ?_);rintro e w3 ⟨rfl,hM3⟩;have hM13:=hM12.trans hM3;have hMw3:=hM1.trans (hM13.mono (L':=[pb]) AB);have hP3:=hP1.later hM13;clear his hP2 hM12 hM3 hM2 hP1 hfd
 cases hi:s1.is relWords with
 | true =>
  have hk:=zQ hi;have hT2:=HT.out;rw [if_pos hi] at hT2;have HT2:=QH hT2;have hnx:=za9 w3 pb tg s1 f hP3 (hP3.wfTail hk.2);have HK:=QH hk;unfold zh at hnx;clear hT2 HT hi hk;go_wp2_with fail;(with_reducible refine hnx.mono ?_);rintro e w4 ⟨rfl,hM4,hP4⟩;clear hnx;go_wp2_with fail;have hMt:=(QM [] w4).alloc (.cells #[.int .i64 s1.now.kind,.int .i64 s1.now.pos,.string ⟨s1.now.s.toArray⟩,.int .i64 s1.now.n,.int .i64 s1.now.scale] 92);have ht4:=QN w4 (.cells #[.int .i64 s1.now.kind,.int .i64 s1.now.pos,.string ⟨s1.now.s.toArray⟩,.int .i64 s1.now.n,.int .i64 s1.now.scale] 92);have hpl:=hP4.lt;have hM35:=hM4.trans (hMt.drew.mono (L':=[pb]) AB);have hP5:=hP4.later hMt.drew;generalize w4.alloc (.cells #[.int .i64 s1.now.kind,.int .i64 s1.now.pos,.string ⟨s1.now.s.toArray⟩,.int .i64 s1.now.n,.int .i64 s1.now.scale] 92)=w5 at *;generalize w4.heap.size=tb at *;have ht5:w5.drew.heap[tb]? = _:=ht4;have t52:w5.drew.cell? ⟨tb,2,none⟩ = some (.string ⟨s1.now.s.toArray⟩):=za ht5 2;have hcall:=HSUM.out w5.drew s1.next hP5;clear ht4 hM4 hP4 hP3 hMt;go_region_with ((with_reducible refine hcall.mono ?_); rintro e w6 ⟨yb,rfl,hM6,hP6,hE6⟩; dsimp only [zh]; have ht6:=hM6.heap ht5 AE; have t62:w6.cell? ⟨tb,2,none⟩ = some (.string ⟨s1.now.s.toArray⟩):=za ht6 2; have z7:=((QM [] w6).alloc (.cells #[.pointer (some ⟨b1,0,none⟩),.pointer (some ⟨yb,0,none⟩)] 103)); have t72:=z7.cell t62)
  all_goals
   have hz:=((QM [] w6).alloc (.cells #[.pointer (some ⟨b1,0,none⟩),.pointer (some ⟨yb,0,none⟩)] 103)).alloc (.cells #[.string ⟨s1.now.s.toArray⟩,.int .i64 s1.now.pos,.string ⟨#[]⟩,.string ⟨#[]⟩,.int .i64 0,.int .i64 0,.string ⟨#[]⟩,.slice (some ⟨w6.heap.size,0,none⟩) 2 2] 171);have hr6:Mods [pb] w1 w6:=((hM13.mono (L':=[pb])).trans hM35).trans hM6;have hsz1:=hM1.size;have hsz2:=hr6.size;have hsz3:=hM13.size;have hsz4:=hM35.size
   have hfin:=FIN.out (w6.heap.size + 1) _ _ _ HT2.out ((hM1.trans hr6).trans (hz.mono (L':=[pb]) AB)) (hP6.later hz) (fun he2 L hL => (zkD (h:={ op:=s1.now.s,pos:=s1.now.pos }) (L:=pb :: L) (fun z hm => by
    rcases MC hm with rfl | hm
    ·omega
    ·have:=hL _ hm; omega) ((hE1 HK.out.1 (pb :: L) fun z hm => by
    rcases MC hm with rfl | hm
    ·omega
    ·have:=hL _ hm; omega).mods (hr6.mono)) (hE6 he2 (pb :: L) fun z hm => by
    rcases MC hm with rfl | hm
    ·omega
    ·have:=hL _ hm; omega)).weaken (fun z hm => CM _ hm))
   have HFIN:=QH hfin;clear hfin hz hr6 hE6 hP6 hM6 hE1 ht6 z7 hcall HT2 FIN;go_wp2_with fail;go_ret;exact HFIN.out
 | false =>
  have hT2:=HT.out;rw [if_neg (by rw [hi]; decide)] at hT2;have htk:Calls Tryz.prog 52 #[zh pb,.string ⟨#[73,83]⟩] w3 _:=zU w3 pb tg s1 f hP3 wIs;obtain ⟨b,hb⟩:=EX ((s1.takes wIs).1);have hs2:b=false → (s1.takes wIs).2=s1:=by
   intro h;rw [h] at hb;unfold PS.takes at hb ⊢;split at hb
   ·exact absurd hb AB
   ·rename_i h2; rw [if_neg h2]
  have he1:b=true → s1.e=0:=by
   intro h;rw [h] at hb;unfold PS.takes at hb;split at hb
   ·rename_i h2; exact (zQ h2).1
   ·exact absurd hb AB
  have HS2:=QH hs2;have HE1:=QH he1;rw [hb] at htk hT2;have HT2:=QH hT2;unfold zh at htk;clear hs2 he1 hT2 hb hi HT HSUM hP3;go_wp2_with fail;(with_reducible refine htk.mono ?_);rintro e w4 ⟨rfl,hM4,hP4⟩;clear htk;have hMw4:=hMw3.trans hM4;have hM14:=(hM13.mono (L':=[pb])).trans hM4;have hs1:=hM1.size;have hs14:=hM14.size
  cases b with
  | false =>
   have hs2:=HS2.out rfl;have hT2:=HT2.out;rw [if_neg AD] at hT2;rw [hs2] at hP4
   have hfin:=FIN.out b1 w4 x s1 hT2 hMw4 hP4 (fun he L hL => (((hE1 he (pb :: L) fun z hm => by
    rcases MC hm with rfl | hm
    ·omega
    ·have:=hL _ hm; omega).mods (hM14.mono)).weaken (fun z hm => CM _ hm)))
   have HFIN:=QH hfin;clear hfin hE1 hP4 hT2 HT2 FIN hs2 HS2 HE1;go_wp2_with fail;go_ret;exact HFIN.out
  | true =>
   have he1:=HE1.out rfl;have hT2:=HT2.out;rw [if_pos rfl] at hT2;generalize (s1.takes wIs).2=s2 at *;obtain ⟨b2,hb2⟩:=EX ((s2.takes wNot).1);have hz:=((QM [] w4).alloc (.cells #[.pointer (some ⟨b1,0,none⟩)] 103)).alloc (.cells #[.string ⟨#[105,115,110,117,108,108]⟩,.int .i64 s1.now.pos,.string ⟨#[]⟩,.string ⟨#[]⟩,.int .i64 0,.int .i64 0,.string ⟨#[]⟩,.slice (some ⟨w4.heap.size,0,none⟩) 1 1] 171);obtain ⟨hc5,hn5⟩:=zck w4 (.cells #[.pointer (some ⟨b1,0,none⟩)] 103) (.cells #[.string ⟨#[105,115,110,117,108,108]⟩,.int .i64 s1.now.pos,.string ⟨#[]⟩,.string ⟨#[]⟩,.int .i64 0,.int .i64 0,.string ⟨#[]⟩,.slice (some ⟨w4.heap.size,0,none⟩) 1 1] 171);have hP5:=hP4.later hz;have htk:Calls Tryz.prog 52 #[zh pb,.string ⟨#[78,79,84]⟩] _ _:=zU _ pb tg s2 f hP5 wNot;have hpl:=hP4.lt;rw [hb2] at htk hT2;have HT3:=QH hT2;have HEE:=QH he1;unfold zh at htk;clear hT2 hb2 HT2 HS2 HE1 hP5 hP4 he1;go_wp2_with fail;(with_reducible refine htk.mono ?_);rintro e w6 ⟨rfl,hM6,hP6⟩;clear htk;have hc6:=hM6.heap hc5 AE;have hn6:=hM6.heap hn5 AE;have hM16:Mods [pb] w1 w6:=(hM14.trans (hz.mono (L':=[pb]) AB)).trans hM6;have hp6:=hP6.lt;have hcl:w4.heap.size < w6.heap.size:=zj hc6;have hnl:w4.heap.size + 1 < w6.heap.size:=zj hn6;generalize hcb:w4.heap.size=cb at *
   have END:Hid (∀ (b3:Bool) (w7 w9:World),b2=b3 → Mods [cb + 1] w6 w7 → PSt w7 pb tg (s2.takes wNot).2 f → w7.heap[cb + 1]? = some (.cells (hdC { op:=if b3=true then oIsNot else oIs,pos:=s1.now.pos } (.slice (some ⟨cb,0,none⟩) 1 1)).toArray 171 (0,0)) → Mods [pb] w7 w9 → PSt w9 pb tg ((s2.takes wNot).2.wants [wNull]) f → PRes pb tg f (zbg (subOf f)) s w (.returned (.pointer (some ⟨cb + 1,0,none⟩))) w9):=QH (by
    intro b3 w7 w9 hb3 h7 hP7 hn7 h9 hP9;subst hb3;have h19:Mods [pb] w1 w9:=(hM16.trans h7 (fun y hy => by simp at hy; exact .inr AA)).trans h9;refine FIN.out (cb + 1) w9 _ _ HT3.out (hM1.trans h19) hP9 (fun he L hL => ?_);refine ⟨cb + 1,cb,.pointer (some ⟨b1,0,none⟩),rfl,fun hm => by have:=hL _ hm; omega,fun hm => by have:=hL _ hm; omega,h9.heap hn7 AE,h9.heap (h7.heap hc6) AE,?_⟩
    exact ((hE1 HEE.out (pb :: L) fun z hm => by
     rcases MC hm with rfl | hm
     ·omega
     ·have:=hL _ hm; omega).mods (h19.mono)).weaken (fun z hm => CM _ hm))
   clear HT3 HEE FIN hE1
   cases b2 with
   | false =>have hMs:=(QM [] w6).alloc (.cells #[.string ⟨#[78,85,76,76]⟩] 9);have hwa:Calls Tryz.prog 51 #[zh pb,.slice (some ⟨w6.heap.size,0,none⟩) 1 1] (w6.alloc (.cells #[.string ⟨#[78,85,76,76]⟩] 9)) _:=zbq _ pb tg _ f (hP6.later hMs) _ [wNull] (zaT w6 wNull 9) AD (fun g off n c he => by simp only [Value.slice.injEq,Option.some.injEq,Addr.mk.injEq] at he; omega);have hend:=fun w9 => END.out false w6 w9 rfl (QM _ _) hP6 hn6;have HEND:=QH hend;unfold zh at hwa;clear END hend hP6;exact ybG
   | true =>have n0:w6.cell? ⟨cb + 1,0,none⟩ = some (.string ⟨#[105,115,110,117,108,108]⟩):=za hn6 0;have f0:=zc hn6 0;have hM7:Mods [cb + 1] w6 (w6.setCell ⟨cb + 1,0,none⟩ (.string ⟨#[110,111,116,110,117,108,108]⟩)):=(QM _ _).setCell (.inl AB) _;have hn7:=zb hn6 0 (.string ⟨#[110,111,116,110,117,108,108]⟩);have hP7:=hP6.mods hM7 AE AE;have hend:=fun w9 => END.out true _ w9 rfl hM7 hP7 hn7;have HEND:=QH hend;have HP7:=QH hP7;clear END hend hP6 hP7 hM7 hn7;go_upto_region 10 with fail;generalize w6.setCell ⟨cb + 1,0,none⟩ (.string ⟨#[110,111,116,110,117,108,108]⟩)=w7 at *;have hMs:=(QM [] w7).alloc (.cells #[.string ⟨#[78,85,76,76]⟩] 9);have hl7:=HP7.out.lt;have hwa:Calls Tryz.prog 51 #[zh pb,.slice (some ⟨w7.heap.size,0,none⟩) 1 1] (w7.alloc (.cells #[.string ⟨#[78,85,76,76]⟩] 9)) _:=zbq _ pb tg _ f (HP7.out.later hMs) _ [wNull] (zaT w7 wNull 9) AD (fun g off n c he => by simp only [Value.slice.injEq,Option.some.injEq,Addr.mk.injEq] at he; omega);unfold zh at hwa;clear HP7;exact ybG
theorem zkG (w:World) (A B C:Obj):(((w.alloc A).alloc B).alloc C).heap[w.heap.size]? = some A ∧ (((w.alloc A).alloc B).alloc C).heap[w.heap.size + 1]? = some B ∧ (((w.alloc A).alloc B).alloc C).heap[w.heap.size + 1 + 1]? = some C:=by obtain ⟨h1,h2⟩:=zck w A B;have hM:=(QM [] ((w.alloc A).alloc B)).alloc C;refine ⟨hM.heap h1,hM.heap h2,?_⟩;have:=QN ((w.alloc A).alloc B) C;rw [zl,zl] at this;exact this
theorem zdb (w:World) (pb:Nat) (op:Bs) (n:Int) :
  Calls Tryz.prog 224 #[zh pb,.string ⟨op.toArray⟩,.int .i64 n] w fun e w' => ∃ a p q,e = .returned (.func (.func 227) #[] #[zh a,zh p,zh q]) ∧ Mods [] w w' ∧ w'.cell? ⟨a,0,none⟩ = some (.string ⟨op.toArray⟩) ∧ w'.cell? ⟨p,0,none⟩ = some (zh pb) ∧ w'.cell? ⟨q,0,none⟩ = some (.int .i64 n) ∧ w.heap.size ≤ a ∧ w.heap.size ≤ p ∧ w.heap.size ≤ q ∧ a < w'.heap.size ∧ p < w'.heap.size ∧ q < w'.heap.size:=by
 unfold zh;go_enter Tryz.func224, Tryz.ntmps224;go_wp2_with fail;go_ret;obtain ⟨h0,h1,h2⟩:=zkG w (.cells #[.pointer (some ⟨pb,0,none⟩)] 93) (.cells #[.string ⟨op.toArray⟩] 9) (.cells #[.int .i64 n] 2);exact ⟨w.heap.size + 1,w.heap.size,w.heap.size + 1 + 1,rfl,(((QM [] w).alloc _).alloc _).alloc _,za h1 0,za h0 0,za h2 0,by omega,by omega,by omega,zj h1,zj h0,zj h2⟩
theorem zdc (w:World) (pb tg f:Nat) (s:PS) (h:PSt w pb tg s f) (hw:WfT s.rest.tail) (op:Bs) (n:Nat) (a p q:Nat) (ca:w.cell? ⟨a,0,none⟩ = some (.string ⟨op.toArray⟩)) (cp:w.cell? ⟨p,0,none⟩ = some (zh pb)) (cq:w.cell? ⟨q,0,none⟩ = some (.int .i64 n)) (ha:a ≠ pb) (hp:p ≠ pb) (hq:q ≠ pb) :
  Calls Tryz.prog 227 #[zh a,zh p,zh q] w (PRes pb tg f (fun s => (.leaf { op:=op,pos:=s.now.pos,n:=n },s.next)) s w):=by
 have hn:=za9 w.drew pb tg s f (h.later (QM [] w).drew) hw;have hfd:=zaA s.now;have ad:w.drew.cell? ⟨a,0,none⟩ = some (.string ⟨op.toArray⟩):=ca;have pd:w.drew.cell? ⟨p,0,none⟩ = some (zh pb):=cp;have qd:w.drew.cell? ⟨q,0,none⟩ = some (.int .i64 n):=cq;unfold zh at *;clear ca cp cq;go_enter Tryz.func227, Tryz.ntmps227;go_wp2_with fail;go_region_with ((with_reducible refine hn.mono ?_); rintro e w5 ⟨rfl,hM5,hP5⟩; have a5:=hM5.cell ad (by simpa using ha); have p5:=hM5.cell pd (by simpa using hp); have q5:=hM5.cell qd (by simpa using hq))
 all_goals
  have hz:=(QM [] w5).alloc (.cells #[.string ⟨op.toArray⟩,.int .i64 s.now.pos,.string ⟨#[]⟩,.string ⟨#[]⟩,.int .i64 n,.int .i64 0,.string ⟨#[]⟩,.slice none 0 0] 171);have hb:=QN w5 (.cells #[.string ⟨op.toArray⟩,.int .i64 s.now.pos,.string ⟨#[]⟩,.string ⟨#[]⟩,.int .i64 n,.int .i64 0,.string ⟨#[]⟩,.slice none 0 0] 171);have hMw:Mods [pb] w w5:=((QM [] w).drew.mono (L':=[pb])).trans hM5;have hsz:=hMw.size;have hfin:PRes pb tg f (fun s => (.leaf { op:=op,pos:=s.now.pos,n:=n },s.next)) s w (.returned (.pointer (some ⟨w5.heap.size,0,none⟩))) _:=⟨w5.heap.size,rfl,hMw.trans (hz.mono (L':=[pb]) AB),hP5.later hz,fun he L hL => ⟨w5.heap.size,rfl,fun hm => by have:=hL _ hm; omega,hb⟩⟩;have HFIN:=QH hfin;clear hfin hb hz hP5 hM5 hMw hn;go_wp2_with fail;go_ret;exact HFIN.out
def Held (xc:Nat) (F:PF) (s1:PS) (W W':World):Prop:=
 ∃ yb,W'.heap[xc]? = some (.cells #[zh yb] 103 (0,0)) ∧ (((F s1).2.wants [wShut]).e=0 → ∀ L:List Nat,(∀ z ∈ L,z < W.heap.size) → ExprAt 171 103 W' L (zh yb) (F s1).1)
theorem zeV {s:PS} {l:List Bs} (h:(s.wants l).e=0):s.e=0:=Classical.byContradiction fun hn => by rw [(Aft.wants l s).err hn] at h; exact hn h
theorem brackets1 (W:World) (pb tg:Nat) (f:Nat) (F:PF) (s1:PS) (xp xc:Nat) (u:Value)
  (hx:W.cell? ⟨xp,0,none⟩ = some (zh pb)) (hc:W.heap[xc]? = some (.cells #[u] 103 (0,0))) (n1:xp ≠ pb) (n2:xc ≠ pb) (n3:xc ≠ tg) (n4:xp ≠ xc)
  (hpw:pb < W.heap.size) (hexpr:Calls Tryz.prog 57 #[zh pb] W (PRes pb tg f F s1 W)) :
  Calls Tryz.prog 228 #[.pointer (some ⟨xp,0,none⟩),.pointer (some ⟨xc,0,none⟩)] W fun e W' => e = .returned (.tuple #[]) ∧ PSt W' pb tg ((F s1).2.wants [wShut]) f ∧ Mods [pb,xc] W W' ∧ Held xc F s1 W W':=by
 have hxw:xc < W.heap.size:=zj hc;unfold zh at *;go_enter Tryz.func228, Tryz.ntmps228;go_wp2_with fail;(with_reducible refine hexpr.mono ?_);rintro e w5 ⟨yb,rfl,hM5,hP5,hE5⟩;dsimp only [zh];clear hexpr;have hc5:=hM5.heap hc (by simpa using n2);have c5:w5.cell? ⟨xc,0,none⟩ = some u:=za hc5 0;have g5:=zc hc5 0;have hM6:Mods [xc] w5 (w5.setCell ⟨xc,0,none⟩ (.pointer (some ⟨yb,0,none⟩))):=(QM _ _).setCell (.inl AB) _;have hc6:=zb hc5 0 (.pointer (some ⟨yb,0,none⟩));have hx6:=hM6.cell (hM5.cell hx (by simpa using n1)) (by simpa using n4);have hP6:=hP5.mods hM6 (by simpa using n2.symm) (by simpa using n3.symm);have hpl:=hP6.lt;have H56:=QH (AI hM5 hM6);have H6:=QH (AI hP6 hc6);clear hP5 hP6 hc6 hM5 hM6;go_upto_region 1 with fail;generalize w5.setCell ⟨xc,0,none⟩ (.pointer (some ⟨yb,0,none⟩))=w6 at *;have hMs:=(QM [] w6).alloc (.cells #[.string ⟨#[41]⟩] 9);have hwa:Calls Tryz.prog 51 #[zh pb,.slice (some ⟨w6.heap.size,0,none⟩) 1 1] (w6.alloc (.cells #[.string ⟨#[41]⟩] 9)) _:=zbq _ pb tg _ f (H6.out.1.later hMs) _ [wShut] (zaT w6 wShut 9) AD (fun g off n c he => by simp only [Value.slice.injEq,Option.some.injEq,Addr.mk.injEq] at he; omega);unfold zh at hwa;go_wp2_with fail;(with_reducible refine hwa.mono ?_);rintro e w9 ⟨rfl,hM9,hP9⟩;clear hwa;go_wp2_with fail;go_end0;obtain ⟨hM5,hM6⟩:=H56.out;have h69:Mods [pb] w6 w9:=(hMs.mono (L':=[pb])).trans hM9;have hs5:=hM5.size;refine ⟨rfl,hP9,((hM5.mono (L':=[pb,xc])).trans (hM6.mono (L':=[pb,xc]) AB)).trans (h69.mono (L':=[pb,xc]) AB),yb,h69.heap H6.out.2 (by simpa using n2),fun he L hL => ?_⟩
 exact (((hE5 (zeV he) (pb :: xc :: L) fun z hm => by
  rcases MC hm with rfl | hm
  ·exact hpw
  ·rcases MC hm with rfl | hm
   ·exact hxw
   ·exact hL _ hm).mods (hM6.mono)).mods (h69.mono)).weaken (fun z hm => CM _ (CM _ hm))
theorem zhj (w:World) (pb tg:Nat) (f:Nat) (s:PS) (h:PSt w pb tg s f) (he:s.e=0) (hk:s.now.kind ≠ 0)
  (hexpr:∀ f',f=f' + 1 → ∀ W s1,PSt W pb tg s1 f' → Calls Tryz.prog 57 #[zh pb] W (PRes pb tg f' (lvl f').expr s1 W)) :
  Calls Tryz.prog 225 #[zh pb] w (PRes pb tg f (zaE (subOf f)) s w):=by
 have hpw:=h.lt;have hMX:=(((QM [] w).alloc (.cells #[.pointer (some ⟨pb,0,none⟩)] 93)).alloc (.cells #[.string ⟨#[]⟩,.int .i64 0,.string ⟨#[]⟩,.string ⟨#[]⟩,.int .i64 0,.int .i64 0,.string ⟨#[]⟩,.slice none 0 0] 171)).alloc (.cells #[.pointer (some ⟨w.heap.size + 1,0,none⟩)] 103);obtain ⟨hp0,hx0,hc0⟩:=zkG w (.cells #[.pointer (some ⟨pb,0,none⟩)] 93) (.cells #[.string ⟨#[]⟩,.int .i64 0,.string ⟨#[]⟩,.string ⟨#[]⟩,.int .i64 0,.int .i64 0,.string ⟨#[]⟩,.slice none 0 0] 171) (.cells #[.pointer (some ⟨w.heap.size + 1,0,none⟩)] 103);have hP0:=h.later hMX;have HO:=QH hexpr;unfold zh at *;clear h hexpr;go_enter Tryz.func225, Tryz.ntmps225
 cases f with
 | zero =>
  have hin:=zcj _ pb tg s hP0 (.func (.func 228) #[] #[.pointer (some ⟨w.heap.size,0,none⟩),.pointer (some ⟨w.heap.size + 1 + 1,0,none⟩)]);have HF:Hid (zaE (subOf 0) s=(emp,s.fail 9)):=QH rfl;have he9:(s.fail 9).e ≠ 0:=by unfold PS.fail; rw [if_pos he]; simp
  unfold zh at hin;clear HO hP0;go_wp2_with fail;(with_reducible refine hin.mono ?_);rintro e w5 ⟨rfl,hM5,hP5⟩;have c5:=hM5.cell ((za hc0 0).trans rfl) AE;change w5.cell? _=some (.pointer (some ⟨w.heap.size + 1,0,none⟩)) at c5;clear hin;go_wp2_with fail;go_ret;exact ⟨w.heap.size + 1,rfl,(hMX.mono (L':=[pb])).trans hM5,by rw [HF.out]; exact hP5,by rw [HF.out]; exact fun h => absurd h he9⟩
 | succ f =>
  have HF:Hid (zaE (subOf (f + 1)) s=(((lvl f).expr s.next).1,((lvl f).expr s.next).2.wants [wShut])):=QH (by
   show (if s.e=0 then _ else _)=_
   rw [if_pos he])
  have hin:=zdu _ pb tg s f hP0 he hk 228 (.inr (.inl rfl)) (.pointer (some ⟨w.heap.size,0,none⟩)) (.pointer (some ⟨w.heap.size + 1 + 1,0,none⟩)) (((lvl f).expr s.next).2.wants [wShut])
   (fun W' => ∃ W,Mods [pb] _ W ∧ Mods [pb,w.heap.size + 1 + 1] W W' ∧ Held (w.heap.size + 1 + 1) (lvl f).expr s.next W W')
   (fun W hM hP => (brackets1 W pb tg f (lvl f).expr s.next w.heap.size (w.heap.size + 1 + 1) (.pointer (some ⟨w.heap.size + 1,0,none⟩)) (hM.cell ((za hp0 0).trans rfl) AE) (hM.heap hc0 AE) AA AA AA AA hP.lt.1 (HO.out f rfl W s.next hP)).mono fun e W' h => ⟨h.1,h.2.1,W,hM,h.2.2.1,h.2.2.2⟩)
  unfold zh at hin;clear HO hP0;go_wp2_with fail;(with_reducible refine hin.mono ?_);rintro e w5 ⟨rfl,hP5,W1,⟨W,hMa,hMb,yb,hfx,hfe⟩,hMc⟩;clear hin;have hx5:=hMc.heap hfx AE;have c5:w5.cell? ⟨w.heap.size + 1 + 1,0,none⟩ = some (.pointer (some ⟨yb,0,none⟩)):=za hx5 0;have hMw:Mods [pb] w w5:=(((hMX.mono (L':=[pb])).trans hMa).trans hMb (fun y hy => by simp at hy; rcases hy with rfl | rfl; exact .inl AB; exact .inr AA)).trans hMc;have hsa:=hMX.size;have hsb:=hMa.size;have hfin:PRes pb tg (f + 1) (zaE (subOf (f + 1))) s w (.returned (.pointer (some ⟨yb,0,none⟩))) w5:=by
   refine ⟨yb,rfl,hMw,by rw [HF.out]; exact hP5,?_⟩;rw [HF.out];intro he L hL
   exact ((hfe he (pb :: L) (fun y hy => by
    rcases MC hy with rfl | hy
    ·omega
    ·have:=hL _ hy; omega)).mods (hMc.mono)).weaken (fun y hy => CM _ hy)
  have HFIN:=QH hfin;clear hfin hfx hfe hP5 hMa hMb hMc hMw hMX;go_wp2_with fail;go_ret;exact HFIN.out
end Go.Proofs.YtcabeljiobiojaaGreatDoor
