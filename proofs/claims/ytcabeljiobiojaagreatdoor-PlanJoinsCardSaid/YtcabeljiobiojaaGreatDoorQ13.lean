/-
  What the walk of parse's query needs besides. No condition.
-/
import Derived.Test.YtcabeljiobiojaaGreatDoorQ12
import Derived.Deep.CutRange
set_option linter.unusedVariables false
namespace Go.Proofs.YtcabeljiobiojaaGreatDoor
open Go.RowKit
theorem ydg {p:Prop} (h:p:=by
  have hwa:Calls Tryz.prog 51 #[zh pb,.slice (some ⟨W1.heap.size,0,none⟩) 1 1] (W1.alloc (.cells #[.string ⟨#[66,89]⟩] 9)) _:=zcJ W1 pb tg _ f HQ.out.pst wBy;unfold zh at hwa;go_wp2_with fail;(with_reducible refine hwa.mono ?_);rintro e Vf ⟨rfl,hMz,hPz⟩;have hqz:=HQ.out.go hMz hPz (Aft.wants _ _);have HQw:=QH hqz;clear hwa hMz hPz hqz
  first
  |clear gAW
   have hca:=zhZ Vf pb tg f (s1.wants [wBy]) HQw.out.pst HQw.out.2.2.2.2.2.1 _ zaV HC.out.2.2.2.2;unfold zh at hca;go_wp2_with fail;(with_reducible refine hca.mono ?_);rintro e Vg ⟨g,cap,css,rfl,hMy,hPy,hgy,hgy2,hcy,hcells,hAy⟩;have hqy:=HQw.out.go hMy hPy (zba zaV (s1.wants [wBy]));obtain ⟨vy,hvy⟩:=hqy.cell 8 AD;have hfy:=hqy.frozen 8;have hqp:=hqy.putGroup (.slice (some ⟨g,0,none⟩) (zad zY (s1.wants [wBy])).1.length cap) (zad zY (s1.wants [wBy])).1 (fun he => ListRes.listAt treeRep HQw.out.lts hgy hcy hcells (hAy he));clear hca hgy hgy2 hcy hcells hAy HQw;have hx:x5=({ x4.1 with group:=(zad zY (s1.wants [wBy])).1 },(zad zY (s1.wants [wBy])).2):=by rw [← HX5.out]; unfold q5; simp only [HT.out.1]; rfl
   exact yaR
  |clear gAX
   have hca:=zmC Vf pb tg f (s1.wants [wBy]) HQw.out.pst HQw.out.2.2.2.2.2.1 _ zdx HC.out.2.2.2.1;unfold zh at hca;go_wp2_with fail;(with_reducible refine hca.mono ?_);rintro e Vg ⟨g,cap,css,rfl,hMy,hPy,hgy,hgy2,hcy,hcells,hAy⟩;have hqy:=HQw.out.go hMy hPy (zba zdx (s1.wants [wBy]));obtain ⟨vy,hvy⟩:=hqy.cell 9 AD;have hfy:=hqy.frozen 9;have hqp:=hqy.putOrder (.slice (some ⟨g,0,none⟩) (zad zfw (s1.wants [wBy])).1.length cap) (zad zfw (s1.wants [wBy])).1 (fun he => ListRes.listAt keyRep HQw.out.lts hgy hcy hcells (hAy he));clear hca hgy hgy2 hcy hcells hAy HQw;have hx:x6=({ x5.1 with order:=(zad zfw (s1.wants [wBy])).1 },(zad zfw (s1.wants [wBy])).2):=by rw [← HX6.out]; unfold q6; simp only [HT.out.1]; rfl
   exact yaR
 ):p:=h
theorem yaR {p:Prop} (h:p:=by
  have HF:=QH (hqp.as hx);clear hx hqp HQ HT;go_wp2_with fail
  go_meet
  exact HF.out
 ):p:=h
theorem ybh {p:Prop} (h:p:=by
  have HF:=QH fin;clear fin HQ HT;go_wp2_with fail
  go_meet
  exact HF.out
 ):p:=h
theorem zcJ (w:World) (pb tg:Nat) (s:PS) (f:Nat) (h:PSt w pb tg s f) (x:Bs) :
  Calls Tryz.prog 51 #[zh pb,.slice (some ⟨w.heap.size,0,none⟩) 1 1] (w.alloc (.cells #[.string ⟨x.toArray⟩] 9)) fun e w' => e = .returned (.tuple #[]) ∧ Mods [pb] w w' ∧ PSt w' pb tg (s.wants [x]) f:=by
 have hMs:=(QM [] w).alloc (.cells #[.string ⟨x.toArray⟩] 9);have hl:=h.lt
 exact (zbq _ pb tg _ f (h.later hMs) _ [x] (zaT w x 9) AB (fun g off n c he => by simp only [Value.slice.injEq,Option.some.injEq,Addr.mk.injEq] at he; omega)).mono
  fun e w' ⟨a,b,c⟩ => ⟨a,(hMs.mono).trans b,c⟩
theorem zjF (w:World) (pb tg:Nat) (f:Nat) (s:PS) (h:PSt w pb tg s f):Calls Tryz.prog 59 #[zh pb] w (ColumnRes pb tg f zY s w):=
 (zdW w pb tg s f h).mono fun e w' ⟨b,a1,a2,a3,a4⟩ => ⟨b,a1,a2,a3,fun he L hL => ⟨b,rfl,a4 he L hL⟩⟩
theorem ListRes.listAt {α:Type} {R:zel α} (hR:Rep R) {w w':World} {L:List Nat} {g cap:Nat} {css:List (List Value)} {l:List α} (hL:∀ x ∈ L,x < w.heap.size) (hg:w.heap.size ≤ g) (hc:l.length ≤ cap) (hcells:∀ j u,css.flatten[j]? = some u → w'.cell? ⟨g,j,none⟩ = some u)
  (hA:∀ L:List Nat,(∀ x ∈ L,x < w.heap.size) → AllR R w' (g :: L) css l):ListAt R w' L (.slice (some ⟨g,0,none⟩) l.length cap) l:=
 .inr ⟨g,cap,css,rfl,fun hm => by have:=hL g hm; omega,hc,hcells,(hA L hL).map fun c x hx => hR.weaken (fun z hz => CM _ hz) hx⟩
theorem QInv.cell {pb tg f:Nat} {w0:World} {qb:Nat} {x:QS} {w:World} (h:QInv pb tg f w0 qb x w) (j:Nat) (hj:j < 12):∃ v,w.cell? ⟨qb,j,none⟩ = some v:=by obtain ⟨cs,h1,h2⟩:=h.block;have:=za h1 j;rw [Array.getElem?_eq_getElem AA] at this;exact ⟨_,this⟩
theorem QInv.frozen {pb tg f:Nat} {w0:World} {qb:Nat} {x:QS} {w:World} (h:QInv pb tg f w0 qb x w) (j:Nat):w.frozen? ⟨qb,j,none⟩ = false:=by obtain ⟨cs,h1,h2⟩:=h.block;exact zc h1 j
theorem QInv.lts {pb tg f:Nat} {w0:World} {qb:Nat} {x:QS} {w:World} (h:QInv pb tg f w0 qb x w):∀ z ∈ [qb,pb],z < w.heap.size:=by
 obtain ⟨cs,h1,h2⟩:=h.block;intro z hz;simp at hz;rcases hz with rfl | rfl
 ·exact zj h1
 ·exact h.pst.lt.1
theorem QInv.as {pb tg f:Nat} {w0:World} {qb:Nat} {x y:QS} {w:World} (h:QInv pb tg f w0 qb x w) (e:y=x):QInv pb tg f w0 qb y w:=e ▸ h
section puts
variable {pb tg f:Nat} {w0:World} {qb:Nat} {x:QS} {w:World}
theorem QInv.putStar (h:QInv pb tg f w0 qb x w) (b:Bool):QInv pb tg f w0 qb ({ x.1 with star:=b },x.2) (w.setCell ⟨qb,0,none⟩ (.bool b)):=
 h.put 0 _ _ fun vi von vwh vg vo hp => ⟨vi,von,vwh,vg,vo,rfl,hp⟩
theorem QInv.putSrc (h:QInv pb tg f w0 qb x w) (n:Bs):QInv pb tg f w0 qb ({ x.1 with src:=n },x.2) (w.setCell ⟨qb,2,none⟩ (.string ⟨n.toArray⟩)):=
 h.put 2 _ _ fun vi von vwh vg vo hp => ⟨vi,von,vwh,vg,vo,rfl,hp⟩
theorem QInv.putJoin (h:QInv pb tg f w0 qb x w) (n:Bs):QInv pb tg f w0 qb ({ x.1 with join:=n },x.2) (w.setCell ⟨qb,3,none⟩ (.string ⟨n.toArray⟩)):=
 h.put 3 _ _ fun vi von vwh vg vo hp => ⟨vi,von,vwh,vg,vo,rfl,hp⟩
theorem QInv.putSrcAt (h:QInv pb tg f w0 qb x w) (n:Nat):QInv pb tg f w0 qb ({ x.1 with srcAt:=n },x.2) (w.setCell ⟨qb,4,none⟩ (.int .i64 n)):=
 h.put 4 _ _ fun vi von vwh vg vo hp => ⟨vi,von,vwh,vg,vo,rfl,hp⟩
theorem QInv.putJoinAt (h:QInv pb tg f w0 qb x w) (n:Nat):QInv pb tg f w0 qb ({ x.1 with joinAt:=n },x.2) (w.setCell ⟨qb,5,none⟩ (.int .i64 n)):=
 h.put 5 _ _ fun vi von vwh vg vo hp => ⟨vi,von,vwh,vg,vo,rfl,hp⟩
theorem QInv.putLimit (h:QInv pb tg f w0 qb x w) (n:Int):QInv pb tg f w0 qb ({ x.1 with limit:=n },x.2) (w.setCell ⟨qb,10,none⟩ (.int .i64 n)):=
 h.put 10 _ _ fun vi von vwh vg vo hp => ⟨vi,von,vwh,vg,vo,rfl,hp⟩
theorem QInv.putOffset (h:QInv pb tg f w0 qb x w) (n:Int):QInv pb tg f w0 qb ({ x.1 with offset:=n },x.2) (w.setCell ⟨qb,11,none⟩ (.int .i64 n)):=
 h.put 11 _ _ fun vi von vwh vg vo hp => ⟨vi,von,vwh,vg,vo,rfl,hp⟩
theorem QInv.putItems (h:QInv pb tg f w0 qb x w) (v:Value) (l:List za2) (hl:x.2.e=0 → ListAt ItemR w [qb,pb] v l):QInv pb tg f w0 qb ({ x.1 with items:=l },x.2) (w.setCell ⟨qb,1,none⟩ v):=
 h.put 1 _ _ fun vi von vwh vg vo hp => ⟨v,von,vwh,vg,vo,rfl,fun he => ⟨hl he,(hp he).2⟩⟩
theorem QInv.putOn (h:QInv pb tg f w0 qb x w) (v:Value) (t:Tree) (hl:x.2.e=0 → OptAt w [qb,pb] v (some t)):QInv pb tg f w0 qb ({ x.1 with on:=some t },x.2) (w.setCell ⟨qb,6,none⟩ v):=
 h.put 6 _ _ fun vi von vwh vg vo hp => ⟨vi,v,vwh,vg,vo,rfl,fun he => ⟨(hp he).1,hl he,(hp he).2.2⟩⟩
theorem QInv.putWhr (h:QInv pb tg f w0 qb x w) (v:Value) (t:Tree) (hl:x.2.e=0 → OptAt w [qb,pb] v (some t)):QInv pb tg f w0 qb ({ x.1 with whr:=some t },x.2) (w.setCell ⟨qb,7,none⟩ v):=
 h.put 7 _ _ fun vi von vwh vg vo hp => ⟨vi,von,v,vg,vo,rfl,fun he => ⟨(hp he).1,(hp he).2.1,hl he,(hp he).2.2.2⟩⟩
theorem QInv.putGroup (h:QInv pb tg f w0 qb x w) (v:Value) (l:List Tree) (hl:x.2.e=0 → ListAt TreeR w [qb,pb] v l):QInv pb tg f w0 qb ({ x.1 with group:=l },x.2) (w.setCell ⟨qb,8,none⟩ v):=
 h.put 8 _ _ fun vi von vwh vg vo hp => ⟨vi,von,vwh,v,vo,rfl,fun he => ⟨(hp he).1,(hp he).2.1,(hp he).2.2.1,hl he,(hp he).2.2.2.2⟩⟩
theorem QInv.putOrder (h:QInv pb tg f w0 qb x w) (v:Value) (l:List zfI) (hl:x.2.e=0 → ListAt KeyR w [qb,pb] v l):QInv pb tg f w0 qb ({ x.1 with order:=l },x.2) (w.setCell ⟨qb,9,none⟩ v):=
 h.put 9 _ _ fun vi von vwh vg vo hp => ⟨vi,von,vwh,vg,v,rfl,fun he => ⟨(hp he).1,(hp he).2.1,(hp he).2.2.1,(hp he).2.2.2.1,hl he⟩⟩
end puts
theorem QInv.start {pb tg f:Nat} {w:World} {s:PS} (h:PSt w pb tg s f) (hl:s.rest.length ≤ 10000) :
  QInv pb tg f w w.heap.size ({},s) (w.alloc (.cells #[.bool false,.slice none 0 0,.string ⟨#[]⟩,.string ⟨#[]⟩,.int .i64 0,.int .i64 0,.pointer none,.pointer none,.slice none 0 0,.slice none 0 0,.int .i64 (-1),.int .i64 (-1)] 107)):=by
 have hM:=(QM [] w).alloc (.cells #[.bool false,.slice none 0 0,.string ⟨#[]⟩,.string ⟨#[]⟩,.int .i64 0,.int .i64 0,.pointer none,.pointer none,.slice none 0 0,.slice none 0 0,.int .i64 (-1),.int .i64 (-1)] 107);exact ⟨hM.mono,h.later hM,LR _,h.lt.1,h.lt.2,hl,.slice none 0 0,.pointer none,.pointer none,.slice none 0 0,.slice none 0 0,QN w _,fun _ => ⟨.inl ⟨rfl,rfl⟩,rfl,rfl,.inl ⟨rfl,rfl⟩,.inl ⟨rfl,rfl⟩⟩⟩
theorem zmE {l:List Tok} (h:WfT l) (h2:WfT l.dropLast):WfT l.tail:=by
 obtain ⟨⟨u,h3,h4⟩,h5⟩:=h
 cases l with
 | nil => simp at h3
 | cons t r =>
  cases r with
  | nil => exact absurd rfl h2.ne
  | cons a r => exact ⟨⟨u,by rw [List.getLast?_cons_cons] at h3; exact h3,h4⟩,fun t ht => h5 t (CM _ ht)⟩
set_option maxRecDepth 100000 in
set_option maxHeartbeats 8000000 in
theorem zkk (w:World) (pb tg:Nat) (f:Nat) (s:PS) (h:PSt w pb tg s f) (hl:s.rest.length ≤ 10000) (hw2:WfT s.rest.dropLast) :
  Calls Tryz.prog 25 #[zh pb] w fun e w' => ∃ qb,e = .returned (zh qb) ∧ Mods [pb] w w' ∧ PSt w' pb tg ((zcz (lvl f).expr s).2.of 0).2.2 f ∧ w.heap.size ≤ qb ∧ (((zcz (lvl f).expr s).2.of 0).2.2.e=0 → QueryAt w' [pb] qb (zcz (lvl f).expr s).1):=by
 have hqs:=QInv.start h hl;have hexpr:=fun W s1 (hP:PSt W pb tg s1 f) => ziN W pb tg f s1 hP;have hitem:=fun W s1 (hP:PSt W pb tg s1 f) => zmD W pb tg f s1 hP;have hgE:zbn (lvl f).expr:=(zcP f).expr;generalize (lvl f).expr=E at *;have hkey:=fun W s1 (hP:PSt W pb tg s1 f) => zn5 W pb tg f s1 hP;have hcol:=fun W s1 (hP:PSt W pb tg s1 f) => zjF W pb tg f s1 hP;have HC:=QH (AI hexpr (AI hitem (AI hgE (AI hkey hcol))));have HW:=QH (AI h (AI hl hw2));have hinfo:(Tryz.prog.info? 92).map (·.size)=some 5:=by kernel_rfl
 unfold zh at *;clear h hw2 hl hexpr hitem hgE hkey hcol;obtain ⟨R,hR⟩:=EX (zcz E s);rw [hR];have HR:=QH hR;clear hR;have HQs:=QH hqs;clear hqs;go_enter Tryz.func25, Tryz.ntmps25;go_upto_region 2 with fail;generalize w.alloc (.cells #[.bool false,.slice none 0 0,.string ⟨#[]⟩,.string ⟨#[]⟩,.int .i64 0,.int .i64 0,.pointer none,.pointer none,.slice none 0 0,.slice none 0 0,.int .i64 (-1),.int .i64 (-1)] 107)=V at *;generalize hqb:w.heap.size=qb at *;have hwa:Calls Tryz.prog 51 #[zh pb,.slice (some ⟨V.heap.size,0,none⟩) 1 1] (V.alloc (.cells #[.string ⟨#[83,69,76,69,67,84]⟩] 9)) _:=zcJ V pb tg _ f HQs.out.pst wSelect;unfold zh at hwa;go_wp2_with fail;(with_reducible refine hwa.mono ?_);rintro e Va ⟨rfl,hMz,hPz⟩;have hqz:=HQs.out.go hMz hPz (Aft.wants _ _);have HQsw:=QH hqz;clear hwa hMz hPz hqz;obtain ⟨x1,hx1⟩:=EX (q1 E s);obtain ⟨⟨b,s1⟩,ht⟩ : ∃ y,(s.wants [wSelect]).takes wStar=y:=⟨_,rfl⟩;have htk:Calls Tryz.prog 52 #[zh pb,.string ⟨#[42]⟩] Va _:=zU Va pb tg (s.wants [wSelect]) f HQsw.out.pst wStar;have hta:=Aft.takes (s.wants [wSelect]) wStar;rw [ht] at htk hta;unfold zh at htk;have HX1:=QH hx1;have HT:=QH (AI ht hta);clear hx1 ht hta HQs;go_wp2_with fail;(with_reducible refine htk.mono ?_);rintro e Vb ⟨rfl,hMb,hPb⟩;have hqb1:=HQsw.out.go hMb hPb HT.out.2;obtain ⟨vy,hvy⟩:=hqb1.cell 0 AD;have hfy:=hqb1.frozen 0;have hqp:=hqb1.putStar b;have hcy:=zdR (v:=.bool b) hvy;have HQ:=QH hqp;clear htk hMb hPb hqb1 hqp HQsw;go_upto_if 18 with fail;generalize Vb.setCell ⟨qb,0,none⟩ (.bool b)=W1 at *;clear hvy hfy hcy;go_cut [] from 19 to 25 (fun wx => QInv pb tg f w qb x1 wx)
 case first =>
  cases b with
  | true =>
   have fin:QInv pb tg f w qb x1 W1:=by
    have hx:x1=({ star:=true },s1):=by rw [← HX1.out]; unfold q1; simp only [HT.out.1]; rfl
    rw [hx]; exact HQ.out
   have HF:=QH fin;clear fin HQ HT;rw [Bool.not_true];go_wp2_with fail
   go_meet
   exact HF.out
  | false =>
   rw [Bool.not_false];have hca:=zkS W1 pb tg f s1 HQ.out.pst HQ.out.2.2.2.2.2.1 _ (zca HC.out.2.2.1) HC.out.2.1;unfold zh at hca;go_wp2_with fail;(with_reducible refine hca.mono ?_);rintro e W2 ⟨g,cap,css,rfl,hMy,hPy,hgy,hgy2,hcy,hcells,hAy⟩;have hqy:=HQ.out.go hMy hPy (zba (zca HC.out.2.2.1) s1);obtain ⟨vy,hvy⟩:=hqy.cell 1 AD;have hfy:=hqy.frozen 1;have hqp:=hqy.putItems (.slice (some ⟨g,0,none⟩) (zad (zbv E) s1).1.length cap) (zad (zbv E) s1).1 (fun he => ListRes.listAt itemRep HQ.out.lts hgy hcy hcells (hAy he));clear hca hgy hgy2 hcy hcells hAy;have hx:x1=({ items:=(zad (zbv E) s1).1 },(zad (zbv E) s1).2):=by rw [← HX1.out]; unfold q1; simp only [HT.out.1]; rfl
   exact yaR
 case rest =>
 have HQ1:=QH hcut;clear HQ HT hcut;generalize wc=V1 at *;have hwa:Calls Tryz.prog 51 #[zh pb,.slice (some ⟨V1.heap.size,0,none⟩) 1 1] (V1.alloc (.cells #[.string ⟨#[70,82,79,77]⟩] 9)) _:=zcJ V1 pb tg _ f HQ1.out.pst wFrom;unfold zh at hwa;go_wp2_with fail;(with_reducible refine hwa.mono ?_);rintro e Va ⟨rfl,hMz,hPz⟩;have hqz:=HQ1.out.go hMz hPz (Aft.wants _ _);have HQ1w:=QH hqz;clear hwa hMz hPz hqz;have hnow:=zaO Va pb tg _ f HQ1w.out.pst;have hfd1:=zaA (x1.2.wants [wFrom]).now;unfold zh at hnow;go_wp2_with fail;(with_reducible refine hnow.mono ?_);rintro e Vb ⟨rfl,hMb⟩;have hqb1:=HQ1w.out.later hMb;obtain ⟨vy,hvy⟩:=hqb1.cell 4 AD;have hfy:=hqb1.frozen 4;have hqp:=hqb1.putSrcAt (x1.2.wants [wFrom]).now.pos;have HQ:=QH hqp;clear hnow hMb hqb1 hqp HQ1w;go_upto_region 8 with fail;generalize Vb.setCell ⟨qb,4,none⟩ (.int .i64 (x1.2.wants [wFrom]).now.pos)=Vc at *;clear hvy hfy;have hca:=zdt Vc pb tg _ f HQ.out.pst;unfold zh at hca;go_wp2_with fail;(with_reducible refine hca.mono ?_);rintro e Vd ⟨rfl,hMy,hPy⟩;have hqy:=HQ.out.go hMy hPy (Aft.name _);obtain ⟨vy,hvy⟩:=hqy.cell 2 AD;have hfy:=hqy.frozen 2;have hqp:=hqy.putSrc (x1.2.wants [wFrom]).name.1;have HQ2:=QH hqp;obtain ⟨x2,hx2⟩:=EX (q2 x1);have HX2:=QH hx2;clear hca hMy hPy hqy hqp HQ hx2;go_upto_region 9 with fail;generalize Vd.setCell ⟨qb,2,none⟩ (.string ⟨(x1.2.wants [wFrom]).name.1.toArray⟩)=V2 at *;clear hvy hfy;replace HQ2:Hid (QInv pb tg f w qb x2 V2):=QH (by rw [← HX2.out]; exact HQ2.out);obtain ⟨x3,hx3⟩:=EX (q3 E x2);obtain ⟨⟨b,s1⟩,ht⟩ : ∃ y,x2.2.takes wJoin=y:=⟨_,rfl⟩;have htk:Calls Tryz.prog 52 #[zh pb,.string ⟨#[74,79,73,78]⟩] V2 _:=zU V2 pb tg x2.2 f HQ2.out.pst wJoin;have hta:=Aft.takes x2.2 wJoin;rw [ht] at htk hta;unfold zh at htk;have HX3:=QH hx3;have HT:=QH (AI ht hta);clear hx3 ht hta;go_upto_if 41 with ((with_reducible refine htk.mono ?_); rintro e W1 ⟨rfl,hM1,hP1⟩);have hq1:=HQ2.out.go hM1 hP1 HT.out.2;have HQ:=QH hq1;clear htk hM1 hP1 hq1 HQ2;go_cut [] from 42 to 60 (fun wx => QInv pb tg f w qb x3 wx)
 case first =>
  cases b with
  | false =>
   have fin:QInv pb tg f w qb x3 W1:=by
    have hx:x3=(x2.1,s1):=by rw [← HX3.out]; unfold q3; simp only [HT.out.1]; rfl
    rw [hx]; exact HQ.out
   exact ybh
  | true =>
   have hnow:=zaO W1 pb tg s1 f HQ.out.pst;have hfd1:=zaA s1.now;unfold zh at hnow;go_wp2_with fail;(with_reducible refine hnow.mono ?_);rintro e Vb ⟨rfl,hMb⟩;have hqb1:=HQ.out.later hMb;obtain ⟨vy,hvy⟩:=hqb1.cell 5 AD;have hfy:=hqb1.frozen 5;have hqp:=hqb1.putJoinAt s1.now.pos;have HQb:=QH hqp;clear hnow hMb hqb1 hqp HQ;go_upto_region 11 with fail;generalize Vb.setCell ⟨qb,5,none⟩ (.int .i64 s1.now.pos)=Vc at *;clear hvy hfy hfd1;have hca:=zdt Vc pb tg _ f HQb.out.pst;unfold zh at hca;go_wp2_with fail;(with_reducible refine hca.mono ?_);rintro e Vd ⟨rfl,hMy,hPy⟩;have hqy:=HQb.out.go hMy hPy (Aft.name _);obtain ⟨vy,hvy⟩:=hqy.cell 3 AD;have hfy:=hqy.frozen 3;have hqp:=hqy.putJoin s1.name.1;have HQc:=QH hqp;clear hca hMy hPy hqy hqp HQb;go_upto_region 12 with fail;generalize Vd.setCell ⟨qb,3,none⟩ (.string ⟨s1.name.1.toArray⟩)=Ve at *;clear hvy hfy;have hwa:Calls Tryz.prog 51 #[zh pb,.slice (some ⟨Ve.heap.size,0,none⟩) 1 1] (Ve.alloc (.cells #[.string ⟨#[79,78]⟩] 9)) _:=zcJ Ve pb tg _ f HQc.out.pst wOn;unfold zh at hwa;go_wp2_with fail;(with_reducible refine hwa.mono ?_);rintro e Vf ⟨rfl,hMz,hPz⟩;have hqz:=HQc.out.go hMz hPz (Aft.wants _ _);have HQcw:=QH hqz;clear hwa hMz hPz hqz;have hca:=HC.out.1 Vf _ HQcw.out.pst;unfold zh at hca;go_wp2_with fail;(with_reducible refine hca.mono ?_);rintro e Vg ⟨b2,rfl,hMy,hPy,hEy⟩;have hqy:=HQcw.out.go hMy hPy (HC.out.2.2.1 _);obtain ⟨vy,hvy⟩:=hqy.cell 6 AD;have hfy:=hqy.frozen 6;have hqp:=hqy.putOn (zh b2) (E (s1.name.2.wants [wOn])).1 (fun he => PRes.optAt HQcw.out.lts (hEy he));unfold zh at *;clear hca hEy HQc;have HQ:=HQcw;clear HQcw;have hx:x3=({ x2.1 with joinAt:=s1.now.pos,join:=s1.name.1,on:=some (E (s1.name.2.wants [wOn])).1 },(E (s1.name.2.wants [wOn])).2):=by rw [← HX3.out]; unfold q3; simp only [HT.out.1]; rfl
   exact yaR
 case rest =>
 have HQ3:=QH hcut;clear HQ HT hcut;generalize wc=V3 at *;obtain ⟨x4,hx4⟩:=EX (q4 E x3);obtain ⟨⟨b,s1⟩,ht⟩ : ∃ y,x3.2.takes wWhere=y:=⟨_,rfl⟩;have htk:Calls Tryz.prog 52 #[zh pb,.string ⟨#[87,72,69,82,69]⟩] V3 _:=zU V3 pb tg x3.2 f HQ3.out.pst wWhere;have hta:=Aft.takes x3.2 wWhere;rw [ht] at htk hta;unfold zh at htk;have HX4:=QH hx4;have HT:=QH (AI ht hta);clear hx4 ht hta;go_upto_if 62 with ((with_reducible refine htk.mono ?_); rintro e W1 ⟨rfl,hM1,hP1⟩);have hq1:=HQ3.out.go hM1 hP1 HT.out.2;have HQ:=QH hq1;clear htk hM1 hP1 hq1 HQ3;go_cut [] from 63 to 67 (fun wx => QInv pb tg f w qb x4 wx)
 case first =>
  cases b with
  | false =>
   have fin:QInv pb tg f w qb x4 W1:=by
    have hx:x4=(x3.1,s1):=by rw [← HX4.out]; unfold q4; simp only [HT.out.1]; rfl
    rw [hx]; exact HQ.out
   exact ybh
  | true =>
   have hca:=HC.out.1 W1 s1 HQ.out.pst;unfold zh at hca;go_wp2_with fail;(with_reducible refine hca.mono ?_);rintro e Vg ⟨b2,rfl,hMy,hPy,hEy⟩;have hqy:=HQ.out.go hMy hPy (HC.out.2.2.1 _);obtain ⟨vy,hvy⟩:=hqy.cell 7 AD;have hfy:=hqy.frozen 7;have hqp:=hqy.putWhr (zh b2) (E s1).1 (fun he => PRes.optAt HQ.out.lts (hEy he));unfold zh at *;clear hca hEy;have hx:x4=({ x3.1 with whr:=some (E s1).1 },(E s1).2):=by rw [← HX4.out]; unfold q4; simp only [HT.out.1]; rfl
   exact yaR
 case rest =>
 have HQ4:=QH hcut;clear HQ HT hcut;generalize wc=V4 at *;obtain ⟨x5,hx5⟩:=EX (q5 x4);obtain ⟨⟨b,s1⟩,ht⟩ : ∃ y,x4.2.takes wGroup=y:=⟨_,rfl⟩;have htk:Calls Tryz.prog 52 #[zh pb,.string ⟨#[71,82,79,85,80]⟩] V4 _:=zU V4 pb tg x4.2 f HQ4.out.pst wGroup;have hta:=Aft.takes x4.2 wGroup;rw [ht] at htk hta;unfold zh at htk;have HX5:=QH hx5;have HT:=QH (AI ht hta);clear hx5 ht hta;go_upto_if 69 with ((with_reducible refine htk.mono ?_); rintro e W1 ⟨rfl,hM1,hP1⟩);have hq1:=HQ4.out.go hM1 hP1 HT.out.2;have HQ:=QH hq1;clear htk hM1 hP1 hq1 HQ4;go_cut [] from 70 to 79 (fun wx => QInv pb tg f w qb x5 wx)
 case first =>
  cases b with
  | false =>
   have fin:QInv pb tg f w qb x5 W1:=by
    have hx:x5=(x4.1,s1):=by rw [← HX5.out]; unfold q5; simp only [HT.out.1]; rfl
    rw [hx]; exact HQ.out
   exact ybh
  | true =>have gAW:=QH trivial;exact ydg
 case rest =>
 have HQ5:=QH hcut;clear HQ HT hcut;generalize wc=V5 at *;obtain ⟨x6,hx6⟩:=EX (q6 x5);obtain ⟨⟨b,s1⟩,ht⟩ : ∃ y,x5.2.takes wOrder=y:=⟨_,rfl⟩;have htk:Calls Tryz.prog 52 #[zh pb,.string ⟨#[79,82,68,69,82]⟩] V5 _:=zU V5 pb tg x5.2 f HQ5.out.pst wOrder;have hta:=Aft.takes x5.2 wOrder;rw [ht] at htk hta;unfold zh at htk;have HX6:=QH hx6;have HT:=QH (AI ht hta);clear hx6 ht hta;go_upto_if 81 with ((with_reducible refine htk.mono ?_); rintro e W1 ⟨rfl,hM1,hP1⟩);have hq1:=HQ5.out.go hM1 hP1 HT.out.2;have HQ:=QH hq1;clear htk hM1 hP1 hq1 HQ5;go_cut [] from 82 to 91 (fun wx => QInv pb tg f w qb x6 wx)
 case first =>
  cases b with
  | false =>
   have fin:QInv pb tg f w qb x6 W1:=by
    have hx:x6=(x5.1,s1):=by rw [← HX6.out]; unfold q6; simp only [HT.out.1]; rfl
    rw [hx]; exact HQ.out
   exact ybh
  | true =>have gAX:=QH trivial;exact ydg
 case rest =>
 have HQ6:=QH hcut;clear HQ HT hcut;generalize wc=V6 at *;obtain ⟨x7,hx7⟩:=EX (q7 x6);obtain ⟨⟨b,s1⟩,ht⟩ : ∃ y,x6.2.takes wLimit=y:=⟨_,rfl⟩;have htk:Calls Tryz.prog 52 #[zh pb,.string ⟨#[76,73,77,73,84]⟩] V6 _:=zU V6 pb tg x6.2 f HQ6.out.pst wLimit;have hta:=Aft.takes x6.2 wLimit;rw [ht] at htk hta;unfold zh at htk;have HX7:=QH hx7;have HT:=QH (AI ht hta);clear hx7 ht hta;go_upto_if 93 with ((with_reducible refine htk.mono ?_); rintro e W1 ⟨rfl,hM1,hP1⟩);have hq1:=HQ6.out.go hM1 hP1 HT.out.2;have HQ:=QH hq1;clear htk hM1 hP1 hq1 HQ6;go_cut [] from 94 to 98 (fun wx => QInv pb tg f w qb x7 wx)
 case first =>
  cases b with
  | false =>
   have fin:QInv pb tg f w qb x7 W1:=by
    have hx:x7=(x6.1,s1):=by rw [← HX7.out]; unfold q7; simp only [HT.out.1]; rfl
    rw [hx]; exact HQ.out
   exact ybh
  | true =>
   have hca:=zeU W1 pb tg s1 f HQ.out.pst;unfold zh at hca;go_wp2_with fail;(with_reducible refine hca.mono ?_);rintro e W2 ⟨rfl,hMy,hPy⟩;have hqy:=HQ.out.go hMy hPy (zbM s1);obtain ⟨vy,hvy⟩:=hqy.cell 10 AD;have hfy:=hqy.frozen 10;have hqp:=hqy.putLimit s1.count.1;clear hca;have hx:x7=({ x6.1 with limit:=s1.count.1 },s1.count.2):=by rw [← HX7.out]; unfold q7; simp only [HT.out.1]; rfl
   exact yaR
 case rest =>
 have HQ7:=QH hcut;clear HQ HT hcut;generalize wc=V7 at *;obtain ⟨x8,hx8⟩:=EX (q8 x7);obtain ⟨⟨b,s1⟩,ht⟩ : ∃ y,x7.2.takes wOffset=y:=⟨_,rfl⟩;have htk:Calls Tryz.prog 52 #[zh pb,.string ⟨#[79,70,70,83,69,84]⟩] V7 _:=zU V7 pb tg x7.2 f HQ7.out.pst wOffset;have hta:=Aft.takes x7.2 wOffset;rw [ht] at htk hta;unfold zh at htk;have HX8:=QH hx8;have HT:=QH (AI ht hta);clear hx8 ht hta;go_upto_if 100 with ((with_reducible refine htk.mono ?_); rintro e W1 ⟨rfl,hM1,hP1⟩);have hq1:=HQ7.out.go hM1 hP1 HT.out.2;have HQ:=QH hq1;clear htk hM1 hP1 hq1 HQ7;go_cut [] from 101 to 105 (fun wx => QInv pb tg f w qb x8 wx)
 case first =>
  cases b with
  | false =>
   have fin:QInv pb tg f w qb x8 W1:=by
    have hx:x8=(x7.1,s1):=by rw [← HX8.out]; unfold q8; simp only [HT.out.1]; rfl
    rw [hx]; exact HQ.out
   exact ybh
  | true =>
   have hca:=zeU W1 pb tg s1 f HQ.out.pst;unfold zh at hca;go_wp2_with fail;(with_reducible refine hca.mono ?_);rintro e W2 ⟨rfl,hMy,hPy⟩;have hqy:=HQ.out.go hMy hPy (zbM s1);obtain ⟨vy,hvy⟩:=hqy.cell 11 AD;have hfy:=hqy.frozen 11;have hqp:=hqy.putOffset s1.count.1;clear hca;have hx:x8=({ x7.1 with offset:=s1.count.1 },s1.count.2):=by rw [← HX8.out]; unfold q8; simp only [HT.out.1]; rfl
   exact yaR
 case rest =>
 have HQ8:=QH hcut;clear HQ HT hcut;generalize wc=V8 at *;have hxR:R=x8:=by rw [← HR.out,← HX8.out,← HX7.out,← HX6.out,← HX5.out,← HX4.out,← HX3.out,← HX2.out,← HX1.out]; rfl
 have hwfw:WfT x8.2.rest.tail:=by
  have h1:WfT x8.2.rest:=by obtain ⟨l,-,-,h3,-⟩:=HQ8.out.pst; exact h3
  have h2:WfT x8.2.rest.dropLast:=by rw [← hxR,← HR.out];exact (zkR HC.out.2.2.1 s).wf2 HW.out.2.2
  exact zmE h1 h2
 have hof:Calls Tryz.prog 63 #[zh pb,.int .i64 0] V8 _:=zkC V8 pb tg x8.2 f HQ8.out.pst 0 (fun _ _ => hwfw);unfold zh at hof;have hfail:(x8.2.of 0).2.2.e=0 → x8.2.e=0:=by
  unfold PS.of;split
  ·rename_i h1; exact fun _ => h1.1
  ·intro h1;unfold PS.fail at h1;split at h1
   ·cases h1
   ·exact h1
 have HF:=QH (AI hfail (AI hqb hxR));clear hfail hwfw hxR hqb;go_wp2_with fail;(with_reducible refine hof.mono ?_);rintro e Ve ⟨rfl,hMe,hPe⟩;clear hof;go_wp2_with fail;go_ret;rw [HF.out.2.2];obtain ⟨z1,z2,z3,z4,z5,z6,vi,von,vwh,vg,vo,z7,z8⟩:=HQ8.out;refine ⟨qb,rfl,z1.trans hMe,hPe,z3,fun he => ⟨vi,von,vwh,vg,vo,hMe.heap z7 AE,?_⟩⟩;have q:=(z8 (HF.out.1 he)).mods (hMe.mono);exact ⟨q.1.weaken itemRep AB,q.2.1.weaken AB,q.2.2.1.weaken AB,q.2.2.2.1.weaken treeRep AB,q.2.2.2.2.weaken keyRep AB⟩
end Go.Proofs.YtcabeljiobiojaaGreatDoor
