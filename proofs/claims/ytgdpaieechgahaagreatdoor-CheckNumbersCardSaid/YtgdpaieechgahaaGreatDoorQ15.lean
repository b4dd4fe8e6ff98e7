/-
  parse's key, walked. No condition.
-/
import Derived.Test.YtgdpaieechgahaaGreatDoorQ14
import Derived.Test.YtgdpaieechgahaaGreatDoorQ13
namespace Go.Proofs.YtgdpaieechgahaaGreatDoor
open Go.RowKit
set_option linter.unusedVariables false
set_option maxRecDepth 100000 in
set_option maxHeartbeats 1000000 in
theorem zjf (w:World) (pb tg:Nat) (f:Nat) (s:PS) (h:PSt w pb tg s f) :
  Calls Tryz.prog 49 #[PtrV pb] w (KeyRes pb tg f keyF s w):=by
 have hpw:=h.lt
 have hMr:=(Mods.refl [] w).alloc (.cells #[.int .i64 0,.int .i64 0,.string ⟨#[]⟩,.bool false] 92)
 have hP1:=h.later hMr
 have hnow:=zZ _ pb tg s f hP1
 have hfd0:=zc0 s.now
 have hfd1:=zW s.now
 have hrow:=heap_alloc_new w (.cells #[.int .i64 0,.int .i64 0,.string ⟨#[]⟩,.bool false] 92)
 have hinfo:(Tryz.prog.info? 92).map (·.size)=some 4:=by kernel_rfl
 have FIN:Hid (∀ (k:Int) (nm:Bs) (d:Bool) s' w',Mods [pb] w w' → PSt w' pb tg s' f → keyF s=(⟨s.now.pos,k,nm,d⟩,s') → KeyRes pb tg f keyF s w (.returned (.agg #[.int .i64 s.now.pos,.int .i64 k,.string ⟨nm.toArray⟩,.bool d])) w'):=
  Lib.hid (fun k nm d s' w' a1 a2 a3 => ⟨_,_,_,_,rfl,a1,by rw [a3]; exact a2,fun he L hL => by rw [a3]; rfl⟩)
 have HH:=Lib.hid (And.intro hMr (And.intro hrow hP1))
 have HKF:Hid (keyF s=(⟨s.now.pos,(keyHead s).1.1,(keyHead s).1.2,((keyHead s).2.takes wDesc).1⟩,if ((keyHead s).2.takes wDesc).1=true then ((keyHead s).2.takes wDesc).2 else (((keyHead s).2.takes wDesc).2.takes wAsc).2)):=Lib.hid rfl
 have HHD:Hid (keyHead s=if s.now.kind=2 then ((0,s.name.1),s.name.2) else ((s.count.1,[]),s.count.2)):=Lib.hid rfl
 unfold PtrV at *
 clear h hP1 hrow hMr
 go_enter Tryz.func49, Tryz.ntmps49
 go_wp2_with fail
 (with_reducible refine hnow.mono ?_)
 rintro e w2 ⟨rfl,hM2⟩
 clear hnow
 have hs2:=hM2.size
 have hrow2:=hM2.heap HH.out.2.1 (by simp)
 have hMw2:Mods [] w w2:=HH.out.1.trans hM2 (by simp)
 have hP2:=HH.out.2.2.later hM2
 have hz3:=(Mods.refl [] w2).alloc (.cells #[.int .i64 s.now.pos,.int .i64 0,.string ⟨#[]⟩,.bool false] 92)
 have hi3:=heap_alloc_new w2 (.cells #[.int .i64 s.now.pos,.int .i64 0,.string ⟨#[]⟩,.bool false] 92)
 have hrow3:=hz3.heap hrow2 (by simp)
 have hnow3:=zZ _ pb tg s f (hP2.later hz3)
 unfold PtrV at hnow3
 have hrbl:w.heap.size < w2.heap.size:=zi hrow2
 have HM2:=Lib.hid (And.intro (hMw2.mono (L':=[pb]) (by simp)) hz3)
 have HP3:=Lib.hid (hP2.later hz3)
 clear hP2 hM2 hrow2 hMw2 HH hz3 hs2
 generalize hrb:w.heap.size=rb at *
 generalize hib:w2.heap.size=ib at *
 go_wp2_with fail
 (with_reducible refine hnow3.mono ?_)
 rintro e w4 ⟨rfl,hM4⟩
 clear hnow3
 have hi4:=hM4.heap hi3 (by simp)
 have hrow4:=hM4.heap hrow3 (by simp)
 have hP4:=HP3.out.later hM4
 have hM24:Mods [ib,rb,pb] w2 w4:=(HM2.out.2.mono (L':=[ib,rb,pb]) (by simp)).trans hM4 (by simp)
 have HM24:=Lib.hid (And.intro HM2.out.1 hM24)
 clear hi3 hrow3 hM4 hM24 HM2 HP3
 by_cases hk:s.now.kind=2
 ·have hhd:keyHead s=((0,s.name.1),s.name.2):=by rw [HHD.out,if_pos hk]
  have z0:((s.now.kind:Int) == 2)=true:=by rw [hk]; rfl
  have hc:=zbi w4 pb tg s f hP4
  have HHd:=Lib.hid hhd
  unfold PtrV at hc
  clear hk hhd HHD hP4
  generalize s.name=r at *
  obtain ⟨n6,s6⟩:=r
  go_wp2_with fail
  (with_reducible refine hc.mono ?_)
  rintro e w5 ⟨rfl,hM5,hP5⟩
  have hi5:=hM5.heap hi4 (by simp; omega)
  have hrow5:=hM5.heap hrow4 (by simp; omega)
  have c2:=za hi5 2
  have f2:=zd hi5 2
  change w5.cell? _=some (.string ⟨#[]⟩) at c2
  clear hc
  go_upto_region 5 with fail
  have hM6:Mods [ib] w5 (w5.setCell ⟨ib,2,none⟩ (.string ⟨n6.toArray⟩)):=(Mods.refl _ _).setCell (.inl (by simp)) _
  have hi6:=zb hi5 2 (.string ⟨n6.toArray⟩)
  have hrow6:=hM6.heap hrow5 (by simp; omega)
  have hP6:=hP5.mods hM6 (by simp; omega) (by simp; omega)
  have hM26:=(HM24.out.2.trans hM5 (L':=[pb]) (by simp)).trans hM6 (by simp)
  have HM26:=Lib.hid (And.intro HM24.out.1 hM26)
  change (w5.setCell ⟨ib,2,none⟩ (.string ⟨n6.toArray⟩)).heap[ib]? = some (.cells #[.int .i64 s.now.pos,.int .i64 0,.string ⟨n6.toArray⟩,.bool false] 92 (0,0)) at hi6
  clear hM26 HM24 hM6 hi5 hrow5 c2 f2 hM5 hP5 hi4 hrow4
  generalize w5.setCell ⟨ib,2,none⟩ (.string ⟨n6.toArray⟩)=w6 at *
  have htd:Calls Tryz.prog 40 #[PtrV pb,.string ⟨#[68,69,83,67]⟩] w6 _:=zD w6 pb tg s6 f hP6 wDesc
  unfold PtrV at htd
  have hkf:keyF s=(⟨s.now.pos,0,n6,(s6.takes wDesc).1⟩,if (s6.takes wDesc).1=true then (s6.takes wDesc).2 else ((s6.takes wDesc).2.takes wAsc).2):=by rw [HKF.out,HHd.out]
  have HK2:=Lib.hid hkf
  clear hkf HKF HHd hP6
  generalize s6.takes wDesc=r7 at *
  obtain ⟨d7,s7⟩:=r7
  go_wp2_with fail
  (with_reducible refine htd.mono ?_)
  rintro e w7 ⟨rfl,hM7,hP7⟩
  have hi7:=hM7.heap hi6 (by simp; omega)
  have hrow7:=hM7.heap hrow6 (by simp; omega)
  have c3:=za hi7 3
  have f3:=zd hi7 3
  change w7.cell? _=some (.bool false) at c3
  clear htd
  go_upto_region 6 with fail
  have hM8:Mods [ib] w7 (w7.setCell ⟨ib,3,none⟩ (.bool d7)):=(Mods.refl _ _).setCell (.inl (by simp)) _
  have hi8:=zb hi7 3 (.bool d7)
  have hrow8:=hM8.heap hrow7 (by simp; omega)
  have hP8:=hP7.mods hM8 (by simp; omega) (by simp; omega)
  have hM28:=(HM26.out.2.trans hM7 (by simp)).trans hM8 (by simp)
  have HM28:=Lib.hid (And.intro HM26.out.1 hM28)
  change (w7.setCell ⟨ib,3,none⟩ (.bool d7)).heap[ib]? = some (.cells #[.int .i64 s.now.pos,.int .i64 0,.string ⟨n6.toArray⟩,.bool d7] 92 (0,0)) at hi8
  clear hM28 HM26 hM8 hi7 hrow7 c3 f3 hM7 hP7 hi6 hrow6
  generalize w7.setCell ⟨ib,3,none⟩ (.bool d7)=w8 at *
  have c3:=za hi8 3
  change w8.cell? _=some (.bool d7) at c3
  cases d7 with
  | true =>
   have HK3:Hid (keyF s=(⟨s.now.pos,0,n6,true⟩,s7)):=Lib.hid HK2.out
   clear HK2
   have k0:=za hi8 0
   have k1:=za hi8 1
   have k2:=za hi8 2
   have k3:=za hi8 3
   change w8.cell? _=some (.int .i64 s.now.pos) at k0
   change w8.cell? _=some (.int .i64 0) at k1
   change w8.cell? _=some (.string ⟨n6.toArray⟩) at k2
   change w8.cell? _=some (.bool true) at k3
   go_wp2_with (refine wpList_store_row rfl 92 (.tmp 2) (.tmp 26) rfl rb #[.int .i64 s.now.pos,.int .i64 0,.string ⟨n6.toArray⟩,.bool true] rfl rfl 92 _ hrow8 hinfo rfl (zdx _ _ _ _) ?_)
   have hMe:Mods [rb] w8 (w8.setRow rb #[.int .i64 s.now.pos,.int .i64 0,.string ⟨n6.toArray⟩,.bool true]):=(Mods.refl _ _).setRow (.inl (by simp)) _
   have hre:=zh #[.int .i64 s.now.pos,.int .i64 0,.string ⟨n6.toArray⟩,.bool true] hrow8
   have hPe:=hP8.mods hMe (by simp; omega) (by simp; omega)
   have hM2e:=HM28.out.2.trans hMe (by simp)
   generalize w8.setRow rb #[.int .i64 s.now.pos,.int .i64 0,.string ⟨n6.toArray⟩,.bool true]=we at *
   have q0:=za hre 0
   have q1:=za hre 1
   have q2:=za hre 2
   have q3:=za hre 3
   change we.cell? _=some (.int .i64 s.now.pos) at q0
   change we.cell? _=some (.int .i64 0) at q1
   change we.cell? _=some (.string ⟨n6.toArray⟩) at q2
   change we.cell? _=some (.bool true) at q3
   refine bodyPost_ret (by simp [results,Tryz.results49, go_sem,q0,q1,q2,q3,Result.andThen]; try rfl) rfl ?_
   exact FIN.out 0 n6 true s7 we (HM28.out.1.trans hM2e (fun x hx => by simp at hx; rcases hx with h | h | h <;> simp [h] <;> omega)) hPe HK3.out
  | false =>
   have HK3:Hid (keyF s=(⟨s.now.pos,0,n6,false⟩,(s7.takes wAsc).2)):=Lib.hid HK2.out
   have hta:Calls Tryz.prog 40 #[PtrV pb,.string ⟨#[65,83,67]⟩] w8 _:=zD w8 pb tg s7 f hP8 wAsc
   unfold PtrV at hta
   clear HK2 hP8
   go_wp2_with fail
   (with_reducible refine hta.mono ?_)
   rintro e w9 ⟨rfl,hM9,hP9⟩
   generalize (s7.takes wAsc).2=s9 at *
   have hi9:=hM9.heap hi8 (by simp; omega)
   have hrow9:=hM9.heap hrow8 (by simp; omega)
   have HM29:=Lib.hid (And.intro HM28.out.1 (HM28.out.2.trans hM9 (by simp)))
   clear hta c3 hi8 hrow8 hM9 HM28
   have k0:=za hi9 0
   have k1:=za hi9 1
   have k2:=za hi9 2
   have k3:=za hi9 3
   change w9.cell? _=some (.int .i64 s.now.pos) at k0
   change w9.cell? _=some (.int .i64 0) at k1
   change w9.cell? _=some (.string ⟨n6.toArray⟩) at k2
   change w9.cell? _=some (.bool false) at k3
   go_wp2_with (refine wpList_store_row rfl 92 (.tmp 2) (.tmp 26) rfl rb #[.int .i64 s.now.pos,.int .i64 0,.string ⟨n6.toArray⟩,.bool false] rfl rfl 92 _ hrow9 hinfo rfl (zdx _ _ _ _) ?_)
   have hMe:Mods [rb] w9 (w9.setRow rb #[.int .i64 s.now.pos,.int .i64 0,.string ⟨n6.toArray⟩,.bool false]):=(Mods.refl _ _).setRow (.inl (by simp)) _
   have hre:=zh #[.int .i64 s.now.pos,.int .i64 0,.string ⟨n6.toArray⟩,.bool false] hrow9
   have hPe:=hP9.mods hMe (by simp; omega) (by simp; omega)
   have hM2e:=HM29.out.2.trans hMe (by simp)
   generalize w9.setRow rb #[.int .i64 s.now.pos,.int .i64 0,.string ⟨n6.toArray⟩,.bool false]=we at *
   have q0:=za hre 0
   have q1:=za hre 1
   have q2:=za hre 2
   have q3:=za hre 3
   change we.cell? _=some (.int .i64 s.now.pos) at q0
   change we.cell? _=some (.int .i64 0) at q1
   change we.cell? _=some (.string ⟨n6.toArray⟩) at q2
   change we.cell? _=some (.bool false) at q3
   refine bodyPost_ret (by simp [results,Tryz.results49, go_sem,q0,q1,q2,q3,Result.andThen]; try rfl) rfl ?_
   exact FIN.out 0 n6 false s9 we (HM29.out.1.trans hM2e (fun x hx => by simp at hx; rcases hx with h | h | h <;> simp [h] <;> omega)) hPe HK3.out
 ·have hhd:keyHead s=((s.count.1,[]),s.count.2):=by rw [HHD.out,if_neg hk]
  have z0:((s.now.kind:Int) == 2)=false:=by rw [beq_eq_false_iff_ne]; omega
  have z1:¬ (s.now.kind:Int)=2:=by omega
  have hc:=zcm w4 pb tg s f hP4
  have HHd:=Lib.hid hhd
  unfold PtrV at hc
  clear hk hhd HHD hP4
  generalize s.count=r at *
  obtain ⟨i6,s6⟩:=r
  go_wp2_with fail
  (with_reducible refine hc.mono ?_)
  rintro e w5 ⟨rfl,hM5,hP5⟩
  have hi5:=hM5.heap hi4 (by simp; omega)
  have hrow5:=hM5.heap hrow4 (by simp; omega)
  have c2:=za hi5 1
  have f2:=zd hi5 1
  change w5.cell? _=some (.int .i64 0) at c2
  clear hc
  go_upto_region 5 with fail
  have hM6:Mods [ib] w5 (w5.setCell ⟨ib,1,none⟩ (.int .i64 i6)):=(Mods.refl _ _).setCell (.inl (by simp)) _
  have hi6:=zb hi5 1 (.int .i64 i6)
  have hrow6:=hM6.heap hrow5 (by simp; omega)
  have hP6:=hP5.mods hM6 (by simp; omega) (by simp; omega)
  have hM26:=(HM24.out.2.trans hM5 (L':=[pb]) (by simp)).trans hM6 (by simp)
  have HM26:=Lib.hid (And.intro HM24.out.1 hM26)
  change (w5.setCell ⟨ib,1,none⟩ (.int .i64 i6)).heap[ib]? = some (.cells #[.int .i64 s.now.pos,.int .i64 i6,.string ⟨([]:Bs).toArray⟩,.bool false] 92 (0,0)) at hi6
  clear hM26 HM24 hM6 hi5 hrow5 c2 f2 hM5 hP5 hi4 hrow4
  generalize w5.setCell ⟨ib,1,none⟩ (.int .i64 i6)=w6 at *
  have htd:Calls Tryz.prog 40 #[PtrV pb,.string ⟨#[68,69,83,67]⟩] w6 _:=zD w6 pb tg s6 f hP6 wDesc
  unfold PtrV at htd
  have hkf:keyF s=(⟨s.now.pos,i6,([]:Bs),(s6.takes wDesc).1⟩,if (s6.takes wDesc).1=true then (s6.takes wDesc).2 else ((s6.takes wDesc).2.takes wAsc).2):=by rw [HKF.out,HHd.out]
  have HK2:=Lib.hid hkf
  clear hkf HKF HHd hP6
  generalize s6.takes wDesc=r7 at *
  obtain ⟨d7,s7⟩:=r7
  go_wp2_with fail
  (with_reducible refine htd.mono ?_)
  rintro e w7 ⟨rfl,hM7,hP7⟩
  have hi7:=hM7.heap hi6 (by simp; omega)
  have hrow7:=hM7.heap hrow6 (by simp; omega)
  have c3:=za hi7 3
  have f3:=zd hi7 3
  change w7.cell? _=some (.bool false) at c3
  clear htd
  go_upto_region 6 with fail
  have hM8:Mods [ib] w7 (w7.setCell ⟨ib,3,none⟩ (.bool d7)):=(Mods.refl _ _).setCell (.inl (by simp)) _
  have hi8:=zb hi7 3 (.bool d7)
  have hrow8:=hM8.heap hrow7 (by simp; omega)
  have hP8:=hP7.mods hM8 (by simp; omega) (by simp; omega)
  have hM28:=(HM26.out.2.trans hM7 (by simp)).trans hM8 (by simp)
  have HM28:=Lib.hid (And.intro HM26.out.1 hM28)
  change (w7.setCell ⟨ib,3,none⟩ (.bool d7)).heap[ib]? = some (.cells #[.int .i64 s.now.pos,.int .i64 i6,.string ⟨([]:Bs).toArray⟩,.bool d7] 92 (0,0)) at hi8
  clear hM28 HM26 hM8 hi7 hrow7 c3 f3 hM7 hP7 hi6 hrow6
  generalize w7.setCell ⟨ib,3,none⟩ (.bool d7)=w8 at *
  have c3:=za hi8 3
  change w8.cell? _=some (.bool d7) at c3
  cases d7 with
  | true =>
   have HK3:Hid (keyF s=(⟨s.now.pos,i6,([]:Bs),true⟩,s7)):=Lib.hid HK2.out
   clear HK2
   have k0:=za hi8 0
   have k1:=za hi8 1
   have k2:=za hi8 2
   have k3:=za hi8 3
   change w8.cell? _=some (.int .i64 s.now.pos) at k0
   change w8.cell? _=some (.int .i64 i6) at k1
   change w8.cell? _=some (.string ⟨([]:Bs).toArray⟩) at k2
   change w8.cell? _=some (.bool true) at k3
   go_wp2_with (refine wpList_store_row rfl 92 (.tmp 2) (.tmp 26) rfl rb #[.int .i64 s.now.pos,.int .i64 i6,.string ⟨([]:Bs).toArray⟩,.bool true] rfl rfl 92 _ hrow8 hinfo rfl (zdx _ _ _ _) ?_)
   have hMe:Mods [rb] w8 (w8.setRow rb #[.int .i64 s.now.pos,.int .i64 i6,.string ⟨([]:Bs).toArray⟩,.bool true]):=(Mods.refl _ _).setRow (.inl (by simp)) _
   have hre:=zh #[.int .i64 s.now.pos,.int .i64 i6,.string ⟨([]:Bs).toArray⟩,.bool true] hrow8
   have hPe:=hP8.mods hMe (by simp; omega) (by simp; omega)
   have hM2e:=HM28.out.2.trans hMe (by simp)
   generalize w8.setRow rb #[.int .i64 s.now.pos,.int .i64 i6,.string ⟨([]:Bs).toArray⟩,.bool true]=we at *
   have q0:=za hre 0
   have q1:=za hre 1
   have q2:=za hre 2
   have q3:=za hre 3
   change we.cell? _=some (.int .i64 s.now.pos) at q0
   change we.cell? _=some (.int .i64 i6) at q1
   change we.cell? _=some (.string ⟨([]:Bs).toArray⟩) at q2
   change we.cell? _=some (.bool true) at q3
   refine bodyPost_ret (by simp [results,Tryz.results49, go_sem,q0,q1,q2,q3,Result.andThen]; try rfl) rfl ?_
   exact FIN.out i6 ([]:Bs) true s7 we (HM28.out.1.trans hM2e (fun x hx => by simp at hx; rcases hx with h | h | h <;> simp [h] <;> omega)) hPe HK3.out
  | false =>
   have HK3:Hid (keyF s=(⟨s.now.pos,i6,([]:Bs),false⟩,(s7.takes wAsc).2)):=Lib.hid HK2.out
   have hta:Calls Tryz.prog 40 #[PtrV pb,.string ⟨#[65,83,67]⟩] w8 _:=zD w8 pb tg s7 f hP8 wAsc
   unfold PtrV at hta
   clear HK2 hP8
   go_wp2_with fail
   (with_reducible refine hta.mono ?_)
   rintro e w9 ⟨rfl,hM9,hP9⟩
   generalize (s7.takes wAsc).2=s9 at *
   have hi9:=hM9.heap hi8 (by simp; omega)
   have hrow9:=hM9.heap hrow8 (by simp; omega)
   have HM29:=Lib.hid (And.intro HM28.out.1 (HM28.out.2.trans hM9 (by simp)))
   clear hta c3 hi8 hrow8 hM9 HM28
   have k0:=za hi9 0
   have k1:=za hi9 1
   have k2:=za hi9 2
   have k3:=za hi9 3
   change w9.cell? _=some (.int .i64 s.now.pos) at k0
   change w9.cell? _=some (.int .i64 i6) at k1
   change w9.cell? _=some (.string ⟨([]:Bs).toArray⟩) at k2
   change w9.cell? _=some (.bool false) at k3
   go_wp2_with (refine wpList_store_row rfl 92 (.tmp 2) (.tmp 26) rfl rb #[.int .i64 s.now.pos,.int .i64 i6,.string ⟨([]:Bs).toArray⟩,.bool false] rfl rfl 92 _ hrow9 hinfo rfl (zdx _ _ _ _) ?_)
   have hMe:Mods [rb] w9 (w9.setRow rb #[.int .i64 s.now.pos,.int .i64 i6,.string ⟨([]:Bs).toArray⟩,.bool false]):=(Mods.refl _ _).setRow (.inl (by simp)) _
   have hre:=zh #[.int .i64 s.now.pos,.int .i64 i6,.string ⟨([]:Bs).toArray⟩,.bool false] hrow9
   have hPe:=hP9.mods hMe (by simp; omega) (by simp; omega)
   have hM2e:=HM29.out.2.trans hMe (by simp)
   generalize w9.setRow rb #[.int .i64 s.now.pos,.int .i64 i6,.string ⟨([]:Bs).toArray⟩,.bool false]=we at *
   have q0:=za hre 0
   have q1:=za hre 1
   have q2:=za hre 2
   have q3:=za hre 3
   change we.cell? _=some (.int .i64 s.now.pos) at q0
   change we.cell? _=some (.int .i64 i6) at q1
   change we.cell? _=some (.string ⟨([]:Bs).toArray⟩) at q2
   change we.cell? _=some (.bool false) at q3
   refine bodyPost_ret (by simp [results,Tryz.results49, go_sem,q0,q1,q2,q3,Result.andThen]; try rfl) rfl ?_
   exact FIN.out i6 ([]:Bs) false s9 we (HM29.out.1.trans hM2e (fun x hx => by simp at hx; rcases hx with h | h | h <;> simp [h] <;> omega)) hPe HK3.out
open Go.RowKit
set_option linter.unusedVariables false
def ColumnRes (pb tg f:Nat) (F:PS → Tree × PS) (s:PS) (w:World) (e:Ending) (w':World):Prop:=
 ∃ (b:Nat),e = .returned (PtrV b) ∧ Mods [pb] w w' ∧ PSt w' pb tg (F s).2 f ∧ ((F s).2.e=0 → ∀ L:List Nat,(∀ x ∈ L,x < w.heap.size) → TreeR w' L [PtrV b] (F s).1)
set_option maxRecDepth 100000 in
set_option maxHeartbeats 4000000 in
theorem zeG (w:World) (pb tg:Nat) (f:Nat) (s:PS) (h:PSt w pb tg s f) (hlen:s.rest.length ≤ 10000) (F:PS → Tree × PS) (hgo:GoesA F)
  (hone:∀ W s1,PSt W pb tg s1 f → Calls Tryz.prog 47 #[PtrV pb] W (ColumnRes pb tg f F s1 W)) :
  Calls Tryz.prog 46 #[PtrV pb,.func (.func 47) #[PtrV pb] #[]] w (ListRes TreeR pb tg f (listF F) s w):=by
 have hpw:=h.lt
 obtain ⟨i0,hi,hz0,hz1,hz2⟩:=info_parts (show (Tryz.prog.info? 82).map (fun i => (i.zero,i.size,i.bytes))=some (some (.pointer none),1,8) by kernel_rfl)
 have h1:=hone w s h
 have HPT:=Lib.hid hone
 have HL0:Hid ((F s).2.rest.length ≤ s.rest.length):=Lib.hid (hgo s).len
 have FIN:Hid (∀ g cap css w' l s2,listF F s=(l,s2) → Mods [pb] w w' → PSt w' pb tg s2 f → w.heap.size ≤ g → g < w'.heap.size → l.length ≤ cap → (∀ j u,css.flatten[j]? = some u → w'.cell? ⟨g,j,none⟩ = some u) → (s2.e=0 → ∀ L:List Nat,(∀ x ∈ L,x < w.heap.size) → AllR TreeR w' (g :: L) css l) → ListRes TreeR pb tg f (listF F) s w (.returned (.slice (some ⟨g,0,none⟩) l.length cap)) w'):=
  Lib.hid (fun g cap css w' l s2 e h1 h2 h3 h3' h4 h5 h6 => ⟨g,cap,css,by rw [e],h1,by rw [e]; exact h2,h3,h3',by rw [e]; exact h4,h5,by rw [e]; exact h6⟩)
 unfold PtrV at *
 clear h hone
 go_enter Tryz.func46, Tryz.ntmps46
 go_wp2_with fail
 (with_reducible refine h1.mono ?_)
 rintro e w1 ⟨b1,rfl,hM1,hP1,hE1⟩
 (try unfold PtrV)
 clear h1
 have HJ:Hid (listF F s=listG F (F s).2.rest.length [(F s).1] (F s).2):=Lib.hid rfl
 have hz:=(Mods.refl [] w1).alloc (.cells #[.pointer (some ⟨b1,0,none⟩)] 82)
 have hbn:=heap_alloc_new w1 (.cells #[.pointer (some ⟨b1,0,none⟩)] 82)
 have hown1:(w1.alloc (.cells #[.pointer (some ⟨b1,0,none⟩)] 82)).ownsRow 0 82 1 (.slice (some ⟨w1.heap.size,0,none⟩) 1 1) 1 [.pointer (some ⟨b1,0,none⟩)]:=⟨rfl,.inr ⟨_,1,_,rfl,Nat.zero_le _,hbn,Nat.le_refl _,by unfold maxLen; omega,rfl,rfl⟩⟩
 have hs1:=hM1.size
 have hstart:Hid ((F s).2.e=0 → ∀ L:List Nat,(∀ x ∈ L,x < w.heap.size) → AllR TreeR (w1.alloc (.cells #[.pointer (some ⟨b1,0,none⟩)] 82)) (w1.heap.size :: L) [[.pointer (some ⟨b1,0,none⟩)]] [(F s).1]):=Lib.hid fun he L hL => ⟨(treeRep.mods (treeRep.fresh (Nat.le_refl _) (hE1 he L hL)) (hz.mono (by simp))),trivial⟩
 have hMs:=hM1.trans (hz.mono (L':=[pb]) (by simp)) (by simp)
 have hPs:=hP1.later hz
 have HS:=Lib.hid (And.intro hMs (And.intro hPs hown1))
 clear hE1 hP1 hbn hown1 hMs hPs hz
 go_wp2_with fail
 go_loopg [5] (F s).2.rest.length (fun gk t5 wr => ∃ (l:List Tree) (s1:PS) (css:List (List Value)) (g cap:Nat),s1.rest.length=gk ∧ t5 = .slice (some ⟨g,0,none⟩) l.length cap ∧ Mods [pb] w wr ∧ PSt wr pb tg s1 f ∧ l.length + s1.rest.length ≤ s.rest.length + 1 ∧ wr.ownsRow 0 82 1 (.slice (some ⟨g,0,none⟩) l.length cap) l.length css.flatten ∧ w.heap.size ≤ g ∧ Hid (listF F s=listG F s1.rest.length l s1) ∧ Hid (s1.e=0 → ∀ L:List Nat,(∀ x ∈ L,x < w.heap.size) → AllR TreeR wr (g :: L) css l))
 case atStart => exact ⟨[(F s).1],(F s).2,[[.pointer (some ⟨b1,0,none⟩)]],w1.heap.size,1,rfl,rfl,HS.out.1,HS.out.2.1,by have:=HL0.out; simp; omega,HS.out.2.2,hs1,HJ,hstart⟩
 case round =>
  clear hstart HS HJ HL0
  obtain ⟨l,s1,css,g,cap,hgk,rfl,hM,hP,hll,ho,hg,HJ,HE⟩:=hrel
  have htk:=zD wr pb tg s1 f hP wComma
  have hwf:WfT s1.rest:=by obtain ⟨l,-,-,h3,-⟩:=hP; exact h3
  have hpos:0 < s1.rest.length:=List.length_pos_iff.2 hwf.ne
  have hgl:=zS ho
  have hgp:g ≠ pb:=by omega
  unfold PtrV at htk
  cases ht:(s1.takes wComma).1 with
  | false =>
   have hs1:=za6 ht
   rw [ht,hs1] at htk
   have hJ2:listF F s=(l,s1):=by
    rw [HJ.out]
    obtain ⟨m,hm⟩ : ∃ m,s1.rest.length=m + 1:=⟨s1.rest.length - 1,by omega⟩
    rw [hm]
    unfold listG
    rw [if_neg (by rw [ht]; decide),hs1]
   have hfin:=fun w2 (hM2:Mods [pb] wr w2) (hP2:PSt w2 pb tg s1 f) => FIN.out g cap css w2 l s1 hJ2 (hM.trans hM2 (by simp)) hP2 hg (by have:=hM2.size; omega) hgl.2.1 (fun j u hj => hM2.cell (hgl.2.2 j u hj) (by simpa using hgp)) (fun he L hL =>
    ((
     HE.out he (pb :: L) (fun z hz => by
     rcases List.mem_cons.1 hz with rfl | hz
     ·exact hpw.1
     ·exact hL z hz)).map fun c x hx => treeRep.mods hx (hM2.mono (by simp))).map fun c x hx => treeRep.weaken (fun z hz => by
      rcases List.mem_cons.1 hz with rfl | hz
      ·exact List.mem_cons_self
      ·exact List.mem_cons_of_mem _ (List.mem_cons_of_mem _ hz)) hx)
   have HFIN:=Lib.hid hfin
   unfold wComma at htk
   clear hfin hJ2 ht hs1 hP ho hgl FIN HJ HE hwf
   go_wp2_with fail
   (with_reducible refine htk.mono ?_)
   rintro e w2 ⟨rfl,hM2,hP2⟩
   clear htk
   have fin:=Lib.hid (HFIN.out w2 hM2 hP2)
   clear HFIN hP2
   go_wp2_with fail
   go_ret
   exact fin.out
  | true =>
   obtain ⟨his,hTk⟩:=zbD ht
   have HNL:Hid (s1.next.rest.length + 1=s1.rest.length):=Lib.hid (by unfold PS.next; rw [List.length_tail]; omega)
   have HJ2:Hid (∀ m,s1.rest.length=m + 1 → listF F s=listG F m (l ++ [(F s1.next).1]) (F s1.next).2):=Lib.hid fun m hm => by
    rw [HJ.out,hm]
    conv => lhs; unfold listG
    rw [if_pos ht,hTk]
   rw [hTk] at htk
   have HIS:=Lib.hid his
   have HO:=Lib.hid (And.intro ho hgl)
   unfold wComma at htk
   clear his hTk ht hP ho hgl FIN HJ hwf
   go_wp2_with fail
   (with_reducible refine htk.mono ?_)
   rintro e w2 ⟨rfl,hM2,hP2⟩
   have h2:=HPT.out w2 s1.next hP2
   unfold PtrV at h2
   clear htk hP2
   go_wp2_with fail
   (with_reducible refine h2.mono ?_)
   rintro e w3 ⟨b2,rfl,hM3,hP3,hE3⟩
   (try unfold PtrV)
   have hown3:=zl (zl HO.out.1 hM2 (by simpa [Value.ownBlock] using hgp)) hM3 (by simpa [Value.ownBlock] using hgp)
   have H3:=Lib.hid (And.intro hP3 hE3)
   clear h2 hP3 hE3
   go_wp2_with (at_builtin; refine zr _ rfl _ _ 83 rfl 82 i0 _ 1 8 Tryz.underlying83 hi hz0 hz1 hz2 rfl (by decide) (.slice (some ⟨g,0,none⟩) l.length cap) l.length css.flatten rfl (hown3.alloc _) ⟨w3.heap.size,0,none⟩ 1 1 [.pointer (some ⟨b2,0,none⟩)] rfl rfl ?c1 ?c2 (by decide) ?c3 ?c4 ?_)
   case c1 => exact zbn w3 #[.pointer (some ⟨b2,0,none⟩)] _
   case c2 => intro u hu; simp only [List.mem_cons,List.not_mem_nil,or_false] at hu; rcases hu with rfl <;> rfl
   case c3 => unfold maxLen; omega
   case c4 => omega
   intro g' cap2 w5 hown5 hM5 hg5
   have hst:=zcp treeRep hgo hpw.1 hpw.2 hM hM2 hM3 H3.out.1 HIS.out HNL.out HO.out.1 hg HE.out H3.out.2 HJ2.out hown5 hM5 (by rw [zk]; exact Or.imp (fun h:some g=some g' => (Option.some.inj h).symm) id hg5)
   have HST:=Lib.hid hst
   clear hst hown5 hM5 hg5 H3 HIS HJ2 HO hown3 HE
   go_wp2_with fail
   go_roundg (F s1.next).2.rest.length
   case measure => rw [← hgk]; exact HST.out.1
   case rel => exact ⟨l ++ [(F s1.next).1],(F s1.next).2,css ++ [[.pointer (some ⟨b2,0,none⟩)]],g',cap2,rfl,by simp,HST.out.2.1,HST.out.2.2.1,by have:=HST.out.1; simp; omega,HST.out.2.2.2.2.2.1,HST.out.2.2.2.1,HST.out.2.2.2.2.1,HST.out.2.2.2.2.2.2⟩
open Go.RowKit
set_option linter.unusedVariables false
def ListAt {α:Type} (R:RepR α) (w:World) (L:List Nat) (v:Value) (l:List α):Prop:=
 (v = .slice none 0 0 ∧ l=[]) ∨ ∃ g cap css,v = .slice (some ⟨g,0,none⟩) l.length cap ∧ g ∉ L ∧ l.length ≤ cap ∧ (∀ j u,css.flatten[j]? = some u → w.cell? ⟨g,j,none⟩ = some u) ∧ AllR R w L css l
def OptAt (w:World) (L:List Nat) (v:Value):Option Tree → Prop
 | none => v = .pointer none
 | some t => ∃ b,v=PtrV b ∧ ExprAt 133 82 w L (PtrV b) t
theorem ListAt.mods {α:Type} {R:RepR α} (hR:Rep R) {w w':World} {L:List Nat} {v:Value} {l:List α} (h:ListAt R w L v l) (hM:Mods L w w'):ListAt R w' L v l:=by
 rcases h with h | ⟨g,cap,css,h1,h2,h3,h4,h5⟩
 ·exact .inl h
 ·exact .inr ⟨g,cap,css,h1,h2,h3,fun j u hj => hM.cell (h4 j u hj) h2,h5.map fun c x hx => hR.mods hx hM⟩
theorem ListAt.weaken {α:Type} {R:RepR α} (hR:Rep R) {w:World} {L L':List Nat} (hL:∀ x ∈ L',x ∈ L) {v:Value} {l:List α} (h:ListAt R w L v l):ListAt R w L' v l:=by
 rcases h with h | ⟨g,cap,css,h1,h2,h3,h4,h5⟩
 ·exact .inl h
 ·exact .inr ⟨g,cap,css,h1,fun hm => h2 (hL _ hm),h3,h4,h5.map fun c x hx => hR.weaken hL hx⟩
theorem OptAt.mods {w w':World} {L:List Nat} {v:Value} {o:Option Tree} (h:OptAt w L v o) (hM:Mods L w w'):OptAt w' L v o:=by
 cases o with
 | none => exact h
 | some t => obtain ⟨b,h1,h2⟩:=h; exact ⟨b,h1,h2.mods hM⟩
theorem OptAt.weaken {w:World} {L L':List Nat} (hL:∀ x ∈ L',x ∈ L) {v:Value} {o:Option Tree} (h:OptAt w L v o):OptAt w L' v o:=by
 cases o with
 | none => exact h
 | some t => obtain ⟨b,h1,h2⟩:=h; exact ⟨b,h1,h2.weaken hL⟩
theorem PRes.optAt {t:Tree} {w w':World} {b:Nat} {L:List Nat} (hL:∀ x ∈ L,x < w.heap.size) (h:∀ L:List Nat,(∀ x ∈ L,x < w.heap.size) → ExprAt 133 82 w' L (PtrV b) t):OptAt w' L (PtrV b) (some t):=⟨b,rfl,h L hL⟩
def queryC (q:QueryT) (vi von vwh vg vo:Value):List Value:=[.bool q.star,vi,.string ⟨q.src.toArray⟩,.string ⟨q.join.toArray⟩,.int .i64 q.srcAt,.int .i64 q.joinAt,von,vwh,vg,vo,.int .i64 q.limit,.int .i64 q.offset]
def QParts (w:World) (L:List Nat) (q:QueryT) (vi von vwh vg vo:Value):Prop:=
 ListAt ItemR w L vi q.items ∧ OptAt w L von q.on ∧ OptAt w L vwh q.whr ∧ ListAt TreeR w L vg q.group ∧ ListAt KeyR w L vo q.order
theorem QParts.mods {w w':World} {L:List Nat} {q:QueryT} {vi von vwh vg vo:Value} (h:QParts w L q vi von vwh vg vo) (hM:Mods L w w'):QParts w' L q vi von vwh vg vo:=
 ⟨h.1.mods itemRep hM,h.2.1.mods hM,h.2.2.1.mods hM,h.2.2.2.1.mods treeRep hM,h.2.2.2.2.mods keyRep hM⟩
def QueryAt (w:World) (L:List Nat) (qb:Nat) (q:QueryT):Prop:=
 ∃ vi von vwh vg vo,w.heap[qb]? = some (.cells (queryC q vi von vwh vg vo).toArray 86 (0,0)) ∧ QParts w L q vi von vwh vg vo
def QInv (pb tg f:Nat) (w0:World) (qb:Nat) (x:QS) (w:World):Prop:=
 Mods [pb] w0 w ∧ PSt w pb tg x.2 f ∧ w0.heap.size ≤ qb ∧ pb < w0.heap.size ∧ tg < w0.heap.size ∧ x.2.rest.length ≤ 10000 ∧ ∃ vi von vwh vg vo,w.heap[qb]? = some (.cells (queryC x.1 vi von vwh vg vo).toArray 86 (0,0)) ∧ (x.2.e=0 → QParts w [qb,pb] x.1 vi von vwh vg vo)
theorem QInv.go {pb tg f:Nat} {w0:World} {qb:Nat} {x:QS} {w w':World} {s':PS} (h:QInv pb tg f w0 qb x w) (hM:Mods [pb] w w') (hP:PSt w' pb tg s' f) (hA:Aft x.2 s'):QInv pb tg f w0 qb (x.1,s') w':=by
 obtain ⟨h1,h2,h3,h4,h5,h6,vi,von,vwh,vg,vo,h7,h8⟩:=h
 refine ⟨h1.trans hM (by simp),hP,h3,h4,h5,Nat.le_trans hA.len h6,vi,von,vwh,vg,vo,hM.heap h7 (by simp; omega),fun he => (h8 ?_).mods (hM.mono (by simp))⟩
 by_cases hx:x.2.e=0
 ·exact hx
 ·have:=hA.err hx
  rw [this] at he
  exact absurd he hx
theorem QInv.later {pb tg f:Nat} {w0:World} {qb:Nat} {x:QS} {w w':World} (h:QInv pb tg f w0 qb x w) (hM:Mods [] w w'):QInv pb tg f w0 qb x w':=by
 obtain ⟨h1,h2,h3,h4,h5,h6,vi,von,vwh,vg,vo,h7,h8⟩:=h
 exact ⟨h1.trans (hM.mono (L':=[pb]) (by simp)) (by simp),h2.later hM,h3,h4,h5,h6,vi,von,vwh,vg,vo,hM.heap h7 (by simp),fun he => (h8 he).mods (hM.mono (by simp))⟩
theorem QInv.pst {pb tg f:Nat} {w0:World} {qb:Nat} {x:QS} {w:World} (h:QInv pb tg f w0 qb x w):PSt w pb tg x.2 f:=h.2.1
theorem QInv.block {pb tg f:Nat} {w0:World} {qb:Nat} {x:QS} {w:World} (h:QInv pb tg f w0 qb x w):∃ cs,w.heap[qb]? = some (.cells cs 86 (0,0)) ∧ cs.size=12:=by
 obtain ⟨h1,h2,h3,h4,h5,h6,vi,von,vwh,vg,vo,h7,h8⟩:=h
 exact ⟨_,h7,rfl⟩
theorem QInv.put {pb tg f:Nat} {w0:World} {qb:Nat} {x:QS} {w:World} (h:QInv pb tg f w0 qb x w) (j:Nat) (v:Value) (q':QueryT)
  (hq:∀ vi von vwh vg vo,(x.2.e=0 → QParts w [qb,pb] x.1 vi von vwh vg vo) → ∃ vi' von' vwh' vg' vo',(queryC x.1 vi von vwh vg vo).set j v=queryC q' vi' von' vwh' vg' vo' ∧ (x.2.e=0 → QParts w [qb,pb] q' vi' von' vwh' vg' vo')) :
  QInv pb tg f w0 qb (q',x.2) (w.setCell ⟨qb,j,none⟩ v):=by
 obtain ⟨h1,h2,h3,h4,h5,h6,vi,von,vwh,vg,vo,h7,h8⟩:=h
 obtain ⟨vi',von',vwh',vg',vo',e1,e2⟩:=hq vi von vwh vg vo h8
 have hz:Mods [qb] w (w.setCell ⟨qb,j,none⟩ v):=(Mods.refl _ _).setCell (.inl (by simp)) _
 refine ⟨h1.trans hz (fun y hy => .inr (by simp at hy; omega)),h2.mods hz (by simp; omega) (by simp; omega),h3,h4,h5,h6,vi',von',vwh',vg',vo',?_,fun he => (e2 he).mods (hz.mono (by simp))⟩
 have:=zb h7 j v
 rw [this,← e1]
 congr 1
 congr 1
 apply Array.toList_inj.1
 simp
end Go.Proofs.YtgdpaieechgahaaGreatDoor
