/-
  parse's list over item, walked. No condition.
-/
import Derived.Test.YtgdpaieechgahaaGreatDoorQ13
namespace Go.Proofs.YtgdpaieechgahaaGreatDoor
open Go.RowKit
set_option linter.unusedVariables false
def ItemRes (pb tg f:Nat) (F:PS → ItemT × PS) (s:PS) (w:World) (e:Ending) (w':World):Prop:=
 ∃ (b:Nat) (nm:ByteArray),e = .returned (.agg #[PtrV b,.string nm]) ∧ Mods [pb] w w' ∧ PSt w' pb tg (F s).2 f ∧ ((F s).2.e=0 → ∀ L:List Nat,(∀ x ∈ L,x < w.heap.size) → ItemR w' L [PtrV b,.string nm] (F s).1)
set_option maxRecDepth 100000 in
set_option maxHeartbeats 4000000 in
theorem zg6 (w:World) (pb tg:Nat) (f:Nat) (s:PS) (h:PSt w pb tg s f) (hlen:s.rest.length ≤ 10000) (F:PS → ItemT × PS) (hgo:GoesA F)
  (hone:∀ W s1,PSt W pb tg s1 f → Calls Tryz.prog 42 #[PtrV pb] W (ItemRes pb tg f F s1 W)) :
  Calls Tryz.prog 41 #[PtrV pb,.func (.func 42) #[PtrV pb] #[]] w (ListRes ItemR pb tg f (listF F) s w):=by
 have hpw:=h.lt
 obtain ⟨i0,hi,hz0,hz1,hz2⟩:=info_parts (show (Tryz.prog.info? 117).map (fun i => (i.zero,i.size,i.bytes))=some (some (.agg #[.pointer none,.string ⟨#[]⟩]),2,24) by kernel_rfl)
 have h1:=hone w s h
 have HPT:=Lib.hid hone
 have HL0:Hid ((F s).2.rest.length ≤ s.rest.length):=Lib.hid (hgo s).len
 have FIN:Hid (∀ g cap css w' l s2,listF F s=(l,s2) → Mods [pb] w w' → PSt w' pb tg s2 f → w.heap.size ≤ g → g < w'.heap.size → l.length ≤ cap → (∀ j u,css.flatten[j]? = some u → w'.cell? ⟨g,j,none⟩ = some u) → (s2.e=0 → ∀ L:List Nat,(∀ x ∈ L,x < w.heap.size) → AllR ItemR w' (g :: L) css l) → ListRes ItemR pb tg f (listF F) s w (.returned (.slice (some ⟨g,0,none⟩) l.length cap)) w'):=
  Lib.hid (fun g cap css w' l s2 e h1 h2 h3 h3' h4 h5 h6 => ⟨g,cap,css,by rw [e],h1,by rw [e]; exact h2,h3,h3',by rw [e]; exact h4,h5,by rw [e]; exact h6⟩)
 unfold PtrV at *
 clear h hone
 go_enter Tryz.func41, Tryz.ntmps41
 go_wp2_with fail
 (with_reducible refine h1.mono ?_)
 rintro e w1 ⟨b1,nm1,rfl,hM1,hP1,hE1⟩
 (try unfold PtrV)
 clear h1
 have HJ:Hid (listF F s=listG F (F s).2.rest.length [(F s).1] (F s).2):=Lib.hid rfl
 have hz:=(Mods.refl [] w1).alloc (.cells #[.pointer (some ⟨b1,0,none⟩),.string nm1] 117)
 have hbn:=heap_alloc_new w1 (.cells #[.pointer (some ⟨b1,0,none⟩),.string nm1] 117)
 have hown1:(w1.alloc (.cells #[.pointer (some ⟨b1,0,none⟩),.string nm1] 117)).ownsRow 0 117 2 (.slice (some ⟨w1.heap.size,0,none⟩) 1 1) 1 [.pointer (some ⟨b1,0,none⟩),.string nm1]:=⟨rfl,.inr ⟨_,1,_,rfl,Nat.zero_le _,hbn,Nat.le_refl _,by unfold maxLen; omega,rfl,rfl⟩⟩
 have hs1:=hM1.size
 have hstart:Hid ((F s).2.e=0 → ∀ L:List Nat,(∀ x ∈ L,x < w.heap.size) → AllR ItemR (w1.alloc (.cells #[.pointer (some ⟨b1,0,none⟩),.string nm1] 117)) (w1.heap.size :: L) [[.pointer (some ⟨b1,0,none⟩),.string nm1]] [(F s).1]):=Lib.hid fun he L hL => ⟨(itemRep.mods (itemRep.fresh (Nat.le_refl _) (hE1 he L hL)) (hz.mono (by simp))),trivial⟩
 have hMs:=hM1.trans (hz.mono (L':=[pb]) (by simp)) (by simp)
 have hPs:=hP1.later hz
 have HS:=Lib.hid (And.intro hMs (And.intro hPs hown1))
 clear hE1 hP1 hbn hown1 hMs hPs hz
 go_wp2_with fail
 go_loopg [5] (F s).2.rest.length (fun gk t5 wr => ∃ (l:List ItemT) (s1:PS) (css:List (List Value)) (g cap:Nat),s1.rest.length=gk ∧ t5 = .slice (some ⟨g,0,none⟩) l.length cap ∧ Mods [pb] w wr ∧ PSt wr pb tg s1 f ∧ l.length + s1.rest.length ≤ s.rest.length + 1 ∧ wr.ownsRow 0 117 2 (.slice (some ⟨g,0,none⟩) l.length cap) l.length css.flatten ∧ w.heap.size ≤ g ∧ Hid (listF F s=listG F s1.rest.length l s1) ∧ Hid (s1.e=0 → ∀ L:List Nat,(∀ x ∈ L,x < w.heap.size) → AllR ItemR wr (g :: L) css l))
 case atStart => exact ⟨[(F s).1],(F s).2,[[.pointer (some ⟨b1,0,none⟩),.string nm1]],w1.heap.size,1,rfl,rfl,HS.out.1,HS.out.2.1,by have:=HL0.out; simp; omega,HS.out.2.2,hs1,HJ,hstart⟩
 case round =>
  clear hstart HS HJ HL0
  obtain ⟨l,s1,css,g,cap,hgk,rfl,hM,hP,hll,ho,hg,HJ,HE⟩:=hrel
  have htk:=zD wr pb tg s1 f hP wComma
  have hwf:WfT s1.rest:=by obtain ⟨l,-,-,h3,-⟩:=hP; exact h3
  have hpos:0 < s1.rest.length:=List.length_pos_iff.2 hwf.ne
  have hgl:=zS ho
  have hgp:g ≠ pb:=by omega
  unfold PtrV at htk
  cases ht:(s1.takes wComma).1 with
  | false =>
   have hs1:=za6 ht
   rw [ht,hs1] at htk
   have hJ2:listF F s=(l,s1):=by
    rw [HJ.out]
    obtain ⟨m,hm⟩ : ∃ m,s1.rest.length=m + 1:=⟨s1.rest.length - 1,by omega⟩
    rw [hm]
    unfold listG
    rw [if_neg (by rw [ht]; decide),hs1]
   have hfin:=fun w2 (hM2:Mods [pb] wr w2) (hP2:PSt w2 pb tg s1 f) => FIN.out g cap css w2 l s1 hJ2 (hM.trans hM2 (by simp)) hP2 hg (by have:=hM2.size; omega) hgl.2.1 (fun j u hj => hM2.cell (hgl.2.2 j u hj) (by simpa using hgp)) (fun he L hL =>
    ((
     HE.out he (pb :: L) (fun z hz => by
     rcases List.mem_cons.1 hz with rfl | hz
     ·exact hpw.1
     ·exact hL z hz)).map fun c x hx => itemRep.mods hx (hM2.mono (by simp))).map fun c x hx => itemRep.weaken (fun z hz => by
      rcases List.mem_cons.1 hz with rfl | hz
      ·exact List.mem_cons_self
      ·exact List.mem_cons_of_mem _ (List.mem_cons_of_mem _ hz)) hx)
   have HFIN:=Lib.hid hfin
   unfold wComma at htk
   clear hfin hJ2 ht hs1 hP ho hgl FIN HJ HE hwf
   go_wp2_with fail
   (with_reducible refine htk.mono ?_)
   rintro e w2 ⟨rfl,hM2,hP2⟩
   clear htk
   have fin:=Lib.hid (HFIN.out w2 hM2 hP2)
   clear HFIN hP2
   go_wp2_with fail
   go_ret
   exact fin.out
  | true =>
   obtain ⟨his,hTk⟩:=zbD ht
   have HNL:Hid (s1.next.rest.length + 1=s1.rest.length):=Lib.hid (by unfold PS.next; rw [List.length_tail]; omega)
   have HJ2:Hid (∀ m,s1.rest.length=m + 1 → listF F s=listG F m (l ++ [(F s1.next).1]) (F s1.next).2):=Lib.hid fun m hm => by
    rw [HJ.out,hm]
    conv => lhs; unfold listG
    rw [if_pos ht,hTk]
   rw [hTk] at htk
   have HIS:=Lib.hid his
   have HO:=Lib.hid (And.intro ho hgl)
   unfold wComma at htk
   clear his hTk ht hP ho hgl FIN HJ hwf
   go_wp2_with fail
   (with_reducible refine htk.mono ?_)
   rintro e w2 ⟨rfl,hM2,hP2⟩
   have h2:=HPT.out w2 s1.next hP2
   unfold PtrV at h2
   clear htk hP2
   go_wp2_with fail
   (with_reducible refine h2.mono ?_)
   rintro e w3 ⟨b2,nm2,rfl,hM3,hP3,hE3⟩
   (try unfold PtrV)
   have hown3:=zl (zl HO.out.1 hM2 (by simpa [Value.ownBlock] using hgp)) hM3 (by simpa [Value.ownBlock] using hgp)
   have H3:=Lib.hid (And.intro hP3 hE3)
   clear h2 hP3 hE3
   go_wp2_with (at_builtin; refine zr _ rfl _ _ 81 rfl 117 i0 _ 2 24 Tryz.underlying81 hi hz0 hz1 hz2 rfl (by decide) (.slice (some ⟨g,0,none⟩) l.length cap) l.length css.flatten rfl (hown3.alloc _) ⟨w3.heap.size,0,none⟩ 1 1 [.pointer (some ⟨b2,0,none⟩),.string nm2] rfl rfl ?c1 ?c2 (by decide) ?c3 ?c4 ?_)
   case c1 => exact zbn w3 #[.pointer (some ⟨b2,0,none⟩),.string nm2] _
   case c2 => intro u hu; simp only [List.mem_cons,List.not_mem_nil,or_false] at hu; rcases hu with rfl | rfl <;> rfl
   case c3 => unfold maxLen; omega
   case c4 => omega
   intro g' cap2 w5 hown5 hM5 hg5
   have hst:=zcp itemRep hgo hpw.1 hpw.2 hM hM2 hM3 H3.out.1 HIS.out HNL.out HO.out.1 hg HE.out H3.out.2 HJ2.out hown5 hM5 (by rw [zk]; exact Or.imp (fun h:some g=some g' => (Option.some.inj h).symm) id hg5)
   have HST:=Lib.hid hst
   clear hst hown5 hM5 hg5 H3 HIS HJ2 HO hown3 HE
   go_wp2_with fail
   go_roundg (F s1.next).2.rest.length
   case measure => rw [← hgk]; exact HST.out.1
   case rel => exact ⟨l ++ [(F s1.next).1],(F s1.next).2,css ++ [[.pointer (some ⟨b2,0,none⟩),.string nm2]],g',cap2,rfl,by simp,HST.out.2.1,HST.out.2.2.1,by have:=HST.out.1; simp; omega,HST.out.2.2.2.2.2.1,HST.out.2.2.2.1,HST.out.2.2.2.2.1,HST.out.2.2.2.2.2.2⟩
open Go.RowKit
set_option linter.unusedVariables false
def KeyRes (pb tg f:Nat) (F:PS → KeyT × PS) (s:PS) (w:World) (e:Ending) (w':World):Prop:=
 ∃ (p k:Int) (nm:ByteArray) (d:Bool),e = .returned (.agg #[.int .i64 p,.int .i64 k,.string nm,.bool d]) ∧ Mods [pb] w w' ∧ PSt w' pb tg (F s).2 f ∧ ((F s).2.e=0 → ∀ L:List Nat,(∀ x ∈ L,x < w.heap.size) → KeyR w' L [.int .i64 p,.int .i64 k,.string nm,.bool d] (F s).1)
set_option maxRecDepth 100000 in
set_option maxHeartbeats 4000000 in
theorem zir (w:World) (pb tg:Nat) (f:Nat) (s:PS) (h:PSt w pb tg s f) (hlen:s.rest.length ≤ 10000) (F:PS → KeyT × PS) (hgo:GoesA F)
  (hone:∀ W s1,PSt W pb tg s1 f → Calls Tryz.prog 49 #[PtrV pb] W (KeyRes pb tg f F s1 W)) :
  Calls Tryz.prog 48 #[PtrV pb,.func (.func 49) #[PtrV pb] #[]] w (ListRes KeyR pb tg f (listF F) s w):=by
 have hpw:=h.lt
 obtain ⟨i0,hi,hz0,hz1,hz2⟩:=info_parts (show (Tryz.prog.info? 92).map (fun i => (i.zero,i.size,i.bytes))=some (some (.agg #[.int .i64 0,.int .i64 0,.string ⟨#[]⟩,.bool false]),4,40) by kernel_rfl)
 have h1:=hone w s h
 have HPT:=Lib.hid hone
 have HL0:Hid ((F s).2.rest.length ≤ s.rest.length):=Lib.hid (hgo s).len
 have FIN:Hid (∀ g cap css w' l s2,listF F s=(l,s2) → Mods [pb] w w' → PSt w' pb tg s2 f → w.heap.size ≤ g → g < w'.heap.size → l.length ≤ cap → (∀ j u,css.flatten[j]? = some u → w'.cell? ⟨g,j,none⟩ = some u) → (s2.e=0 → ∀ L:List Nat,(∀ x ∈ L,x < w.heap.size) → AllR KeyR w' (g :: L) css l) → ListRes KeyR pb tg f (listF F) s w (.returned (.slice (some ⟨g,0,none⟩) l.length cap)) w'):=
  Lib.hid (fun g cap css w' l s2 e h1 h2 h3 h3' h4 h5 h6 => ⟨g,cap,css,by rw [e],h1,by rw [e]; exact h2,h3,h3',by rw [e]; exact h4,h5,by rw [e]; exact h6⟩)
 unfold PtrV at *
 clear h hone
 go_enter Tryz.func48, Tryz.ntmps48
 go_wp2_with fail
 (with_reducible refine h1.mono ?_)
 rintro e w1 ⟨p1,k1,nm1,d1,rfl,hM1,hP1,hE1⟩
 (try unfold PtrV)
 clear h1
 have HJ:Hid (listF F s=listG F (F s).2.rest.length [(F s).1] (F s).2):=Lib.hid rfl
 have hz:=(Mods.refl [] w1).alloc (.cells #[.int .i64 p1,.int .i64 k1,.string nm1,.bool d1] 92)
 have hbn:=heap_alloc_new w1 (.cells #[.int .i64 p1,.int .i64 k1,.string nm1,.bool d1] 92)
 have hown1:(w1.alloc (.cells #[.int .i64 p1,.int .i64 k1,.string nm1,.bool d1] 92)).ownsRow 0 92 4 (.slice (some ⟨w1.heap.size,0,none⟩) 1 1) 1 [.int .i64 p1,.int .i64 k1,.string nm1,.bool d1]:=⟨rfl,.inr ⟨_,1,_,rfl,Nat.zero_le _,hbn,Nat.le_refl _,by unfold maxLen; omega,rfl,rfl⟩⟩
 have hs1:=hM1.size
 have hstart:Hid ((F s).2.e=0 → ∀ L:List Nat,(∀ x ∈ L,x < w.heap.size) → AllR KeyR (w1.alloc (.cells #[.int .i64 p1,.int .i64 k1,.string nm1,.bool d1] 92)) (w1.heap.size :: L) [[.int .i64 p1,.int .i64 k1,.string nm1,.bool d1]] [(F s).1]):=Lib.hid fun he L hL => ⟨(keyRep.mods (keyRep.fresh (Nat.le_refl _) (hE1 he L hL)) (hz.mono (by simp))),trivial⟩
 have hMs:=hM1.trans (hz.mono (L':=[pb]) (by simp)) (by simp)
 have hPs:=hP1.later hz
 have HS:=Lib.hid (And.intro hMs (And.intro hPs hown1))
 clear hE1 hP1 hbn hown1 hMs hPs hz
 go_wp2_with fail
 go_loopg [5] (F s).2.rest.length (fun gk t5 wr => ∃ (l:List KeyT) (s1:PS) (css:List (List Value)) (g cap:Nat),s1.rest.length=gk ∧ t5 = .slice (some ⟨g,0,none⟩) l.length cap ∧ Mods [pb] w wr ∧ PSt wr pb tg s1 f ∧ l.length + s1.rest.length ≤ s.rest.length + 1 ∧ wr.ownsRow 0 92 4 (.slice (some ⟨g,0,none⟩) l.length cap) l.length css.flatten ∧ w.heap.size ≤ g ∧ Hid (listF F s=listG F s1.rest.length l s1) ∧ Hid (s1.e=0 → ∀ L:List Nat,(∀ x ∈ L,x < w.heap.size) → AllR KeyR wr (g :: L) css l))
 case atStart => exact ⟨[(F s).1],(F s).2,[[.int .i64 p1,.int .i64 k1,.string nm1,.bool d1]],w1.heap.size,1,rfl,rfl,HS.out.1,HS.out.2.1,by have:=HL0.out; simp; omega,HS.out.2.2,hs1,HJ,hstart⟩
 case round =>
  clear hstart HS HJ HL0
  obtain ⟨l,s1,css,g,cap,hgk,rfl,hM,hP,hll,ho,hg,HJ,HE⟩:=hrel
  have htk:=zD wr pb tg s1 f hP wComma
  have hwf:WfT s1.rest:=by obtain ⟨l,-,-,h3,-⟩:=hP; exact h3
  have hpos:0 < s1.rest.length:=List.length_pos_iff.2 hwf.ne
  have hgl:=zS ho
  have hgp:g ≠ pb:=by omega
  unfold PtrV at htk
  cases ht:(s1.takes wComma).1 with
  | false =>
   have hs1:=za6 ht
   rw [ht,hs1] at htk
   have hJ2:listF F s=(l,s1):=by
    rw [HJ.out]
    obtain ⟨m,hm⟩ : ∃ m,s1.rest.length=m + 1:=⟨s1.rest.length - 1,by omega⟩
    rw [hm]
    unfold listG
    rw [if_neg (by rw [ht]; decide),hs1]
   have hfin:=fun w2 (hM2:Mods [pb] wr w2) (hP2:PSt w2 pb tg s1 f) => FIN.out g cap css w2 l s1 hJ2 (hM.trans hM2 (by simp)) hP2 hg (by have:=hM2.size; omega) hgl.2.1 (fun j u hj => hM2.cell (hgl.2.2 j u hj) (by simpa using hgp)) (fun he L hL =>
    ((
     HE.out he (pb :: L) (fun z hz => by
     rcases List.mem_cons.1 hz with rfl | hz
     ·exact hpw.1
     ·exact hL z hz)).map fun c x hx => keyRep.mods hx (hM2.mono (by simp))).map fun c x hx => keyRep.weaken (fun z hz => by
      rcases List.mem_cons.1 hz with rfl | hz
      ·exact List.mem_cons_self
      ·exact List.mem_cons_of_mem _ (List.mem_cons_of_mem _ hz)) hx)
   have HFIN:=Lib.hid hfin
   unfold wComma at htk
   clear hfin hJ2 ht hs1 hP ho hgl FIN HJ HE hwf
   go_wp2_with fail
   (with_reducible refine htk.mono ?_)
   rintro e w2 ⟨rfl,hM2,hP2⟩
   clear htk
   have fin:=Lib.hid (HFIN.out w2 hM2 hP2)
   clear HFIN hP2
   go_wp2_with fail
   go_ret
   exact fin.out
  | true =>
   obtain ⟨his,hTk⟩:=zbD ht
   have HNL:Hid (s1.next.rest.length + 1=s1.rest.length):=Lib.hid (by unfold PS.next; rw [List.length_tail]; omega)
   have HJ2:Hid (∀ m,s1.rest.length=m + 1 → listF F s=listG F m (l ++ [(F s1.next).1]) (F s1.next).2):=Lib.hid fun m hm => by
    rw [HJ.out,hm]
    conv => lhs; unfold listG
    rw [if_pos ht,hTk]
   rw [hTk] at htk
   have HIS:=Lib.hid his
   have HO:=Lib.hid (And.intro ho hgl)
   unfold wComma at htk
   clear his hTk ht hP ho hgl FIN HJ hwf
   go_wp2_with fail
   (with_reducible refine htk.mono ?_)
   rintro e w2 ⟨rfl,hM2,hP2⟩
   have h2:=HPT.out w2 s1.next hP2
   unfold PtrV at h2
   clear htk hP2
   go_wp2_with fail
   (with_reducible refine h2.mono ?_)
   rintro e w3 ⟨p2,k2,nm2,d2,rfl,hM3,hP3,hE3⟩
   (try unfold PtrV)
   have hown3:=zl (zl HO.out.1 hM2 (by simpa [Value.ownBlock] using hgp)) hM3 (by simpa [Value.ownBlock] using hgp)
   have H3:=Lib.hid (And.intro hP3 hE3)
   clear h2 hP3 hE3
   go_wp2_with (at_builtin; refine zr _ rfl _ _ 84 rfl 92 i0 _ 4 40 Tryz.underlying84 hi hz0 hz1 hz2 rfl (by decide) (.slice (some ⟨g,0,none⟩) l.length cap) l.length css.flatten rfl (hown3.alloc _) ⟨w3.heap.size,0,none⟩ 1 1 [.int .i64 p2,.int .i64 k2,.string nm2,.bool d2] rfl rfl ?c1 ?c2 (by decide) ?c3 ?c4 ?_)
   case c1 => exact zbn w3 #[.int .i64 p2,.int .i64 k2,.string nm2,.bool d2] _
   case c2 => intro u hu; simp only [List.mem_cons,List.not_mem_nil,or_false] at hu; rcases hu with rfl | rfl | rfl | rfl <;> rfl
   case c3 => unfold maxLen; omega
   case c4 => omega
   intro g' cap2 w5 hown5 hM5 hg5
   have hst:=zcp keyRep hgo hpw.1 hpw.2 hM hM2 hM3 H3.out.1 HIS.out HNL.out HO.out.1 hg HE.out H3.out.2 HJ2.out hown5 hM5 (by rw [zk]; exact Or.imp (fun h:some g=some g' => (Option.some.inj h).symm) id hg5)
   have HST:=Lib.hid hst
   clear hst hown5 hM5 hg5 H3 HIS HJ2 HO hown3 HE
   go_wp2_with fail
   go_roundg (F s1.next).2.rest.length
   case measure => rw [← hgk]; exact HST.out.1
   case rel => exact ⟨l ++ [(F s1.next).1],(F s1.next).2,css ++ [[.int .i64 p2,.int .i64 k2,.string nm2,.bool d2]],g',cap2,rfl,by simp,HST.out.2.1,HST.out.2.2.1,by have:=HST.out.1; simp; omega,HST.out.2.2.2.2.2.1,HST.out.2.2.2.1,HST.out.2.2.2.2.1,HST.out.2.2.2.2.2.2⟩
open Go.RowKit
set_option linter.unusedVariables false
theorem Aft.zero {a b:PS} (h:Aft a b) (hb:b.e=0):a.e=0:=by
 by_cases ha:a.e=0
 ·exact ha
 ·have:=h.err ha
  rw [this] at hb
  exact hb
theorem zfl (a:Option Addr) (s:ByteArray):(#[.pointer a,.string s]:Array Value).all (·.oneCell')=true:=by simp [Value.oneCell']
theorem zdx (p k:Int) (s:ByteArray) (d:Bool):(#[.int .i64 p,.int .i64 k,.string s,.bool d]:Array Value).all (·.oneCell')=true:=by simp [Value.oneCell']
theorem PRes.keep {T T2:TypeId} {n:Nat} {w1 w2 w':World} {pb rb ib:Nat} {v:Value} {t:Tree} (h1:n ≤ w1.heap.size) (hE:∀ L:List Nat,(∀ x ∈ L,x < w1.heap.size) → ExprAt T T2 w2 L v t) (hpb:pb < w1.heap.size) (hrb:rb < w1.heap.size) (hib:w2.heap.size ≤ ib) (hM:Mods [ib,rb,pb] w2 w') :
  ∀ L:List Nat,(∀ x ∈ L,x < n) → ExprAt T T2 w' L v t:=fun L hL =>
 ((
  (hE (rb :: pb :: L) (fun z hz => by
  rcases List.mem_cons.1 hz with rfl | hz
  ·exact hrb
  ·rcases List.mem_cons.1 hz with rfl | hz
   ·exact hpb
   ·have:=hL z hz; omega)).fresh hib).mods (hM.mono (fun x hx => .inl (by simp at hx ⊢; rcases hx with h | h | h <;> simp [h])))).weaken (fun z hz => List.mem_cons_of_mem _ (List.mem_cons_of_mem _ (List.mem_cons_of_mem _ hz)))
set_option maxRecDepth 100000 in
set_option maxHeartbeats 1000000 in
theorem zis (w:World) (pb tg:Nat) (f:Nat) (s:PS) (h:PSt w pb tg s f) :
  Calls Tryz.prog 42 #[PtrV pb] w (ItemRes pb tg f (itemF (lvl f).expr) s w):=by
 have hpw:=h.lt
 have hMr:=(Mods.refl [] w).alloc (.cells #[.pointer none,.string ⟨#[]⟩] 117)
 have hP1:=h.later hMr
 have h1:=zfj _ pb tg f s hP1
 have hrow:=heap_alloc_new w (.cells #[.pointer none,.string ⟨#[]⟩] 117)
 have hinfo:(Tryz.prog.info? 117).map (·.size)=some 2:=by kernel_rfl
 have hsz:w.heap.size < (w.alloc (.cells #[.pointer none,.string ⟨#[]⟩] 117)).heap.size:=by rw [zk]; omega
 generalize hE0:(lvl f).expr=E at *
 have FIN:Hid (∀ b nm w',Mods [pb] w w' → PSt w' pb tg (itemF E s).2 f → (itemF E s).1 = ⟨(E s).1,nm⟩ → ((itemF E s).2.e=0 → (E s).2.e=0) → ((E s).2.e=0 → ∀ L:List Nat,(∀ x ∈ L,x < w.heap.size) → ExprAt 133 82 w' L (PtrV b) (E s).1) → ItemRes pb tg f (itemF E) s w (.returned (.agg #[PtrV b,.string ⟨nm.toArray⟩])) w'):=
  Lib.hid (fun b nm w' a1 a2 a3 a4 a5 => ⟨b,_,rfl,a1,a2,fun he L hL => ⟨b,by rw [a3],by rw [a3]; exact a5 (a4 he) L hL⟩⟩)
 unfold PtrV at *
 clear h hP1 hE0
 have HH:=Lib.hid (And.intro hMr hrow)
 clear hrow hMr
 go_enter Tryz.func42, Tryz.ntmps42
 go_wp2_with fail
 (with_reducible refine h1.mono ?_)
 rintro e w2 ⟨b,rfl,hM2,hP2,hE2⟩
 unfold PtrV
 clear h1
 have hs2:=hM2.size
 have hrow2:=hM2.heap HH.out.2 (by simp; omega)
 have hMw2:Mods [pb] w w2:=(HH.out.1.mono (L':=[pb]) (by simp)).trans hM2 (by simp)
 have hz3:=(Mods.refl [] w2).alloc (.cells #[.pointer (some ⟨b,0,none⟩),.string ⟨#[]⟩] 117)
 have hi3:=heap_alloc_new w2 (.cells #[.pointer (some ⟨b,0,none⟩),.string ⟨#[]⟩] 117)
 have htk:Calls Tryz.prog 40 #[PtrV pb,.string ⟨#[65,83]⟩] (w2.alloc (.cells #[.pointer (some ⟨b,0,none⟩),.string ⟨#[]⟩] 117)) _:=zD _ pb tg _ f (hP2.later hz3) wAs
 have hrow3:=hz3.heap hrow2 (by simp)
 have HE2:=Lib.hid hE2
 have HM2:=Lib.hid (And.intro hMw2 hz3)
 unfold PtrV at htk
 clear hE2 hP2 hM2 hrow2 hMw2 hz3 HH
 generalize hrb:w.heap.size=rb at *
 go_wp2_with fail
 (with_reducible refine htk.mono ?_)
 rintro e w4 ⟨rfl,hM4,hP4⟩
 clear htk
 have hi4:=hM4.heap hi3 (by simp; omega)
 have hrow4:=hM4.heap hrow3 (by simp; omega)
 have hs4:=hM4.size
 have hIF:itemF E s=if ((E s).2.takes wAs).1=true then (⟨(E s).1,((E s).2.takes wAs).2.name.1⟩,((E s).2.takes wAs).2.name.2) else (⟨(E s).1,[]⟩,((E s).2.takes wAs).2):=rfl
 have HAf:=Lib.hid (Aft.takes (E s).2 wAs)
 have HIF:=Lib.hid hIF
 have HI3:=Lib.hid hi3
 generalize hib:w2.heap.size=ib at *
 have hilt:ib < w4.heap.size:=zi hi4
 clear hi3 hIF hrow3
 obtain ⟨c,hc⟩ : ∃ c,((E s).2.takes wAs).1=c:=⟨_,rfl⟩
 rw [hc]
 have HC:=Lib.hid hc
 clear hc
 generalize ((E s).2.takes wAs).2=s4 at *
 have HT:Hid (tg < w2.heap.size):=Lib.hid (by have:=hs2; have:=hpw.2; omega)
 cases c with
 | false =>
  have c0:=za hi4 0
  have c1:=za hi4 1
  change w4.cell? _=some (.pointer (some ⟨b,0,none⟩)) at c0
  change w4.cell? _=some (.string ⟨#[]⟩) at c1
  go_wp2_with (refine wpList_store_row rfl 117 (.tmp 2) (.tmp 12) rfl rb #[.pointer (some ⟨b,0,none⟩),.string ⟨#[]⟩] rfl rfl 117 _ hrow4 hinfo rfl (zfl _ _) ?_)
  have hM5:Mods [rb] w4 (w4.setRow rb #[.pointer (some ⟨b,0,none⟩),.string ⟨#[]⟩]):=(Mods.refl _ _).setRow (.inl (by simp)) _
  have hr5:=zh #[.pointer (some ⟨b,0,none⟩),.string ⟨#[]⟩] hrow4
  have hP5:=hP4.mods hM5 (by simp; omega) (by simp; omega)
  have hM25:Mods [ib,rb,pb] w2 (w4.setRow rb #[.pointer (some ⟨b,0,none⟩),.string ⟨#[]⟩]):=(((HM2.out.2.mono (L':=[ib,rb,pb]) (by simp)).trans hM4 (by simp)).trans hM5 (by simp))
  generalize w4.setRow rb #[.pointer (some ⟨b,0,none⟩),.string ⟨#[]⟩]=w5 at *
  have q0:=za hr5 0
  have q1:=za hr5 1
  change w5.cell? _=some (.pointer (some ⟨b,0,none⟩)) at q0
  change w5.cell? _=some (.string ⟨#[]⟩) at q1
  refine bodyPost_ret (by simp [results,Tryz.results42, go_sem,q0,q1,Result.andThen]; try rfl) rfl ?_
  have hIF:itemF E s=(⟨(E s).1,[]⟩,s4):=by rw [HIF.out,if_neg (by rw [HC.out]; decide)]
  exact FIN.out b [] w5 (HM2.out.1.trans hM25 (fun x hx => by simp at hx; rcases hx with h | h | h <;> simp [h] <;> omega)) (by rw [hIF]; exact hP5) (by rw [hIF]) (by rw [hIF]; exact HAf.out.zero)
   (fun he => PRes.keep (w1:=w.alloc (.cells #[.pointer none,.string ⟨#[]⟩] 117)) (Nat.le_of_lt hsz) (HE2.out he) (by omega) (by omega) (Nat.le_of_eq hib) hM25)
 | true =>
  have hnm:=zbi w4 pb tg s4 f hP4
  unfold PtrV at hnm
  go_wp2_with fail
  (with_reducible refine hnm.mono ?_)
  rintro e w5 ⟨rfl,hM5,hP5⟩
  have hi5:=hM5.heap hi4 (by simp; omega)
  have hrow5:=hM5.heap hrow4 (by simp; omega)
  have c1:=za hi5 1
  have f1:=zd hi5 1
  change w5.cell? _=some (.string ⟨#[]⟩) at c1
  have hM6:Mods [ib] w5 (w5.setCell ⟨ib,1,none⟩ (.string ⟨s4.name.1.toArray⟩)):=(Mods.refl _ _).setCell (.inl (by simp)) _
  have hi6:=zb hi5 1 (.string ⟨s4.name.1.toArray⟩)
  change (w5.setCell ⟨ib,1,none⟩ (.string ⟨s4.name.1.toArray⟩)).heap[ib]? = some (.cells #[.pointer (some ⟨b,0,none⟩),.string ⟨s4.name.1.toArray⟩] 117 (0,0)) at hi6
  have hrow6:=hM6.heap hrow5 (by simp; omega)
  have hP6:=hP5.mods hM6 (by simp; omega) (by have:=HT.out; simp; omega)
  have hM26:Mods [ib,rb,pb] w2 (w5.setCell ⟨ib,1,none⟩ (.string ⟨s4.name.1.toArray⟩)):=(((HM2.out.2.mono (L':=[ib,rb,pb]) (by simp)).trans hM4 (by simp)).trans hM5 (by simp)).trans hM6 (by simp)
  clear hnm
  go_upto_region 4 with fail
  generalize w5.setCell ⟨ib,1,none⟩ (.string ⟨s4.name.1.toArray⟩)=w6 at *
  clear c1 f1 hi5 hrow5 hM6 hM5
  have c0:=za hi6 0
  have c1:=za hi6 1
  change w6.cell? _=some (.pointer (some ⟨b,0,none⟩)) at c0
  change w6.cell? _=some (.string ⟨s4.name.1.toArray⟩) at c1
  go_wp2_with (refine wpList_store_row rfl 117 (.tmp 2) (.tmp 12) rfl rb #[.pointer (some ⟨b,0,none⟩),.string ⟨s4.name.1.toArray⟩] rfl rfl 117 _ hrow6 hinfo rfl (zfl _ _) ?_)
  have hM7:Mods [rb] w6 (w6.setRow rb #[.pointer (some ⟨b,0,none⟩),.string ⟨s4.name.1.toArray⟩]):=(Mods.refl _ _).setRow (.inl (by simp)) _
  have hr7:=zh #[.pointer (some ⟨b,0,none⟩),.string ⟨s4.name.1.toArray⟩] hrow6
  have hP7:=hP6.mods hM7 (by simp; omega) (by simp; omega)
  have hM27:Mods [ib,rb,pb] w2 (w6.setRow rb #[.pointer (some ⟨b,0,none⟩),.string ⟨s4.name.1.toArray⟩]):=hM26.trans hM7 (by simp)
  generalize w6.setRow rb #[.pointer (some ⟨b,0,none⟩),.string ⟨s4.name.1.toArray⟩]=w7 at *
  have q0:=za hr7 0
  have q1:=za hr7 1
  change w7.cell? _=some (.pointer (some ⟨b,0,none⟩)) at q0
  change w7.cell? _=some (.string ⟨s4.name.1.toArray⟩) at q1
  refine bodyPost_ret (by simp [results,Tryz.results42, go_sem,q0,q1,Result.andThen]; try rfl) rfl ?_
  have hIF:itemF E s=(⟨(E s).1,s4.name.1⟩,s4.name.2):=by rw [HIF.out,if_pos HC.out]
  exact FIN.out b _ w7 (HM2.out.1.trans hM27 (fun x hx => by simp at hx; rcases hx with h | h | h <;> simp [h] <;> omega)) (by rw [hIF]; exact hP7) (by rw [hIF]) (by rw [hIF]; exact fun h => HAf.out.zero ((Aft.name s4).zero h))
   (fun he => PRes.keep (w1:=w.alloc (.cells #[.pointer none,.string ⟨#[]⟩] 117)) (Nat.le_of_lt hsz) (HE2.out he) (by omega) (by omega) (Nat.le_of_eq hib) hM27)
end Go.Proofs.YtgdpaieechgahaaGreatDoor
