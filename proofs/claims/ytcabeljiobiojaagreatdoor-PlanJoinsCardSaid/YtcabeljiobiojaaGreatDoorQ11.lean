/-
  parse's primary, walked whole; then all levels of the expressions' parser, by induction on how deep may yet be nested. No condition.
-/
import Derived.Test.YtcabeljiobiojaaGreatDoorPsR
set_option linter.unusedVariables false
set_option maxRecDepth 100000
set_option maxHeartbeats 4000000
namespace Go.Proofs.YtcabeljiobiojaaGreatDoor
open Go.RowKit
theorem AX {p:Prop} (h:p:=by rw [zl]; exact Or.imp (fun h:some g=some g' => (Option.some.inj h).symm) id hg5):p:=h
theorem AT {p:Prop} (h:p:=by simpa [Value.ownBlock] using hgp):p:=h
theorem yep {p:Prop} (h:p:=by
  have hMs:=hM1.trans (hz.mono (L':=[pb]) AB);have hPs:=hP1.later hz;have HS:=QH (AI hMs (AI hPs hown1));clear hE1 hP1 hbn hown1 hMs hPs hz;go_wp2_with fail
  first
  |clear gDw
   go_loopg [5] (F s).2.rest.length (fun gk t5 wr => ∃ (l:List za2) (s1:PS) (css:List (List Value)) (g cap:Nat),s1.rest.length=gk ∧ t5 = .slice (some ⟨g,0,none⟩) l.length cap ∧ Mods [pb] w wr ∧ PSt wr pb tg s1 f ∧ l.length + s1.rest.length ≤ s.rest.length + 1 ∧ wr.ownsRow 0 158 2 (.slice (some ⟨g,0,none⟩) l.length cap) l.length css.flatten ∧ w.heap.size ≤ g ∧ Hid (zad F s=za3 F s1.rest.length l s1) ∧ Hid (s1.e=0 → ∀ L:List Nat,(∀ x ∈ L,x < w.heap.size) → AllR ItemR wr (g :: L) css l))
   case atStart => exact ⟨[(F s).1],(F s).2,[[.pointer (some ⟨b1,0,none⟩),.string nm1]],w1.heap.size,1,rfl,rfl,HS.out.1,HS.out.2.1,by have:=HL0.out; simp; omega,HS.out.2.2,hs1,HJ,hstart⟩
   case round =>have gCc:=QH trivial;exact ydN
  |clear gDx
   go_loopg [5] (F s).2.rest.length (fun gk t5 wr => ∃ (l:List zfI) (s1:PS) (css:List (List Value)) (g cap:Nat),s1.rest.length=gk ∧ t5 = .slice (some ⟨g,0,none⟩) l.length cap ∧ Mods [pb] w wr ∧ PSt wr pb tg s1 f ∧ l.length + s1.rest.length ≤ s.rest.length + 1 ∧ wr.ownsRow 0 113 4 (.slice (some ⟨g,0,none⟩) l.length cap) l.length css.flatten ∧ w.heap.size ≤ g ∧ Hid (zad F s=za3 F s1.rest.length l s1) ∧ Hid (s1.e=0 → ∀ L:List Nat,(∀ x ∈ L,x < w.heap.size) → AllR KeyR wr (g :: L) css l))
   case atStart => exact ⟨[(F s).1],(F s).2,[[.int .i64 p1,.int .i64 k1,.string nm1,.bool d1]],w1.heap.size,1,rfl,rfl,HS.out.1,HS.out.2.1,by have:=HL0.out; simp; omega,HS.out.2.2,hs1,HJ,hstart⟩
   case round =>have gCd:=QH trivial;exact ydN
  |clear gDy
   go_loopg [5] (F s).2.rest.length (fun gk t5 wr => ∃ (l:List Tree) (s1:PS) (css:List (List Value)) (g cap:Nat),s1.rest.length=gk ∧ t5 = .slice (some ⟨g,0,none⟩) l.length cap ∧ Mods [pb] w wr ∧ PSt wr pb tg s1 f ∧ l.length + s1.rest.length ≤ s.rest.length + 1 ∧ wr.ownsRow 0 103 1 (.slice (some ⟨g,0,none⟩) l.length cap) l.length css.flatten ∧ w.heap.size ≤ g ∧ Hid (zad F s=za3 F s1.rest.length l s1) ∧ Hid (s1.e=0 → ∀ L:List Nat,(∀ x ∈ L,x < w.heap.size) → AllR TreeR wr (g :: L) css l))
   case atStart => exact ⟨[(F s).1],(F s).2,[[.pointer (some ⟨b1,0,none⟩)]],w1.heap.size,1,rfl,rfl,HS.out.1,HS.out.2.1,by have:=HL0.out; simp; omega,HS.out.2.2,hs1,HJ,hstart⟩
   case round =>have gCe:=QH trivial;exact ydN
 ):p:=h
theorem ydN {p:Prop} (h:p:=by
  clear hstart HS HJ HL0;obtain ⟨l,s1,css,g,cap,hgk,rfl,hM,hP,hll,ho,hg,HJ,HE⟩:=hrel;have htk:=zU wr pb tg s1 f hP wComma;have hwf:WfT s1.rest:=by obtain ⟨l,-,-,h3,-⟩:=hP; exact h3
  have hpos:0 < s1.rest.length:=List.length_pos_iff.2 hwf.ne;have hgl:=zar ho;have hgp:g ≠ pb:=by omega
  unfold zh at htk
  first
  |clear gCc
   cases ht:(s1.takes wComma).1 with
   | false =>
    have hs1:=zde ht;rw [ht,hs1] at htk;have hJ2:zad F s=(l,s1):=by exact ybk
    have hfin:=fun w2 (hM2:Mods [pb] wr w2) (hP2:PSt w2 pb tg s1 f) => FIN.out g cap css w2 l s1 hJ2 (hM.trans hM2) hP2 hg (by have:=hM2.size; omega) hgl.2.1 (fun j u hj => hM2.cell (hgl.2.2 j u hj) BQ) (fun he L hL =>
     ((
      HE.out he (pb :: L) (fun z hz => by
      rcases MC hz with rfl | hz
      ·exact hpw.1
      ·exact hL z hz)).map fun c x hx => itemRep.mods hx (hM2.mono)).map fun c x hx => itemRep.weaken (fun z hz => by
       rcases MC hz with rfl | hz
       ·exact List.mem_cons_self
       ·exact CM _ (CM _ hz)) hx)
    exact yaG
   | true =>have gAq:=QH trivial;exact ycT
  |clear gCd
   cases ht:(s1.takes wComma).1 with
   | false =>
    have hs1:=zde ht;rw [ht,hs1] at htk;have hJ2:zad F s=(l,s1):=by exact ybk
    have hfin:=fun w2 (hM2:Mods [pb] wr w2) (hP2:PSt w2 pb tg s1 f) => FIN.out g cap css w2 l s1 hJ2 (hM.trans hM2) hP2 hg (by have:=hM2.size; omega) hgl.2.1 (fun j u hj => hM2.cell (hgl.2.2 j u hj) BQ) (fun he L hL =>
     ((
      HE.out he (pb :: L) (fun z hz => by
      rcases MC hz with rfl | hz
      ·exact hpw.1
      ·exact hL z hz)).map fun c x hx => keyRep.mods hx (hM2.mono)).map fun c x hx => keyRep.weaken (fun z hz => by
       rcases MC hz with rfl | hz
       ·exact List.mem_cons_self
       ·exact CM _ (CM _ hz)) hx)
    exact yaG
   | true =>have gAr:=QH trivial;exact ycT
  |clear gCe
   cases ht:(s1.takes wComma).1 with
   | false =>
    have hs1:=zde ht;rw [ht,hs1] at htk;have hJ2:zad F s=(l,s1):=by exact ybk
    have hfin:=fun w2 (hM2:Mods [pb] wr w2) (hP2:PSt w2 pb tg s1 f) => FIN.out g cap css w2 l s1 hJ2 (hM.trans hM2) hP2 hg (by have:=hM2.size; omega) hgl.2.1 (fun j u hj => hM2.cell (hgl.2.2 j u hj) BQ) (fun he L hL =>
     ((
      HE.out he (pb :: L) (fun z hz => by
      rcases MC hz with rfl | hz
      ·exact hpw.1
      ·exact hL z hz)).map fun c x hx => treeRep.mods hx (hM2.mono)).map fun c x hx => treeRep.weaken (fun z hz => by
       rcases MC hz with rfl | hz
       ·exact List.mem_cons_self
       ·exact CM _ (CM _ hz)) hx)
    exact yaG
   | true =>have gAs:=QH trivial;exact ycT
 ):p:=h
theorem ycT {p:Prop} (h:p:=by
  obtain ⟨his,hTk⟩:=zdY ht;have HNL:Hid (s1.next.rest.length + 1=s1.rest.length):=QH (by unfold PS.next; rw [List.length_tail]; omega);have HJ2:Hid (∀ m,s1.rest.length=m + 1 → zad F s=za3 F m (l ++ [(F s1.next).1]) (F s1.next).2):=QH fun m hm => by
   rw [HJ.out,hm]
   conv => lhs; unfold za3
   rw [if_pos ht,hTk]
  rw [hTk] at htk;have HIS:=QH his;have HO:=QH (AI ho hgl);unfold wComma at htk;clear his hTk ht hP ho hgl FIN HJ hwf;go_wp2_with fail;(with_reducible refine htk.mono ?_);rintro e w2 ⟨rfl,hM2,hP2⟩;have h2:=HPT.out w2 s1.next hP2;unfold zh at h2;clear htk hP2;go_wp2_with fail;(with_reducible refine h2.mono ?_)
  first
  |clear gAq
   rintro e w3 ⟨b2,nm2,rfl,hM3,hP3,hE3⟩;(try unfold zh);have hown3:=zm (zm HO.out.1 hM2 AT) hM3 AT;have H3:=QH (AI hP3 hE3);clear h2 hP3 hE3;go_wp2_with (at_builtin; refine zw _ rfl _ _ 102 rfl 158 i0 _ 2 24 Tryz.underlying102 hi hz0 hz1 hz2 rfl AD (.slice (some ⟨g,0,none⟩) l.length cap) l.length css.flatten rfl (hown3.alloc _) ⟨w3.heap.size,0,none⟩ 1 1 [.pointer (some ⟨b2,0,none⟩),.string nm2] rfl rfl ?c1 ?c2 AD ?c3 ?c4 ?_)
   case c1 => exact zdy w3 #[.pointer (some ⟨b2,0,none⟩),.string nm2] _
   case c2 => intro u hu; simp only [List.mem_cons,List.not_mem_nil,or_false] at hu; rcases hu with rfl | rfl <;> rfl
   case c3 => unfold maxLen; omega
   case c4 => omega
   intro g' cap2 w5 hown5 hM5 hg5;have hst:=zeW itemRep hgo hpw.1 hpw.2 hM hM2 hM3 H3.out.1 HIS.out HNL.out HO.out.1 hg HE.out H3.out.2 HJ2.out hown5 hM5 AX;have HST:=QH hst;clear hst hown5 hM5 hg5 H3 HIS HJ2 HO hown3 HE;go_wp2_with fail;go_roundg (F s1.next).2.rest.length
   case measure => rw [← hgk]; exact HST.out.1
   case rel => exact ⟨l ++ [(F s1.next).1],(F s1.next).2,css ++ [[.pointer (some ⟨b2,0,none⟩),.string nm2]],g',cap2,rfl,by simp,HST.out.2.1,HST.out.2.2.1,by have:=HST.out.1; simp; omega,HST.out.2.2.2.2.2.1,HST.out.2.2.2.1,HST.out.2.2.2.2.1,HST.out.2.2.2.2.2.2⟩
  |clear gAr
   rintro e w3 ⟨p2,k2,nm2,d2,rfl,hM3,hP3,hE3⟩;(try unfold zh);have hown3:=zm (zm HO.out.1 hM2 AT) hM3 AT;have H3:=QH (AI hP3 hE3);clear h2 hP3 hE3;go_wp2_with (at_builtin; refine zw _ rfl _ _ 105 rfl 113 i0 _ 4 40 Tryz.underlying105 hi hz0 hz1 hz2 rfl AD (.slice (some ⟨g,0,none⟩) l.length cap) l.length css.flatten rfl (hown3.alloc _) ⟨w3.heap.size,0,none⟩ 1 1 [.int .i64 p2,.int .i64 k2,.string nm2,.bool d2] rfl rfl ?c1 ?c2 AD ?c3 ?c4 ?_)
   case c1 => exact zdy w3 #[.int .i64 p2,.int .i64 k2,.string nm2,.bool d2] _
   case c2 => intro u hu; simp only [List.mem_cons,List.not_mem_nil,or_false] at hu; rcases hu with rfl | rfl | rfl | rfl <;> rfl
   case c3 => unfold maxLen; omega
   case c4 => omega
   intro g' cap2 w5 hown5 hM5 hg5;have hst:=zeW keyRep hgo hpw.1 hpw.2 hM hM2 hM3 H3.out.1 HIS.out HNL.out HO.out.1 hg HE.out H3.out.2 HJ2.out hown5 hM5 AX;have HST:=QH hst;clear hst hown5 hM5 hg5 H3 HIS HJ2 HO hown3 HE;go_wp2_with fail;go_roundg (F s1.next).2.rest.length
   case measure => rw [← hgk]; exact HST.out.1
   case rel => exact ⟨l ++ [(F s1.next).1],(F s1.next).2,css ++ [[.int .i64 p2,.int .i64 k2,.string nm2,.bool d2]],g',cap2,rfl,by simp,HST.out.2.1,HST.out.2.2.1,by have:=HST.out.1; simp; omega,HST.out.2.2.2.2.2.1,HST.out.2.2.2.1,HST.out.2.2.2.2.1,HST.out.2.2.2.2.2.2⟩
  |clear gAs
   rintro e w3 ⟨b2,rfl,hM3,hP3,hE3⟩;(try unfold zh);have hown3:=zm (zm HO.out.1 hM2 AT) hM3 AT;have H3:=QH (AI hP3 hE3);clear h2 hP3 hE3;go_wp2_with (at_builtin; refine zw _ rfl _ _ 104 rfl 103 i0 _ 1 8 Tryz.underlying104 hi hz0 hz1 hz2 rfl AD (.slice (some ⟨g,0,none⟩) l.length cap) l.length css.flatten rfl (hown3.alloc _) ⟨w3.heap.size,0,none⟩ 1 1 [.pointer (some ⟨b2,0,none⟩)] rfl rfl ?c1 ?c2 AD ?c3 ?c4 ?_)
   case c1 => exact zdy w3 #[.pointer (some ⟨b2,0,none⟩)] _
   case c2 => intro u hu; simp only [List.mem_cons,List.not_mem_nil,or_false] at hu; rcases hu with rfl <;> rfl
   case c3 => unfold maxLen; omega
   case c4 => omega
   intro g' cap2 w5 hown5 hM5 hg5;have hst:=zeW treeRep hgo hpw.1 hpw.2 hM hM2 hM3 H3.out.1 HIS.out HNL.out HO.out.1 hg HE.out H3.out.2 HJ2.out hown5 hM5 AX;have HST:=QH hst;clear hst hown5 hM5 hg5 H3 HIS HJ2 HO hown3 HE;go_wp2_with fail;go_roundg (F s1.next).2.rest.length
   case measure => rw [← hgk]; exact HST.out.1
   case rel => exact ⟨l ++ [(F s1.next).1],(F s1.next).2,css ++ [[.pointer (some ⟨b2,0,none⟩)]],g',cap2,rfl,by simp,HST.out.2.1,HST.out.2.2.1,by have:=HST.out.1; simp; omega,HST.out.2.2.2.2.2.1,HST.out.2.2.2.1,HST.out.2.2.2.2.1,HST.out.2.2.2.2.2.2⟩
 ):p:=h
theorem yaG {p:Prop} (h:p:=by
  have HFIN:=QH hfin;unfold wComma at htk;clear hfin hJ2 ht hs1 hP ho hgl FIN HJ HE hwf;go_wp2_with fail;(with_reducible refine htk.mono ?_);rintro e w2 ⟨rfl,hM2,hP2⟩;clear htk;have fin:=QH (HFIN.out w2 hM2 hP2);clear HFIN hP2;go_wp2_with fail;go_ret;exact fin.out
 ):p:=h
theorem yaL {p:Prop} (h:p:=by
  have hM9:Mods [pb] w w5:=(hMw.mono (L':=[pb])).trans hM5;have hs9:=hM9.size;have hfin:PRes pb tg f (zo (subOf f)) s w (.returned (.pointer (some ⟨w5.heap.size,0,none⟩))) _:=⟨w5.heap.size,rfl,hM9.trans (hz.mono (L':=[pb]) AB),by rw [HF.out]; exact hP5.later hz,by rw [HF.out,HT.out]; exact fun _ L hL => ⟨w5.heap.size,rfl,fun hm => by have:=hL _ hm; omega,hn⟩⟩;have HFIN:=QH hfin;clear hfin hz hP5 hM5 hn hM9 ht5;go_wp2_with fail;go_ret;exact HFIN.out
 ):p:=h
theorem ybk {p:Prop} (h:p:=by
  rw [HJ.out];obtain ⟨m,hm⟩ : ∃ m,s1.rest.length=m + 1:=⟨s1.rest.length - 1,by omega⟩;rw [hm];unfold za3;rw [if_neg (by rw [ht]; decide),hs1]
 ):p:=h
theorem ybp {p:Prop} (h:p:=by
  refine ⟨(h.lt g rfl).2,?_,fun j u hj => ?_⟩
  ·rcases h.2 with ⟨hv,-⟩ | ⟨g',cap',cur,hv,-,-,hc,-⟩
   ·cases hv
   ·simp only [Value.slice.injEq] at hv;rw [hv.2.2]; exact hc
  ·have:=h.cells (g:=g) rfl j u hj;rw [zci,Nat.zero_add] at this;exact this
 ):p:=h
theorem ycl {p:Prop} (h:p:=by
  unfold PS.takes at h ⊢;split
  ·rename_i hi; exact ⟨hi,rfl⟩
  ·rename_i hi; rw [if_neg hi] at h; cases h
 ):p:=h
theorem zmA {sub:Option Lvl} {s:PS} (h:s.e ≠ 0):zo sub s=(emp,s):=by unfold zo; rw [if_pos h]
theorem zmB {sub:Option Lvl} {s:PS} (h:s.e=0) (k:s.now.kind=3):zo sub s=(.leaf { op:=oNumber,pos:=s.now.pos,n:=s.now.n,scale:=s.now.scale },s.next):=by unfold zo; rw [if_neg AN,if_pos k]
theorem zkI {sub:Option Lvl} {s:PS} (h:s.e=0) (k:s.now.kind=4):zo sub s=(.leaf { op:=oText,pos:=s.now.pos,s:=s.now.s },s.next):=by unfold zo; rw [if_neg AN,if_neg AA,if_pos k]
theorem zkJ {sub:Option Lvl} {s:PS} (h:s.e=0) (k:s.now.kind=2):zo sub s=zY s:=by unfold zo; rw [if_neg AN,if_neg AA,if_neg AA,if_pos k]
theorem zhY (w:World) (pb tg:Nat) (f:Nat) (s:PS) (h:PSt w pb tg s f)
  (hexpr:∀ f',f=f' + 1 → ∀ W s1,PSt W pb tg s1 f' → Calls Tryz.prog 57 #[zh pb] W (PRes pb tg f' (lvl f').expr s1 W)) :
  Calls Tryz.prog 223 #[zh pb] w (PRes pb tg f (zo (subOf f)) s w):=by
 by_cases hmap:s.e=0 ∧ s.now.kind ≠ 3 ∧ s.now.kind ≠ 4 ∧ s.now.kind ≠ 2
 ·obtain ⟨he,k1,k2,k3⟩:=hmap;exact zhM w pb tg f s h he k1 k2 k3 (fun hk W hP => zhj W pb tg f s hP he hk hexpr) (fun hk hl ha W hP => zgw W pb tg f s hP he hk hl ha hexpr)
 ·have hpw:=h.lt;have hnow:=zaO w pb tg s f h;obtain ⟨off,cap,hb,-⟩:=h.tok;have e3:w.cell? ⟨pb,3,none⟩ = some (.int .i64 s.e):=za hb 3;have HP:=QH h;unfold zh at *;clear h hb hexpr;have gCZ:=QH trivial;exact yed
structure LvlC (f:Nat):Prop where
 minus:∀ (W:World) (pb tg:Nat) (s:PS),PSt W pb tg s f → Calls Tryz.prog 222 #[zh pb] W (PRes pb tg f (lvl f).minus s W)
 not:∀ (W:World) (pb tg:Nat) (s:PS),PSt W pb tg s f → Calls Tryz.prog 131 #[zh pb] W (PRes pb tg f (lvl f).not s W)
 expr:∀ (W:World) (pb tg:Nat) (s:PS),PSt W pb tg s f → Calls Tryz.prog 57 #[zh pb] W (PRes pb tg f (lvl f).expr s W)
theorem zkK {f:Nat} (h:∀ f',f=f' + 1 → LvlC f'):LvlC f:=by
 have hs:=zmu f
 have hprim:∀ (W:World) (pb tg:Nat) (s:PS),PSt W pb tg s f → Calls Tryz.prog 223 #[zh pb] W (PRes pb tg f (zo (subOf f)) s W):=
  fun W pb tg s hP => zhY W pb tg f s hP (fun f' hf W2 s2 hP2 => (h f' hf).expr W2 pb tg s2 hP2)
 have hminus:∀ (W:World) (pb tg:Nat) (s:PS),PSt W pb tg s f → Calls Tryz.prog 222 #[zh pb] W (PRes pb tg f (zbo (subOf f)) s W):=
  fun W pb tg s hP => zkE W pb tg f s hP (fun W2 hP2 => hprim W2 pb tg s hP2) (fun f' hf W2 s2 hP2 => (h f' hf).minus W2 pb tg s2 hP2)
 have hterm:∀ (W:World) (pb tg:Nat) (s:PS),PSt W pb tg s f → Calls Tryz.prog 215 #[zh pb] W (PRes pb tg f (termF (subOf f)) s W):=
  fun W pb tg s hP => zmw W pb tg f s hP (zbG hs) (fun W2 s2 hP2 => hminus W2 pb tg s2 hP2)
 have hsum:∀ (W:World) (pb tg:Nat) (s:PS),PSt W pb tg s f → Calls Tryz.prog 198 #[zh pb] W (PRes pb tg f (zc6 (subOf f)) s W):=
  fun W pb tg s hP => zn3 W pb tg f s hP (zdr hs) (fun W2 s2 hP2 => hterm W2 pb tg s2 hP2)
 have htest:∀ (W:World) (pb tg:Nat) (s:PS),PSt W pb tg s f → Calls Tryz.prog 166 #[zh pb] W (PRes pb tg f (zbg (subOf f)) s W):=
  fun W pb tg s hP => zmy W pb tg f s hP (zes hs) (fun W2 s2 hP2 => hsum W2 pb tg s2 hP2)
 have hnot:∀ (W:World) (pb tg:Nat) (s:PS),PSt W pb tg s f → Calls Tryz.prog 131 #[zh pb] W (PRes pb tg f (notF (subOf f)) s W):=
  fun W pb tg s hP => zn2 W pb tg f s hP (fun W2 hP2 => htest W2 pb tg s hP2) (fun f' hf W2 s2 hP2 => (h f' hf).not W2 pb tg s2 hP2)
 have hand:∀ (W:World) (pb tg:Nat) (s:PS),PSt W pb tg s f → Calls Tryz.prog 92 #[zh pb] W (PRes pb tg f (andF (subOf f)) s W):=
  fun W pb tg s hP => zn4 W pb tg f s hP (zcO hs) (fun W2 s2 hP2 => hnot W2 pb tg s2 hP2)
 have hexpr:∀ (W:World) (pb tg:Nat) (s:PS),PSt W pb tg s f → Calls Tryz.prog 57 #[zh pb] W (PRes pb tg f (exprF (subOf f)) s W):=
  fun W pb tg s hP => zmx W pb tg f s hP (zet hs) (fun W2 s2 hP2 => hand W2 pb tg s2 hP2)
 have e:=zfP f;exact ⟨by rw [e]; exact hminus,by rw [e]; exact hnot,by rw [e]; exact hexpr⟩
theorem lvlC:∀ f,LvlC f:=by
 intro f
 induction f with
 | zero => exact zkK fun f' hf => by omega
 | succ f ih => exact zkK fun f' hf => by
                        obtain rfl:f=f':=by omega
                        exact ih
theorem ziN (w:World) (pb tg f:Nat) (s:PS) (h:PSt w pb tg s f):Calls Tryz.prog 57 #[zh pb] w (PRes pb tg f (lvl f).expr s w):=(lvlC f).expr w pb tg s h
def wSelect:Bs:=[83,69,76,69,67,84]
def wFrom:Bs:=[70,82,79,77]
def wJoin:Bs:=[74,79,73,78]
def wOn:Bs:=[79,78]
def wWhere:Bs:=[87,72,69,82,69]
def wGroup:Bs:=[71,82,79,85,80]
def wBy:Bs:=[66,89]
def wOrder:Bs:=[79,82,68,69,82]
def wLimit:Bs:=[76,73,77,73,84]
def wOffset:Bs:=[79,70,70,83,69,84]
def wAs:Bs:=[65,83]
def wDesc:Bs:=[68,69,83,67]
def wAsc:Bs:=[65,83,67]
structure za2 where
 e:Tree
 name:Bs
deriving DecidableEq
structure zfI where
 pos:Nat
 item:Int
 name:Bs
 desc:Bool
deriving DecidableEq
structure zt where
 star:Bool:=false
 items:List za2:=[]
 src:Bs:=[]
 join:Bs:=[]
 srcAt:Nat:=0
 joinAt:Nat:=0
 on:Option Tree:=none
 whr:Option Tree:=none
 group:List Tree:=[]
 order:List zfI:=[]
 limit:Int:=-1
 offset:Int:=-1
deriving DecidableEq
def za3 {α:Type} (one:PS → α × PS):Nat → List α → PS → List α × PS
 | 0,l,s => (l,s)
 | n + 1,l,s => if (s.takes wComma).1=true then za3 one n (l ++ [(one (s.takes wComma).2).1]) (one (s.takes wComma).2).2 else (l,(s.takes wComma).2)
def zad {α:Type} (one:PS → α × PS) (s:PS):List α × PS:=za3 one (one s).2.rest.length [(one s).1] (one s).2
def zbv (E:PF) (s:PS):za2 × PS:=
 if ((E s).2.takes wAs).1=true then (⟨(E s).1,((E s).2.takes wAs).2.name.1⟩,((E s).2.takes wAs).2.name.2) else (⟨(E s).1,[]⟩,((E s).2.takes wAs).2)
def zaB (s:PS):(Int × Bs) × PS:=if s.now.kind=2 then ((0,s.name.1),s.name.2) else ((s.count.1,[]),s.count.2)
def zfw (s:PS):zfI × PS:=
 (⟨s.now.pos,(zaB s).1.1,(zaB s).1.2,((zaB s).2.takes wDesc).1⟩,if ((zaB s).2.takes wDesc).1=true then ((zaB s).2.takes wDesc).2 else (((zaB s).2.takes wDesc).2.takes wAsc).2)
abbrev QS:=zt × PS
def q1 (E:PF) (s:PS):QS:=
 let t:=(s.wants [wSelect]).takes wStar
 if t.1=true then ({ star:=true },t.2) else ({ items:=(zad (zbv E) t.2).1 },(zad (zbv E) t.2).2)
def q2 (x:QS):QS:=
 let s1:=x.2.wants [wFrom]
 ({ x.1 with srcAt:=s1.now.pos,src:=s1.name.1 },s1.name.2)
def q3 (E:PF) (x:QS):QS:=
 let t:=x.2.takes wJoin
 if t.1=true then
  let s2:=t.2.name.2.wants [wOn]
  ({ x.1 with joinAt:=t.2.now.pos,join:=t.2.name.1,on:=some (E s2).1 },(E s2).2)
 else (x.1,t.2)
def q4 (E:PF) (x:QS):QS:=
 let t:=x.2.takes wWhere
 if t.1=true then ({ x.1 with whr:=some (E t.2).1 },(E t.2).2) else (x.1,t.2)
def q5 (x:QS):QS:=
 let t:=x.2.takes wGroup
 if t.1=true then ({ x.1 with group:=(zad zY (t.2.wants [wBy])).1 },(zad zY (t.2.wants [wBy])).2) else (x.1,t.2)
def q6 (x:QS):QS:=
 let t:=x.2.takes wOrder
 if t.1=true then ({ x.1 with order:=(zad zfw (t.2.wants [wBy])).1 },(zad zfw (t.2.wants [wBy])).2) else (x.1,t.2)
def q7 (x:QS):QS:=
 let t:=x.2.takes wLimit
 if t.1=true then ({ x.1 with limit:=t.2.count.1 },t.2.count.2) else (x.1,t.2)
def q8 (x:QS):QS:=
 let t:=x.2.takes wOffset
 if t.1=true then ({ x.1 with offset:=t.2.count.1 },t.2.count.2) else (x.1,t.2)
def zcz (E:PF) (s:PS):QS:=q8 (q7 (q6 (q5 (q4 E (q3 E (q2 (q1 E s)))))))
inductive Parsed where
 | good (q:zt)
 | bad (pos e:Nat)
deriving DecidableEq
def parseT (ts:List Tok):Parsed:=
 let x:=zcz (lvl 64).expr ⟨ts ++ ts.drop (ts.length - 1),0,0⟩;let s:=(x.2.of 0).2.2
 if s.e=0 then .good x.1 else .bad s.pos s.e
def zcg (l:Bs):Parsed:=match za4 l with | .bad p => .bad p 8 | .good ts => parseT ts
def zcW {α:Type} (F:PS → α × PS):Prop:=∀ s,Aft s (F s).2
theorem zbM (s:PS):Aft s s.count.2:=by
 unfold PS.count;simp only;have h:Aft s (if 0 < s.now.scale then s.fail 8 else s):=by split; exact Aft.fail s 8; exact Aft.refl s
 generalize (if 0 < s.now.scale then s.fail 8 else s)=s1 at *;have h2:=h.trans (Aft.of s1 3 AD);by_cases hb:(s1.of 3).2.1=true
 ·rw [if_pos hb]; exact h2
 ·rw [if_neg hb]; exact h2
theorem zdX {α:Type} {one:PS → α × PS} (h:zcW one):∀ (n:Nat) (l:List α),zcW (za3 one n l):=by
 intro n
 induction n with
 | zero => intro l s; exact Aft.refl s
 | succ n ih =>
  intro l s;unfold za3;split
  ·exact ((Aft.takes s wComma).trans (h _)).trans (ih _ _)
  ·exact Aft.takes s wComma
theorem zba {α:Type} {one:PS → α × PS} (h:zcW one):zcW (zad one):=fun s => (h s).trans (zdX h _ _ _)
theorem zca {E:PF} (h:zbn E):zcW (zbv E):=by
 intro s;unfold zbv;split
 ·exact ((h s).trans (Aft.takes _ _)).trans (Aft.name _)
 ·exact (h s).trans (Aft.takes _ _)
theorem zeb:zcW zaB:=by
 intro s;unfold zaB;split
 ·exact Aft.name s
 ·exact zbM s
theorem zdx:zcW zfw:=by
 intro s;unfold zfw;simp only;split
 ·exact (zeb s).trans (Aft.takes _ _)
 ·exact ((zeb s).trans (Aft.takes _ _)).trans (Aft.takes _ _)
theorem znJ {E:PF} (h:zbn E) (s:PS):Aft s (q1 E s).2:=by
 unfold q1;simp only;split
 ·exact (Aft.wants _ _).trans (Aft.takes _ _)
 ·exact ((Aft.wants _ _).trans (Aft.takes _ _)).trans (zba (zca h) _)
theorem ziO (x:QS):Aft x.2 (q2 x).2:=(Aft.wants _ _).trans (Aft.name _)
theorem zkL {E:PF} (h:zbn E) (x:QS):Aft x.2 (q3 E x).2:=by
 unfold q3;simp only;split
 ·exact (((Aft.takes _ _).trans (Aft.name _)).trans (Aft.wants _ _)).trans (h _)
 ·exact Aft.takes _ _
theorem zkM {E:PF} (h:zbn E) (x:QS):Aft x.2 (q4 E x).2:=by
 unfold q4;simp only;split
 ·exact (Aft.takes _ _).trans (h _)
 ·exact Aft.takes _ _
theorem zkN (x:QS):Aft x.2 (q5 x).2:=by
 unfold q5;simp only;split
 ·exact ((Aft.takes _ _).trans (Aft.wants _ _)).trans (zba zaV _)
 ·exact Aft.takes _ _
theorem zkO (x:QS):Aft x.2 (q6 x).2:=by
 unfold q6;simp only;split
 ·exact ((Aft.takes _ _).trans (Aft.wants _ _)).trans (zba zdx _)
 ·exact Aft.takes _ _
theorem zkP (x:QS):Aft x.2 (q7 x).2:=by
 unfold q7;simp only;split
 ·exact (Aft.takes _ _).trans (zbM _)
 ·exact Aft.takes _ _
theorem zkQ (x:QS):Aft x.2 (q8 x).2:=by
 unfold q8;simp only;split
 ·exact (Aft.takes _ _).trans (zbM _)
 ·exact Aft.takes _ _
theorem zkR {E:PF} (h:zbn E) (s:PS):Aft s (zcz E s).2:=
 (znJ h s).trans ((ziO _).trans ((zkL h _).trans ((zkM h _).trans ((zkN _).trans ((zkO _).trans ((zkP _).trans (zkQ _)))))))
theorem zjE {α:Type} {one:PS → α × PS} (h:zcW one):∀ (n m:Nat) (l:List α) (s:PS),WfT s.rest → s.rest.length ≤ n → s.rest.length ≤ m → za3 one n l s=za3 one m l s:=by
 intro n
 induction n with
 | zero =>intro m l s hw hn hm;exact absurd (List.length_eq_zero_iff.1 AA) hw.ne
 | succ n ih =>
  intro m l s hw hn hm
  cases m with
  | zero => exact absurd (List.length_eq_zero_iff.1 AA) hw.ne
  | succ m =>
   unfold za3;by_cases ht:(s.takes wComma).1=true
   ·rw [if_pos ht,if_pos ht];have hi:s.is [wComma]=true:=by
     unfold PS.takes at ht;split at ht
     ·assumption
     ·simp at ht
    have hT:s.takes wComma=(true,s.next):=by unfold PS.takes; rw [if_pos hi]
    have hA:=Aft.next (zQ hi).1 (zQ hi).2;have hB:=h s.next;have hl:s.next.rest.length + 1=s.rest.length:=by
     unfold PS.next
     cases hr:s.rest with
     | nil => exact absurd hr hw.ne
     | cons t r => simp
    rw [hT];exact ih m _ _ (hB.wf (hA.wf hw)) (by have:=hB.len; show (one s.next).2.rest.length ≤ n; omega) (by have:=hB.len; show (one s.next).2.rest.length ≤ m; omega)
   ·rw [if_neg ht,if_neg ht]
abbrev zel (α:Type):=World → List Nat → List Value → α → Prop
structure Rep {α:Type} (R:zel α):Prop where
 mods:∀ {w w':World} {L:List Nat} {cs:List Value} {a:α},R w L cs a → Mods L w w' → R w' L cs a
 weaken:∀ {w:World} {L L':List Nat} {cs:List Value} {a:α},(∀ x ∈ L',x ∈ L) → R w L cs a → R w L' cs a
 fresh:∀ {w:World} {L:List Nat} {cs:List Value} {a:α} {g:Nat},w.heap.size ≤ g → R w L cs a → R w (g :: L) cs a
def AllR {α:Type} (R:zel α) (w:World) (L:List Nat):List (List Value) → List α → Prop
 | [],[] => True
 | c :: cs,x :: xs => R w L c x ∧ AllR R w L cs xs
 | _,_ => False
theorem AllR.map {α:Type} {R:zel α} {w w':World} {L L':List Nat} (h:∀ c x,R w L c x → R w' L' c x):∀ {css:List (List Value)} {xs:List α},AllR R w L css xs → AllR R w' L' css xs:=by
 intro css
 induction css with
 | nil => intro xs hx; cases xs with
  | nil => trivial
  | cons x xs => exact hx.elim
 | cons c cs ih => intro xs hx; cases xs with
  | nil => exact hx.elim
  | cons x xs => exact ⟨h _ _ hx.1,ih hx.2⟩
theorem AllR.snoc {α:Type} {R:zel α} {w:World} {L:List Nat} {c:List Value} {x:α} (hc:R w L c x):∀ {css:List (List Value)} {xs:List α},AllR R w L css xs → AllR R w L (css ++ [c]) (xs ++ [x]):=by
 intro css
 induction css with
 | nil => intro xs hx; cases xs with
  | nil => exact ⟨hc,trivial⟩
  | cons x xs => exact hx.elim
 | cons c cs ih => intro xs hx; cases xs with
  | nil => exact hx.elim
  | cons x xs => exact ⟨hx.1,ih hx.2⟩
theorem ExprAt.fresh {T T2:TypeId} {w:World} {L:List Nat} {g:Nat} (hg:w.heap.size ≤ g):∀ {t:Tree} {v:Value},ExprAt T T2 w L v t → ExprAt T T2 w (g :: L) v t:=by
 intro t
 induction t with
 | leaf h =>rintro v ⟨b,h1,h2,h3⟩;have:=zj h3;exact ⟨b,h1,by simp; exact ⟨by omega,h2⟩,h3⟩
 | un h a ih =>rintro v ⟨b,c,u,h1,h2,h3,h4,h5,h6⟩;have:=zj h4;have:=zj h5;exact ⟨b,c,u,h1,by simp; exact ⟨by omega,h2⟩,by simp; exact ⟨by omega,h3⟩,h4,h5,ih h6⟩
 | bin h a d iha ihd =>rintro v ⟨b,c,u,x,h1,h2,h3,h4,h5,h6,h7⟩;have:=zj h4;have:=zj h5;exact ⟨b,c,u,x,h1,by simp; exact ⟨by omega,h2⟩,by simp; exact ⟨by omega,h3⟩,h4,h5,iha h6,ihd h7⟩
def TreeR:zel Tree:=fun w L cs t => ∃ b,cs=[zh b] ∧ ExprAt 171 103 w L (zh b) t
def ItemR:zel za2:=fun w L cs i => ∃ b,cs=[zh b,.string ⟨i.name.toArray⟩] ∧ ExprAt 171 103 w L (zh b) i.e
def KeyR:zel zfI:=fun w L cs k => cs=[.int .i64 k.pos,.int .i64 k.item,.string ⟨k.name.toArray⟩,.bool k.desc]
theorem treeRep:Rep TreeR:=⟨fun ⟨b,h1,h2⟩ hM => ⟨b,h1,h2.mods hM⟩,fun hL ⟨b,h1,h2⟩ => ⟨b,h1,h2.weaken hL⟩,fun hg ⟨b,h1,h2⟩ => ⟨b,h1,h2.fresh hg⟩⟩
theorem itemRep:Rep ItemR:=⟨fun ⟨b,h1,h2⟩ hM => ⟨b,h1,h2.mods hM⟩,fun hL ⟨b,h1,h2⟩ => ⟨b,h1,h2.weaken hL⟩,fun hg ⟨b,h1,h2⟩ => ⟨b,h1,h2.fresh hg⟩⟩
theorem keyRep:Rep KeyR:=⟨fun h _ => h,fun _ h => h,fun _ h => h⟩
def ListRes {α:Type} (R:zel α) (pb tg f:Nat) (F:PS → List α × PS) (s:PS) (w:World) (e:Ending) (w':World):Prop:=
 ∃ g cap css,e = .returned (.slice (some ⟨g,0,none⟩) (F s).1.length cap) ∧ Mods [pb] w w' ∧ PSt w' pb tg (F s).2 f ∧ w.heap.size ≤ g ∧ g < w'.heap.size ∧ (F s).1.length ≤ cap ∧ (∀ j u,css.flatten[j]? = some u → w'.cell? ⟨g,j,none⟩ = some u) ∧
  ((F s).2.e=0 → ∀ L:List Nat,(∀ x ∈ L,x < w.heap.size) → AllR R w' (g :: L) css (F s).1)
theorem zde {s:PS} {x:Bs} (h:(s.takes x).1=false):(s.takes x).2=s:=by
 unfold PS.takes at h ⊢;split
 ·rename_i hi; rw [if_pos hi] at h; cases h
 ·rfl
theorem zdY {s:PS} {x:Bs} (h:(s.takes x).1=true):s.is [x]=true ∧ s.takes x=(true,s.next):=by exact ycl
theorem zeW {α:Type} {R:zel α} (hR:Rep R) {T:TypeId} {size:Nat} {w wr w2 w3 w5:World} {pb tg f:Nat} {F:PS → α × PS} {s s1:PS} {l:List α} {css:List (List Value)} {c:List Value} {g cap g' cap':Nat} {o:Obj}
  (hgo:zcW F) (hpb:pb < w.heap.size) (htg:tg < w.heap.size) (hM:Mods [pb] w wr) (h2:Mods [pb] wr w2) (h3:Mods [pb] w2 w3) (hP3:PSt w3 pb tg (F s1.next).2 f) (hi:s1.is [wComma]=true) (hlen:s1.next.rest.length + 1=s1.rest.length)
  (ho3:wr.ownsRow 0 T size (.slice (some ⟨g,0,none⟩) l.length cap) l.length css.flatten) (hg:w.heap.size ≤ g)
  (hE:s1.e=0 → ∀ L:List Nat,(∀ z ∈ L,z < w.heap.size) → AllR R wr (g :: L) css l) (hE3:(F s1.next).2.e=0 → ∀ L:List Nat,(∀ z ∈ L,z < w2.heap.size) → R w3 L c (F s1.next).1)
  (hJ:∀ m,s1.rest.length=m + 1 → zad F s=za3 F m (l ++ [(F s1.next).1]) (F s1.next).2)
  (h5:w5.ownsRow 0 T size (.slice (some ⟨g',0,none⟩) (l.length + 1) cap') (l.length + 1) (css.flatten ++ c)) (hM5:Mods [g] (w3.alloc o) w5) (hg':g'=g ∨ (w3.alloc o).heap.size ≤ g') :
  (F s1.next).2.rest.length < s1.rest.length ∧ Mods [pb] w w5 ∧ PSt w5 pb tg (F s1.next).2 f ∧ w.heap.size ≤ g' ∧
   Hid (zad F s=za3 F (F s1.next).2.rest.length (l ++ [(F s1.next).1]) (F s1.next).2) ∧
   w5.ownsRow 0 T size (.slice (some ⟨g',0,none⟩) (l ++ [(F s1.next).1]).length cap') (l ++ [(F s1.next).1]).length (css ++ [c]).flatten ∧
   Hid ((F s1.next).2.e=0 → ∀ L:List Nat,(∀ z ∈ L,z < w.heap.size) → AllR R w5 (g' :: L) (css ++ [c]) (l ++ [(F s1.next).1])):=by
 have hl:=(hgo s1.next).len;have hwf:WfT (F s1.next).2.rest:=by obtain ⟨l,-,-,h3,-⟩:=hP3; exact h3
 have hz:=(QM [] w3).alloc o;have hgl:g < wr.heap.size:=ho3.lt g rfl |>.2;have hs1:=hM.size;have hs2:=h2.size;have hs3:=h3.size;have hM3:Mods [pb] w w3:=(hM.trans h2).trans h3;have hgp:g ≠ pb:=by omega
 have hgt:g ≠ tg:=by omega
 refine ⟨by omega,((hM3.trans (hz.mono (L':=[pb]) AB)).trans hM5 (fun x hx => .inr AQ)),(hP3.later hz).mods hM5 (by simpa using hgp.symm) (by simpa using hgt.symm),?_,QH ?_,?_,QH fun he L hL => ?_⟩
 ·rcases hg' with rfl | h
  ·exact hg
  ·rw [zl] at h; omega
 ·rw [hJ s1.next.rest.length hlen.symm];exact zjE hgo _ _ _ _ hwf hl (LR _)
 ·rw [List.length_append,List.flatten_append];simpa using h5
 ·have h1e:s1.e=0:=(zQ hi).1;have hL1:∀ z ∈ (pb :: L),z < w.heap.size:=fun z hz => by
   rcases MC hz with rfl | hz
   ·exact hpb
   ·exact hL _ hz
  have a1:AllR R w3 (g :: pb :: L) css l:=(hE h1e (pb :: L) hL1).map fun c x h => hR.mods h (((h2.trans h3).mono (L':=g :: pb :: L) AB));have a2:R w3 (g :: pb :: L) c (F s1.next).1:=hE3 he (g :: pb :: L) fun z hz => by
   rcases MC hz with rfl | hz
   ·omega
   ·have:=hL1 z hz; omega
  have a3:=AllR.snoc a2 a1;have a4:AllR R (w3.alloc o) (g :: pb :: L) (css ++ [c]) (l ++ [(F s1.next).1]):=a3.map fun c x h => hR.mods h (hz.mono);rcases hg' with rfl | h
  ·exact (a4.map fun c x h => hR.mods h (hM5.mono)).map fun c x h => hR.weaken (fun z hz => by
    rcases MC hz with rfl | hz
    ·exact List.mem_cons_self
    ·exact CM _ (CM _ hz)) h
  ·have a5:AllR R (w3.alloc o) (g' :: g :: pb :: L) (css ++ [c]) (l ++ [(F s1.next).1]):=a4.map fun c x hx => hR.fresh h hx
   exact (a5.map fun c x h => hR.mods h (hM5.mono)).map fun c x h => hR.weaken (fun z hz => by
    rcases MC hz with rfl | hz
    ·exact List.mem_cons_self
    ·exact CM _ (CM _ (CM _ hz))) h
theorem zar {w:World} {T:TypeId} {size g n cap:Nat} {xs:List Value} (h:w.ownsRow 0 T size (.slice (some ⟨g,0,none⟩) n cap) n xs):g < w.heap.size ∧ n ≤ cap ∧ ∀ j u,xs[j]? = some u → w.cell? ⟨g,j,none⟩ = some u:=by exact ybp
theorem zdy (w:World) (cs:Array Value) (T:TypeId):∀ j u,cs.toList[j]? = some u → (w.alloc (.cells cs T)).cell? ((⟨w.heap.size,0,none⟩ : Addr).add j)=some u:=by intro j u hj;rw [zci,Nat.zero_add,za (QN w _) j];simpa using hj
def ItemRes (pb tg f:Nat) (F:PS → za2 × PS) (s:PS) (w:World) (e:Ending) (w':World):Prop:=
 ∃ (b:Nat) (nm:ByteArray),e = .returned (.agg #[zh b,.string nm]) ∧ Mods [pb] w w' ∧ PSt w' pb tg (F s).2 f ∧ ((F s).2.e=0 → ∀ L:List Nat,(∀ x ∈ L,x < w.heap.size) → ItemR w' L [zh b,.string nm] (F s).1)
theorem zkS (w:World) (pb tg:Nat) (f:Nat) (s:PS) (h:PSt w pb tg s f) (hlen:s.rest.length ≤ 10000) (F:PS → za2 × PS) (hgo:zcW F)
  (hone:∀ W s1,PSt W pb tg s1 f → Calls Tryz.prog 54 #[zh pb] W (ItemRes pb tg f F s1 W)) :
  Calls Tryz.prog 53 #[zh pb,.func (.func 54) #[zh pb] #[]] w (ListRes ItemR pb tg f (zad F) s w):=by
 have hpw:=h.lt;obtain ⟨i0,hi,hz0,hz1,hz2⟩:=info_parts (show (Tryz.prog.info? 158).map (fun i => (i.zero,i.size,i.bytes))=some (some (.agg #[.pointer none,.string ⟨#[]⟩]),2,24) by kernel_rfl);have h1:=hone w s h;have HPT:=QH hone;have HL0:Hid ((F s).2.rest.length ≤ s.rest.length):=QH (hgo s).len
 have FIN:Hid (∀ g cap css w' l s2,zad F s=(l,s2) → Mods [pb] w w' → PSt w' pb tg s2 f → w.heap.size ≤ g → g < w'.heap.size → l.length ≤ cap → (∀ j u,css.flatten[j]? = some u → w'.cell? ⟨g,j,none⟩ = some u) → (s2.e=0 → ∀ L:List Nat,(∀ x ∈ L,x < w.heap.size) → AllR ItemR w' (g :: L) css l) → ListRes ItemR pb tg f (zad F) s w (.returned (.slice (some ⟨g,0,none⟩) l.length cap)) w'):=
  QH (fun g cap css w' l s2 e h1 h2 h3 h3' h4 h5 h6 => ⟨g,cap,css,by rw [e],h1,by rw [e]; exact h2,h3,h3',by rw [e]; exact h4,h5,by rw [e]; exact h6⟩)
 unfold zh at *;clear h hone;go_enter Tryz.func53, Tryz.ntmps53;go_wp2_with fail;(with_reducible refine h1.mono ?_);rintro e w1 ⟨b1,nm1,rfl,hM1,hP1,hE1⟩;(try unfold zh);clear h1;have HJ:Hid (zad F s=za3 F (F s).2.rest.length [(F s).1] (F s).2):=QH rfl;have hz:=(QM [] w1).alloc (.cells #[.pointer (some ⟨b1,0,none⟩),.string nm1] 158);have hbn:=QN w1 (.cells #[.pointer (some ⟨b1,0,none⟩),.string nm1] 158);have hown1:(w1.alloc (.cells #[.pointer (some ⟨b1,0,none⟩),.string nm1] 158)).ownsRow 0 158 2 (.slice (some ⟨w1.heap.size,0,none⟩) 1 1) 1 [.pointer (some ⟨b1,0,none⟩),.string nm1]:=⟨rfl,.inr ⟨_,1,_,rfl,Nat.zero_le _,hbn,LR _,by unfold maxLen; omega,rfl,rfl⟩⟩;have hs1:=hM1.size;have hstart:Hid ((F s).2.e=0 → ∀ L:List Nat,(∀ x ∈ L,x < w.heap.size) → AllR ItemR (w1.alloc (.cells #[.pointer (some ⟨b1,0,none⟩),.string nm1] 158)) (w1.heap.size :: L) [[.pointer (some ⟨b1,0,none⟩),.string nm1]] [(F s).1]):=QH fun he L hL => ⟨(itemRep.mods (itemRep.fresh (LR _) (hE1 he L hL)) (hz.mono)),trivial⟩;have gDw:=QH trivial;exact yep
def KeyRes (pb tg f:Nat) (F:PS → zfI × PS) (s:PS) (w:World) (e:Ending) (w':World):Prop:=
 ∃ (p k:Int) (nm:ByteArray) (d:Bool),e = .returned (.agg #[.int .i64 p,.int .i64 k,.string nm,.bool d]) ∧ Mods [pb] w w' ∧ PSt w' pb tg (F s).2 f ∧ ((F s).2.e=0 → ∀ L:List Nat,(∀ x ∈ L,x < w.heap.size) → KeyR w' L [.int .i64 p,.int .i64 k,.string nm,.bool d] (F s).1)
theorem zmC (w:World) (pb tg:Nat) (f:Nat) (s:PS) (h:PSt w pb tg s f) (hlen:s.rest.length ≤ 10000) (F:PS → zfI × PS) (hgo:zcW F)
  (hone:∀ W s1,PSt W pb tg s1 f → Calls Tryz.prog 61 #[zh pb] W (KeyRes pb tg f F s1 W)) :
  Calls Tryz.prog 60 #[zh pb,.func (.func 61) #[zh pb] #[]] w (ListRes KeyR pb tg f (zad F) s w):=by
 have hpw:=h.lt;obtain ⟨i0,hi,hz0,hz1,hz2⟩:=info_parts (show (Tryz.prog.info? 113).map (fun i => (i.zero,i.size,i.bytes))=some (some (.agg #[.int .i64 0,.int .i64 0,.string ⟨#[]⟩,.bool false]),4,40) by kernel_rfl);have h1:=hone w s h;have HPT:=QH hone;have HL0:Hid ((F s).2.rest.length ≤ s.rest.length):=QH (hgo s).len
 have FIN:Hid (∀ g cap css w' l s2,zad F s=(l,s2) → Mods [pb] w w' → PSt w' pb tg s2 f → w.heap.size ≤ g → g < w'.heap.size → l.length ≤ cap → (∀ j u,css.flatten[j]? = some u → w'.cell? ⟨g,j,none⟩ = some u) → (s2.e=0 → ∀ L:List Nat,(∀ x ∈ L,x < w.heap.size) → AllR KeyR w' (g :: L) css l) → ListRes KeyR pb tg f (zad F) s w (.returned (.slice (some ⟨g,0,none⟩) l.length cap)) w'):=
  QH (fun g cap css w' l s2 e h1 h2 h3 h3' h4 h5 h6 => ⟨g,cap,css,by rw [e],h1,by rw [e]; exact h2,h3,h3',by rw [e]; exact h4,h5,by rw [e]; exact h6⟩)
 unfold zh at *;clear h hone;go_enter Tryz.func60, Tryz.ntmps60;go_wp2_with fail;(with_reducible refine h1.mono ?_);rintro e w1 ⟨p1,k1,nm1,d1,rfl,hM1,hP1,hE1⟩;(try unfold zh);clear h1;have HJ:Hid (zad F s=za3 F (F s).2.rest.length [(F s).1] (F s).2):=QH rfl;have hz:=(QM [] w1).alloc (.cells #[.int .i64 p1,.int .i64 k1,.string nm1,.bool d1] 113);have hbn:=QN w1 (.cells #[.int .i64 p1,.int .i64 k1,.string nm1,.bool d1] 113);have hown1:(w1.alloc (.cells #[.int .i64 p1,.int .i64 k1,.string nm1,.bool d1] 113)).ownsRow 0 113 4 (.slice (some ⟨w1.heap.size,0,none⟩) 1 1) 1 [.int .i64 p1,.int .i64 k1,.string nm1,.bool d1]:=⟨rfl,.inr ⟨_,1,_,rfl,Nat.zero_le _,hbn,LR _,by unfold maxLen; omega,rfl,rfl⟩⟩;have hs1:=hM1.size;have hstart:Hid ((F s).2.e=0 → ∀ L:List Nat,(∀ x ∈ L,x < w.heap.size) → AllR KeyR (w1.alloc (.cells #[.int .i64 p1,.int .i64 k1,.string nm1,.bool d1] 113)) (w1.heap.size :: L) [[.int .i64 p1,.int .i64 k1,.string nm1,.bool d1]] [(F s).1]):=QH fun he L hL => ⟨(keyRep.mods (keyRep.fresh (LR _) (hE1 he L hL)) (hz.mono)),trivial⟩;have gDx:=QH trivial;exact yep
end Go.Proofs.YtcabeljiobiojaaGreatDoor
