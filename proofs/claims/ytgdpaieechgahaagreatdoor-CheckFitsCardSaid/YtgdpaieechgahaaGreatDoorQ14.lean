/-
  parse's list over column, walked. No condition.
-/
import Derived.Test.YtgdpaieechgahaaGreatDoorQ13
set_option linter.unusedVariables false
namespace Go.Proofs.YtgdpaieechgahaaGreatDoor
open Go.RowKit
def ColumnRes (pb tg f:Nat) (F:PS → Tree × PS) (s:PS) (w:World) (e:Ending) (w':World):Prop:=
 ∃ (b:Nat),e = .returned (zh b) ∧ Mods [pb] w w' ∧ PSt w' pb tg (F s).2 f ∧ ((F s).2.e=0 → ∀ L:List Nat,(∀ x ∈ L,x < w.heap.size) → TreeR w' L [zh b] (F s).1)
set_option maxRecDepth 100000 in
set_option maxHeartbeats 4000000 in
theorem zhZ (w:World) (pb tg:Nat) (f:Nat) (s:PS) (h:PSt w pb tg s f) (hlen:s.rest.length ≤ 10000) (F:PS → Tree × PS) (hgo:zcW F)
  (hone:∀ W s1,PSt W pb tg s1 f → Calls Tryz.prog 47 #[zh pb] W (ColumnRes pb tg f F s1 W)) :
  Calls Tryz.prog 46 #[zh pb,.func (.func 47) #[zh pb] #[]] w (ListRes TreeR pb tg f (zad F) s w):=by
 have hpw:=h.lt;obtain ⟨i0,hi,hz0,hz1,hz2⟩:=info_parts (show (Tryz.prog.info? 82).map (fun i => (i.zero,i.size,i.bytes))=some (some (.pointer none),1,8) by kernel_rfl);have h1:=hone w s h;have HPT:=QH hone;have HL0:Hid ((F s).2.rest.length ≤ s.rest.length):=QH (hgo s).len
 have FIN:Hid (∀ g cap css w' l s2,zad F s=(l,s2) → Mods [pb] w w' → PSt w' pb tg s2 f → w.heap.size ≤ g → g < w'.heap.size → l.length ≤ cap → (∀ j u,css.flatten[j]? = some u → w'.cell? ⟨g,j,none⟩ = some u) → (s2.e=0 → ∀ L:List Nat,(∀ x ∈ L,x < w.heap.size) → AllR TreeR w' (g :: L) css l) → ListRes TreeR pb tg f (zad F) s w (.returned (.slice (some ⟨g,0,none⟩) l.length cap)) w'):=
  QH (fun g cap css w' l s2 e h1 h2 h3 h3' h4 h5 h6 => ⟨g,cap,css,by rw [e],h1,by rw [e]; exact h2,h3,h3',by rw [e]; exact h4,h5,by rw [e]; exact h6⟩)
 unfold zh at *;clear h hone;go_enter Tryz.func46, Tryz.ntmps46;go_wp2_with fail;(with_reducible refine h1.mono ?_);rintro e w1 ⟨b1,rfl,hM1,hP1,hE1⟩;(try unfold zh);clear h1;have HJ:Hid (zad F s=za3 F (F s).2.rest.length [(F s).1] (F s).2):=QH rfl;have hz:=(QM [] w1).alloc (.cells #[.pointer (some ⟨b1,0,none⟩)] 82);have hbn:=QN w1 (.cells #[.pointer (some ⟨b1,0,none⟩)] 82);have hown1:(w1.alloc (.cells #[.pointer (some ⟨b1,0,none⟩)] 82)).ownsRow 0 82 1 (.slice (some ⟨w1.heap.size,0,none⟩) 1 1) 1 [.pointer (some ⟨b1,0,none⟩)]:=⟨rfl,.inr ⟨_,1,_,rfl,Nat.zero_le _,hbn,LR _,by unfold maxLen; omega,rfl,rfl⟩⟩;have hs1:=hM1.size;have hstart:Hid ((F s).2.e=0 → ∀ L:List Nat,(∀ x ∈ L,x < w.heap.size) → AllR TreeR (w1.alloc (.cells #[.pointer (some ⟨b1,0,none⟩)] 82)) (w1.heap.size :: L) [[.pointer (some ⟨b1,0,none⟩)]] [(F s).1]):=QH fun he L hL => ⟨(treeRep.mods (treeRep.fresh (LR _) (hE1 he L hL)) (hz.mono)),trivial⟩;have hMs:=hM1.trans (hz.mono (L':=[pb]) (by simp));have hPs:=hP1.later hz;have HS:=QH (AI hMs (AI hPs hown1));clear hE1 hP1 hbn hown1 hMs hPs hz;go_wp2_with fail;go_loopg [5] (F s).2.rest.length (fun gk t5 wr => ∃ (l:List Tree) (s1:PS) (css:List (List Value)) (g cap:Nat),s1.rest.length=gk ∧ t5 = .slice (some ⟨g,0,none⟩) l.length cap ∧ Mods [pb] w wr ∧ PSt wr pb tg s1 f ∧ l.length + s1.rest.length ≤ s.rest.length + 1 ∧ wr.ownsRow 0 82 1 (.slice (some ⟨g,0,none⟩) l.length cap) l.length css.flatten ∧ w.heap.size ≤ g ∧ Hid (zad F s=za3 F s1.rest.length l s1) ∧ Hid (s1.e=0 → ∀ L:List Nat,(∀ x ∈ L,x < w.heap.size) → AllR TreeR wr (g :: L) css l))
 case atStart => exact ⟨[(F s).1],(F s).2,[[.pointer (some ⟨b1,0,none⟩)]],w1.heap.size,1,rfl,rfl,HS.out.1,HS.out.2.1,by have:=HL0.out; simp; omega,HS.out.2.2,hs1,HJ,hstart⟩
 case round =>
  clear hstart HS HJ HL0;obtain ⟨l,s1,css,g,cap,hgk,rfl,hM,hP,hll,ho,hg,HJ,HE⟩:=hrel;have htk:=zU wr pb tg s1 f hP wComma;have hwf:WfT s1.rest:=by obtain ⟨l,-,-,h3,-⟩:=hP; exact h3
  have hpos:0 < s1.rest.length:=List.length_pos_iff.2 hwf.ne;have hgl:=zar ho;have hgp:g ≠ pb:=by omega
  unfold zh at htk
  cases ht:(s1.takes wComma).1 with
  | false =>
   have hs1:=zde ht;rw [ht,hs1] at htk;have hJ2:zad F s=(l,s1):=by rw [HJ.out];obtain ⟨m,hm⟩ : ∃ m,s1.rest.length=m + 1:=⟨s1.rest.length - 1,by omega⟩;rw [hm];unfold za3;rw [if_neg (by rw [ht]; decide),hs1]
   have hfin:=fun w2 (hM2:Mods [pb] wr w2) (hP2:PSt w2 pb tg s1 f) => FIN.out g cap css w2 l s1 hJ2 (hM.trans hM2) hP2 hg (by have:=hM2.size; omega) hgl.2.1 (fun j u hj => hM2.cell (hgl.2.2 j u hj) (by simpa using hgp)) (fun he L hL =>
    ((
     HE.out he (pb :: L) (fun z hz => by
     rcases MC hz with rfl | hz
     ·exact hpw.1
     ·exact hL z hz)).map fun c x hx => treeRep.mods hx (hM2.mono)).map fun c x hx => treeRep.weaken (fun z hz => by
      rcases MC hz with rfl | hz
      ·exact List.mem_cons_self
      ·exact CM _ (CM _ hz)) hx)
   have HFIN:=QH hfin;unfold wComma at htk;clear hfin hJ2 ht hs1 hP ho hgl FIN HJ HE hwf;go_wp2_with fail;(with_reducible refine htk.mono ?_);rintro e w2 ⟨rfl,hM2,hP2⟩;clear htk;have fin:=QH (HFIN.out w2 hM2 hP2);clear HFIN hP2;go_wp2_with fail;go_ret;exact fin.out
  | true =>
   obtain ⟨his,hTk⟩:=zdY ht;have HNL:Hid (s1.next.rest.length + 1=s1.rest.length):=QH (by unfold PS.next; rw [List.length_tail]; omega);have HJ2:Hid (∀ m,s1.rest.length=m + 1 → zad F s=za3 F m (l ++ [(F s1.next).1]) (F s1.next).2):=QH fun m hm => by
    rw [HJ.out,hm]
    conv => lhs; unfold za3
    rw [if_pos ht,hTk]
   rw [hTk] at htk;have HIS:=QH his;have HO:=QH (AI ho hgl);unfold wComma at htk;clear his hTk ht hP ho hgl FIN HJ hwf;go_wp2_with fail;(with_reducible refine htk.mono ?_);rintro e w2 ⟨rfl,hM2,hP2⟩;have h2:=HPT.out w2 s1.next hP2;unfold zh at h2;clear htk hP2;go_wp2_with fail;(with_reducible refine h2.mono ?_);rintro e w3 ⟨b2,rfl,hM3,hP3,hE3⟩;(try unfold zh);have hown3:=zm (zm HO.out.1 hM2 (by simpa [Value.ownBlock] using hgp)) hM3 (by simpa [Value.ownBlock] using hgp);have H3:=QH (AI hP3 hE3);clear h2 hP3 hE3;go_wp2_with (at_builtin; refine zw _ rfl _ _ 83 rfl 82 i0 _ 1 8 Tryz.underlying83 hi hz0 hz1 hz2 rfl (by decide) (.slice (some ⟨g,0,none⟩) l.length cap) l.length css.flatten rfl (hown3.alloc _) ⟨w3.heap.size,0,none⟩ 1 1 [.pointer (some ⟨b2,0,none⟩)] rfl rfl ?c1 ?c2 (by decide) ?c3 ?c4 ?_)
   case c1 => exact zdy w3 #[.pointer (some ⟨b2,0,none⟩)] _
   case c2 => intro u hu; simp only [List.mem_cons,List.not_mem_nil,or_false] at hu; rcases hu with rfl <;> rfl
   case c3 => unfold maxLen; omega
   case c4 => omega
   intro g' cap2 w5 hown5 hM5 hg5;have hst:=zeW treeRep hgo hpw.1 hpw.2 hM hM2 hM3 H3.out.1 HIS.out HNL.out HO.out.1 hg HE.out H3.out.2 HJ2.out hown5 hM5 (by rw [zl]; exact Or.imp (fun h:some g=some g' => (Option.some.inj h).symm) id hg5);have HST:=QH hst;clear hst hown5 hM5 hg5 H3 HIS HJ2 HO hown3 HE;go_wp2_with fail;go_roundg (F s1.next).2.rest.length
   case measure => rw [← hgk]; exact HST.out.1
   case rel => exact ⟨l ++ [(F s1.next).1],(F s1.next).2,css ++ [[.pointer (some ⟨b2,0,none⟩)]],g',cap2,rfl,by simp,HST.out.2.1,HST.out.2.2.1,by have:=HST.out.1; simp; omega,HST.out.2.2.2.2.2.1,HST.out.2.2.2.1,HST.out.2.2.2.2.1,HST.out.2.2.2.2.2.2⟩
def ListAt {α:Type} (R:zel α) (w:World) (L:List Nat) (v:Value) (l:List α):Prop:=
 (v = .slice none 0 0 ∧ l=[]) ∨ ∃ g cap css,v = .slice (some ⟨g,0,none⟩) l.length cap ∧ g ∉ L ∧ l.length ≤ cap ∧ (∀ j u,css.flatten[j]? = some u → w.cell? ⟨g,j,none⟩ = some u) ∧ AllR R w L css l
def OptAt (w:World) (L:List Nat) (v:Value):Option Tree → Prop
 | none => v = .pointer none
 | some t => ∃ b,v=zh b ∧ ExprAt 133 82 w L (zh b) t
theorem ListAt.mods {α:Type} {R:zel α} (hR:Rep R) {w w':World} {L:List Nat} {v:Value} {l:List α} (h:ListAt R w L v l) (hM:Mods L w w'):ListAt R w' L v l:=by
 rcases h with h | ⟨g,cap,css,h1,h2,h3,h4,h5⟩
 ·exact .inl h
 ·exact .inr ⟨g,cap,css,h1,h2,h3,fun j u hj => hM.cell (h4 j u hj) h2,h5.map fun c x hx => hR.mods hx hM⟩
theorem ListAt.weaken {α:Type} {R:zel α} (hR:Rep R) {w:World} {L L':List Nat} (hL:∀ x ∈ L',x ∈ L) {v:Value} {l:List α} (h:ListAt R w L v l):ListAt R w L' v l:=by
 rcases h with h | ⟨g,cap,css,h1,h2,h3,h4,h5⟩
 ·exact .inl h
 ·exact .inr ⟨g,cap,css,h1,fun hm => h2 (hL _ hm),h3,h4,h5.map fun c x hx => hR.weaken hL hx⟩
theorem OptAt.mods {w w':World} {L:List Nat} {v:Value} {o:Option Tree} (h:OptAt w L v o) (hM:Mods L w w'):OptAt w' L v o:=by
 cases o with
 | none => exact h
 | some t => obtain ⟨b,h1,h2⟩:=h; exact ⟨b,h1,h2.mods hM⟩
theorem OptAt.weaken {w:World} {L L':List Nat} (hL:∀ x ∈ L',x ∈ L) {v:Value} {o:Option Tree} (h:OptAt w L v o):OptAt w L' v o:=by
 cases o with
 | none => exact h
 | some t => obtain ⟨b,h1,h2⟩:=h; exact ⟨b,h1,h2.weaken hL⟩
theorem PRes.optAt {t:Tree} {w w':World} {b:Nat} {L:List Nat} (hL:∀ x ∈ L,x < w.heap.size) (h:∀ L:List Nat,(∀ x ∈ L,x < w.heap.size) → ExprAt 133 82 w' L (zh b) t):OptAt w' L (zh b) (some t):=⟨b,rfl,h L hL⟩
def queryC (q:zt) (vi von vwh vg vo:Value):List Value:=[.bool q.star,vi,.string ⟨q.src.toArray⟩,.string ⟨q.join.toArray⟩,.int .i64 q.srcAt,.int .i64 q.joinAt,von,vwh,vg,vo,.int .i64 q.limit,.int .i64 q.offset]
def QParts (w:World) (L:List Nat) (q:zt) (vi von vwh vg vo:Value):Prop:=
 ListAt ItemR w L vi q.items ∧ OptAt w L von q.on ∧ OptAt w L vwh q.whr ∧ ListAt TreeR w L vg q.group ∧ ListAt KeyR w L vo q.order
theorem QParts.mods {w w':World} {L:List Nat} {q:zt} {vi von vwh vg vo:Value} (h:QParts w L q vi von vwh vg vo) (hM:Mods L w w'):QParts w' L q vi von vwh vg vo:=
 ⟨h.1.mods itemRep hM,h.2.1.mods hM,h.2.2.1.mods hM,h.2.2.2.1.mods treeRep hM,h.2.2.2.2.mods keyRep hM⟩
def QueryAt (w:World) (L:List Nat) (qb:Nat) (q:zt):Prop:=
 ∃ vi von vwh vg vo,w.heap[qb]? = some (.cells (queryC q vi von vwh vg vo).toArray 86 (0,0)) ∧ QParts w L q vi von vwh vg vo
def QInv (pb tg f:Nat) (w0:World) (qb:Nat) (x:QS) (w:World):Prop:=
 Mods [pb] w0 w ∧ PSt w pb tg x.2 f ∧ w0.heap.size ≤ qb ∧ pb < w0.heap.size ∧ tg < w0.heap.size ∧ x.2.rest.length ≤ 10000 ∧ ∃ vi von vwh vg vo,w.heap[qb]? = some (.cells (queryC x.1 vi von vwh vg vo).toArray 86 (0,0)) ∧ (x.2.e=0 → QParts w [qb,pb] x.1 vi von vwh vg vo)
theorem QInv.go {pb tg f:Nat} {w0:World} {qb:Nat} {x:QS} {w w':World} {s':PS} (h:QInv pb tg f w0 qb x w) (hM:Mods [pb] w w') (hP:PSt w' pb tg s' f) (hA:Aft x.2 s'):QInv pb tg f w0 qb (x.1,s') w':=by
 obtain ⟨h1,h2,h3,h4,h5,h6,vi,von,vwh,vg,vo,h7,h8⟩:=h;refine ⟨h1.trans hM,hP,h3,h4,h5,Nat.le_trans hA.len h6,vi,von,vwh,vg,vo,hM.heap h7 (by simp; omega),fun he => (h8 ?_).mods (hM.mono)⟩;by_cases hx:x.2.e=0
 ·exact hx
 ·have:=hA.err hx;rw [this] at he;exact absurd he hx
theorem QInv.later {pb tg f:Nat} {w0:World} {qb:Nat} {x:QS} {w w':World} (h:QInv pb tg f w0 qb x w) (hM:Mods [] w w'):QInv pb tg f w0 qb x w':=by obtain ⟨h1,h2,h3,h4,h5,h6,vi,von,vwh,vg,vo,h7,h8⟩:=h;exact ⟨h1.trans (hM.mono (L':=[pb]) (by simp)),h2.later hM,h3,h4,h5,h6,vi,von,vwh,vg,vo,hM.heap h7,fun he => (h8 he).mods (hM.mono)⟩
theorem QInv.pst {pb tg f:Nat} {w0:World} {qb:Nat} {x:QS} {w:World} (h:QInv pb tg f w0 qb x w):PSt w pb tg x.2 f:=h.2.1
theorem QInv.block {pb tg f:Nat} {w0:World} {qb:Nat} {x:QS} {w:World} (h:QInv pb tg f w0 qb x w):∃ cs,w.heap[qb]? = some (.cells cs 86 (0,0)) ∧ cs.size=12:=by obtain ⟨h1,h2,h3,h4,h5,h6,vi,von,vwh,vg,vo,h7,h8⟩:=h;exact ⟨_,h7,rfl⟩
theorem QInv.put {pb tg f:Nat} {w0:World} {qb:Nat} {x:QS} {w:World} (h:QInv pb tg f w0 qb x w) (j:Nat) (v:Value) (q':zt)
  (hq:∀ vi von vwh vg vo,(x.2.e=0 → QParts w [qb,pb] x.1 vi von vwh vg vo) → ∃ vi' von' vwh' vg' vo',(queryC x.1 vi von vwh vg vo).set j v=queryC q' vi' von' vwh' vg' vo' ∧ (x.2.e=0 → QParts w [qb,pb] q' vi' von' vwh' vg' vo')) :
  QInv pb tg f w0 qb (q',x.2) (w.setCell ⟨qb,j,none⟩ v):=by
 obtain ⟨h1,h2,h3,h4,h5,h6,vi,von,vwh,vg,vo,h7,h8⟩:=h;obtain ⟨vi',von',vwh',vg',vo',e1,e2⟩:=hq vi von vwh vg vo h8;have hz:Mods [qb] w (w.setCell ⟨qb,j,none⟩ v):=(QM _ _).setCell (.inl (by simp)) _;refine ⟨h1.trans hz (fun y hy => .inr (by simp at hy; omega)),h2.mods hz (by simp; omega) (by simp; omega),h3,h4,h5,h6,vi',von',vwh',vg',vo',?_,fun he => (e2 he).mods (hz.mono)⟩;have:=zb h7 j v;rw [this,← e1];congr 1;congr 1;apply Array.toList_inj.1;simp
theorem zcJ (w:World) (pb tg:Nat) (s:PS) (f:Nat) (h:PSt w pb tg s f) (x:Bs) :
  Calls Tryz.prog 39 #[zh pb,.slice (some ⟨w.heap.size,0,none⟩) 1 1] (w.alloc (.cells #[.string ⟨x.toArray⟩] 9)) fun e w' => e = .returned (.tuple #[]) ∧ Mods [pb] w w' ∧ PSt w' pb tg (s.wants [x]) f:=by
 have hMs:=(QM [] w).alloc (.cells #[.string ⟨x.toArray⟩] 9);have hl:=h.lt
 exact (zbq _ pb tg _ f (h.later hMs) _ [x] (zaT w x 9) (by simp) (fun g off n c he => by simp only [Value.slice.injEq,Option.some.injEq,Addr.mk.injEq] at he; omega)).mono
  fun e w' ⟨a,b,c⟩ => ⟨a,(hMs.mono).trans b,c⟩
theorem zjF (w:World) (pb tg:Nat) (f:Nat) (s:PS) (h:PSt w pb tg s f):Calls Tryz.prog 47 #[zh pb] w (ColumnRes pb tg f zY s w):=
 (zdW w pb tg s f h).mono fun e w' ⟨b,a1,a2,a3,a4⟩ => ⟨b,a1,a2,a3,fun he L hL => ⟨b,rfl,a4 he L hL⟩⟩
theorem ListRes.listAt {α:Type} {R:zel α} (hR:Rep R) {w w':World} {L:List Nat} {g cap:Nat} {css:List (List Value)} {l:List α} (hL:∀ x ∈ L,x < w.heap.size) (hg:w.heap.size ≤ g) (hc:l.length ≤ cap) (hcells:∀ j u,css.flatten[j]? = some u → w'.cell? ⟨g,j,none⟩ = some u)
  (hA:∀ L:List Nat,(∀ x ∈ L,x < w.heap.size) → AllR R w' (g :: L) css l):ListAt R w' L (.slice (some ⟨g,0,none⟩) l.length cap) l:=
 .inr ⟨g,cap,css,rfl,fun hm => by have:=hL g hm; omega,hc,hcells,(hA L hL).map fun c x hx => hR.weaken (fun z hz => CM _ hz) hx⟩
theorem QInv.cell {pb tg f:Nat} {w0:World} {qb:Nat} {x:QS} {w:World} (h:QInv pb tg f w0 qb x w) (j:Nat) (hj:j < 12):∃ v,w.cell? ⟨qb,j,none⟩ = some v:=by obtain ⟨cs,h1,h2⟩:=h.block;have:=za h1 j;rw [Array.getElem?_eq_getElem (by omega)] at this;exact ⟨_,this⟩
theorem QInv.frozen {pb tg f:Nat} {w0:World} {qb:Nat} {x:QS} {w:World} (h:QInv pb tg f w0 qb x w) (j:Nat):w.frozen? ⟨qb,j,none⟩ = false:=by obtain ⟨cs,h1,h2⟩:=h.block;exact zc h1 j
theorem QInv.lts {pb tg f:Nat} {w0:World} {qb:Nat} {x:QS} {w:World} (h:QInv pb tg f w0 qb x w):∀ z ∈ [qb,pb],z < w.heap.size:=by
 obtain ⟨cs,h1,h2⟩:=h.block;intro z hz;simp at hz;rcases hz with rfl | rfl
 ·exact zj h1
 ·exact h.pst.lt.1
theorem QInv.as {pb tg f:Nat} {w0:World} {qb:Nat} {x y:QS} {w:World} (h:QInv pb tg f w0 qb x w) (e:y=x):QInv pb tg f w0 qb y w:=e ▸ h
section puts
variable {pb tg f:Nat} {w0:World} {qb:Nat} {x:QS} {w:World}
theorem QInv.putStar (h:QInv pb tg f w0 qb x w) (b:Bool):QInv pb tg f w0 qb ({ x.1 with star:=b },x.2) (w.setCell ⟨qb,0,none⟩ (.bool b)):=
 h.put 0 _ _ fun vi von vwh vg vo hp => ⟨vi,von,vwh,vg,vo,rfl,hp⟩
theorem QInv.putSrc (h:QInv pb tg f w0 qb x w) (n:Bs):QInv pb tg f w0 qb ({ x.1 with src:=n },x.2) (w.setCell ⟨qb,2,none⟩ (.string ⟨n.toArray⟩)):=
 h.put 2 _ _ fun vi von vwh vg vo hp => ⟨vi,von,vwh,vg,vo,rfl,hp⟩
theorem QInv.putJoin (h:QInv pb tg f w0 qb x w) (n:Bs):QInv pb tg f w0 qb ({ x.1 with join:=n },x.2) (w.setCell ⟨qb,3,none⟩ (.string ⟨n.toArray⟩)):=
 h.put 3 _ _ fun vi von vwh vg vo hp => ⟨vi,von,vwh,vg,vo,rfl,hp⟩
theorem QInv.putSrcAt (h:QInv pb tg f w0 qb x w) (n:Nat):QInv pb tg f w0 qb ({ x.1 with srcAt:=n },x.2) (w.setCell ⟨qb,4,none⟩ (.int .i64 n)):=
 h.put 4 _ _ fun vi von vwh vg vo hp => ⟨vi,von,vwh,vg,vo,rfl,hp⟩
theorem QInv.putJoinAt (h:QInv pb tg f w0 qb x w) (n:Nat):QInv pb tg f w0 qb ({ x.1 with joinAt:=n },x.2) (w.setCell ⟨qb,5,none⟩ (.int .i64 n)):=
 h.put 5 _ _ fun vi von vwh vg vo hp => ⟨vi,von,vwh,vg,vo,rfl,hp⟩
theorem QInv.putLimit (h:QInv pb tg f w0 qb x w) (n:Int):QInv pb tg f w0 qb ({ x.1 with limit:=n },x.2) (w.setCell ⟨qb,10,none⟩ (.int .i64 n)):=
 h.put 10 _ _ fun vi von vwh vg vo hp => ⟨vi,von,vwh,vg,vo,rfl,hp⟩
theorem QInv.putOffset (h:QInv pb tg f w0 qb x w) (n:Int):QInv pb tg f w0 qb ({ x.1 with offset:=n },x.2) (w.setCell ⟨qb,11,none⟩ (.int .i64 n)):=
 h.put 11 _ _ fun vi von vwh vg vo hp => ⟨vi,von,vwh,vg,vo,rfl,hp⟩
theorem QInv.putItems (h:QInv pb tg f w0 qb x w) (v:Value) (l:List za2) (hl:x.2.e=0 → ListAt ItemR w [qb,pb] v l):QInv pb tg f w0 qb ({ x.1 with items:=l },x.2) (w.setCell ⟨qb,1,none⟩ v):=
 h.put 1 _ _ fun vi von vwh vg vo hp => ⟨v,von,vwh,vg,vo,rfl,fun he => ⟨hl he,(hp he).2⟩⟩
theorem QInv.putOn (h:QInv pb tg f w0 qb x w) (v:Value) (t:Tree) (hl:x.2.e=0 → OptAt w [qb,pb] v (some t)):QInv pb tg f w0 qb ({ x.1 with on:=some t },x.2) (w.setCell ⟨qb,6,none⟩ v):=
 h.put 6 _ _ fun vi von vwh vg vo hp => ⟨vi,v,vwh,vg,vo,rfl,fun he => ⟨(hp he).1,hl he,(hp he).2.2⟩⟩
theorem QInv.putWhr (h:QInv pb tg f w0 qb x w) (v:Value) (t:Tree) (hl:x.2.e=0 → OptAt w [qb,pb] v (some t)):QInv pb tg f w0 qb ({ x.1 with whr:=some t },x.2) (w.setCell ⟨qb,7,none⟩ v):=
 h.put 7 _ _ fun vi von vwh vg vo hp => ⟨vi,von,v,vg,vo,rfl,fun he => ⟨(hp he).1,(hp he).2.1,hl he,(hp he).2.2.2⟩⟩
theorem QInv.putGroup (h:QInv pb tg f w0 qb x w) (v:Value) (l:List Tree) (hl:x.2.e=0 → ListAt TreeR w [qb,pb] v l):QInv pb tg f w0 qb ({ x.1 with group:=l },x.2) (w.setCell ⟨qb,8,none⟩ v):=
 h.put 8 _ _ fun vi von vwh vg vo hp => ⟨vi,von,vwh,v,vo,rfl,fun he => ⟨(hp he).1,(hp he).2.1,(hp he).2.2.1,hl he,(hp he).2.2.2.2⟩⟩
theorem QInv.putOrder (h:QInv pb tg f w0 qb x w) (v:Value) (l:List zfI) (hl:x.2.e=0 → ListAt KeyR w [qb,pb] v l):QInv pb tg f w0 qb ({ x.1 with order:=l },x.2) (w.setCell ⟨qb,9,none⟩ v):=
 h.put 9 _ _ fun vi von vwh vg vo hp => ⟨vi,von,vwh,vg,v,rfl,fun he => ⟨(hp he).1,(hp he).2.1,(hp he).2.2.1,(hp he).2.2.2.1,hl he⟩⟩
end puts
theorem QInv.start {pb tg f:Nat} {w:World} {s:PS} (h:PSt w pb tg s f) (hl:s.rest.length ≤ 10000) :
  QInv pb tg f w w.heap.size ({},s) (w.alloc (.cells #[.bool false,.slice none 0 0,.string ⟨#[]⟩,.string ⟨#[]⟩,.int .i64 0,.int .i64 0,.pointer none,.pointer none,.slice none 0 0,.slice none 0 0,.int .i64 (-1),.int .i64 (-1)] 86)):=by
 have hM:=(QM [] w).alloc (.cells #[.bool false,.slice none 0 0,.string ⟨#[]⟩,.string ⟨#[]⟩,.int .i64 0,.int .i64 0,.pointer none,.pointer none,.slice none 0 0,.slice none 0 0,.int .i64 (-1),.int .i64 (-1)] 86);exact ⟨hM.mono,h.later hM,LR _,h.lt.1,h.lt.2,hl,.slice none 0 0,.pointer none,.pointer none,.slice none 0 0,.slice none 0 0,QN w _,fun _ => ⟨.inl ⟨rfl,rfl⟩,rfl,rfl,.inl ⟨rfl,rfl⟩,.inl ⟨rfl,rfl⟩⟩⟩
theorem zmE {l:List Tok} (h:WfT l) (h2:WfT l.dropLast):WfT l.tail:=by
 obtain ⟨⟨u,h3,h4⟩,h5⟩:=h
 cases l with
 | nil => simp at h3
 | cons t r =>
  cases r with
  | nil => exact absurd rfl h2.ne
  | cons a r => exact ⟨⟨u,by rw [List.getLast?_cons_cons] at h3; exact h3,h4⟩,fun t ht => h5 t (CM _ ht)⟩
end Go.Proofs.YtgdpaieechgahaaGreatDoor
