/-
  check.Check: what it keeps while keys are put together. No condition.
-/
import Derived.Test.YtcabeljiobiojaaGreatDoorQ36
import Derived.Test.YtcabeljiobiojaaGreatDoorCkZc
set_option linter.unusedVariables false
namespace Go.Proofs.YtcabeljiobiojaaGreatDoor
open Go.RowKit
theorem AY {p:Prop} (h:p:=by simp at hx; rcases hx with rfl | rfl <;> simp):p:=h
theorem bytes_iff {x y:Bs}:((⟨x.toArray⟩ : ByteArray) = ⟨y.toArray⟩) ↔ x=y:=by
 constructor
 ·intro h;have:=congrArg (fun b:ByteArray => b.data.toList) h;simpa using this
 ·rintro rfl; rfl
theorem zfK (x:Bs):∀ (l:List Bs) (i:Nat),Lib.idxFromS (l.map fun s => (⟨s.toArray⟩ : ByteArray)) ⟨x.toArray⟩ i=(match l.findIdx? (· == x) with | some j => ((i + j:Nat):Int) | none => -1)
 | [],i => rfl
 | s :: l,i => by
  rw [List.map_cons,Lib.idxFromS,List.findIdx?_cons];by_cases h:s=x
  ·subst h;simp
  ·have h1:¬ ((⟨s.toArray⟩ : ByteArray) = ⟨x.toArray⟩):=fun h2 => h (bytes_iff.1 h2);have h2:(s == x)=false:=by rw [beq_eq_false_iff_ne]; exact h
   rw [if_neg h1,zfK x l (i + 1),h2]
   cases l.findIdx? (· == x) with
   | none => rfl
   | some j => show ((i + 1 + j:Nat):Int)=((i + (j + 1):Nat):Int); omega
theorem zoI (x:Bs) (l:List Bs):Lib.idxOfS (l.map fun s => (⟨s.toArray⟩ : ByteArray)) ⟨x.toArray⟩ = (match l.findIdx? (· == x) with | some j => (j:Int) | none => -1):=by
 unfold Lib.idxOfS;rw [zfK]
 cases l.findIdx? (· == x) with
 | none => rfl
 | some j => simp
def nameIdx (l:List Bs) (x:Bs):Int:=match l.findIdx? (· == x) with | some j => (j:Int) | none => -1
theorem zke {l:List Bs} {k:zfI} (h:k.name ≠ []):zfx l k=nameIdx l k.name:=by unfold zfx nameIdx;rw [if_pos h];cases l.findIdx? (· == k.name) <;> rfl
theorem zhK (w:World) (nms:Value) (ss:List Bs) (h:w.ownsRow 0 9 1 nms ss.length (ss.map fun s => Value.string ⟨s.toArray⟩)) (x:Bs) :
  Calls Tryz.prog 31 #[nms,.string ⟨x.toArray⟩] w fun e w' => e = .returned (.int .i64 (nameIdx ss x)) ∧ Mods [] w w':=by
 rcases h.2 with ⟨rfl,h0⟩ | ⟨g,cap,cur,rfl,hx⟩
 ·rw [List.length_eq_zero_iff.1 h0];exact (Tryz.slices_Index_string_empty none 0 ⟨x.toArray⟩ w).mono fun e w' ⟨h1,h2⟩ => ⟨by rw [h1]; rfl,by rw [h2]; exact QM _ _⟩
 ·refine (Tryz.slices_Index_string g 0 ss.length cap (ss.map fun s => (⟨s.toArray⟩ : ByteArray)) ⟨x.toArray⟩ w AB (by have h1:=hx.2.2.1; have h2:=hx.2.2.2.1; unfold maxLen at h2; omega) (fun j hj => ?_)).mono fun e w' ⟨h1,h2⟩ => ⟨?_,by rw [h2]; exact QM _ _⟩
  ·have hj':j < ss.length:=by simpa using hj
   have:=(zar h).2.2 j (.string ⟨ss[j].toArray⟩) (by rw [List.getElem?_map,List.getElem?_eq_getElem hj']; rfl);rw [Nat.zero_add,this];simp [List.getD_eq_getElem?_getD,List.getElem?_eq_getElem hj']
  ·rw [h1,List.take_of_length_le AB,zoI]; rfl
theorem Coll.base {w0 w W:World} {its nms:Value} {ns:List NT} {ss:List Bs} (h:Coll w W its nms ns ss) (h0:w0.heap.size ≤ w.heap.size):Coll w0 W its nms ns ss:=by
 obtain ⟨css,h1,h2⟩:=h.rowI
 exact ⟨Nat.le_trans h0 h.size,⟨css,h1,fun L hL => h2 L (fun x hx => by
  rcases hL x hx with q | q | q
  ·exact .inl AA
  ·exact .inr (.inl q)
  ·exact .inr (.inr q))⟩,h.rowN,fun g hg => ⟨Nat.le_trans h0 (h.apart g hg).1,(h.apart g hg).2⟩,fun g hg => Nat.le_trans h0 (h.later g hg)⟩
structure Good6 (wB w:World) (tb:List TblT) (q:zt) (left:Nat) (right:Option Nat) (on whr:Option NT) (group:List Nat) (x:List (NT × Bs) × Bool) (von vwh vg:Value):Prop where
 eq:zao tb q=ck6 q left right on whr group x
 on:∀ L:List Nat,(∀ x ∈ L,x < wB.heap.size) → OptN w L von on
 whr:∀ L:List Nat,(∀ x ∈ L,x < wB.heap.size) → OptN w L vwh whr
 grp:∀ L:List Nat,(∀ x ∈ L,x < wB.heap.size) → GroupAt w L vg group
def OrdS (wB w:World) (sb rb mb:Nat) (tb:List TblT) (q:zt) (cv:Value) (p e:Nat) (lf rt:Int) (von vwh:Value) (gr:Bool) (vg its nms:Value) (ns:List NT) (ss:List Bs):Prop:=
 Mods [sb,mb,rb] wB w ∧ zaX w sb cv mb 0 p e ∧ CSt w rb lf rt von vwh gr vg its nms (.slice none 0 0) q.limit q.offset ∧ Coll wB w its nms ns ss ∧ ns.length=ss.length ∧ (e ≠ 0 → zao tb q = .bad p e) ∧
  (e=0 → p=0 ∧ ∃ left right on whr group x,Good6 wB w tb q left right on whr group x von vwh vg ∧ lf=left ∧ rt=rightV right ∧ gr=x.2 ∧ ns=x.1.map (·.1) ∧ ss=x.1.map (·.2))
theorem zl9 {wB w:World} {sb rb mb:Nat} {tb:List TblT} {q:zt} (h:zc0 wB sb rb mb tb q w):∃ cv p e lf rt von vwh gr vg its nms ns ss,OrdS wB w sb rb mb tb q cv p e lf rt von vwh gr vg its nms ns ss:=by obtain ⟨cv,env,p,e,he,hch,heq,lf,rt,von,vwh,gr,vg,its,nms,ns,ss,h1,h2,h3⟩:=h;exact ⟨cv,p,e,lf,rt,von,vwh,gr,vg,its,nms,ns,ss,hch.mods,hch.st,h1,h2,h3,fun _ => heq,fun h => absurd h he⟩
def keyVs (ks:List (Int × Bool)):List Value:=ks.flatMap fun k => [Value.int .i64 k.1,.bool k.2]
def OrI (ws wr:World) (sb rb mb:Nat) (q:zt) (cv:Value) (p0 e0:Nat) (lf rt:Int) (von vwh:Value) (gr:Bool) (vg its nms:Value) (ns:List NT) (ss:List Bs) (j:Nat):Prop:=
 ∃ p e ks vo,Mods [sb,rb] ws wr ∧ zaX wr sb cv mb 0 p e ∧ CSt wr rb lf rt von vwh gr vg its nms vo q.limit q.offset ∧ wr.ownsRow 0 117 2 vo j (keyVs ks) ∧ ks.length=j ∧ (∀ g,vo.ownBlock=some g → ws.heap.size ≤ g) ∧
  zai (za6 ns ss (q.order.take j)) p0 e0=(p,e) ∧ (e=0 → za6 ns ss (q.order.take j) = .ok (ks.map fun k => ⟨k.1.toNat,k.2⟩) ∧ ∀ k ∈ ks,0 ≤ k.1)
theorem OrI.start {ws:World} {sb rb mb:Nat} {q:zt} {cv:Value} {p e:Nat} {lf rt:Int} {von vwh:Value} {gr:Bool} {vg its nms:Value} {ns:List NT} {ss:List Bs} (hS:zaX ws sb cv mb 0 p e) (hC:CSt ws rb lf rt von vwh gr vg its nms (.slice none 0 0) q.limit q.offset):OrI ws ws sb rb mb q cv p e lf rt von vwh gr vg its nms ns ss 0:=
 ⟨p,e,[],.slice none 0 0,QM _ _,hS,hC,World.ownsRow_nil _ _ _ _,rfl,(fun g hg => nomatch (show (none:Option Nat)=some g from hg)),zaP _ _ _,fun _ => ⟨rfl,by simp⟩⟩
theorem zjh (ks:List (Int × Bool)) (k:Int × Bool):keyVs (ks ++ [k])=keyVs ks ++ [.int .i64 k.1,.bool k.2]:=by simp [keyVs]
theorem OrI.push {ws w2 w3:World} {sb rb mb:Nat} {q:zt} {cv:Value} {p0 e0 p e:Nat} {lf rt:Int} {von vwh:Value} {gr:Bool} {vg its nms vo:Value} {ns:List NT} {ss:List Bs} {j:Nat} {ks:List (Int × Bool)} {a:zfI} {g cap:Nat} (hM2:Mods [sb,rb] ws w2) (hS2:zaX w2 sb cv mb 0 (zaa (decide (zfx ss a < 0 ∨ (ns.length:Int) ≤ zfx ss a)) 13 a.pos p e).1 (zaa (decide (zfx ss a < 0 ∨ (ns.length:Int) ≤ zfx ss a)) 13 a.pos p e).2)
  (hC2:CSt w2 rb lf rt von vwh gr vg its nms vo q.limit q.offset) (hg:∀ g,vo.ownBlock=some g → ws.heap.size ≤ g) (hl:ks.length=j) (hc:zai (za6 ns ss (q.order.take j)) p0 e0=(p,e)) (hok:e=0 → za6 ns ss (q.order.take j) = .ok (ks.map fun k => ⟨k.1.toNat,k.2⟩) ∧ ∀ k ∈ ks,0 ≤ k.1) (ha:q.order[j]? = some a)
  (hs:sb < ws.heap.size) (hr:rb < ws.heap.size) (hne:sb ≠ rb) (ho:w3.ownsRow 0 117 2 (.slice (some ⟨g,0,none⟩) (j + 1) cap) (j + 1) (keyVs ks ++ [.int .i64 (zfx ss a),.bool a.desc])) (hM3:Mods vo.ownBlock.toList w2 w3) (hg3:vo.ownBlock=some g ∨ w2.heap.size ≤ g) :
  OrI ws (w3.setCell ⟨rb,8,none⟩ (.slice (some ⟨g,0,none⟩) (j + 1) cap)) sb rb mb q cv p0 e0 lf rt von vwh gr vg its nms ns ss (j + 1):=by
 have hput:=z9 w3 rb 8 (.slice (some ⟨g,0,none⟩) (j + 1) cap);have hsn:sb ∉ vo.ownBlock.toList:=fun hm => by have:=hg sb AH; omega
 have hrn:rb ∉ vo.ownBlock.toList:=fun hm => by have:=hg rb AH; omega
 have hgg:ws.heap.size ≤ g:=by
  rcases hg3 with h1 | h1
  ·exact hg g h1
  ·exact Nat.le_trans hM2.size h1
 refine ⟨_,_,ks ++ [(zfx ss a,a.desc)],_,(hM2.trans hM3 (fun x hx => .inr (hg x AJ))).trans hput,hput.heap (hM3.heap hS2 hsn) AS,zb (hM3.heap hC2 hrn) 8 _,?_,by rw [List.length_append,hl]; rfl,(fun x hx => by cases hx; exact hgg),?_,?_⟩
 ·rw [zjh];exact zm ho hput (fun x hx hm => by cases hx; simp at hm; omega)
 ·rw [zmV hc ha]
 ·intro h0;have hb:decide (zfx ss a < 0 ∨ (ns.length:Int) ≤ zfx ss a)=false ∧ e=0:=by
   unfold zaa at h0;by_cases hx:decide (zfx ss a < 0 ∨ (ns.length:Int) ≤ zfx ss a)=true ∧ e=0
   ·rw [if_pos hx] at h0; exact absurd h0 AB
   ·rw [if_neg hx] at h0;have h0:e=0:=h0
    exact ⟨by cases hd:decide (zfx ss a < 0 ∨ (ns.length:Int) ≤ zfx ss a) with
     | true => exact absurd ⟨hd,h0⟩ hx
     | false => rfl,h0⟩
  obtain ⟨h1,h2⟩:=hok hb.2;have h3:=of_decide_eq_false hb.1;refine ⟨?_,fun k hk => ?_⟩
  ·rw [List.take_add_one,ha];show za6 ns ss (q.order.take j ++ [a])=_;rw [zfj,h1,zik,if_neg h3,List.map_append];rfl
  ·rcases List.mem_append.1 hk with hk | hk
   ·exact h2 k hk
   ·simp at hk; subst hk;show 0 ≤ zfx ss a;omega
theorem znH (q:zt) (env:List EC) (group:List Nat):NZ (zem q env group):=by
 unfold zem;refine NZ.bind (zmW _ _ _) fun l _ => ?_;simp only;split
 ·split
  ·exact NZ.four _
  ·exact NZ.bind (zlj _ _ _) fun x _ => NZ.ok _
 ·exact NZ.ok _
theorem GroupAt.past {wB w w':World} {sb rb:Nat} {v:Value} {l:List Nat} (h:∀ L:List Nat,(∀ x ∈ L,x < wB.heap.size) → GroupAt w L v l) (hM:Mods [sb,rb] w w') (hs:sb < wB.heap.size) (hr:rb < wB.heap.size):∀ L:List Nat,(∀ x ∈ L,x < wB.heap.size) → GroupAt w' L v l:=fun L hL => by
 have h1:=(h (sb :: rb :: L) (fun x hx => by
  rcases MC hx with rfl | hx
  ·exact hs
  ·rcases MC hx with rfl | hx
   ·exact hr
   ·exact hL x hx)).mods (hM.mono)
 obtain ⟨ao,cap,rfl,h2⟩:=h1
 exact ⟨ao,cap,rfl,fun h0 => by
  obtain ⟨g,h3,h4,h5⟩:=h2 h0
  exact ⟨g,h3,fun hm => h4 (by simp [hm]),h5⟩⟩
theorem zkf {wB wh w':World} {sb rb mb:Nat} {tb:List TblT} {q:zt} {gr:Bool} {cv:Value} {left:Nat} {right:Option Nat} {on whr:Option NT} {von vwh:Value} {group:List Nat} {vg:Value} {r:Ending}
  (hG:Good5 wB wh sb rb mb tb q gr cv left right on whr von vwh group vg) (h:ItemsRes wh sb rb cv mb 0 (zbS tb left right) q group left (rightV right) von vwh vg (.slice none 0 0) q.limit q.offset r w') :
  ∃ cv p e lf rt von vwh gr vg its nms ns ss,OrdS wB w' sb rb mb tb q cv p e lf rt von vwh gr vg its nms ns ss:=by
 obtain ⟨-,hM,hS,gr',its,nms,ns,ss,hC,hL,hlen,hok⟩:=h;have hsl:=hG.ch.sbl;have hrl:=hG.ch.rbl;refine ⟨cv,_,_,_,_,von,vwh,gr',vg,its,nms,ns,ss,hG.ch.mods.trans hM (fun x hx => .inl AY),hS,hC,hL.base hG.ch.mods.size,hlen,fun he => Chk.bad_of hG.eq (zgS (pos:=0) (Prod.ext rfl rfl) he),fun he => ?_⟩;obtain ⟨-,hp,x,hx⟩:=zaU (znH _ _ _) (show zai (zem q (zbS tb left right) group) 0 0=((zai (zem q (zbS tb left right) group) 0 0).1,0) from Prod.ext rfl he);obtain ⟨l,g⟩:=x;obtain ⟨h1,h2,h3⟩:=hok l g hx;exact ⟨hp,left,right,on,whr,group,(l,g),⟨Chk.ok_of hG.eq hx,OptN.past hG.on hM hsl hrl,OptN.past hG.whr hM hsl hrl,GroupAt.past hG.grp hM hsl hrl⟩,rfl,rfl,h1,h2,h3⟩
theorem zji {wB w:World} {its nms:Value} {ns:List NT} {ss:List Bs} (h:Coll wB w its nms ns ss) {L:List Nat} (hL:∀ x ∈ L,x < wB.heap.size):ListIn NodR w L its ns 1:=by
 obtain ⟨css,h1,h2⟩:=h.rowI;rcases h1.2 with ⟨rfl,h0⟩ | ⟨g,cap,cur,rfl,hx⟩
 ·exact ybv
 ·refine ⟨_,_,rfl,fun _ => ⟨g,rfl,fun hm => by have h3:=(h.apart g rfl).1; have h4:=hL g hm; omega,(zar h1).2.1,fun j hj => ?_⟩⟩;obtain ⟨c,h3,h4⟩:=AllR.at (k:=1) (fun c x hx => by obtain ⟨b,hb,_⟩:=hx; rw [hb]; rfl) (h2 L (fun x hx => .inl (hL x hx))) j hj;exact ⟨c,h3,by obtain ⟨b,hb,_⟩:=h3; rw [hb]; rfl,fun i u hi => (zar h1).2.2 _ u (h4 i u hi)⟩
theorem zjj {wB w:World} {its nms:Value} {ns:List NT} {ss:List Bs} (h:Coll wB w its nms ns ss) {L:List Nat} (hL:∀ x ∈ L,x < wB.heap.size):ListIn NameR w L nms ss 1:=by
 rcases h.rowN.2 with ⟨rfl,h0⟩ | ⟨g,cap,cur,rfl,hx⟩
 ·exact ybv
 ·refine ⟨_,_,rfl,fun _ => ⟨g,rfl,fun hm => by have h3:=h.later g rfl; have h4:=hL g hm; omega,(zar h.rowN).2.1,fun j hj => ⟨[.string ⟨ss[j].toArray⟩],rfl,rfl,fun i u hi => ?_⟩⟩⟩;have hi0:i=0:=by
   cases i with
   | zero => rfl
   | succ i => simp at hi
  subst hi0;cases hi;rw [Nat.mul_one,Nat.add_zero];exact (zar h.rowN).2.2 j _ (by rw [List.getElem?_map,List.getElem?_eq_getElem hj]; rfl)
theorem ziE:∀ (ks:List (Int × Bool)) (j:Nat) (hj:j < ks.length),(keyVs ks)[j * 2]? = some (.int .i64 ks[j].1) ∧ (keyVs ks)[j * 2 + 1]? = some (.bool ks[j].2)
 | k :: ks,0,_ => ⟨rfl,rfl⟩
 | k :: ks,j + 1,h => by have:=ziE ks j AN;rw [show (j + 1) * 2=j * 2 + 2 by omega];exact this
theorem znR {ws w:World} {vo:Value} {ks:List (Int × Bool)} {j:Nat} (hl:ks.length=j) (h:w.ownsRow 0 117 2 vo j (keyVs ks)) (hg:∀ g,vo.ownBlock=some g → ws.heap.size ≤ g) (hp:∀ k ∈ ks,0 ≤ k.1) {L:List Nat} (hL:∀ x ∈ L,x < ws.heap.size):ListIn KeyCR w L vo (ks.map fun k => ⟨k.1.toNat,k.2⟩) 2:=by
 subst hl;rcases h.2 with ⟨rfl,h0⟩ | ⟨g,cap,cur,rfl,hx⟩
 ·exact ybv
 ·refine ⟨_,_,by rw [List.length_map],fun _ => ⟨g,rfl,fun hm => by have h3:=hg g rfl; have h4:=hL g hm; omega,by rw [List.length_map]; exact (zar h).2.1,fun j hj => ?_⟩⟩;have hj2:j < ks.length:=by simpa using hj
  obtain ⟨h1,h2⟩:=ziE ks j hj2;have h9:=hp ks[j] (List.getElem_mem hj2);refine ⟨[.int .i64 (ks[j].1.toNat:Nat),.bool ks[j].2],by rw [List.getElem_map]; rfl,rfl,fun i u hi => ?_⟩;rw [show ((ks[j].1.toNat:Nat):Int)=ks[j].1 by omega] at hi
  match i,hi with
  | 0,hi => cases hi; exact (zar h).2.2 _ _ h1
  | 1,hi => cases hi; exact (zar h).2.2 _ _ h2
theorem zkg {w wB ws wr:World} {sb rb mb:Nat} {tb:List TblT} {q:zt} {gr0:Bool} {cv:Value} {p0 e0:Nat} {lf rt:Int} {von vwh:Value} {gr:Bool} {vg its nms vo:Value} {ns:List NT} {ss:List Bs} {j p e:Nat} {ks:List (Int × Bool)}
  (hst:StartC w wB sb rb mb q gr0) (hO:OrdS wB ws sb rb mb tb q cv p0 e0 lf rt von vwh gr vg its nms ns ss) (hM:Mods [sb,rb] ws wr) (hC:CSt wr rb lf rt von vwh gr vg its nms vo q.limit q.offset) (hor:wr.ownsRow 0 117 2 vo j (keyVs ks)) (hkl:ks.length=j) (hg:∀ g,vo.ownBlock=some g → ws.heap.size ≤ g)
  (hce:zai (za6 ns ss q.order) p0 e0=(p,e)) (hok:e=0 → za6 ns ss q.order = .ok (ks.map fun k => ⟨k.1.toNat,k.2⟩) ∧ ∀ k ∈ ks,0 ≤ k.1) :
  zeo w tb q (.returned (if e ≠ 0 then .tuple #[.pointer none,.int .i64 (p:Nat),.int .i64 (e:Nat)] else .tuple #[zh rb,.int .i64 0,.int .i64 0])) wr:=by
 obtain ⟨hMs,hS,hC0,hL,hlen,hbad,hgood⟩:=hO;have hMr:Mods [sb,mb,rb] wB wr:=hMs.trans hM (fun x hx => .inl AY);refine ⟨hst.old hMr,?_⟩;have hsl:=hst.ch.sbl;have hrl:=hst.ch.rbl;by_cases he:e=0
 ·subst he;obtain ⟨h0,hp,-⟩:=zaU (zgP _ _ _) hce;subst h0;obtain ⟨-,left,right,on,whr,group,x,hG,rfl,rfl,rfl,rfl,rfl⟩:=hgood rfl;obtain ⟨h1,h2⟩:=hok rfl;have heq:zao tb q = .ok ⟨left,right,on,whr,x.2,group,x.1.map (·.1),x.1.map (·.2),ks.map fun k => ⟨k.1.toNat,k.2⟩,q.limit,q.offset⟩:=by rw [hG.eq]; unfold ck6; rw [h1]; rfl
  rw [heq,if_neg AB];refine ⟨rb,rfl,hst.rbw,by show (x.1.map (·.1)).length=(x.1.map (·.2)).length; simp,fun L hL9 => ?_⟩;have hLB:∀ y ∈ L,y < wB.heap.size:=fun y hy => LL (hL9 y hy) hst.mods.size;have hLr:Coll wB wr its nms (x.1.map (·.1)) (x.1.map (·.2)):=hL.go hM (by simpa using ⟨hsl,hrl⟩);exact ⟨fun hm => by have:=hL9 rb hm; have:=hst.rbw; omega,von,vwh,vg,its,nms,vo,hC,OptN.past hG.on hM hsl hrl L hLB,OptN.past hG.whr hM hsl hrl L hLB,GroupAt.past hG.grp hM hsl hrl L hLB,zji hLr hLB,zjj hLr hLB,znR hkl hor hg h2 (fun y hy => LL (hLB y hy) hMs.size)⟩
 ·rw [if_pos he];have heq:zao tb q = .bad p e:=by
   by_cases h0:e0=0
   ·subst h0;obtain ⟨hp,left,right,on,whr,group,x,hG,rfl,rfl,rfl,rfl,rfl⟩:=hgood rfl;rw [hG.eq];unfold ck6;rw [zgS hce he]; rfl
   ·rw [zbr _ h0] at hce;cases hce;exact hbad h0
  rw [heq]
end Go.Proofs.YtcabeljiobiojaaGreatDoor
