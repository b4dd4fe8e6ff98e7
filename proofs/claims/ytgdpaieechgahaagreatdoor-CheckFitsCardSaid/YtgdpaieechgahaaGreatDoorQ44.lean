/-
  The law's examples, and an expr's type, walked; Check as contracts. No condition but that Go's own variables hold what they were laid with.
-/
import Derived.Test.YtgdpaieechgahaaGreatDoorChB
set_option linter.unusedVariables false
namespace Go.Proofs.YtgdpaieechgahaaGreatDoor
open Go.RowKit
def Tabs3 (w:World):Prop:=Tabs2 w ∧ CkVars w
theorem Tabs3.later {w w':World} (h:Tabs3 w) (hM:Mods [] w w'):Tabs3 w':=⟨h.1.later hM,h.2.later hM⟩
theorem zop {l:Bs} {q:zt} (h:zaj l = .good q):FormQ q:=by
 unfold zaj at h;split at h
 ·cases h
 ·exact zjW h
theorem zbJ (w:World) (hT:Tabs3 w) {tb:Nat} (hI:TblsIn w (some ⟨tb,0,none⟩) tabsV []) {l:Bs} {q:zt} (h:zaj l = .good q) {qb:Nat} (hQ:QueryAt w [] qb q) (hok:zcA q) :
  Calls Tryz.prog 12 #[.slice (some ⟨tb,0,none⟩) 2 2,zh qb] w (zeo w tblsL q):=by
 rw [← zjY];exact zkd w hT.1.1 hT.1.2 hT.2 tabsV zjZ 2 rfl _ 2 hI qb q hQ hok (zop h)
theorem zgT {l:Bs} {r:Option (Chk CQ)} (h:zaI l=r) (hr:r ≠ none):∃ q,zaj l = .good q ∧ r=some (zao tblsL q):=by
 unfold zaI at h
 cases hp:zaj l with
 | bad p k => rw [hp] at h; exact absurd h.symm hr
 | good q => rw [hp] at h; exact ⟨q,rfl,h.symm⟩
theorem zoq:∃ q c,zaj exG = .good q ∧ zao tblsL q = .ok c ∧ c.items=[exNode]:=by
 have h:=ex_g
 cases hr:zaI exG with
 | none => rw [hr] at h; cases h
 | some r =>
  obtain ⟨q,hq,he⟩:=zgT hr (by simp);rw [hr] at h;cases he
  cases hc:zao tblsL q with
  | bad p e => rw [hc] at h; cases h
  | ok c => rw [hc] at h; exact ⟨q,c,hq,hc,of_decide_eq_true h⟩
theorem zoQ:∃ q,zaj exH = .good q ∧ zao tblsL q = .bad 7 13:=by
 have h:=ex_h
 cases hr:zaI exH with
 | none => rw [hr] at h; cases h
 | some r =>
  obtain ⟨q,hq,he⟩:=zgT hr (by simp);rw [hr] at h;cases he
  cases hc:zao tblsL q with
  | ok c => rw [hc] at h; cases h
  | bad p e =>rw [hc] at h;obtain ⟨rfl,rfl⟩:=of_decide_eq_true (show decide (p=7 ∧ e=13)=true from h);exact ⟨q,hq,hc⟩
theorem zf4 {w:World} {v:Value} {n:NT} {ns:List NT} (h:ListIn NodR w [] v (n :: ns) 1):∃ g cap b,v = .slice (some ⟨g,0,none⟩) (ns.length + 1) cap ∧ w.cell? ⟨g,0,none⟩ = some (zh b) ∧ NAt w [] (zh b) n:=by obtain ⟨ao,cap,rfl,h⟩:=h;obtain ⟨g,rfl,-,-,h4⟩:=h (by simp);obtain ⟨c,⟨b,rfl,hb⟩,-,h6⟩:=h4 0 (by simp);exact ⟨g,cap,b,rfl,h6 0 _ rfl,hb⟩
set_option maxRecDepth 100000 in
set_option maxHeartbeats 4000000 in
theorem zb4 (w:World) (hT:Tabs3 w):Calls Tryz.prog 7 #[] w fun e w' => e = .returned (.bool true) ∧ Mods [] w w':=by obtain ⟨q,c,hq,hc,hci⟩:=zoq;obtain ⟨r,hr,hrc⟩:=zoQ;have hp1:Calls Tryz.prog 10 #[.string ⟨#[83,69,76,69,67,84,32,49,32,43,32,49,46,53,32,70,82,79,77,32,116]⟩] w _:=zcb w hT.1.1 exG q hq (by decide);have HT:=QH hT;have HX:=QH (AI hq (AI hc (AI hci (AI hr hrc))));clear hT hq hc hci hr hrc;go_enter Tryz.func7, Tryz.ntmps7;go_wp2_with fail;(with_reducible refine hp1.mono ?_);rintro e w2 ⟨qb,rfl,hM2,hQ,hok⟩;unfold zh;clear hp1;have htb:=zbI w2;have HQ:=QH (AI hM2 (AI hQ hok));clear hM2 hQ hok;go_wp2_with fail;(with_reducible refine htb.mono ?_);rintro e w3 ⟨tb,rfl,hM3,hI⟩;clear htb;have hck:=zbJ w3 (HT.out.later (HQ.out.1.trans hM3)) hI HX.out.1 (HQ.out.2.1.later hM3) HQ.out.2.2;have HM3:=QH (HQ.out.1.trans hM3);unfold zh at hck;clear hM3 hI;go_wp2_with fail;(with_reducible refine hck.mono ?_);rintro e w4 ⟨hM4,hres⟩;rw [HX.out.2.1] at hres;obtain ⟨cb,rfl,-,-,hCA⟩:=hres;unfold zh;clear hck;obtain ⟨-,von,vwh,vg,its,nms,vo,hst,-,-,-,hits,-⟩:=hCA [] (by simp);rw [HX.out.2.2.1] at hits;obtain ⟨g,cap,nb,rfl,hg0,hN⟩:=zf4 hits;have hM04:=HM3.out.trans hM4;have hp2:Calls Tryz.prog 10 #[.string ⟨#[83,69,76,69,67,84,32,110,111,110,101,32,70,82,79,77,32,116]⟩] w4 _:=zcb w4 (HT.out.later hM04).1.1 exH r HX.out.2.2.2.1 (by decide);have HM4:=QH (AI hM04 (AI hst (AI hg0 hN)));clear hM4 hCA hst hits hg0 hN hM04;go_wp2_with fail;(with_reducible refine hp2.mono ?_);rintro e w5 ⟨rb,rfl,hM5,hR,hokr⟩;unfold zh;clear hp2;have htb:=zbI w5;have HR:=QH (AI hM5 (AI hR hokr));clear hM5 hR hokr;go_wp2_with fail;(with_reducible refine htb.mono ?_);rintro e w6 ⟨tb2,rfl,hM6,hI⟩;clear htb;have hM46:=HR.out.1.trans hM6;have hck:=zbJ w6 (HT.out.later (HM4.out.1.trans hM46)) hI HX.out.2.2.2.1 (HR.out.2.1.later hM6) HR.out.2.2;have HM6:=QH hM46;unfold zh at hck;clear hM6 hI hM46;go_wp2_with fail;(with_reducible refine hck.mono ?_);rintro e w7 ⟨hM7,hres⟩;rw [HX.out.2.2.2.2] at hres;have hres:e=_:=hres;subst hres;clear hck;have hM47:=HM6.out.trans hM7;have c6:=hM47.cell (za HM4.out.2.1 6);change w7.cell? _=some (.slice (some ⟨g,0,none⟩) 1 cap) at c6;have c0:=hM47.cell HM4.out.2.2.1;have hsh:=zoo w7 (zh nb) (HT.out.later (HM4.out.1.trans hM47)).1.2 (HM4.out.2.2.2.mods hM47);unfold zh at hsh c0;have HM7:=QH (HM4.out.1.trans hM47);clear hM7 hM47;go_wp2_with fail;(with_reducible refine hsh.mono ?_);rintro e w8 ⟨rfl,hM8⟩;clear hsh;go_wp2_with fail;go_ret;exact ⟨rfl,HM7.out.trans hM8⟩
def Stop (r:Bs):Prop:=r=[] ∨ ∃ c q,r=c :: q ∧ (zbs c=true ∨ c=41 ∨ c=44)
def Tok.strip (t:Tok):TokC:=⟨t.kind,t.s,t.n,t.scale⟩
def LexAny (a:Bs) (ts:List TokC):Prop:=∀ (r:Bs) (p:Nat),∃ us:List Tok,us.map Tok.strip=ts ∧ (∀ t ∈ us,p ≤ t.pos ∧ t.pos < p + a.length) ∧ lexB (a ++ r) p=(lexB r (p + a.length)).pre us
def LexStop (a:Bs) (ts:List TokC):Prop:=∀ (r:Bs) (p:Nat),Stop r → ∃ us:List Tok,us.map Tok.strip=ts ∧ (∀ t ∈ us,p ≤ t.pos ∧ t.pos < p + a.length) ∧ lexB (a ++ r) p=(lexB r (p + a.length)).pre us
theorem LexAny.stop {a:Bs} {ts:List TokC} (h:LexAny a ts):LexStop a ts:=fun r p _ => h r p
theorem LexAny.nil:LexAny [] []:=fun r p => ⟨[],rfl,by simp,by simp [Lexed.pre_nil]⟩
theorem zd2 {a b:Bs} {ts us:List TokC} {r:Bs} {p:Nat} (h1:∃ xs:List Tok,xs.map Tok.strip=ts ∧ (∀ t ∈ xs,p ≤ t.pos ∧ t.pos < p + a.length) ∧ lexB (a ++ (b ++ r)) p=(lexB (b ++ r) (p + a.length)).pre xs)
  (h2:∃ xs:List Tok,xs.map Tok.strip=us ∧ (∀ t ∈ xs,p + a.length ≤ t.pos ∧ t.pos < p + a.length + b.length) ∧ lexB (b ++ r) (p + a.length)=(lexB r (p + a.length + b.length)).pre xs) :
  ∃ xs:List Tok,xs.map Tok.strip=ts ++ us ∧ (∀ t ∈ xs,p ≤ t.pos ∧ t.pos < p + (a ++ b).length) ∧ lexB (a ++ b ++ r) p=(lexB r (p + (a ++ b).length)).pre xs:=by
 obtain ⟨xs,e1,p1,l1⟩:=h1;obtain ⟨ys,e2,p2,l2⟩:=h2;refine ⟨xs ++ ys,by rw [List.map_append,e1,e2],fun t ht => ?_,?_⟩
 ·rw [List.length_append];rcases List.mem_append.1 ht with h | h
  ·have:=p1 t h; omega
  ·have:=p2 t h; omega
 ·rw [List.append_assoc,l1,l2,Lexed.pre_pre,List.length_append,Nat.add_assoc]
theorem LexAny.app {a b:Bs} {ts us:List TokC} (h:LexAny a ts) (k:LexAny b us):LexAny (a ++ b) (ts ++ us):=fun r p => zd2 (h _ _) (k _ _)
theorem LexAny.appS {a b:Bs} {ts us:List TokC} (h:LexAny a ts) (k:LexStop b us):LexStop (a ++ b) (ts ++ us):=fun r p hr => zd2 (h _ _) (k _ _ hr)
theorem Stop.app {b r:Bs} (h:Stop b) (hb:b ≠ []):Stop (b ++ r):=by
 rcases h with h | ⟨c,q,rfl,hc⟩
 ·exact absurd h hb
 ·exact .inr ⟨c,q ++ r,rfl,hc⟩
theorem LexStop.app {a b:Bs} {ts us:List TokC} (h:LexStop a ts) (k:LexAny b us) (hs:Stop b) (hb:b ≠ []):LexAny (a ++ b) (ts ++ us):=fun r p => zd2 (h _ _ (hs.app hb)) (k _ _)
theorem LexStop.appS {a b:Bs} {ts us:List TokC} (h:LexStop a ts) (k:LexStop b us) (hs:Stop b) (hb:b ≠ []):LexStop (a ++ b) (ts ++ us):=fun r p hr => zd2 (h _ _ (hs.app hb)) (k _ _ hr)
theorem zby {c:UInt8} {q r:Bs} {p:Nat} {t:TokC} (hb:zbs c=false) (h:zc3 ((c :: q) ++ r)=some (t,(c :: q).length)) :
  ∃ us:List Tok,us.map Tok.strip=[t] ∧ (∀ u ∈ us,p ≤ u.pos ∧ u.pos < p + (c :: q).length) ∧ lexB ((c :: q) ++ r) p=(lexB r (p + (c :: q).length)).pre us:=by
 refine ⟨[t.put p],rfl,fun u hu => ?_,?_⟩
 ·simp at hu; subst hu; simp [TokC.put]
 ·have e:lexB ((c :: q) ++ r) p=lexG ((c :: q) ++ r) p:=by
   unfold lexB;rw [List.cons_append,List.dropWhile_cons,List.takeWhile_cons,hb];simp
  rw [e,zko p h];simp
theorem zly {c:UInt8} (hb:zbs c=true):LexAny [c] []:=fun r p => ⟨[],rfl,by simp,by
 unfold lexB;rw [Lexed.pre_nil,List.cons_append,List.nil_append,List.dropWhile_cons,List.takeWhile_cons,if_pos hb,if_pos hb];simp only [List.length_cons,List.length_nil];congr 1
 omega⟩
theorem zeC {c:UInt8} (h1:zah c=false) (h2:zC c=false) (h3:c ≠ 39) (hb:zbs c=false) (hm:marks1.contains c=true) (hl:∀ d,marks2.contains [c,d]=false):LexAny [c] [⟨5,[c],0,0⟩]:=fun r p => by
 refine zby (q:=[]) hb ?_;show (if zah c=true then _ else if zC c=true then _ else if c=39 then _ else zcv (c :: ([] ++ r)))=_;rw [if_neg (by rw [h1]; decide),if_neg (by rw [h2]; decide),if_neg h3];unfold zcv;have h0:marks2.contains ((c :: ([] ++ r)).take 2)=false:=by
  cases r with
  | nil =>simp [marks2]
  | cons d r => exact hl d
 rw [if_neg (by rw [h0]; decide)];simp only;rw [if_pos hm];rfl
theorem znK {P:UInt8 → Bool} (hP:∀ c,zbs c=true ∨ c=41 ∨ c=44 → P c=false) {b r:Bs} (hb:∀ x ∈ b,P x=true) (hr:Stop r):(b ++ r).takeWhile P=b ∧ (b ++ r).dropWhile P=r:=by
 induction b with
 | nil =>
  rcases hr with rfl | ⟨c,q,rfl,hc⟩
  ·exact ⟨rfl,rfl⟩
  ·have:=hP c hc;simp [this]
 | cons x b ih =>have hx:=hb x List.mem_cons_self;have:=ih (fun y hy => hb y (CM _ hy));simp [hx,this.1,this.2]
theorem zgU (c:UInt8) (h:zbs c=true ∨ c=41 ∨ c=44):zb0 c=false:=by
 rcases h with h | h | h
 ·have hb:¬ zb0 c=true:=by
   intro h2;simp only [zb0,zah,zC,zbs,Bool.or_eq_true,Bool.and_eq_true,decide_eq_true_eq] at h h2;omega
  simpa using hb
 ·subst h; decide
 ·subst h; decide
theorem znc (c:UInt8) (h:zbs c=true ∨ c=41 ∨ c=44):zC c=false:=by have:=zgU c h;simp only [zb0,Bool.or_eq_false_iff] at this;exact this.2
theorem zbN {c:UInt8} {q:Bs} (hc:zah c=true) (hl:∀ x ∈ (c :: q),zb0 x=true) (hk:zb6 ((c :: q).map upc)=false) (h40:(c :: q).length ≤ 40):LexStop (c :: q) [⟨2,c :: q,0,0⟩]:=fun r p hr => by refine zby (zg4 hc) ?_;show (if zah c=true then zcf ((c :: q) ++ r) else _)=_;rw [if_pos hc,zcf,(znK zgU hl hr).1,if_neg (by rw [hk]; decide),if_neg (by omega)]
theorem zas {c:UInt8} {q:Bs} (hc:zah c=true) (hl:∀ x ∈ (c :: q),zb0 x=true) (hk:zb6 ((c :: q).map upc)=true):LexStop (c :: q) [⟨1,(c :: q).map upc,0,0⟩]:=fun r p hr => by refine zby (zg4 hc) ?_;show (if zah c=true then zcf ((c :: q) ++ r) else _)=_;rw [if_pos hc,zcf,(znK zgU hl hr).1,if_pos hk]
def stripT:Tree → Tree
 | .leaf h => .leaf { h with pos:=0 }
 | .un h a => .un { h with pos:=0 } (stripT a)
 | .bin h a b => .bin { h with pos:=0 } (stripT a) (stripT b)
def isC (t:TokC) (l:List Bs):Bool:=(decide (t.kind=1) || decide (t.kind=5)) && l.contains t.s
def okB (bs:List Bs) (r:List Tok):Prop:=isC (r.headD zTok).strip bs=false
theorem okB.sub {bs bs':List Bs} {r:List Tok} (h:okB bs r) (hs:∀ x ∈ bs',x ∈ bs):okB bs' r:=by
 unfold okB isC at *;rw [Bool.and_eq_false_iff] at *;rcases h with h | h
 ·exact .inl h
 ·right;rw [Bool.eq_false_iff] at *;intro h2;exact h (List.contains_iff_mem.2 (hs _ (List.contains_iff_mem.1 h2)))
theorem znd {r:List Tok} {p:Nat} {bs:List Bs} (h:okB bs r):(⟨r,p,0⟩ : PS).is bs=false:=by unfold PS.is PS.now;exact (Bool.and_eq_false_iff.2 (.inr h))
theorem zf5 {t:TokC} {q p:Nat} {r:List Tok} {ws:List Bs}:(⟨t.put q :: r,p,0⟩ : PS).is ws=isC t ws:=by unfold PS.is PS.now isTok isC;simp [TokC.put]
theorem zlz {t:TokC} {q p:Nat} {r:List Tok} {w:Bs} (h:isC t [w]=true):(⟨t.put q :: r,p,0⟩ : PS).takes w=(true,⟨r,p,0⟩):=by unfold PS.takes;rw [zf5,if_pos h];rfl
theorem zdH {r:List Tok} {p:Nat} {w:Bs} (h:okB [w] r):(⟨r,p,0⟩ : PS).takes w=(false,⟨r,p,0⟩):=by unfold PS.takes;rw [znd h];rfl
theorem zcd {t:TokC} {q p:Nat} {r:List Tok} {w:Bs} (h:isC t [w]=true):(⟨t.put q :: r,p,0⟩ : PS).wants [w] = ⟨r,p,0⟩:=by show (⟨t.put q :: r,p,0⟩ : PS).want w=_;unfold PS.want;rw [zf5,if_pos h];rfl
theorem zH {Y:List Tok} {x:TokC} {X:List TokC} (h:Y.map Tok.strip=x :: X):∃ q Y',Y=x.put q :: Y' ∧ Y'.map Tok.strip=X:=by
 cases Y with
 | nil => cases h
 | cons y Y =>
  rw [List.map_cons] at h;injection h with h1 h2
  exact ⟨y.pos,Y,by rw [← h1]; rfl,h2⟩
theorem zaQ {Y:List Tok} (h:Y.map Tok.strip=[]):Y=[]:=List.map_eq_nil_iff.1 h
theorem zbz {Y:List Tok} {A B:List TokC} (h:Y.map Tok.strip=A ++ B):∃ Y1 Y2,Y=Y1 ++ Y2 ∧ Y1.map Tok.strip=A ∧ Y2.map Tok.strip=B:=by obtain ⟨Y1,Y2,h1,h2,h3⟩:=List.map_eq_append_iff.1 h;exact ⟨Y1,Y2,h1,h2,h3⟩
def Par (F:PF) (bs:List Bs) (X:List TokC) (T:Tree):Prop:=∀ (Y r:List Tok) (p:Nat),Y.map Tok.strip=X → okB bs r → ∃ t,F ⟨Y ++ r,p,0⟩ = (t,⟨r,p,0⟩) ∧ stripT t=T
theorem Par.sub {F:PF} {bs bs':List Bs} {X:List TokC} {T:Tree} (h:Par F bs X T) (hs:∀ x ∈ bs,x ∈ bs'):Par F bs' X T:=fun Y r p h1 h2 => h Y r p h1 (h2.sub hs)
def bP:List Bs:=[wPoint]
def bT:List Bs:=[wPoint,wStar,[47]]
def bS:List Bs:=[wPoint,wStar,[47],[43],wMinus]
def bR:List Bs:=[wPoint,wStar,[47],[43],wMinus,[61],[60,62],[60],[60,61],[62],[62,61],wIs]
def bA:List Bs:=[wPoint,wStar,[47],[43],wMinus,[61],[60,62],[60],[60,61],[62],[62,61],wIs,[65,78,68]]
def bE:List Bs:=[wPoint,wStar,[47],[43],wMinus,[61],[60,62],[60],[60,61],[62],[62,61],wIs,[65,78,68],[79,82]]
theorem zlA (sub:Option Lvl) (n sc:Nat):Par (zo sub) bP [⟨3,[],n,sc⟩] (.leaf { op:=oNumber,pos:=0,n:=n,scale:=sc }):=by intro Y r p h _;obtain ⟨q,Y',rfl,h0⟩:=zH h;obtain rfl:=zaQ h0;exact ⟨_,rfl,rfl⟩
theorem zne (sub:Option Lvl) (s:Bs):Par (zo sub) bP [⟨4,s,0,0⟩] (.leaf { op:=oText,pos:=0,s:=s }):=by intro Y r p h _;obtain ⟨q,Y',rfl,h0⟩:=zH h;obtain rfl:=zaQ h0;exact ⟨_,rfl,rfl⟩
theorem znf (sub:Option Lvl):Par (zo sub) bP [⟨1,wTrue,0,0⟩] (.leaf { op:=oBool,pos:=0,n:=1 }):=by intro Y r p h _;obtain ⟨q,Y',rfl,h0⟩:=zH h;obtain rfl:=zaQ h0;exact ⟨_,rfl,rfl⟩
theorem zlB (sub:Option Lvl):Par (zo sub) bP [⟨1,wFalse,0,0⟩] (.leaf { op:=oBool,pos:=0 }):=by intro Y r p h _;obtain ⟨q,Y',rfl,h0⟩:=zH h;obtain rfl:=zaQ h0;exact ⟨_,rfl,rfl⟩
theorem zng (sub:Option Lvl):Par (zo sub) bP [⟨1,wNull,0,0⟩] (.leaf { op:=oNull,pos:=0 }):=by intro Y r p h _;obtain ⟨q,Y',rfl,h0⟩:=zH h;obtain rfl:=zaQ h0;exact ⟨_,rfl,rfl⟩
theorem zlC (sub:Option Lvl) (a:Bs) (q p:Nat) (r:List Tok):zo sub ⟨(⟨2,a,0,0⟩ : TokC).put q :: r,p,0⟩ = zY ⟨(⟨2,a,0,0⟩ : TokC).put q :: r,p,0⟩:=rfl
theorem zgV (a:Bs) (q p:Nat) (r:List Tok):(⟨(⟨2,a,0,0⟩ : TokC).put q :: r,p,0⟩ : PS).name=(a,⟨r,p,0⟩):=rfl
theorem zja (sub:Option Lvl) (a:Bs):Par (zo sub) bP [⟨2,a,0,0⟩] (.leaf { op:=oColumn,pos:=0,name:=a }):=by intro Y r p h hb;obtain ⟨q,Y',rfl,h0⟩:=zH h;obtain rfl:=zaQ h0;refine ⟨.leaf { op:=oColumn,pos:=q,name:=a },?_,rfl⟩;show zo sub ⟨(⟨2,a,0,0⟩ : TokC).put q :: r,p,0⟩ = _;rw [zlC];unfold zY;simp only [zgV];have ht:(⟨r,p,0⟩ : PS).takes wPoint=(false,⟨r,p,0⟩):=zdH hb;refine (if_neg (by rw [ht]; simp)).trans ?_;rw [ht];rfl
theorem znh (sub:Option Lvl) (t a:Bs):Par (zo sub) bP [⟨2,t,0,0⟩,⟨5,wPoint,0,0⟩,⟨2,a,0,0⟩] (.leaf { op:=oColumn,pos:=0,table:=t,name:=a }):=by intro Y r p h hb;obtain ⟨q,Y',rfl,h0⟩:=zH h;obtain ⟨q2,Y'',rfl,h2⟩:=zH h0;obtain ⟨q3,Y3,rfl,h3⟩:=zH h2;obtain rfl:=zaQ h3;exact ⟨.leaf { op:=oColumn,pos:=q,table:=t,name:=a },rfl,rfl⟩
theorem zjb {q:Nat} {r:List Tok}:okB bE ((⟨5,wShut,0,0⟩ : TokC).put q :: r):=rfl
theorem zor {L:Lvl} {X:List TokC} {T:Tree} (h:Par L.expr bE X T):Par (zo (some L)) bP ([⟨5,wOpen,0,0⟩] ++ X ++ [⟨5,wShut,0,0⟩]) T:=by
 intro Y r p hY _;obtain ⟨Y1,Y2,rfl,h1,h2⟩:=zbz hY;obtain ⟨q,Y0,rfl,h0⟩:=zH h1;obtain ⟨q2,Y3,rfl,h3⟩:=zH h2;obtain rfl:=zaQ h3;obtain ⟨t,e1,e2⟩:=h Y0 ((⟨5,wShut,0,0⟩ : TokC).put q2 :: r) p h0 zjb;refine ⟨t,?_,e2⟩;have:zo (some L) ⟨(⟨5,wOpen,0,0⟩ : TokC).put q :: Y0 ++ [(⟨5,wShut,0,0⟩ : TokC).put q2] ++ r,p,0⟩ = ((L.expr ⟨Y0 ++ (⟨5,wShut,0,0⟩ : TokC).put q2 :: r,p,0⟩).1,(L.expr ⟨Y0 ++ (⟨5,wShut,0,0⟩ : TokC).put q2 :: r,p,0⟩).2.wants [wShut]):=by rw [show (⟨5,wOpen,0,0⟩ : TokC).put q :: Y0 ++ [(⟨5,wShut,0,0⟩ : TokC).put q2] ++ r=(⟨5,wOpen,0,0⟩ : TokC).put q :: (Y0 ++ (⟨5,wShut,0,0⟩ : TokC).put q2 :: r) by simp];rfl
 rw [this,e1];show (t,(⟨(⟨5,wShut,0,0⟩ : TokC).put q2 :: r,p,0⟩ : PS).wants [wShut])=_;rw [zcd (by decide)]
def hdB (bs:List Bs) (X:List TokC):Prop:=∃ x X',X=x :: X' ∧ isC x bs=false
theorem zfo {sub:Option Lvl} {word op:Bs} {own:Lvl → PF} {rest:PF} {bs:List Bs} {X:List TokC} {T:Tree} (h:Par rest bs X T) (hh:hdB [word] X):Par (zR sub word op own rest) bs X T:=by intro Y r p hY hb;obtain ⟨t,e1,e2⟩:=h Y r p hY hb;refine ⟨t,?_,e2⟩;obtain ⟨x,X',rfl,hx⟩:=hh;obtain ⟨q,Y',rfl,h⟩:=zH hY;unfold zR;rw [show (x.put q :: Y' ++ r)=x.put q :: (Y' ++ r) by rfl,zf5,if_neg (by rw [hx]; decide)];exact e1
theorem zf6 {L:Lvl} {w:TokC} {word op:Bs} {own:Lvl → PF} {rest:PF} {bs:List Bs} {X:List TokC} {T:Tree} (hw:isC w [word]=true) (h:Par (own L) bs X T):Par (zR (some L) word op own rest) bs ([w] ++ X) (.un { op:=op,pos:=0 } T):=by intro Y r p hY hb;obtain ⟨q,Y',rfl,hY'⟩:=zH hY;obtain ⟨t,e1,e2⟩:=h Y' r p hY' hb;refine ⟨.un { op:=op,pos:=q } t,?_,by unfold stripT; rw [e2]⟩;unfold zR;rw [show (w.put q :: Y' ++ r)=w.put q :: (Y' ++ r) by rfl,zf5,if_pos hw];show ((.un { op:=op,pos:=q } (own L ⟨Y' ++ r,p,0⟩).1:Tree),(own L ⟨Y' ++ r,p,0⟩).2)=_;rw [e1]
theorem zf7 {part:PF} {ws:List Bs} {n:Nat} {x:Tree} {s:PS} (h:s.is ws=false):zaq part ws n x s=(x,s):=by
 cases n with
 | zero => rfl
 | succ n => unfold zaq; rw [h]; rfl
theorem zeD {part:PF} {ws bs bs':List Bs} {X:List TokC} {T:Tree} (h:Par part bs X T) (h1:∀ x ∈ bs,x ∈ bs') (h2:∀ x ∈ ws,x ∈ bs'):Par (zac part ws) bs' X T:=by intro Y r p hY hb;obtain ⟨t,e1,e2⟩:=h Y r p hY (hb.sub h1);refine ⟨t,?_,e2⟩;unfold zac;rw [e1];exact zf7 (znd (hb.sub h2))
theorem zcS {part:PF} {ws bs bs':List Bs} {X Z:List TokC} {o:TokC} {T U:Tree} (hX:Par part bs X T) (hZ:Par part bs Z U) (ho:isC o ws=true) (hob:isC o bs=false) (h1:∀ x ∈ bs,x ∈ bs') (h2:∀ x ∈ ws,x ∈ bs') :
  Par (zac part ws) bs' (X ++ [o] ++ Z) (.bin { op:=o.s.map zb5,pos:=0 } T U):=by
 intro Y r p hY hb;obtain ⟨Y12,Y3,rfl,h12,h3⟩:=zbz hY;obtain ⟨Y1,Y2,rfl,hY1,hY2⟩:=zbz h12;obtain ⟨q,Y0,rfl,h0⟩:=zH hY2;obtain rfl:=zaQ h0;obtain ⟨t,e1,e2⟩:=hX Y1 (o.put q :: (Y3 ++ r)) p hY1 hob;obtain ⟨u,f1,f2⟩:=hZ Y3 r p h3 (hb.sub h1);refine ⟨.bin { op:=o.s.map zb5,pos:=q } t u,?_,by unfold stripT; rw [e2,f2]⟩;unfold zac;rw [show Y1 ++ [o.put q] ++ Y3 ++ r=Y1 ++ o.put q :: (Y3 ++ r) by simp,e1];show zaq part ws ((Y3 ++ r).length + 1) t ⟨o.put q :: (Y3 ++ r),p,0⟩ = _;unfold zaq;rw [zf5,if_pos ho];show zaq part ws (Y3 ++ r).length (.bin { op:=o.s.map zb5,pos:=q } t (part ⟨Y3 ++ r,p,0⟩).1) (part ⟨Y3 ++ r,p,0⟩).2=_;rw [f1];exact zf7 (znd (hb.sub h2))
theorem zni {sub:Option Lvl} {X:List TokC} {T:Tree} (h:Par (zc6 sub) bS X T):Par (zbg sub) bR X T:=by intro Y r p hY hb;obtain ⟨t,e1,e2⟩:=h Y r p hY (hb.sub (by decide));refine ⟨t,?_,e2⟩;unfold zbg;simp only [e1];have hr:(⟨r,p,0⟩ : PS).is relWords=false:=znd (hb.sub (by decide));have ht:(⟨r,p,0⟩ : PS).takes wIs=(false,⟨r,p,0⟩):=zdH (hb.sub (by decide));rw [if_neg (by rw [hr]; simp),if_neg (by rw [ht]; simp)]
theorem znj {sub:Option Lvl} {X Z:List TokC} {o:TokC} {T U:Tree} (hX:Par (zc6 sub) bS X T) (hZ:Par (zc6 sub) bS Z U) (ho:isC o relWords=true) (hob:isC o bS=false):Par (zbg sub) bS (X ++ [o] ++ Z) (.bin { op:=o.s,pos:=0 } T U):=by intro Y r p hY hb;obtain ⟨Y12,Y3,rfl,h12,h3⟩:=zbz hY;obtain ⟨Y1,Y2,rfl,hY1,hY2⟩:=zbz h12;obtain ⟨q,Y0,rfl,h0⟩:=zH hY2;obtain rfl:=zaQ h0;obtain ⟨t,e1,e2⟩:=hX Y1 (o.put q :: (Y3 ++ r)) p hY1 hob;obtain ⟨u,f1,f2⟩:=hZ Y3 r p h3 (hb.sub (by decide));refine ⟨.bin { op:=o.s,pos:=q } t u,?_,by show Tree.bin _ (stripT t) (stripT u)=_; rw [e2,f2]⟩;rw [show Y1 ++ [o.put q] ++ Y3 ++ r=Y1 ++ o.put q :: (Y3 ++ r) by simp];unfold zbg;simp only [e1];rw [if_pos (by rw [zf5]; exact ho)];show ((.bin { op:=o.s,pos:=q } t (zc6 sub ⟨Y3 ++ r,p,0⟩).1:Tree),(zc6 sub ⟨Y3 ++ r,p,0⟩).2)=_;rw [f1]
theorem zlD {sub:Option Lvl} {X:List TokC} {T:Tree} (hX:Par (zc6 sub) bS X T):Par (zbg sub) bR (X ++ [⟨1,wIs,0,0⟩,⟨1,wNull,0,0⟩]) (.un { op:=oIs,pos:=0 } T):=by intro Y r p hY hb;obtain ⟨Y1,Y2,rfl,hY1,hY2⟩:=zbz hY;obtain ⟨q,Y3,rfl,h0⟩:=zH hY2;obtain ⟨q2,Y4,rfl,h4⟩:=zH h0;obtain rfl:=zaQ h4;obtain ⟨t,e1,e2⟩:=hX Y1 ((⟨1,wIs,0,0⟩ : TokC).put q :: (⟨1,wNull,0,0⟩ : TokC).put q2 :: r) p hY1 rfl;refine ⟨.un { op:=oIs,pos:=q } t,?_,by show Tree.un _ (stripT t)=_; rw [e2]⟩;rw [show Y1 ++ [(⟨1,wIs,0,0⟩ : TokC).put q,(⟨1,wNull,0,0⟩ : TokC).put q2] ++ r=Y1 ++ (⟨1,wIs,0,0⟩ : TokC).put q :: (⟨1,wNull,0,0⟩ : TokC).put q2 :: r by simp];unfold zbg;simp only [e1];rfl
theorem zhC {sub:Option Lvl} {X:List TokC} {T:Tree} (hX:Par (zc6 sub) bS X T):Par (zbg sub) bR (X ++ [⟨1,wIs,0,0⟩,⟨1,wNot,0,0⟩,⟨1,wNull,0,0⟩]) (.un { op:=oIsNot,pos:=0 } T):=by intro Y r p hY hb;obtain ⟨Y1,Y2,rfl,hY1,hY2⟩:=zbz hY;obtain ⟨q,Y3,rfl,h0⟩:=zH hY2;obtain ⟨q2,Y4,rfl,h4⟩:=zH h0;obtain ⟨q3,Y5,rfl,h5⟩:=zH h4;obtain rfl:=zaQ h5;obtain ⟨t,e1,e2⟩:=hX Y1 ((⟨1,wIs,0,0⟩ : TokC).put q :: (⟨1,wNot,0,0⟩ : TokC).put q2 :: (⟨1,wNull,0,0⟩ : TokC).put q3 :: r) p hY1 rfl;refine ⟨.un { op:=oIsNot,pos:=q } t,?_,by show Tree.un _ (stripT t)=_; rw [e2]⟩;rw [show Y1 ++ [(⟨1,wIs,0,0⟩ : TokC).put q,(⟨1,wNot,0,0⟩ : TokC).put q2,(⟨1,wNull,0,0⟩ : TokC).put q3] ++ r=Y1 ++ (⟨1,wIs,0,0⟩ : TokC).put q :: (⟨1,wNot,0,0⟩ : TokC).put q2 :: (⟨1,wNull,0,0⟩ : TokC).put q3 :: r by simp];unfold zbg;simp only [e1];rfl
theorem zjc {sub:Option Lvl} {X:List TokC} {T:Tree} (h:Par (zo sub) bP X T) (hh:hdB [wMinus] X):Par (zbo sub) bP X T:=zfo h hh
theorem zlE {sub:Option Lvl} {X:List TokC} {T:Tree} (h:Par (zbo sub) bP X T):Par (zdN sub) bT X T:=zeD h (by decide) (by decide)
theorem znL {sub:Option Lvl} {X:List TokC} {T:Tree} (h:Par (zdN sub) bT X T):Par (zc6 sub) bS X T:=zeD h (by decide) (by decide)
theorem zlF {sub:Option Lvl} {X:List TokC} {T:Tree} (h:Par (zc6 sub) bS X T):Par (zbg sub) bR X T:=zni h
theorem zlG {sub:Option Lvl} {X:List TokC} {T:Tree} (h:Par (zbg sub) bR X T) (hh:hdB [wNot] X):Par (notF sub) bR X T:=zfo h hh
theorem zjd {sub:Option Lvl} {X:List TokC} {T:Tree} (h:Par (notF sub) bR X T):Par (andF sub) bA X T:=zeD h (by decide) (by decide)
theorem zgW {sub:Option Lvl} {X:List TokC} {T:Tree} (h:Par (andF sub) bA X T):Par (zdO sub) bE X T:=zeD h (by decide) (by decide)
def wdL (i:Nat):Bs:=([[97],[98],[99],[100],[120],[121],[116,46,97],[116,46,98],[117,46,120],[117,46,121],[116,46,99],[117,46,122],[110,111,110,101],[117,46,97]]:List Bs).getD i []
theorem zdI {i:Nat} (h:i < 14):(wdL i).length ≤ 4 ∧ wdL i ≠ []:=by
 have h2:i=0 ∨ i=1 ∨ i=2 ∨ i=3 ∨ i=4 ∨ i=5 ∨ i=6 ∨ i=7 ∨ i=8 ∨ i=9 ∨ i=10 ∨ i=11 ∨ i=12 ∨ i=13:=by omega
 rcases h2 with rfl | rfl | rfl | rfl | rfl | rfl | rfl | rfl | rfl | rfl | rfl | rfl | rfl | rfl <;> decide
structure zbc where
 kind:Nat
 n:Nat
 s:Bs
def dg (n:Nat):Bs:=[UInt8.ofNat (48 + n % 10)]
def digF:Nat → Nat → Bs → Bs
 | 0,_,s => s
 | f + 1,n,s => if 9 < n then digF f (n / 10) (dg (n / 10) ++ s) else s
def zdo (n:Nat):Bs:=digF 5 n (dg n)
def letV (s:Bs):Bs:=(s.take 20).filter (fun c => decide (c ≠ 39))
def constV (n:Nat):Bs:=([[84,82,85,69],[102,97,108,115,101],[78,85,76,76]]:List Bs).getD n []
def zb2 (p:zbc):Bs:=
 if p.kind / 8 % 8=0 then zdo p.n
 else if p.kind / 8 % 8=1 then zdo p.n ++ [46] ++ zdo (p.n % 1000)
 else if p.kind / 8 % 8=2 then [39] ++ letV p.s ++ [39]
 else if p.kind / 8 % 8=3 then constV (p.n % 3)
 else wdL (p.n % 14)
def opS (j:Nat):Bs:=([[32,43,32],[32,45,32],[32,42,32],[32,47,32],[32,61,32],[32,60,32],[32,65,78,68,32],[32,79,82,32],[32,60,62,32],[32,62,61,32],[32,60,61,32],[32,62,32]]:List Bs).getD j []
def brk (s:Bs):Bs:=[40] ++ s ++ [41]
def zfB (s:Bs) (p:zbc):Bs:=
 if p.kind % 8=0 then brk s ++ opS (p.n % 12) ++ zb2 p
 else if p.kind % 8=1 then zb2 p ++ opS (p.n % 12) ++ brk s
 else if p.kind % 8=2 then [78,79,84,32] ++ brk s
 else if p.kind % 8=3 then [45,32] ++ brk s
 else if p.kind % 8=4 then brk s ++ [32,73,83,32,78,85,76,76]
 else if p.kind % 8=5 then brk s ++ [32,105,115,32,110,111,116,32,110,117,108,108]
 else brk s ++ opS (p.n % 4) ++ zb2 p
def zaS (l:List zbc):Nat → Bs
 | 0 => match l with | [] => [49] | p :: _ => zb2 p
 | i + 1 => match l[i + 1]? with | none => zaS l i | some p => zfB (zaS l i) p
def zc8 (l:List zbc):Bs:=zaS l 11
theorem op12 {j:Nat} (h:j < 12):j=0 ∨ j=1 ∨ j=2 ∨ j=3 ∨ j=4 ∨ j=5 ∨ j=6 ∨ j=7 ∨ j=8 ∨ j=9 ∨ j=10 ∨ j=11:=by omega
theorem zgX {j:Nat} (h:j < 12):(opS j).length ≤ 5:=by rcases op12 h with rfl | rfl | rfl | rfl | rfl | rfl | rfl | rfl | rfl | rfl | rfl | rfl <;> decide
theorem znk:∀ (f n:Nat) (s:Bs),(digF f n s).length ≤ s.length + f:=by
 intro f
 induction f with
 | zero => intro n s; exact LR _
 | succ f ih =>
  intro n s;unfold digF;split
  ·have:=ih (n / 10) (dg (n / 10) ++ s);have h2:(dg (n / 10) ++ s).length=s.length + 1:=by simp [dg]
   omega
  ·omega
theorem zdJ (n:Nat):(zdo n).length ≤ 6:=znk 5 n (dg n)
theorem zje (s:Bs):(letV s).length ≤ 20:=by have h1:(letV s).length ≤ (s.take 20).length:=List.length_filter_le _ _;rw [List.length_take] at h1;omega
theorem zdj (p:zbc):(zb2 p).length ≤ 22:=by
 unfold zb2;split
 ·have:=zdJ p.n; omega
 split
 ·have h1:=zdJ p.n;have h2:=zdJ (p.n % 1000);simp only [List.length_append,List.length_cons,List.length_nil]; omega
 split
 ·have:=zje p.s;simp only [List.length_append,List.length_cons,List.length_nil]; omega
 split
 ·have h3:p.n % 3=0 ∨ p.n % 3=1 ∨ p.n % 3=2:=by omega
  rcases h3 with h | h | h <;> rw [h] <;> decide
 ·have:=(zdI (i:=p.n % 14) (Nat.mod_lt _ (by decide))).1; omega
theorem zir (s:Bs) (p:zbc):(zfB s p).length ≤ s.length + 30:=by
 have ha:=zdj p;have h12:=zgX (j:=p.n % 12) (Nat.mod_lt _ (by decide));have h4:=zgX (j:=p.n % 4) (by omega);unfold zfB brk;split
 ·simp only [List.length_append,List.length_cons,List.length_nil]; omega
 split
 ·simp only [List.length_append,List.length_cons,List.length_nil]; omega
 split
 ·simp only [List.length_append,List.length_cons,List.length_nil]; omega
 split
 ·simp only [List.length_append,List.length_cons,List.length_nil]; omega
 split
 ·simp only [List.length_append,List.length_cons,List.length_nil]; omega
 split
 ·simp only [List.length_append,List.length_cons,List.length_nil]; omega
 ·simp only [List.length_append,List.length_cons,List.length_nil]; omega
theorem zfp (l:List zbc):∀ i,(zaS l i).length ≤ 22 + 30 * i:=by
 intro i
 induction i with
 | zero =>
  unfold zaS
  cases l with
  | nil => decide
  | cons p l => exact zdj p
 | succ i ih =>
  unfold zaS;split
  ·omega
  ·rename_i p _
   have:=zir (zaS l i) p;omega
theorem zfq (l:List zbc):(zc8 l).length ≤ 352:=zfp l 11
theorem zlH {c:UInt8} (h1:zah c=false) (h2:zC c=false) (h3:c ≠ 39) (hb:zbs c=false) (hm:marks1.contains c=true) (hl:∀ d,zbs d=true ∨ d=41 ∨ d=44 → marks2.contains [c,d]=false):LexStop [c] [⟨5,[c],0,0⟩]:=fun r p hr => by
 refine zby (q:=[]) hb ?_;show (if zah c=true then _ else if zC c=true then _ else if c=39 then _ else zcv (c :: ([] ++ r)))=_;rw [if_neg (by rw [h1]; decide),if_neg (by rw [h2]; decide),if_neg h3];unfold zcv;have h0:marks2.contains ((c :: ([] ++ r)).take 2)=false:=by
  rcases hr with rfl | ⟨d,q,rfl,hd⟩
  ·simp [marks2]
  ·exact hl d hd
 rw [if_neg (by rw [h0]; decide)];simp only;rw [if_pos hm];rfl
theorem zj1 {d:UInt8} (h:zbs d=true ∨ d=41 ∨ d=44):d=32 ∨ d=9 ∨ d=10 ∨ d=13 ∨ d=41 ∨ d=44:=by
 rcases h with h | h | h
 ·simp only [zbs,Bool.or_eq_true,decide_eq_true_eq] at h;rcases h with ((h | h) | h) | h
  ·exact .inl (UInt8.toNat_inj.1 h)
  ·exact .inr (.inl (UInt8.toNat_inj.1 h))
  ·exact .inr (.inr (.inl (UInt8.toNat_inj.1 h)))
  ·exact .inr (.inr (.inr (.inl (UInt8.toNat_inj.1 h))))
 ·exact .inr (.inr (.inr (.inr (.inl h))))
 ·exact .inr (.inr (.inr (.inr (.inr h))))
theorem zce {c:UInt8} (h:c=61 ∨ c=60 ∨ c=62 ∨ c=43 ∨ c=45 ∨ c=42 ∨ c=47):LexStop [c] [⟨5,[c],0,0⟩]:=by
 rcases h with rfl | rfl | rfl | rfl | rfl | rfl | rfl
 all_goals
  refine zlH (by decide) (by decide) (by decide) (by decide) (by decide) fun d hd => ?_;rcases zj1 hd with rfl | rfl | rfl | rfl | rfl | rfl <;> decide
theorem znl {a b:UInt8} (ha:zah a=true) (hb:zah b=true) (ka:zb6 [upc a]=false) (kb:zb6 [upc b]=false):LexStop [a,46,b] [⟨2,[a],0,0⟩,⟨5,[46],0,0⟩,⟨2,[b],0,0⟩]:=by
 have h1:∀ (r:Bs) (p:Nat),∃ us:List Tok,us.map Tok.strip=[⟨2,[a],0,0⟩] ∧ (∀ t ∈ us,p ≤ t.pos ∧ t.pos < p + [a].length) ∧ lexB ([a] ++ (46 :: r)) p=(lexB (46 :: r) (p + [a].length)).pre us:=fun r p => by
  refine zby (q:=[]) (zg4 ha) ?_;have hl:=zg5 ha;have e:((a :: ([] ++ 46 :: r)):Bs).takeWhile zb0=[a]:=by rw [List.takeWhile_cons,if_pos hl];show a :: List.takeWhile zb0 (46 :: r)=[a];rw [List.takeWhile_cons,if_neg (by decide)]
  show (if zah a=true then zcf (a :: ([] ++ 46 :: r)) else _)=_;rw [if_pos ha];unfold zcf;rw [e];rw [if_neg (by show ¬ zb6 [upc a]=true; rw [ka]; decide),if_neg (by simp)]
 have h2:LexAny [46] [⟨5,[46],0,0⟩]:=zeC (by decide) (by decide) (by decide) (by decide) (by decide) (by intro d; simp [marks2]);have h3:LexStop [b] [⟨2,[b],0,0⟩]:=zbN hb (fun x hx => by simp at hx; rw [hx]; exact zg5 hb) kb (by simp);have h23:=h2.appS h3;intro r p hr;have:=zd2 (a:=[a]) (b:=[46] ++ [b]) (r:=r) (p:=p) (h1 _ p) (h23 r _ hr);exact this
def wdT (l:Bs):List TokC:=if l.length=3 then [⟨2,l.take 1,0,0⟩,⟨5,wPoint,0,0⟩,⟨2,l.drop 2,0,0⟩] else [⟨2,l,0,0⟩]
def wdE (l:Bs):Tree:=if l.length=3 then .leaf { op:=oColumn,pos:=0,table:=l.take 1,name:=l.drop 2 } else .leaf { op:=oColumn,pos:=0,name:=l }
theorem zcT {i:Nat} (h:i < 14):(∃ c,zah c=true ∧ zb6 [upc c]=false ∧ wdL i=[c]) ∨ wdL i=[110,111,110,101] ∨ ∃ a b,zah a=true ∧ zah b=true ∧ zb6 [upc a]=false ∧ zb6 [upc b]=false ∧ wdL i=[a,46,b]:=by
 have h2:i=0 ∨ i=1 ∨ i=2 ∨ i=3 ∨ i=4 ∨ i=5 ∨ i=6 ∨ i=7 ∨ i=8 ∨ i=9 ∨ i=10 ∨ i=11 ∨ i=12 ∨ i=13:=by omega
 rcases h2 with rfl | rfl | rfl | rfl | rfl | rfl | rfl | rfl | rfl | rfl | rfl | rfl | rfl | rfl
 all_goals first
  | exact .inl ⟨_,by decide,by decide,rfl⟩
  | exact .inr (.inl rfl)
  | exact .inr (.inr ⟨_,_,by decide,by decide,by decide,by decide,rfl⟩)
theorem znM {i:Nat} (h:i < 14):LexStop (wdL i) (wdT (wdL i)):=by
 rcases zcT h with ⟨c,h1,h2,e⟩ | e | ⟨a,b,h1,h2,h3,h4,e⟩
 ·rw [e];exact zbN h1 (fun x hx => by simp at hx; rw [hx]; exact zg5 h1) h2 (by simp)
 ·rw [e];exact zbN (by decide) (by decide) (by decide) (by decide)
 ·rw [e];exact znl h1 h2 h3 h4
theorem znN {i:Nat} (h:i < 14) (sub:Option Lvl):Par (zo sub) bP (wdT (wdL i)) (wdE (wdL i)):=by
 rcases zcT h with ⟨c,h1,h2,e⟩ | e | ⟨a,b,h1,h2,h3,h4,e⟩
 ·rw [e]; exact zja sub [c]
 ·rw [e]; exact zja sub _
 ·rw [e]; exact znh sub [a] [b]
theorem zlI {i:Nat} (h:i < 14) (bs:List Bs):hdB bs (wdT (wdL i)):=by
 rcases zcT h with ⟨c,h1,h2,e⟩ | e | ⟨a,b,h1,h2,h3,h4,e⟩
 ·rw [e]; exact ⟨_,_,rfl,rfl⟩
 ·rw [e]; exact ⟨_,_,rfl,rfl⟩
 ·rw [e]; exact ⟨_,_,rfl,rfl⟩
theorem zlJ {i:Nat} (h:i < 14):showT (wdE (wdL i))=wdL i:=by
 rcases zcT h with ⟨c,h1,h2,e⟩ | e | ⟨a,b,h1,h2,h3,h4,e⟩
 ·rw [e]; rfl
 ·rw [e]; rfl
 ·rw [e]; rfl
theorem lex_sp:LexAny [32] []:=zly (by decide)
theorem zos {l:Bs} {X:List TokC} (h:LexStop l X):∃ Y q,za4 l = .good (Y ++ [⟨0,q,[],0,0⟩]) ∧ Y.map Tok.strip=X:=by obtain ⟨us,h1,-,h3⟩:=h [] 0 (.inl rfl);rw [List.append_nil] at h3;refine ⟨us,0 + l.length,?_,h1⟩;rw [← zkn,h3];rfl
theorem zoR {q:Nat} {r:List Tok} {bs:List Bs}:okB bs ((⟨0,q,[],0,0⟩ : Tok) :: r):=rfl
def Lv (sub:Option Lvl) (j:Nat) (X:List TokC) (T:Tree):Prop:=
 match j with
 | 5 => Par (zbo sub) bP X T
 | 4 => Par (zdN sub) bT X T
 | 3 => Par (zc6 sub) bS X T
 | 2 => Par (notF sub) bR X T
 | 1 => Par (andF sub) bA X T
 | _ => Par (zdO sub) bE X T
theorem Lv.step {sub:Option Lvl} {X:List TokC} {T:Tree} (hh:hdB [wNot] X):∀ {j:Nat},j ≤ 4 → Lv sub (j + 1) X T → Lv sub j X T:=by
 intro j hj h;have h5:j=0 ∨ j=1 ∨ j=2 ∨ j=3 ∨ j=4:=by omega
 rcases h5 with rfl | rfl | rfl | rfl | rfl
 ·exact zgW h
 ·exact zjd h
 ·exact zlG (zlF h) hh
 ·exact znL h
 ·exact zlE h
theorem Lv.to {sub:Option Lvl} {X:List TokC} {T:Tree} (hh:hdB [wNot] X):∀ {n j:Nat},j + n ≤ 5 → Lv sub (j + n) X T → Lv sub j X T:=by
 intro n
 induction n with
 | zero => intro j _ h; exact h
 | succ n ih =>intro j hj h;exact Lv.step hh (by omega) (ih (j:=j + 1) (by omega) (by rw [show j + 1 + n=j + (n + 1) by omega]; exact h))
theorem zf8 {bs:List Bs} {X Z:List TokC} (h:hdB bs X):hdB bs (X ++ Z):=by obtain ⟨x,X',rfl,hx⟩:=h;exact ⟨x,X' ++ Z,by simp,hx⟩
theorem znO {l:Bs} {p k:Nat} (h:zaj l = .bad p k):k ≠ 0:=by
 unfold zaj at h;split at h
 ·cases h; decide
 ·unfold zcg at h;split at h
  ·cases h; decide
  ·rename_i ts hts
   obtain ⟨q,s9,-,-,h3⟩:=zec ts;rw [h3] at h;split at h
   ·cases h
   ·rename_i he
    cases h;exact he
end Go.Proofs.YtgdpaieechgahaaGreatDoor
