/-
  The law's examples, and an expr's type, walked; Check as contracts. No condition but that Go's own variables hold what they were laid with.
-/
import Derived.Test.YtgdpaieechgahaaGreatDoorCpV
import Derived.Test.YtgdpaieechgahaaGreatDoorChB
import Derived.Test.YtgdpaieechgahaaGreatDoorQ18
import Derived.Test.YtgdpaieechgahaaGreatDoorQ05
import Derived.Test.YtgdpaieechgahaaGreatDoorQ42
import Derived.Test.YtgdpaieechgahaaGreatDoorQ17
import Derived.Test.YtgdpaieechgahaaGreatDoorQ24
namespace Go.Proofs.YtgdpaieechgahaaGreatDoor
open Go.RowKit
set_option linter.unusedVariables false
def Tabs3 (w:World):Prop:=Tabs2 w ∧ CkVars w
theorem Tabs3.later {w w':World} (h:Tabs3 w) (hM:Mods [] w w'):Tabs3 w':=⟨h.1.later hM,h.2.later hM⟩
theorem zjy {l:Bs} {q:QueryT} (h:parseV l = .good q):FormQ q:=by
 unfold parseV at h
 split at h
 ·cases h
 ·exact zgk h
theorem zbJ (w:World) (hT:Tabs3 w) {tb:Nat} (hI:TblsIn w (some ⟨tb,0,none⟩) tabsV []) {l:Bs} {q:QueryT} (h:parseV l = .good q) {qb:Nat} (hQ:QueryAt w [] qb q) (hok:QueryOk q) :
  Calls Tryz.prog 12 #[.slice (some ⟨tb,0,none⟩) 2 2,PtrV qb] w (CheckRes w tblsL q):=by
 rw [← zgl]
 exact zgo w hT.1.1 hT.1.2 hT.2 tabsV zgm 2 rfl _ 2 hI qb q hQ hok (zjy h)
theorem zhK {l:Bs} {r:Option (Chk CQ)} (h:checkV l=r) (hr:r ≠ none):∃ q,parseV l = .good q ∧ r=some (checkQ tblsL q):=by
 unfold checkV at h
 cases hp:parseV l with
 | bad p k => rw [hp] at h; exact absurd h.symm hr
 | good q => rw [hp] at h; exact ⟨q,rfl,h.symm⟩
theorem zjz:∃ q c,parseV exG = .good q ∧ checkQ tblsL q = .ok c ∧ c.items=[exNode]:=by
 have h:=ex_g
 cases hr:checkV exG with
 | none => rw [hr] at h; cases h
 | some r =>
  obtain ⟨q,hq,he⟩:=zhK hr (by simp)
  rw [hr] at h
  cases he
  cases hc:checkQ tblsL q with
  | bad p e => rw [hc] at h; cases h
  | ok c => rw [hc] at h; exact ⟨q,c,hq,hc,of_decide_eq_true h⟩
theorem zjL:∃ q,parseV exH = .good q ∧ checkQ tblsL q = .bad 7 13:=by
 have h:=ex_h
 cases hr:checkV exH with
 | none => rw [hr] at h; cases h
 | some r =>
  obtain ⟨q,hq,he⟩:=zhK hr (by simp)
  rw [hr] at h
  cases he
  cases hc:checkQ tblsL q with
  | ok c => rw [hc] at h; cases h
  | bad p e =>
   rw [hc] at h
   obtain ⟨rfl,rfl⟩:=of_decide_eq_true (show decide (p=7 ∧ e=13)=true from h)
   exact ⟨q,hq,hc⟩
theorem zda {w:World} {v:Value} {n:NT} {ns:List NT} (h:ListIn NodR w [] v (n :: ns) 1):∃ g cap b,v = .slice (some ⟨g,0,none⟩) (ns.length + 1) cap ∧ w.cell? ⟨g,0,none⟩ = some (PtrV b) ∧ NAt w [] (PtrV b) n:=by
 obtain ⟨ao,cap,rfl,h⟩:=h
 obtain ⟨g,rfl,-,-,h4⟩:=h (by simp)
 obtain ⟨c,⟨b,rfl,hb⟩,-,h6⟩:=h4 0 (by simp)
 exact ⟨g,cap,b,rfl,h6 0 _ rfl,hb⟩
set_option maxRecDepth 100000 in
set_option maxHeartbeats 4000000 in
theorem zcT (w:World) (hT:Tabs3 w):Calls Tryz.prog 7 #[] w fun e w' => e = .returned (.bool true) ∧ Mods [] w w':=by
 obtain ⟨q,c,hq,hc,hci⟩:=zjz
 obtain ⟨r,hr,hrc⟩:=zjL
 have hp1:Calls Tryz.prog 10 #[.string ⟨#[83,69,76,69,67,84,32,49,32,43,32,49,46,53,32,70,82,79,77,32,116]⟩] w _:=zbE w hT.1.1 exG q hq (by decide)
 have HT:=Lib.hid hT
 have HX:=Lib.hid (And.intro hq (And.intro hc (And.intro hci (And.intro hr hrc))))
 clear hT hq hc hci hr hrc
 go_enter Tryz.func7, Tryz.ntmps7
 go_wp2_with fail
 (with_reducible refine hp1.mono ?_)
 rintro e w2 ⟨qb,rfl,hM2,hQ,hok⟩
 unfold PtrV
 clear hp1
 have htb:=zbI w2
 have HQ:=Lib.hid (And.intro hM2 (And.intro hQ hok))
 clear hM2 hQ hok
 go_wp2_with fail
 (with_reducible refine htb.mono ?_)
 rintro e w3 ⟨tb,rfl,hM3,hI⟩
 clear htb
 have hck:=zbJ w3 (HT.out.later (HQ.out.1.trans hM3 (by simp))) hI HX.out.1 (HQ.out.2.1.later hM3) HQ.out.2.2
 have HM3:=Lib.hid (HQ.out.1.trans hM3 (by simp))
 unfold PtrV at hck
 clear hM3 hI
 go_wp2_with fail
 (with_reducible refine hck.mono ?_)
 rintro e w4 ⟨hM4,hres⟩
 rw [HX.out.2.1] at hres
 obtain ⟨cb,rfl,-,-,hCA⟩:=hres
 unfold PtrV
 clear hck
 obtain ⟨-,von,vwh,vg,its,nms,vo,hst,-,-,-,hits,-⟩:=hCA [] (by simp)
 rw [HX.out.2.2.1] at hits
 obtain ⟨g,cap,nb,rfl,hg0,hN⟩:=zda hits
 have hM04:=HM3.out.trans hM4 (by simp)
 have hp2:Calls Tryz.prog 10 #[.string ⟨#[83,69,76,69,67,84,32,110,111,110,101,32,70,82,79,77,32,116]⟩] w4 _:=zbE w4 (HT.out.later hM04).1.1 exH r HX.out.2.2.2.1 (by decide)
 have HM4:=Lib.hid (And.intro hM04 (And.intro hst (And.intro hg0 hN)))
 clear hM4 hCA hst hits hg0 hN hM04
 go_wp2_with fail
 (with_reducible refine hp2.mono ?_)
 rintro e w5 ⟨rb,rfl,hM5,hR,hokr⟩
 unfold PtrV
 clear hp2
 have htb:=zbI w5
 have HR:=Lib.hid (And.intro hM5 (And.intro hR hokr))
 clear hM5 hR hokr
 go_wp2_with fail
 (with_reducible refine htb.mono ?_)
 rintro e w6 ⟨tb2,rfl,hM6,hI⟩
 clear htb
 have hM46:=HR.out.1.trans hM6 (by simp)
 have hck:=zbJ w6 (HT.out.later (HM4.out.1.trans hM46 (by simp))) hI HX.out.2.2.2.1 (HR.out.2.1.later hM6) HR.out.2.2
 have HM6:=Lib.hid hM46
 unfold PtrV at hck
 clear hM6 hI hM46
 go_wp2_with fail
 (with_reducible refine hck.mono ?_)
 rintro e w7 ⟨hM7,hres⟩
 rw [HX.out.2.2.2.2] at hres
 have hres:e=_:=hres
 subst hres
 clear hck
 have hM47:=HM6.out.trans hM7 (by simp)
 have c6:=hM47.cell (za HM4.out.2.1 6) (by simp)
 change w7.cell? _=some (.slice (some ⟨g,0,none⟩) 1 cap) at c6
 have c0:=hM47.cell HM4.out.2.2.1 (by simp)
 have hsh:=zi1 w7 (PtrV nb) (HT.out.later (HM4.out.1.trans hM47 (by simp))).1.2 (HM4.out.2.2.2.mods hM47)
 unfold PtrV at hsh c0
 have HM7:=Lib.hid (HM4.out.1.trans hM47 (by simp))
 clear hM7 hM47
 go_wp2_with fail
 (with_reducible refine hsh.mono ?_)
 rintro e w8 ⟨rfl,hM8⟩
 clear hsh
 go_wp2_with fail
 go_ret
 exact ⟨rfl,HM7.out.trans hM8 (by simp)⟩
open Go.RowKit
set_option linter.unusedVariables false
def Stop (r:Bs):Prop:=r=[] ∨ ∃ c q,r=c :: q ∧ (isBl c=true ∨ c=41 ∨ c=44)
def Tok.strip (t:Tok):TokC:=⟨t.kind,t.s,t.n,t.scale⟩
def LexAny (a:Bs) (ts:List TokC):Prop:=∀ (r:Bs) (p:Nat),∃ us:List Tok,us.map Tok.strip=ts ∧ (∀ t ∈ us,p ≤ t.pos ∧ t.pos < p + a.length) ∧ lexB (a ++ r) p=(lexB r (p + a.length)).pre us
def LexStop (a:Bs) (ts:List TokC):Prop:=∀ (r:Bs) (p:Nat),Stop r → ∃ us:List Tok,us.map Tok.strip=ts ∧ (∀ t ∈ us,p ≤ t.pos ∧ t.pos < p + a.length) ∧ lexB (a ++ r) p=(lexB r (p + a.length)).pre us
open Go.RowKit
set_option linter.unusedVariables false
def stripT:Tree → Tree
 | .leaf h => .leaf { h with pos:=0 }
 | .un h a => .un { h with pos:=0 } (stripT a)
 | .bin h a b => .bin { h with pos:=0 } (stripT a) (stripT b)
def isC (t:TokC) (l:List Bs):Bool:=(decide (t.kind=1) || decide (t.kind=5)) && l.contains t.s
def okB (bs:List Bs) (r:List Tok):Prop:=isC (r.headD zTok).strip bs=false
def Par (F:PF) (bs:List Bs) (X:List TokC) (T:Tree):Prop:=∀ (Y r:List Tok) (p:Nat),Y.map Tok.strip=X → okB bs r → ∃ t,F ⟨Y ++ r,p,0⟩ = (t,⟨r,p,0⟩) ∧ stripT t=T
def bP:List Bs:=[wPoint]
def bT:List Bs:=[wPoint,wStar,[47]]
def bS:List Bs:=[wPoint,wStar,[47],[43],wMinus]
def bR:List Bs:=[wPoint,wStar,[47],[43],wMinus,[61],[60,62],[60],[60,61],[62],[62,61],wIs]
def bA:List Bs:=[wPoint,wStar,[47],[43],wMinus,[61],[60,62],[60],[60,61],[62],[62,61],wIs,[65,78,68]]
def bE:List Bs:=[wPoint,wStar,[47],[43],wMinus,[61],[60,62],[60],[60,61],[62],[62,61],wIs,[65,78,68],[79,82]]
def hdB (bs:List Bs) (X:List TokC):Prop:=∃ x X',X=x :: X' ∧ isC x bs=false
open Go.RowKit
set_option linter.unusedVariables false
def wdL (i:Nat):Bs:=([[97],[98],[99],[100],[120],[121],[116,46,97],[116,46,98],[117,46,120],[117,46,121],[116,46,99],[117,46,122],[110,111,110,101],[117,46,97]]:List Bs).getD i []
structure PartT where
 kind:Nat
 n:Nat
 s:Bs
def dg (n:Nat):Bs:=[UInt8.ofNat (48 + n % 10)]
def digF:Nat → Nat → Bs → Bs
 | 0,_,s => s
 | f + 1,n,s => if 9 < n then digF f (n / 10) (dg (n / 10) ++ s) else s
def digV (n:Nat):Bs:=digF 5 n (dg n)
def letV (s:Bs):Bs:=(s.take 20).filter (fun c => decide (c ≠ 39))
def constV (n:Nat):Bs:=([[84,82,85,69],[102,97,108,115,101],[78,85,76,76]]:List Bs).getD n []
def atomP (p:PartT):Bs:=
 if p.kind / 8 % 8=0 then digV p.n
 else if p.kind / 8 % 8=1 then digV p.n ++ [46] ++ digV (p.n % 1000)
 else if p.kind / 8 % 8=2 then [39] ++ letV p.s ++ [39]
 else if p.kind / 8 % 8=3 then constV (p.n % 3)
 else wdL (p.n % 14)
def opS (j:Nat):Bs:=([[32,43,32],[32,45,32],[32,42,32],[32,47,32],[32,61,32],[32,60,32],[32,65,78,68,32],[32,79,82,32],[32,60,62,32],[32,62,61,32],[32,60,61,32],[32,62,32]]:List Bs).getD j []
def brk (s:Bs):Bs:=[40] ++ s ++ [41]
def stepV (s:Bs) (p:PartT):Bs:=
 if p.kind % 8=0 then brk s ++ opS (p.n % 12) ++ atomP p
 else if p.kind % 8=1 then atomP p ++ opS (p.n % 12) ++ brk s
 else if p.kind % 8=2 then [78,79,84,32] ++ brk s
 else if p.kind % 8=3 then [45,32] ++ brk s
 else if p.kind % 8=4 then brk s ++ [32,73,83,32,78,85,76,76]
 else if p.kind % 8=5 then brk s ++ [32,105,115,32,110,111,116,32,110,117,108,108]
 else brk s ++ opS (p.n % 4) ++ atomP p
def exprN (l:List PartT):Nat → Bs
 | 0 => match l with | [] => [49] | p :: _ => atomP p
 | i + 1 => match l[i + 1]? with | none => exprN l i | some p => stepV (exprN l i) p
def exprV (l:List PartT):Bs:=exprN l 11
open Go.RowKit
set_option linter.unusedVariables false
def wdT (l:Bs):List TokC:=if l.length=3 then [⟨2,l.take 1,0,0⟩,⟨5,wPoint,0,0⟩,⟨2,l.drop 2,0,0⟩] else [⟨2,l,0,0⟩]
def wdE (l:Bs):Tree:=if l.length=3 then .leaf { op:=oColumn,pos:=0,table:=l.take 1,name:=l.drop 2 } else .leaf { op:=oColumn,pos:=0,name:=l }
def selT:Bs:=[83,69,76,69,67,84,32]
def fromT:Bs:=[32,70,82,79,77,32,116]
def selX (X:List TokC):List TokC:=[⟨1,wSelect,0,0⟩] ++ X ++ [⟨1,wFrom,0,0⟩,⟨2,[116],0,0⟩]
open Go.RowKit
set_option linter.unusedVariables false
def Lv (sub:Option Lvl) (j:Nat) (X:List TokC) (T:Tree):Prop:=
 match j with
 | 5 => Par (minusF sub) bP X T
 | 4 => Par (termF sub) bT X T
 | 3 => Par (sumF sub) bS X T
 | 2 => Par (notF sub) bR X T
 | 1 => Par (andF sub) bA X T
 | _ => Par (exprF sub) bE X T
def opT (i:Nat):TokC:=([⟨1,[79,82],0,0⟩,⟨1,[65,78,68],0,0⟩,⟨5,[61],0,0⟩,⟨5,[60],0,0⟩,⟨5,[43],0,0⟩,⟨5,[45],0,0⟩,⟨5,[42],0,0⟩,⟨5,[47],0,0⟩]:List TokC).getD i ⟨0,[],0,0⟩
def opL (i:Nat):Bs:=([[111,114],[97,110,100],[61],[60],[43],[45],[42],[47]]:List Bs).getD i []
def opV (i:Nat):Nat:=([0,1,2,2,3,3,4,4]:List Nat).getD i 0
def lvX (a i b k c:Nat):Bs:=wdL a ++ ([32] ++ (opL i ++ ([32] ++ (wdL b ++ ([32] ++ (opL k ++ ([32] ++ wdL c)))))))
def lvT (a i b k c:Nat):List TokC:=wdT (wdL a) ++ [opT i] ++ wdT (wdL b) ++ [opT k] ++ wdT (wdL c)
def lvLeft (a i b k c:Nat):Tree:=.bin { op:=opL k,pos:=0 } (.bin { op:=opL i,pos:=0 } (wdE (wdL a)) (wdE (wdL b))) (wdE (wdL c))
def lvRight (a i b k c:Nat):Tree:=.bin { op:=opL i,pos:=0 } (wdE (wdL a)) (.bin { op:=opL k,pos:=0 } (wdE (wdL b)) (wdE (wdL c)))
open Go.RowKit
set_option linter.unusedVariables false
def showItems (l:List ItemT):Bs:=match l with | [i] => showT i.e | _ => []
def showV (l:Bs):Bs:=match parseV (selT ++ l ++ fromT) with
 | .bad _ _ => []
 | .good q => showItems q.items
theorem zjM {l:Bs} {p k:Nat} (h:parseV l = .bad p k):k ≠ 0:=by
 unfold parseV at h
 split at h
 ·cases h; decide
 ·unfold parseAll at h
  split at h
  ·cases h; decide
  ·rename_i ts hts
   obtain ⟨q,s9,-,-,h3⟩:=zbO ts
   rw [h3] at h
   split at h
   ·cases h
   ·rename_i he
    cases h
    exact he
def leftS (a i b k c:Nat):Bs:=[40] ++ opL k ++ [32,40] ++ opL i ++ [32] ++ wdL a ++ [32] ++ wdL b ++ [41,32] ++ wdL c ++ [41]
def rightS (a i b k c:Nat):Bs:=[40] ++ opL i ++ [32] ++ wdL a ++ [32,40] ++ opL k ++ [32] ++ wdL b ++ [32] ++ wdL c ++ [41,41]
open Go.RowKit
set_option linter.unusedVariables false
def isFrom (t:TokC):Bool:=isC t [wFrom]
def NF (X:List TokC):Prop:=X.all (fun t => !isFrom t)=true
def NoFrom (x:Lexed):Prop:=∀ ts,x = .good ts → NF (ts.map Tok.strip)
def Cut (a:Bs):Prop:=∀ k p,k < a.length → NoFrom (lexB (a.take k) p)
open Go.RowKit
set_option linter.unusedVariables false
def bH:List Bs:=[wMinus,wNot,wStar]
structure Pr (d:Nat) (a:Bs) (X:List TokC) (T:Tree):Prop where
 lex:LexStop a X
 par:∀ f,d ≤ f → Par (primaryF (subOf f)) bP X T
 head:hdB bH X
 ne:a ≠ []
 shw:showT T ≠ []
 nf:NF X
 cut:Cut a
structure Ex (d:Nat) (a:Bs) (X:List TokC) (T:Tree):Prop where
 lex:LexStop a X
 par:∀ f,d ≤ f → Par (exprF (subOf f)) bE X T
 head:hdB [wStar] X
 ne:a ≠ []
 shw:showT T ≠ []
 nf:NF X
 cut:Cut a
def opN (j:Nat):TokC:=([⟨5,[43],0,0⟩,⟨5,[45],0,0⟩,⟨5,[42],0,0⟩,⟨5,[47],0,0⟩,⟨5,[61],0,0⟩,⟨5,[60],0,0⟩,⟨1,[65,78,68],0,0⟩,⟨1,[79,82],0,0⟩,⟨5,[60,62],0,0⟩,⟨5,[62,61],0,0⟩,⟨5,[60,61],0,0⟩,⟨5,[62],0,0⟩]:List TokC).getD j ⟨0,[],0,0⟩
open Go.RowKit
set_option linter.unusedVariables false
def Chk.val {α:Type}:Chk α → Option α
 | .ok a => some a
 | .bad _ _ => none
def noAgg:Tree → Bool
 | .leaf h => !aggOpB h.op
 | .un h a => !aggOpB h.op && noAgg a
 | .bin h a b => !aggOpB h.op && (noAgg a && noAgg b)
open Go.RowKit
set_option linter.unusedVariables false
def fromJ:Bs:=[32,70,82,79,77,32,116,32,74,79,73,78,32,117,32,79,78,32]
def joinX (X Z:List TokC):List TokC:=[⟨1,wSelect,0,0⟩] ++ X ++ ([⟨1,wFrom,0,0⟩,⟨2,[116],0,0⟩,⟨1,wJoin,0,0⟩,⟨2,[117],0,0⟩,⟨1,wOn,0,0⟩] ++ Z)
open Go.RowKit
set_option linter.unusedVariables false
def E2:List EC:=[⟨[116],[97],tyInt⟩,⟨[116],[98],⟨2,2⟩⟩,⟨[116],[99],tyBytes⟩,⟨[116],[100],tyBool⟩,⟨[117],[120],tyInt⟩,⟨[117],[121],⟨2,1⟩⟩,⟨[117],[122],tyBytes⟩]
def onT:Tree:=.bin { op:=[61],pos:=0 } (.leaf { op:=oColumn,pos:=0,table:=[116],name:=[97] }) (.leaf { op:=oColumn,pos:=0,table:=[117],name:=[120] })
def onN:NT:=.bin { op:=[61],t:=tyBool } (.leaf { op:=oColumn,t:=tyInt,col:=0 }) (.leaf { op:=oColumn,t:=tyInt,col:=4 })
def itemsT (c:CQ):Option Ty:=match c.items with
 | [n] => some n.hd.t
 | _ => none
theorem zdb (r:Chk CQ):typedC (some r)=r.val.bind itemsT:=by cases r <;> rfl
def qJ (t u:Tree) (d f:Nat):QueryT:={ items:=[⟨t,[]⟩],src:=[116],srcAt:=d,join:=[117],joinAt:=f,on:=some u }
def outT (n:NT):Option Ty:=if hasN n=true ∧ aggOpB n.hd.op=false then none else some n.hd.t
def tyE (T:Tree):Option Ty:=(exprQ E2 T 0).val.map (·.hd.t)
open Go.RowKit
set_option linter.unusedVariables false
def tyR:Option Ty → Value
 | some t => .tuple #[.agg #[.int .i64 (t.k:Nat),.int .i64 (t.s:Nat)],.bool true]
 | none => .tuple #[.agg #[.int .i64 0,.int .i64 0],.bool false]
def TypedRes (w:World) (r:Option Ty) (e:Ending) (w':World):Prop:=e = .returned (tyR r) ∧ Mods [] w w'
theorem ziS {tb:List TblT} {q:QueryT} {p k:Nat} (h:checkQ tb q = .bad p k):k ≠ 0:=by
 have hz:NZ (checkQ tb q):=by
  rw [ck0]
  refine NZ.bind (fun p k h => zb8 h) fun left _ => ?_
  refine NZ.bind (by
   unfold joinQ
   split
   ·exact NZ.ok _
   ·exact NZ.bind (fun p k h => zb8 h) fun x _ => NZ.ok _) fun right _ => ?_
  refine NZ.bind (zdO _ _) fun on _ => NZ.bind (zdO _ _) fun whr _ => NZ.bind (zb7 _ _) fun g _ => NZ.bind (ziX _ _ _) fun x _ => NZ.bind (zdP _ _ _) fun o _ => NZ.ok _
 exact hz p k h
theorem zhL {w:World} {v:Value} {ns:List NT} (h:ListIn NodR w [] v ns 1):∃ ao cap,v = .slice ao ns.length cap:=by
 obtain ⟨ao,cap,rfl,-⟩:=h
 exact ⟨ao,cap,rfl⟩
set_option maxRecDepth 100000 in
set_option maxHeartbeats 8000000 in
theorem zcK (w:World) (hT:Tabs3 w) (s:Bs) (hs:s.length ≤ 4000):Calls Tryz.prog 9 #[.string ⟨s.toArray⟩] w (TypedRes w (typedP s)):=by
 have hcat:(⟨#[83,69,76,69,67,84,32]⟩ : ByteArray) ++ ⟨s.toArray⟩ ++ ⟨#[32,70,82,79,77,32,116,32,74,79,73,78,32,117,32,79,78,32,116,46,97,32,61,32,117,46,120]⟩ = ⟨(selS ++ s ++ joinT).toArray⟩:=cat3 selS s joinT
 have hlen:(selS ++ s ++ joinT).length ≤ 4100:=by simp [selS,joinT]; omega
 obtain ⟨L,hL⟩ : ∃ L,selS ++ s ++ joinT=L:=⟨_,rfl⟩
 obtain ⟨S,hS⟩ : ∃ S:ByteArray,(⟨s.toArray⟩ : ByteArray)=S:=⟨_,rfl⟩
 have hsz:S.size ≤ 4000:=by rw [← hS]; exact hs
 rw [hL] at hcat hlen
 rw [hS] at hcat ⊢
 have hty:typedP s=typedC (checkV L):=by unfold typedP; rw [hL]
 rw [hty]
 obtain ⟨PP,hPP⟩ : ∃ PP,TypedRes w (typedC (checkV L))=PP:=⟨_,rfl⟩
 rw [hPP]
 have HPP:=Lib.hid hPP
 clear hty hs hL hS hPP
 have hM0:=(Mods.refl [] w).alloc (.cells #[.int .i64 0,.int .i64 0] 26)
 have hb0:=heap_alloc_new w (.cells #[.int .i64 0,.int .i64 0] 26)
 have hbig:¬ 9223372036854775807 < 7 + S.size:=by omega
 have hbig2:¬ 9223372036854775807 < 7 + S.size + 27:=by omega
 obtain ⟨X,hX⟩ : ∃ X:ByteArray,(⟨#[83,69,76,69,67,84,32]⟩ : ByteArray) ++ S ++ ⟨#[32,70,82,79,77,32,116,32,74,79,73,78,32,117,32,79,78,32,116,46,97,32,61,32,117,46,120]⟩ = X:=⟨_,rfl⟩
 have hXL:X = ⟨L.toArray⟩:=by rw [← hX,hcat]
 have HH:=Lib.hid (And.intro hT (And.intro hM0 (And.intro hb0 (And.intro hcat hlen))))
 have HXL:=Lib.hid (And.intro hX hXL)
 clear hT hM0 hcat hX hXL hlen
 go_enter Tryz.func9, Tryz.ntmps9
 go_upto_region 1 with fail
 have r0:=za hb0 0
 have r1:=za hb0 1
 change World.cell? _ _=some (.int .i64 0) at r0
 change World.cell? _ _=some (.int .i64 0) at r1
 have HB0:=Lib.hid hb0
 clear hb0
 generalize w.alloc (.cells #[.int .i64 0,.int .i64 0] 26)=w1 at *
 have HTB:=Lib.hid (Nat.le_refl w.heap.size)
 obtain ⟨tb,htbe⟩ : ∃ tb,w.heap.size=tb:=⟨_,rfl⟩
 rw [htbe] at r0 r1 HB0
 rw [htbe]
 replace HTB:=Lib.hid (show w.heap.size ≤ tb by omega)
 clear htbe
 cases hp:parseV L with
 | bad p k =>
  have hpc:=zhf w1 (HH.out.1.later HH.out.2.1).1.1 L p k hp (by have:=HH.out.2.2.2.2; omega)
  rw [← HXL.out.2,← HXL.out.1] at hpc
  have hk:k ≠ 0:=zjM hp
  have hfin:∀ w',Mods [] w w' → PP (.returned (tyR none)) w':=fun w' h => by
   rw [← HPP.out,show typedC (checkV L)=none by unfold checkV; rw [hp]; rfl]
   exact ⟨rfl,h⟩
  have HFIN:=Lib.hid hfin
  clear hp hfin
  go_wp2_with fail
  (with_reducible refine hpc.mono ?_)
  rintro e w2 ⟨rfl,hM2⟩
  clear hpc
  have hrr:=hM2.heap HB0.out (by simp)
  have hMw:=HH.out.2.1.trans hM2 (by simp)
  replace r0:=hM2.cell r0 (by simp)
  replace r1:=hM2.cell r1 (by simp)
  have g0:=zd hrr 0
  have g1:=zd (zb hrr 0 (.int .i64 0)) 1
  have hh3:=zb (zb hrr 0 (.int .i64 0)) 1 (.int .i64 0)
  have e0:=za hh3 0
  have e1:=za hh3 1
  change World.cell? _ _=some (.int .i64 0) at e0
  change World.cell? _ _=some (.int .i64 0) at e1
  have hput:Mods [tb] w2 ((w2.setCell ⟨tb,0,none⟩ (.int .i64 0)).setCell ⟨tb,1,none⟩ (.int .i64 0)):=((Mods.refl _ _).setCell (.inl (by simp)) _).setCell (.inl (by simp)) _
  have HX:=Lib.hid (HFIN.out _ (hMw.trans hput (fun x hx => .inr (by simp at hx; rw [hx]; exact HTB.out))))
  clear hrr hh3 hput
  clear hMw hM2
  go_wp2_with fail
  refine bodyPost_ret (by simp [results,Tryz.results9, go_sem,e0,e1,Result.andThen]; try rfl) rfl ?_
  exact HX.out
 | good q =>
  have hpc:=zbE w1 (HH.out.1.later HH.out.2.1).1.1 L q hp (by have:=HH.out.2.2.2.2; omega)
  rw [← HXL.out.2,← HXL.out.1] at hpc
  have HQ:=Lib.hid hp
  clear hp
  go_wp2_with fail
  (with_reducible refine hpc.mono ?_)
  rintro e w2 ⟨qb,rfl,hM2,hQ,hok⟩
  unfold PtrV
  clear hpc
  have htb:=zbI w2
  have HM2:=Lib.hid (And.intro (HH.out.2.1.trans hM2 (by simp)) (And.intro hM2 (And.intro hQ hok)))
  clear hM2 hQ hok r0 r1
  go_wp2_with fail
  (with_reducible refine htb.mono ?_)
  rintro e w3 ⟨ub,rfl,hM3,hI⟩
  clear htb
  have hM03:=HM2.out.1.trans hM3 (by simp)
  have hck:=zbJ w3 (HH.out.1.later hM03) hI HQ.out (HM2.out.2.2.1.later hM3) HM2.out.2.2.2
  have HM3:=Lib.hid (And.intro hM03 (HM2.out.2.1.trans hM3 (by simp)))
  unfold PtrV at hck
  clear hM3 hI hM03
  go_wp2_with fail
  (with_reducible refine hck.mono ?_)
  rintro e w4 ⟨hM4,hres⟩
  clear hck
  have hMw:=HM3.out.1.trans hM4 (by simp)
  have hrr:=(HM3.out.2.trans hM4 (by simp)).heap HB0.out (by simp)
  have r0:=za hrr 0
  have r1:=za hrr 1
  change w4.cell? _=some (.int .i64 0) at r0
  change w4.cell? _=some (.int .i64 0) at r1
  cases hc:checkQ tblsL q with
  | bad p k =>
   rw [hc] at hres
   have hres:e=_:=hres
   subst hres
   have hk:k ≠ 0:=by
    have:=ziS hc
    exact this
   have hfin:∀ w',Mods [] w w' → PP (.returned (tyR none)) w':=fun w' h => by
    rw [← HPP.out,show typedC (checkV L)=none by unfold checkV; rw [HQ.out,zdb,hc]; rfl]
    exact ⟨rfl,h⟩
   have HFIN:=Lib.hid hfin
   clear hc hfin
   have g0:=zd hrr 0
   have g1:=zd (zb hrr 0 (.int .i64 0)) 1
   have hh3:=zb (zb hrr 0 (.int .i64 0)) 1 (.int .i64 0)
   have e0:=za hh3 0
   have e1:=za hh3 1
   change World.cell? _ _=some (.int .i64 0) at e0
   change World.cell? _ _=some (.int .i64 0) at e1
   have hput:Mods [tb] w4 ((w4.setCell ⟨tb,0,none⟩ (.int .i64 0)).setCell ⟨tb,1,none⟩ (.int .i64 0)):=((Mods.refl _ _).setCell (.inl (by simp)) _).setCell (.inl (by simp)) _
   have HX:=Lib.hid (HFIN.out _ (hMw.trans hput (fun x hx => .inr (by simp at hx; rw [hx]; exact HTB.out))))
   clear hrr hh3 hput
   clear hMw hM4
   go_wp2_with fail
   refine bodyPost_ret (by simp [results,Tryz.results9, go_sem,e0,e1,Result.andThen]; try rfl) rfl ?_
   exact HX.out
  | ok c =>
   rw [hc] at hres
   obtain ⟨cb,rfl,-,-,hCA⟩:=hres
   unfold PtrV
   obtain ⟨-,von,vwh,vg,its,nms,vo,hst,-,-,-,hits,-⟩:=hCA [] (by simp)
   have hty:typedC (checkV L)=itemsT c:=by unfold checkV; rw [HQ.out,zdb,hc]; rfl
   have c6:=za hst 6
   change w4.cell? _=some its at c6
   by_cases h1:c.items.length=1
   ·obtain ⟨n,hn⟩ : ∃ n,c.items=[n]:=by
     match hci:c.items,h1 with
     | [n],_ => exact ⟨n,rfl⟩
    rw [hn] at hits
    obtain ⟨g,gcap,nb,rfl,hg0,hN⟩:=zda hits
    obtain ⟨b',args,hb',-,hnd⟩:=hN.head
    cases hb'
    have n1:=za hnd 1
    have n2:=za hnd 2
    change w4.cell? _=some (.int .i64 (n.hd.t.k:Nat)) at n1
    change w4.cell? _=some (.int .i64 (n.hd.t.s:Nat)) at n2
    unfold PtrV at hg0
    have hfin:∀ w',Mods [] w w' → PP (.returned (tyR (some n.hd.t))) w':=fun w' h => by
     rw [← HPP.out,hty,show itemsT c=some n.hd.t by unfold itemsT; rw [hn]]
     exact ⟨rfl,h⟩
    have HFIN:=Lib.hid hfin
    clear hc hfin hty hCA hst hits hN hnd h1 hn
    obtain ⟨tk,htk⟩ : ∃ tk,n.hd.t.k=tk:=⟨_,rfl⟩
    obtain ⟨ts,hts⟩ : ∃ ts,n.hd.t.s=ts:=⟨_,rfl⟩
    have hty2:n.hd.t = ⟨tk,ts⟩:=by rw [← htk,← hts]
    rw [htk] at n1
    rw [hts] at n2
    rw [hty2] at HFIN
    clear htk hts hty2
    have g0:=zd hrr 0
    have g1:=zd (zb hrr 0 (.int .i64 (tk:Nat))) 1
    have hh3:=zb (zb hrr 0 (.int .i64 (tk:Nat))) 1 (.int .i64 (ts:Nat))
    have e0:=za hh3 0
    have e1:=za hh3 1
    change World.cell? _ _=some (.int .i64 (tk:Nat)) at e0
    change World.cell? _ _=some (.int .i64 (ts:Nat)) at e1
    have hput:Mods [tb] w4 ((w4.setCell ⟨tb,0,none⟩ (.int .i64 (tk:Nat))).setCell ⟨tb,1,none⟩ (.int .i64 (ts:Nat))):=((Mods.refl _ _).setCell (.inl (by simp)) _).setCell (.inl (by simp)) _
    have HX:=Lib.hid (HFIN.out _ (hMw.trans hput (fun x hx => .inr (by simp at hx; rw [hx]; exact HTB.out))))
    clear hrr hh3 hput
    clear hMw hM4
    go_wp2_with fail
    refine bodyPost_ret (by simp [results,Tryz.results9, go_sem,e0,e1,Result.andThen]; try rfl) rfl ?_
    exact HX.out
   ·obtain ⟨iao,icap,rfl⟩:=zhL hits
    have hfin:∀ w',Mods [] w w' → PP (.returned (tyR none)) w':=fun w' h => by
     rw [← HPP.out,hty,show itemsT c=none by
      unfold itemsT
      match hci:c.items with
      | [] => rfl
      | [n] => rw [hci] at h1; exact absurd rfl h1
      | _ :: _ :: _ => rfl]
     exact ⟨rfl,h⟩
    have HFIN:=Lib.hid hfin
    obtain ⟨il,hil⟩ : ∃ il,c.items.length=il:=⟨_,rfl⟩
    rw [hil] at c6 h1
    have h1z:¬ (il:Int)=1:=by omega
    have h1b:((il:Int) != 1)=true:=bne_iff_ne.2 h1z
    clear hc hfin hty hCA hst hits hil
    have g0:=zd hrr 0
    have g1:=zd (zb hrr 0 (.int .i64 0)) 1
    have hh3:=zb (zb hrr 0 (.int .i64 0)) 1 (.int .i64 0)
    have e0:=za hh3 0
    have e1:=za hh3 1
    change World.cell? _ _=some (.int .i64 0) at e0
    change World.cell? _ _=some (.int .i64 0) at e1
    have hput:Mods [tb] w4 ((w4.setCell ⟨tb,0,none⟩ (.int .i64 0)).setCell ⟨tb,1,none⟩ (.int .i64 0)):=((Mods.refl _ _).setCell (.inl (by simp)) _).setCell (.inl (by simp)) _
    have HX:=Lib.hid (HFIN.out _ (hMw.trans hput (fun x hx => .inr (by simp at hx; rw [hx]; exact HTB.out))))
    clear hrr hh3 hput
    clear hMw hM4
    go_wp2_with fail
    refine bodyPost_ret (by simp [results,Tryz.results9, go_sem,e0,e1,Result.andThen]; try rfl) rfl ?_
    exact HX.out
open Go.RowKit
set_option linter.unusedVariables false
set_option maxRecDepth 100000 in
set_option maxHeartbeats 4000000 in
theorem zdc (w:World) (k:Nat) (hk:k < 10):Calls Tryz.prog 15 #[.int .i64 (k:Nat)] w fun e w' => e = .returned (.string ⟨(numTxt k).toArray⟩) ∧ Mods [] w w':=by
 have h:k=0 ∨ k=1 ∨ k=2 ∨ k=3 ∨ k=4 ∨ k=5 ∨ k=6 ∨ k=7 ∨ k=8 ∨ k=9:=by omega
 rcases h with rfl | rfl | rfl | rfl | rfl | rfl | rfl | rfl | rfl | rfl
 all_goals
  go_enter Tryz.func15, Tryz.ntmps15
  go_wp2_with fail
  go_ret
  exact ⟨rfl,Mods.refl _ _⟩
set_option maxRecDepth 100000 in
set_option maxHeartbeats 4000000 in
theorem zR (w:World) (k:Nat) (hk:k < 100):Calls Tryz.prog 16 #[.int .i64 (k:Nat)] w fun e w' => e = .returned (.agg #[.int .i64 ((scaleT k).k:Nat),.int .i64 ((scaleT k).s:Nat)]) ∧ Mods [] w w':=by
 by_cases h:k=0
 ·subst h
  have hrr:=heap_alloc_new w (.cells #[.int .i64 0,.int .i64 0] 26)
  have hM:=(Mods.refl [] w).alloc (.cells #[.int .i64 0,.int .i64 0] 26)
  go_enter Tryz.func16, Tryz.ntmps16
  go_wp2_with fail
  go_returns
  exact ⟨rfl,(Mods.refl _ _).alloc _⟩
 ·have hz:¬ (k:Int)=0:=by omega
  have hzb:((k:Int) == 0)=false:=beq_eq_false_iff_ne.2 hz
  rw [show scaleT k = ⟨2,k⟩ by unfold scaleT; rw [if_neg h]]
  go_enter Tryz.func16, Tryz.ntmps16
  go_wp2_with fail
  go_returns
  exact ⟨rfl,(Mods.refl _ _).alloc _⟩
end Go.Proofs.YtgdpaieechgahaaGreatDoor
