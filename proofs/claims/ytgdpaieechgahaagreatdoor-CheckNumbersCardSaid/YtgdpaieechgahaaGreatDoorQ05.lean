/-
  Tokens in memory, and lex.All as contracts. No condition but that Go's own variables hold what they were laid with.
-/
import Derived.Test.YtgdpaieechgahaaGreatDoorQ04
namespace Go.Proofs.YtgdpaieechgahaaGreatDoor
open Go.RowKit
set_option linter.unusedVariables false
def ToksAt (w:World) (g:Nat) (ts:List Tok):Prop:=∀ j u,(toksC ts)[j]? = some u → w.cell? ⟨g,j,none⟩ = some u
theorem zaQ (ts:List Tok) (i:Nat) (hi:i < ts.length) (j:Nat) (hj:j < 5):(toksC ts)[i * 5 + j]? = (tokC1 ts[i])[j]?:=by
 induction ts generalizing i with
 | nil => simp at hi
 | cons t ts ih =>
  have e:toksC (t :: ts)=tokC1 t ++ toksC ts:=by simp [toksC]
  have hl:(tokC1 t).length=5:=rfl
  rw [e]
  cases i with
  | zero => rw [List.getElem?_append_left (by omega)]; simp
  | succ i =>
   rw [List.getElem?_append_right (by omega),hl,show (i + 1) * 5 + j - 5=i * 5 + j by omega,ih i (by simpa using hi)]
   rfl
theorem ToksAt.tok {w:World} {g:Nat} {ts:List Tok} (h:ToksAt w g ts) (i:Nat) (hi:i < ts.length) :
  w.cell? ⟨g,i * 5,none⟩ = some (.int .i64 (ts[i]).kind) ∧ w.cell? ⟨g,i * 5 + 1,none⟩ = some (.int .i64 (ts[i]).pos) ∧ w.cell? ⟨g,i * 5 + 2,none⟩ = some (.string ⟨(ts[i]).s.toArray⟩) ∧ w.cell? ⟨g,i * 5 + 3,none⟩ = some (.int .i64 (ts[i]).n) ∧ w.cell? ⟨g,i * 5 + 4,none⟩ = some (.int .i64 (ts[i]).scale):=by
 refine ⟨h _ _ ?_,h _ _ ?_,h _ _ ?_,h _ _ ?_,h _ _ ?_⟩
 ·have:=zaQ ts i hi 0 (by omega); rw [Nat.add_zero] at this; rw [this]; rfl
 ·rw [zaQ ts i hi 1 (by omega)]; rfl
 ·rw [zaQ ts i hi 2 (by omega)]; rfl
 ·rw [zaQ ts i hi 3 (by omega)]; rfl
 ·rw [zaQ ts i hi 4 (by omega)]; rfl
theorem ToksOwn.at {T:TypeId} {w wr:World} {t:Value} {ts:List Tok} (h:ToksOwn T w wr t ts) (h0:ts ≠ []):∃ g cap,t = .slice (some ⟨g,0,none⟩) ts.length cap ∧ ToksAt wr g ts ∧ ts.length ≤ cap:=by
 rcases h.2.1.2 with ⟨hv,hn⟩ | ⟨g,cap,cur,hv,hb,hg,hc,r⟩
 ·exact absurd (List.length_eq_zero_iff.1 hn) h0
 ·refine ⟨g,cap,hv,fun j u hu => ?_,hc⟩
  have:=h.2.1.cells (g:=g) (by rw [hv]; rfl) j u hu
  rw [zbZ,Nat.zero_add] at this
  exact this
theorem zja:∀ (f:Nat) (l:List UInt8) (p:Nat) (L:List Tok),l.length ≤ f → lexG l p = .good L → L ≠ []:=by
 intro f l p L _ h
 cases l with
 | nil => rw [zfb] at h; cases h; simp
 | cons c r =>
  cases hk:tokL (c :: r) with
  | none => rw [zfc p (by simp) hk] at h; cases h
  | some x =>
   obtain ⟨u,n⟩:=x
   rw [zdV p hk] at h
   cases hg:lexG (((c :: r).drop n).dropWhile isBl) (p + n + (((c :: r).drop n).takeWhile isBl).length) with
   | bad q => rw [hg] at h; cases h
   | good L2 => rw [hg] at h; cases h; simp
theorem zd3 {l:List UInt8} {L:List Tok} (h:lexAll l = .good L):L ≠ []:=zja _ _ _ _ (Nat.le_refl _) h
open Go.RowKit
set_option linter.unusedVariables false
abbrev Bs:=List UInt8
structure Hd where
 op:Bs
 pos:Nat
 table:Bs:=[]
 name:Bs:=[]
 n:Nat:=0
 scale:Nat:=0
 s:Bs:=[]
deriving DecidableEq
inductive Tree where
 | leaf (h:Hd)
 | un (h:Hd) (a:Tree)
 | bin (h:Hd) (a b:Tree)
deriving DecidableEq
structure PS where
 rest:List Tok
 pos:Nat
 e:Nat
def zTok:Tok:=⟨0,0,[],0,0⟩
def PS.now (s:PS):Tok:=s.rest.headD zTok
def PS.next (s:PS):PS:={ s with rest:=s.rest.tail }
def PS.fail (s:PS) (k:Nat):PS:=if s.e=0 then { s with pos:=s.now.pos,e:=k } else s
def isTok (t:Tok) (l:List Bs):Bool:=(decide (t.kind=1) || decide (t.kind=5)) && l.contains t.s
def PS.is (s:PS) (l:List Bs):Bool:=decide (s.e=0) && isTok s.now l
def PS.takes (s:PS) (w:Bs):Bool × PS:=if s.is [w]=true then (true,s.next) else (false,s)
def PS.want (s:PS) (w:Bs):PS:=if s.is [w]=true then s.next else s.fail 8
def PS.wants (s:PS) (l:List Bs):PS:=l.foldl PS.want s
def PS.of (s:PS) (k:Nat):Tok × Bool × PS:=if s.e=0 ∧ s.now.kind=k then (s.now,true,s.next) else (zTok,false,s.fail 8)
def PS.name (s:PS):Bs × PS:=((s.of 2).1.s,(s.of 2).2.2)
def PS.count (s:PS):Int × PS:=
 let s1:=if 0 < s.now.scale then s.fail 8 else s
 if (s1.of 3).2.1=true then ((s1.of 3).1.n,(s1.of 3).2.2) else (-1,(s1.of 3).2.2)
def lowc (c:UInt8):UInt8:=if 65 ≤ c.toNat ∧ c.toNat ≤ 90 then c + 32 else c
def wPoint:Bs:=[46]
def wOpen:Bs:=[40]
def wShut:Bs:=[41]
def wStar:Bs:=[42]
def wMinus:Bs:=[45]
def wComma:Bs:=[44]
def wNot:Bs:=[78,79,84]
def wIs:Bs:=[73,83]
def wNull:Bs:=[78,85,76,76]
def wTrue:Bs:=[84,82,85,69]
def wFalse:Bs:=[70,65,76,83,69]
def wCount:Bs:=[67,79,85,78,84]
def wSum:Bs:=[83,85,77]
def wMin:Bs:=[77,73,78]
def wMax:Bs:=[77,65,88]
def oColumn:Bs:=[99,111,108,117,109,110]
def oNumber:Bs:=[110,117,109,98,101,114]
def oText:Bs:=[116,101,120,116]
def oBool:Bs:=[98,111,111,108]
def oNull:Bs:=[110,117,108,108]
def oCount:Bs:=[99,111,117,110,116]
def oAll:Bs:=[99,111,117,110,116,97,108,108]
def oNeg:Bs:=[110,101,103]
def oNot:Bs:=[110,111,116]
def oIs:Bs:=[105,115,110,117,108,108]
def oIsNot:Bs:=[110,111,116,110,117,108,108]
def emp:Tree:=.leaf ⟨[],0,[],[],0,0,[]⟩
abbrev PF:=PS → Tree × PS
structure Lvl where
 minus:PF
 not:PF
 expr:PF
def inF (sub:Option Lvl) (body:Lvl → PF) (d:Tree) (s:PS):Tree × PS:=
 match sub with
 | none => (d,s.fail 9)
 | some L => if s.e=0 then body L s.next else (d,s)
def columnF (s:PS):Tree × PS:=
 let p:=s.name
 if (p.2.takes wPoint).1=true then (.leaf { op:=oColumn,pos:=s.now.pos,table:=p.1,name:=(p.2.takes wPoint).2.name.1 },(p.2.takes wPoint).2.name.2)
 else (.leaf { op:=oColumn,pos:=s.now.pos,name:=p.1 },(p.2.takes wPoint).2)
def bracketsF (sub:Option Lvl):PF:=inF sub (fun L s => ((L.expr s).1,(L.expr s).2.wants [wShut])) emp
def aggregateF (sub:Option Lvl) (s:PS):Tree × PS:=
 let op:=s.now.s.map lowc
 inF sub (fun L s1 =>
  let s2:=s1.wants [wOpen]
  if op=oCount ∧ (s2.takes wStar).1=true then (.leaf { op:=oAll,pos:=s.now.pos },(s2.takes wStar).2.wants [wShut])
  else
   let s3:=if op=oCount then (s2.takes wStar).2 else s2
   (.un { op:=op,pos:=s.now.pos } (L.expr s3).1,(L.expr s3).2.wants [wShut])) (.leaf { op:=op,pos:=s.now.pos }) s
def primaryF (sub:Option Lvl) (s:PS):Tree × PS:=
 if s.e ≠ 0 then (emp,s)
 else if s.now.kind=3 then (.leaf { op:=oNumber,pos:=s.now.pos,n:=s.now.n,scale:=s.now.scale },s.next)
 else if s.now.kind=4 then (.leaf { op:=oText,pos:=s.now.pos,s:=s.now.s },s.next)
 else if s.now.kind=2 then columnF s
 else if s.now.kind=1 ∧ s.now.s=wTrue then (.leaf { op:=oBool,pos:=s.now.pos,n:=1 },s.next)
 else if s.now.kind=1 ∧ s.now.s=wFalse then (.leaf { op:=oBool,pos:=s.now.pos },s.next)
 else if s.now.kind=1 ∧ s.now.s=wNull then (.leaf { op:=oNull,pos:=s.now.pos },s.next)
 else if s.now.kind=5 ∧ s.now.s=wOpen then bracketsF sub s
 else if s.now.kind=1 ∧ (s.now.s=wCount ∨ s.now.s=wSum ∨ s.now.s=wMin ∨ s.now.s=wMax) then aggregateF sub s
 else (emp,s.fail 8)
def beforeF (sub:Option Lvl) (word op:Bs) (own:Lvl → PF) (rest:PF) (s:PS):Tree × PS:=
 if s.is [word]=true then inF sub (fun L s1 => (.un { op:=op,pos:=s.now.pos } (own L s1).1,(own L s1).2)) (.leaf { op:=op,pos:=s.now.pos }) s
 else rest s
def joinG (part:PF) (ws:List Bs):Nat → Tree → PS → Tree × PS
 | 0,x,s => (x,s)
 | n + 1,x,s => if s.is ws=true then joinG part ws n (.bin { op:=s.now.s.map lowc,pos:=s.now.pos } x (part s.next).1) (part s.next).2 else (x,s)
def joinF (part:PF) (ws:List Bs) (s:PS):Tree × PS:=joinG part ws (part s).2.rest.length (part s).1 (part s).2
def minusF (sub:Option Lvl):PF:=beforeF sub wMinus oNeg Lvl.minus (primaryF sub)
def termF (sub:Option Lvl):PF:=joinF (minusF sub) [wStar,[47]]
def sumF (sub:Option Lvl):PF:=joinF (termF sub) [[43],wMinus]
def relWords:List Bs:=[[61],[60,62],[60],[60,61],[62],[62,61]]
def testF (sub:Option Lvl) (s:PS):Tree × PS:=
 let p:=sumF sub s
 if p.2.is relWords=true then (.bin { op:=p.2.now.s,pos:=p.2.now.pos } p.1 (sumF sub p.2.next).1,(sumF sub p.2.next).2)
 else if (p.2.takes wIs).1=true then
  let t:=(p.2.takes wIs).2.takes wNot
  (.un { op:=if t.1=true then oIsNot else oIs,pos:=p.2.now.pos } p.1,t.2.wants [wNull])
 else (p.1,p.2)
def notF (sub:Option Lvl):PF:=beforeF sub wNot oNot Lvl.not (testF sub)
def andF (sub:Option Lvl):PF:=joinF (notF sub) [[65,78,68]]
def exprF (sub:Option Lvl):PF:=joinF (andF sub) [[79,82]]
def mkLvl (sub:Option Lvl):Lvl:=⟨minusF sub,notF sub,exprF sub⟩
def lvl:Nat → Lvl
 | 0 => mkLvl none
 | f + 1 => mkLvl (some (lvl f))
def subOf:Nat → Option Lvl
 | 0 => none
 | f + 1 => some (lvl f)
theorem zjG (f:Nat):lvl f=mkLvl (subOf f):=by cases f <;> rfl
def WfT (r:List Tok):Prop:=(∃ t,r.getLast? = some t ∧ t.kind=0) ∧ ∀ t ∈ r,t.kind ≤ 5 ∧ t.s.length ≤ 5000
theorem WfT.ne {r:List Tok} (h:WfT r):r ≠ []:=by
 obtain ⟨⟨t,h,-⟩,-⟩:=h
 intro h2; rw [h2] at h; cases h
theorem WfT.tail {t:Tok} {r:List Tok} (h:WfT (t :: r)) (hk:t.kind ≠ 0):WfT r:=by
 obtain ⟨⟨u,h1,h2⟩,h3⟩:=h
 cases r with
 | nil => simp at h1; subst h1; exact absurd h2 hk
 | cons a r => exact ⟨⟨u,by rw [List.getLast?_cons_cons] at h1; exact h1,h2⟩,fun t ht => h3 t (List.mem_cons_of_mem _ ht)⟩
theorem WfT.now {s:PS} (h:WfT s.rest):s.now.kind ≤ 5 ∧ s.now.s.length ≤ 5000:=by
 cases hr:s.rest with
 | nil => exact absurd hr h.ne
 | cons t r =>
  have hn:s.now=t:=by unfold PS.now; rw [hr]; rfl
  rw [hn]
  exact h.2 t (by rw [hr]; exact List.mem_cons_self)
structure Aft (s s':PS):Prop where
 len:s'.rest.length ≤ s.rest.length
 wf:WfT s.rest → WfT s'.rest
 wf2:WfT s.rest.dropLast → WfT s'.rest.dropLast
 suf:s'.rest <:+ s.rest
 err:s.e ≠ 0 → s'=s
theorem Aft.refl (s:PS):Aft s s:=⟨Nat.le_refl _,id,id,List.suffix_refl _,fun _ => rfl⟩
theorem Aft.trans {a b c:PS} (h:Aft a b) (k:Aft b c):Aft a c:=
 ⟨Nat.le_trans k.len h.len,fun w => k.wf (h.wf w),fun w => k.wf2 (h.wf2 w),k.suf.trans h.suf,fun he => by have:=h.err he; rw [k.err (by rw [this]; exact he),this]⟩
theorem Aft.fail (s:PS) (k:Nat):Aft s (s.fail k):=by
 unfold PS.fail
 split
 ·rename_i h; exact ⟨Nat.le_refl _,id,id,List.suffix_refl _,fun he => absurd h he⟩
 ·exact Aft.refl s
theorem Aft.next {s:PS} (he:s.e=0) (hk:s.now.kind ≠ 0):Aft s s.next:=by
 refine ⟨by simp [PS.next],fun w => ?_,fun w => ?_,List.tail_suffix _,fun h => absurd he h⟩
 ·unfold PS.next
  cases hr:s.rest with
  | nil => exact absurd hr w.ne
  | cons t r =>
   rw [hr] at w
   exact w.tail (by unfold PS.now at hk; rw [hr] at hk; exact hk)
 ·unfold PS.next
  cases hr:s.rest with
  | nil => rw [hr] at w; exact absurd rfl w.ne
  | cons t r =>
   rw [hr] at w
   have ht:t.kind ≠ 0:=by unfold PS.now at hk; rw [hr] at hk; exact hk
   cases r with
   | nil => exact absurd rfl w.ne
   | cons u r => exact WfT.tail (t:=t) (by simpa using w) ht
theorem zC {s:PS} {l:List Bs} (h:s.is l=true):s.e=0 ∧ s.now.kind ≠ 0:=by
 unfold PS.is isTok at h
 simp only [Bool.and_eq_true,decide_eq_true_eq,Bool.or_eq_true] at h
 exact ⟨h.1,by omega⟩
theorem Aft.takes (s:PS) (w:Bs):Aft s (s.takes w).2:=by
 unfold PS.takes
 split
 ·rename_i h; exact Aft.next (zC h).1 (zC h).2
 ·exact Aft.refl s
theorem Aft.want (s:PS) (w:Bs):Aft s (s.want w):=by
 unfold PS.want
 split
 ·rename_i h; exact Aft.next (zC h).1 (zC h).2
 ·exact Aft.fail s _
theorem Aft.wants (l:List Bs):∀ s:PS,Aft s (s.wants l):=by
 induction l with
 | nil => exact fun s => Aft.refl s
 | cons w l ih => exact fun s => (Aft.want s w).trans (ih _)
theorem Aft.of (s:PS) (k:Nat) (hk:k ≠ 0):Aft s (s.of k).2.2:=by
 unfold PS.of
 split
 ·rename_i h; exact Aft.next h.1 (by rw [h.2]; exact hk)
 ·exact Aft.fail s _
theorem Aft.name (s:PS):Aft s s.name.2:=Aft.of s 2 (by decide)
def Goes (F:PF):Prop:=∀ s,Aft s (F s).2
theorem zez {sub:Option Lvl} {body:Lvl → PF} {d:Tree} {s:PS} (hk:s.now.kind ≠ 0) (h:∀ L,sub=some L → Goes (body L)):Aft s (inF sub body d s).2:=by
 unfold inF
 split
 ·exact Aft.fail s _
 ·rename_i L
  split
  ·rename_i he; exact (Aft.next he hk).trans (h L rfl _)
  ·exact Aft.refl s
theorem zac:Goes columnF:=by
 intro s
 unfold columnF
 simp only
 split
 ·exact ((Aft.name s).trans (Aft.takes _ _)).trans (Aft.name _)
 ·exact (Aft.name s).trans (Aft.takes _ _)
structure LvlGoes (L:Lvl):Prop where
 minus:Goes L.minus
 not:Goes L.not
 expr:Goes L.expr
def SubGoes (sub:Option Lvl):Prop:=∀ L,sub=some L → LvlGoes L
theorem zd4 {sub:Option Lvl} (h:SubGoes sub) {s:PS} (hk:s.now.kind ≠ 0):Aft s (bracketsF sub s).2:=
 zez hk fun L hL s => ((h L hL).expr s).trans (Aft.wants _ _)
theorem zdr {sub:Option Lvl} (h:SubGoes sub) {s:PS} (hk:s.now.kind ≠ 0):Aft s (aggregateF sub s).2:=by
 unfold aggregateF
 refine zez hk fun L hL s1 => ?_
 simp only
 split
 ·exact ((Aft.wants _ _).trans (Aft.takes _ _)).trans (Aft.wants _ _)
 ·split
  ·exact (((Aft.wants _ _).trans (Aft.takes _ _)).trans ((h L hL).expr _)).trans (Aft.wants _ _)
  ·exact ((Aft.wants _ _).trans ((h L hL).expr _)).trans (Aft.wants _ _)
theorem zd5 {sub:Option Lvl} (h:SubGoes sub):Goes (primaryF sub):=by
 intro s
 unfold primaryF
 split
 ·exact Aft.refl s
 rename_i he
 have he:s.e=0:=by simpa using he
 split
 ·rename_i hk; exact Aft.next he (by omega)
 split
 ·rename_i hk; exact Aft.next he (by omega)
 split
 ·exact zac s
 split
 ·rename_i hk; exact Aft.next he (by omega)
 split
 ·rename_i hk; exact Aft.next he (by omega)
 split
 ·rename_i hk; exact Aft.next he (by omega)
 split
 ·rename_i hk; exact zd4 h (by omega)
 split
 ·rename_i hk; exact zdr h (by omega)
 ·exact Aft.fail s _
theorem zcl {sub:Option Lvl} {w op:Bs} {own:Lvl → PF} {rest:PF} (h1:∀ L,sub=some L → Goes (own L)) (h2:Goes rest):Goes (beforeF sub w op own rest):=by
 intro s
 unfold beforeF
 split
 ·rename_i h
  exact zez (zC h).2 fun L hL s1 => h1 L hL s1
 ·exact h2 s
theorem zbz {part:PF} (h:Goes part) (ws:List Bs):∀ (n:Nat) (x:Tree),Goes (joinG part ws n x):=by
 intro n
 induction n with
 | zero => intro x s; exact Aft.refl s
 | succ n ih =>
  intro x s
  unfold joinG
  split
  ·rename_i hi
   exact ((Aft.next (zC hi).1 (zC hi).2).trans (h _)).trans (ih _ _)
  ·exact Aft.refl s
theorem zbf {part:PF} (h:Goes part) (ws:List Bs):Goes (joinF part ws):=fun s => (h s).trans (zbz h ws _ _ _)
theorem zgO {sub:Option Lvl} (h:Goes (sumF sub)):Goes (testF sub):=by
 intro s
 unfold testF
 simp only
 split
 ·rename_i hi
  exact ((h s).trans (Aft.next (zC hi).1 (zC hi).2)).trans (h _)
 split
 ·exact (((h s).trans (Aft.takes _ _)).trans (Aft.takes _ _)).trans (Aft.wants _ _)
 ·exact h s
theorem zat {sub:Option Lvl} (h:SubGoes sub):Goes (minusF sub):=zcl (fun L hL => (h L hL).minus) (zd5 h)
theorem zbg {sub:Option Lvl} (h:SubGoes sub):Goes (termF sub):=zbf (zat h) _
theorem zb2 {sub:Option Lvl} (h:SubGoes sub):Goes (sumF sub):=zbf (zbg h) _
theorem zaV {sub:Option Lvl} (h:SubGoes sub):Goes (notF sub):=zcl (fun L hL => (h L hL).not) (zgO (zb2 h))
theorem zb3 {sub:Option Lvl} (h:SubGoes sub):Goes (andF sub):=zbf (zaV h) _
theorem zd6 {sub:Option Lvl} (h:SubGoes sub):Goes (exprF sub):=zbf (zb3 h) _
theorem zaW (f:Nat):LvlGoes (lvl f):=by
 induction f with
 | zero => exact ⟨zat (fun L h => by cases h),zaV (fun L h => by cases h),zd6 (fun L h => by cases h)⟩
 | succ f ih =>
  have h:SubGoes (some (lvl f)):=fun L h => by cases h; exact ih
  exact ⟨zat h,zaV h,zd6 h⟩
theorem zij (f:Nat):SubGoes (subOf f):=by
 cases f with
 | zero => intro L h; cases h
 | succ f => intro L h; cases h; exact zaW f
theorem zfR {part:PF} (h:Goes part) (ws:List Bs):∀ (n m:Nat) (x:Tree) (s:PS),WfT s.rest → s.rest.length ≤ n → s.rest.length ≤ m → joinG part ws n x s=joinG part ws m x s:=by
 intro n
 induction n with
 | zero =>
  intro m x s hw hn hm
  exact absurd (List.length_eq_zero_iff.1 (by omega)) hw.ne
 | succ n ih =>
  intro m x s hw hn hm
  cases m with
  | zero => exact absurd (List.length_eq_zero_iff.1 (by omega)) hw.ne
  | succ m =>
   unfold joinG
   split
   ·rename_i hi
    have hA:=Aft.next (zC hi).1 (zC hi).2
    have hB:=h s.next
    have hl:s.next.rest.length + 1=s.rest.length:=by
     unfold PS.next
     cases hr:s.rest with
     | nil => exact absurd hr hw.ne
     | cons t r => simp
    exact ih m _ _ (hB.wf (hA.wf hw)) (by have:=hB.len; omega) (by have:=hB.len; omega)
   ·rfl
open Go.RowKit
set_option linter.unusedVariables false
def TkIn (w:World) (g:Nat) (l:Value) (rest:List Tok):Prop:=
 ∃ off cap,l = .slice (some ⟨g,off,none⟩) rest.length cap ∧ rest.length ≤ cap ∧ cap ≤ 9223372036854775807 ∧ ∀ j u,(toksC rest)[j]? = some u → w.cell? ⟨g,off + j,none⟩ = some u
theorem TkIn.mods {w w':World} {g:Nat} {l:Value} {rest:List Tok} {L:List Nat} (h:TkIn w g l rest) (hM:Mods L w w') (hg:g ∉ L):TkIn w' g l rest:=by
 obtain ⟨off,cap,h1,h3,h4,h5⟩:=h
 exact ⟨off,cap,h1,h3,h4,fun j u hu => hM.cell (h5 j u hu) hg⟩
def PSt (w:World) (pb tg:Nat) (s:PS) (f:Nat):Prop:=
 ∃ l,w.heap[pb]? = some (.cells #[l,.int .i64 (64 - (f:Int)),.int .i64 s.pos,.int .i64 s.e] 71 (0,0)) ∧ TkIn w tg l s.rest ∧ WfT s.rest ∧ f ≤ 64 ∧ tg ≠ pb
theorem PSt.mods {w w':World} {pb tg:Nat} {s:PS} {f:Nat} {L:List Nat} (h:PSt w pb tg s f) (hM:Mods L w w') (h1:pb ∉ L) (h2:tg ∉ L):PSt w' pb tg s f:=by
 obtain ⟨l,q1,q2,q3⟩:=h
 exact ⟨l,hM.heap q1 h1,q2.mods hM h2,q3⟩
theorem PSt.later {w w':World} {pb tg:Nat} {s:PS} {f:Nat} (h:PSt w pb tg s f) (hM:Mods [] w w'):PSt w' pb tg s f:=h.mods hM (by simp) (by simp)
theorem PSt.lt {w:World} {pb tg:Nat} {s:PS} {f:Nat} (h:PSt w pb tg s f):pb < w.heap.size ∧ tg < w.heap.size:=by
 obtain ⟨l,q1,⟨off,cap,-,-,-,q2⟩,q3,-⟩:=h
 refine ⟨zi q1,?_⟩
 cases hr:s.rest with
 | nil => exact absurd hr q3.ne
 | cons t r =>
  rw [hr] at q2
  exact zz (q2 0 _ rfl)
def hdC (h:Hd) (args:Value):List Value:=[.string ⟨h.op.toArray⟩,.int .i64 h.pos,.string ⟨h.table.toArray⟩,.string ⟨h.name.toArray⟩,.int .i64 h.n,.int .i64 h.scale,.string ⟨h.s.toArray⟩,args]
def PtrV (b:Nat):Value:=.pointer (some ⟨b,0,none⟩)
def ExprAt (T T2:TypeId) (w:World) (L:List Nat) (v:Value):Tree → Prop
 | .leaf h => ∃ b,v=PtrV b ∧ b ∉ L ∧ w.heap[b]? = some (.cells (hdC h (.slice none 0 0)).toArray T (0,0))
 | .un h a => ∃ b c u,v=PtrV b ∧ b ∉ L ∧ c ∉ L ∧ w.heap[b]? = some (.cells (hdC h (.slice (some ⟨c,0,none⟩) 1 1)).toArray T (0,0)) ∧ w.heap[c]? = some (.cells #[u] T2 (0,0)) ∧ ExprAt T T2 w L u a
 | .bin h a d => ∃ b c u x,v=PtrV b ∧ b ∉ L ∧ c ∉ L ∧ w.heap[b]? = some (.cells (hdC h (.slice (some ⟨c,0,none⟩) 2 2)).toArray T (0,0)) ∧ w.heap[c]? = some (.cells #[u,x] T2 (0,0)) ∧ ExprAt T T2 w L u a ∧ ExprAt T T2 w L x d
theorem ExprAt.mods {T T2:TypeId} {w w':World} {L:List Nat} (hM:Mods L w w'):∀ {t:Tree} {v:Value},ExprAt T T2 w L v t → ExprAt T T2 w' L v t:=by
 intro t
 induction t with
 | leaf h =>
  rintro v ⟨b,h1,h2,h3⟩
  exact ⟨b,h1,h2,hM.heap h3 h2⟩
 | un h a ih =>
  rintro v ⟨b,c,u,h1,h2,h3,h4,h5,h6⟩
  exact ⟨b,c,u,h1,h2,h3,hM.heap h4 h2,hM.heap h5 h3,ih h6⟩
 | bin h a d iha ihd =>
  rintro v ⟨b,c,u,x,h1,h2,h3,h4,h5,h6,h7⟩
  exact ⟨b,c,u,x,h1,h2,h3,hM.heap h4 h2,hM.heap h5 h3,iha h6,ihd h7⟩
theorem ExprAt.weaken {T T2:TypeId} {w:World} {L L':List Nat} (hL:∀ x ∈ L',x ∈ L):∀ {t:Tree} {v:Value},ExprAt T T2 w L v t → ExprAt T T2 w L' v t:=by
 intro t
 induction t with
 | leaf h =>
  rintro v ⟨b,h1,h2,h3⟩
  exact ⟨b,h1,fun hm => h2 (hL _ hm),h3⟩
 | un h a ih =>
  rintro v ⟨b,c,u,h1,h2,h3,h4,h5,h6⟩
  exact ⟨b,c,u,h1,fun hm => h2 (hL _ hm),fun hm => h3 (hL _ hm),h4,h5,ih h6⟩
 | bin h a d iha ihd =>
  rintro v ⟨b,c,u,x,h1,h2,h3,h4,h5,h6,h7⟩
  exact ⟨b,c,u,x,h1,fun hm => h2 (hL _ hm),fun hm => h3 (hL _ hm),h4,h5,iha h6,ihd h7⟩
def PRes (pb tg f:Nat) (F:PF) (s:PS) (w:World) (e:Ending) (w':World):Prop:=
 ∃ b,e = .returned (PtrV b) ∧ Mods [pb] w w' ∧ PSt w' pb tg (F s).2 f ∧ ((F s).2.e=0 → ∀ L:List Nat,(∀ x ∈ L,x < w.heap.size) → ExprAt 133 82 w' L (PtrV b) (F s).1)
theorem PSt.tok {w:World} {pb tg:Nat} {s:PS} {f:Nat} (h:PSt w pb tg s f):∃ off cap,w.heap[pb]? = some (.cells #[.slice (some ⟨tg,off,none⟩) s.rest.length cap,.int .i64 (64 - (f:Int)),.int .i64 s.pos,.int .i64 s.e] 71 (0,0)) ∧ tg ≠ pb ∧ 0 < s.rest.length ∧ s.rest.length ≤ cap ∧ cap ≤ 9223372036854775807 ∧
  w.cell? ⟨tg,off,none⟩ = some (.int .i64 s.now.kind) ∧ w.cell? ⟨tg,off + 1,none⟩ = some (.int .i64 s.now.pos) ∧ w.cell? ⟨tg,off + 2,none⟩ = some (.string ⟨s.now.s.toArray⟩) ∧ w.cell? ⟨tg,off + 3,none⟩ = some (.int .i64 s.now.n) ∧ w.cell? ⟨tg,off + 4,none⟩ = some (.int .i64 s.now.scale):=by
 obtain ⟨l,h1,⟨off,cap,rfl,h3,h4,h5⟩,h6,h7,h8⟩:=h
 cases hr:s.rest with
 | nil => exact absurd hr h6.ne
 | cons t r =>
  have hn:s.now=t:=by unfold PS.now; rw [hr]; rfl
  rw [hn]
  rw [hr] at h5 h1 h3
  exact ⟨off,cap,h1,h8,by simp,h3,h4,h5 0 _ rfl,h5 1 _ rfl,h5 2 _ rfl,h5 3 _ rfl,h5 4 _ rfl⟩
theorem PSt.turn {w w':World} {pb tg:Nat} {s s':PS} {f f':Nat} {off cap:Nat} (h:PSt w pb tg s f) (hM:Mods [pb] w w') (hc:w.heap[pb]? = some (.cells #[.slice (some ⟨tg,off,none⟩) s.rest.length cap,.int .i64 (64 - (f:Int)),.int .i64 s.pos,.int .i64 s.e] 71 (0,0))) (hr:s'.rest=s.rest) (hf:f' ≤ 64)
  (h':w'.heap[pb]? = some (.cells #[.slice (some ⟨tg,off,none⟩) s.rest.length cap,.int .i64 (64 - (f':Int)),.int .i64 s'.pos,.int .i64 s'.e] 71 (0,0))):PSt w' pb tg s' f':=by
 obtain ⟨l,h1,h2,h3,h4,h5⟩:=h
 rw [h1] at hc
 simp only [Option.some.injEq,Obj.cells.injEq,Array.mk.injEq,List.cons.injEq,and_true] at hc
 obtain ⟨rfl⟩:=hc
 exact ⟨_,h',by rw [hr]; exact h2.mods hM (by simpa using h5),by rw [hr]; exact h3,hf,h5⟩
theorem PSt.passed {w w':World} {pb tg:Nat} {s:PS} {f:Nat} {off cap:Nat} (h:PSt w pb tg s f) (hM:Mods [pb] w w') (hc:w.heap[pb]? = some (.cells #[.slice (some ⟨tg,off,none⟩) s.rest.length cap,.int .i64 (64 - (f:Int)),.int .i64 s.pos,.int .i64 s.e] 71 (0,0))) (hw:WfT s.rest.tail)
  (h':w'.heap[pb]? = some (.cells #[.slice (some ⟨tg,off + 5,none⟩) (s.rest.length - 1) (cap - 1),.int .i64 (64 - (f:Int)),.int .i64 s.pos,.int .i64 s.e] 71 (0,0))):PSt w' pb tg s.next f:=by
 obtain ⟨l,h1,h2,h3,h4,h5⟩:=h
 rw [h1] at hc
 simp only [Option.some.injEq,Obj.cells.injEq,Array.mk.injEq,List.cons.injEq,and_true] at hc
 obtain ⟨rfl⟩:=hc
 obtain ⟨off',cap',he,h6,h7,h8⟩:=h2.mods hM (by simpa using h5)
 simp only [Value.slice.injEq,Option.some.injEq,Addr.mk.injEq,and_true,true_and] at he
 obtain ⟨rfl,rfl⟩:=he
 refine ⟨_,h',⟨off + 5,cap - 1,by unfold PS.next; rw [List.length_tail],by unfold PS.next; rw [List.length_tail]; omega,by omega,fun j u hu => ?_⟩,hw,h4,h5⟩
 cases hr:s.rest with
 | nil => exact absurd hr h3.ne
 | cons t r =>
  have hn:s.next.rest=r:=by unfold PS.next; rw [hr]; rfl
  rw [hn] at hu
  have:=h8 (5 + j) u (by
   rw [hr]
   show (tokC1 t ++ toksC r)[5 + j]? = _
   rw [List.getElem?_append_right (by simp [tokC1])]
   simpa [tokC1] using hu)
  rw [show off + 5 + j=off + (5 + j) by omega]
  exact this
end Go.Proofs.YtgdpaieechgahaaGreatDoor
