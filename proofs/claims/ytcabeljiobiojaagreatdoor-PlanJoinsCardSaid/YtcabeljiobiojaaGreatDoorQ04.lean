/-
  Tokens in memory, and lex.All as contracts. No condition but that Go's own variables hold what they were laid with.
-/
import Derived.Test.YtcabeljiobiojaaGreatDoorQ03
set_option linter.unusedVariables false
set_option maxRecDepth 100000
set_option maxHeartbeats 1000000
namespace Go.Proofs.YtcabeljiobiojaaGreatDoor
open Go.RowKit
theorem BO {p:Prop} (h:p:=by rw [hr]; exact List.mem_cons_self):p:=h
theorem BF {p:Prop} (h:p:=by simp [results,Tryz.results63, go_sem,q0,q1,q2,q3,q4,Result.andThen]; try rfl):p:=h
theorem BA {p:Prop} (h:p:=by simpa using hi):p:=h
theorem AQ {p:Prop} (h:p:=by simp at hx; omega):p:=h
theorem yee {p:Prop} (h:p:=by
  go_wp2_with fail;(with_reducible refine hnow.mono ?_);rintro e w2 ⟨rfl,hM2⟩;have hMA:=hM2.alloc (.cells #[.int .i64 s.now.kind,.int .i64 s.now.pos,.string ⟨s.now.s.toArray⟩,.int .i64 s.now.n,.int .i64 s.now.scale] 92)
  first
  |clear gC0
   have hbA:=hMA.heap (hMr.heap hb AB);have b0:=za hbA 0;change World.cell? _ _=some (.slice (some ⟨tg,off,none⟩) s.rest.length cap) at b0;have g0:=zc hbA 0;have hrow:=hMA.heap (QN w (.cells #[.int .i64 0,.int .i64 0,.string ⟨#[]⟩,.int .i64 0,.int .i64 0] 92));have htb:=QN w2 (.cells #[.int .i64 s.now.kind,.int .i64 s.now.pos,.string ⟨s.now.s.toArray⟩,.int .i64 s.now.n,.int .i64 s.now.scale] 92);have hlt:=hM2.size;rw [zl] at hlt;have hpw:pb < w.heap.size:=zj hb;have hMs:Mods [] w w2:=hMr.trans hM2;have hMw:=hMs.trans ((QM [] w2).alloc (.cells #[.int .i64 s.now.kind,.int .i64 s.now.pos,.string ⟨s.now.s.toArray⟩,.int .i64 s.now.n,.int .i64 s.now.scale] 92));have hM3:Mods [pb] (w2.alloc (.cells #[.int .i64 s.now.kind,.int .i64 s.now.pos,.string ⟨s.now.s.toArray⟩,.int .i64 s.now.n,.int .i64 s.now.scale] 92)) ((w2.alloc (.cells #[.int .i64 s.now.kind,.int .i64 s.now.pos,.string ⟨s.now.s.toArray⟩,.int .i64 s.now.n,.int .i64 s.now.scale] 92)).setCell ⟨pb,0,none⟩ (.slice (some ⟨tg,off + 5,none⟩) (s.rest.length - 1) (cap - 1))):=(QM _ _).setCell (.inl AB) _;have hb3:=zb hbA 0 (.slice (some ⟨tg,off + 5,none⟩) (s.rest.length - 1) (cap - 1));have hrow3:=hM3.heap hrow AE;have htb3:=hM3.heap htb AE;have hMw3:=(hMw.mono (L':=[pb])).trans hM3;go_upto_region 3 with fail;clear hsl hnow hrow htb hb hbA b0 g0 hM3 hMA hMr hM2;generalize (w2.alloc (.cells #[.int .i64 s.now.kind,.int .i64 s.now.pos,.string ⟨s.now.s.toArray⟩,.int .i64 s.now.n,.int .i64 s.now.scale] 92)).setCell ⟨pb,0,none⟩ (.slice (some ⟨tg,off + 5,none⟩) (s.rest.length - 1) (cap - 1))=w3 at *;generalize w2.heap.size=tb at *;generalize hrb:w.heap.size=rb at *;obtain ⟨t,ht⟩:=EX (s.now);rw [ht] at htb3 ⊢;have t0:=za htb3 0;have t1:=za htb3 1;have t2:=za htb3 2;have t3:=za htb3 3;have t4:=za htb3 4;change w3.cell? _=some (.int .i64 t.kind) at t0;change w3.cell? _=some (.int .i64 t.pos) at t1;change w3.cell? _=some (.string ⟨t.s.toArray⟩) at t2;change w3.cell? _=some (.int .i64 t.n) at t3;change w3.cell? _=some (.int .i64 t.scale) at t4;have hinfo:(Tryz.prog.info? 92).map (·.size)=some 5:=by kernel_rfl
   go_wp2_with (refine wpList_store_row rfl 92 (.tmp 2) (.tmp 14) rfl rb (tokA t) rfl rfl 92 _ hrow3 hinfo rfl (zam _ _ _ _ _) ?_);have hM4:Mods [rb] w3 (w3.setRow rb (tokA t)):=(QM _ _).setRow (.inl AB) _;have hr4:=zi (tokA t) hrow3;have hb4:=hM4.heap hb3 AE;have hMw4:Mods [pb] w (w3.setRow rb (tokA t)):=hMw3.trans hM4 (fun x hx => .inr AQ);have gA0:=QH trivial;exact ydi
  |clear gC1
   have htb:=QN w2 (.cells #[.int .i64 s.now.kind,.int .i64 s.now.pos,.string ⟨s.now.s.toArray⟩,.int .i64 s.now.n,.int .i64 s.now.scale] 92);have hbA:=hMA.heap hb;have a3:=za hbA 3;change World.cell? _ _=some (.int .i64 s.e) at a3;by_cases he:s.e=0
   ·have z0:((s.e:Int) != 0)=false:=bne_eq_false_iff_eq.2 AA;have HE:=QH he;clear he;by_cases hk:s.now.kind=1 ∨ s.now.kind=5
    ·have HK:=QH hk;have hz:((s.now.kind:Int) != 1)=false ∨ (((s.now.kind:Int) != 1)=true ∧ ((s.now.kind:Int) != 5)=false):=by
      rcases hk with h | h
      ·exact .inl (bne_eq_false_iff_eq.2 AA)
      ·exact .inr ⟨bne_iff_ne.2 AA,bne_eq_false_iff_eq.2 AA⟩
     clear hk hnow;have hMA2:=hMA;rcases hz with z1 | ⟨z1,z2⟩
     all_goals
      go_wp2_with fail;clear a3 z1 z0;generalize w2.alloc (.cells #[.int .i64 s.now.kind,.int .i64 s.now.pos,.string ⟨s.now.s.toArray⟩,.int .i64 s.now.n,.int .i64 s.now.scale] 92)=w3 at *;generalize w2.heap.size=tb at *;go_loopg [27] n (fun gk t27 wr => ∃ i:Nat,i + gk=n ∧ t27 = .int .i64 i ∧ w3=wr ∧ ∀ j (hj:j < ws.length),j < i → ws[j] ≠ s.now.s)
      case atStart => exact ⟨0,by omega,rfl,rfl,fun j _ h => by omega⟩
      case round =>
       obtain ⟨i,hi,rfl,rfl,hN⟩:=hrel;have t2:=za htb 2;change w3.cell? _=some (.string ⟨s.now.s.toArray⟩) at t2;by_cases hlt:i < n
       ·have hil:i < ws.length:=by rw [HC.out.2]; exact hlt
        have c0:=hMA2.cell (HC.out.1 i hil);obtain ⟨x,hx⟩:=EX (ws[i]);rw [hx] at c0;obtain ⟨y,hy⟩:=EX (s.now.s);rw [hy] at t2;by_cases hxy:x=y
        ·have fin:=FIN.out true w3 (zn1 HE.out HK.out (by rw [hy,← hxy,← hx]; exact List.getElem_mem hil)) hMA2;subst hxy;clear FIN hN hx hy htb hbA hb;go_wp2_with fail;go_ret;exact fin
        ·have hN2:∀ j (hj:j < ws.length),j < i + 1 → ws[j] ≠ s.now.s:=fun j hj hji => by
          by_cases hje:j=i
          ·subst hje; rw [hx,hy]; exact hxy
          ·exact hN j hj AA
         have z3:¬ y=x:=fun h => hxy h.symm;have z4:(y == x)=false:=by rw [beq_eq_false_iff_ne]; exact z3
         have HN2:=QH hN2;clear hN hN2 FIN hx hy htb hbA hb hxy;go_wp2_with fail;go_roundg (n - (i + 1))
         case measure => omega
         case rel => exact ⟨i + 1,by omega,by go_num,rfl,HN2.out⟩
       ·obtain rfl:n=i:=by omega
        have fin:=FIN.out false w3 (zgs (.inr (.inr (fun x hx => by
         obtain ⟨j,hj,rfl⟩:=List.getElem_of_mem hx
         exact hN j hj (by have:=HC.out.2; omega))))) hMA2
        clear FIN hN;go_wp2_with fail;go_ret;exact fin
    ·have fin:=FIN.out false _ (zgs (.inr (.inl hk))) hMA;have z1:((s.now.kind:Int) != 1)=true:=bne_iff_ne.2 AA;have z5:((s.now.kind:Int) != 5)=true:=bne_iff_ne.2 AA;clear FIN hk hnow;go_wp2_with fail;go_ret;exact fin
   ·have fin:=FIN.out false _ (zgs (.inl he)) hMA;have z0:((s.e:Int) != 0)=true:=bne_iff_ne.2 AA;clear FIN he hnow;go_wp2_with fail;go_ret;exact fin
 ):p:=h
theorem ydi {p:Prop} (h:p:=by
  generalize w3.setRow rb (tokA t)=w4 at *;have q0:=za hr4 0;have q1:=za hr4 1;have q2:=za hr4 2;have q3:=za hr4 3;have q4:=za hr4 4;change w4.cell? _=some (.int .i64 t.kind) at q0;change w4.cell? _=some (.int .i64 t.pos) at q1;change w4.cell? _=some (.string ⟨t.s.toArray⟩) at q2;change w4.cell? _=some (.int .i64 t.n) at q3;change w4.cell? _=some (.int .i64 t.scale) at q4
  first
  |clear gA0
   refine bodyPost_ret (by simp [results,Tryz.results90, go_sem,q0,q1,q2,q3,q4,Result.andThen]; try rfl) rfl ?_;exact ⟨by rw [ht],hMw4,HP.out.passed hMw4 HB.out HW.out hb4⟩
  |clear gA1
   refine bodyPost_ret BF rfl ?_;exact ⟨rfl,hMw4,hP4⟩
 ):p:=h
def ToksAt (w:World) (g:Nat) (ts:List Tok):Prop:=∀ j u,(zc5 ts)[j]? = some u → w.cell? ⟨g,j,none⟩ = some u
theorem ToksAt.mods {w w':World} {g:Nat} {ts:List Tok} (h:ToksAt w g ts) (hM:Mods [] w w'):ToksAt w' g ts:=fun j u hu => hM.cell (h j u hu)
theorem zcG (ts:List Tok) (i:Nat) (hi:i < ts.length) (j:Nat) (hj:j < 5):(zc5 ts)[i * 5 + j]? = (zdl ts[i])[j]?:=by
 induction ts generalizing i with
 | nil => simp at hi
 | cons t ts ih =>
  have e:zc5 (t :: ts)=zdl t ++ zc5 ts:=by simp [zc5]
  have hl:(zdl t).length=5:=rfl;rw [e]
  cases i with
  | zero => rw [List.getElem?_append_left AA]; simp
  | succ i =>rw [List.getElem?_append_right AA,hl,show (i + 1) * 5 + j - 5=i * 5 + j by omega,ih i BA];rfl
theorem ToksAt.tok {w:World} {g:Nat} {ts:List Tok} (h:ToksAt w g ts) (i:Nat) (hi:i < ts.length) :
  w.cell? ⟨g,i * 5,none⟩ = some (.int .i64 (ts[i]).kind) ∧ w.cell? ⟨g,i * 5 + 1,none⟩ = some (.int .i64 (ts[i]).pos) ∧ w.cell? ⟨g,i * 5 + 2,none⟩ = some (.string ⟨(ts[i]).s.toArray⟩) ∧ w.cell? ⟨g,i * 5 + 3,none⟩ = some (.int .i64 (ts[i]).n) ∧ w.cell? ⟨g,i * 5 + 4,none⟩ = some (.int .i64 (ts[i]).scale):=by
 refine ⟨h _ _ ?_,h _ _ ?_,h _ _ ?_,h _ _ ?_,h _ _ ?_⟩
 ·have:=zcG ts i hi 0 AA; rw [Nat.add_zero] at this; rw [this]; rfl
 ·rw [zcG ts i hi 1 AA]; rfl
 ·rw [zcG ts i hi 2 AA]; rfl
 ·rw [zcG ts i hi 3 AA]; rfl
 ·rw [zcG ts i hi 4 AA]; rfl
theorem ToksOwn.at {T:TypeId} {w wr:World} {t:Value} {ts:List Tok} (h:ToksOwn T w wr t ts) (h0:ts ≠ []):∃ g cap,t = .slice (some ⟨g,0,none⟩) ts.length cap ∧ ToksAt wr g ts ∧ ts.length ≤ cap:=by
 rcases h.2.1.2 with ⟨hv,hn⟩ | ⟨g,cap,cur,hv,hb,hg,hc,r⟩
 ·exact absurd (List.length_eq_zero_iff.1 hn) h0
 ·refine ⟨g,cap,hv,fun j u hu => ?_,hc⟩;have:=h.2.1.cells (g:=g) (by rw [hv]; rfl) j u hu;rw [zci,Nat.zero_add] at this;exact this
theorem zn0:∀ (f:Nat) (l:List UInt8) (p:Nat) (L:List Tok),l.length ≤ f → lexG l p = .good L → L ≠ []:=by
 intro f l p L _ h
 cases l with
 | nil => rw [ziG] at h; cases h; simp
 | cons c r =>
  cases hk:zc3 (c :: r) with
  | none => rw [zgf p AB hk] at h; cases h
  | some x =>
   obtain ⟨u,n⟩:=x;rw [zeM p hk] at h
   cases hg:lexG (((c :: r).drop n).dropWhile zbs) (p + n + (((c :: r).drop n).takeWhile zbs).length) with
   | bad q => rw [hg] at h; cases h
   | good L2 => rw [hg] at h; cases h; simp
theorem zhc {l:List UInt8} {L:List Tok} (h:za4 l = .good L):L ≠ []:=zn0 _ _ _ _ (LR _) h
abbrev Bs:=List UInt8
structure Hd where
 op:Bs
 pos:Nat
 table:Bs:=[]
 name:Bs:=[]
 n:Nat:=0
 scale:Nat:=0
 s:Bs:=[]
deriving DecidableEq
inductive Tree where
 | leaf (h:Hd)
 | un (h:Hd) (a:Tree)
 | bin (h:Hd) (a b:Tree)
deriving DecidableEq
structure PS where
 rest:List Tok
 pos:Nat
 e:Nat
def zTok:Tok:=⟨0,0,[],0,0⟩
def PS.now (s:PS):Tok:=s.rest.headD zTok
def PS.next (s:PS):PS:={ s with rest:=s.rest.tail }
def PS.fail (s:PS) (k:Nat):PS:=if s.e=0 then { s with pos:=s.now.pos,e:=k } else s
def isTok (t:Tok) (l:List Bs):Bool:=(decide (t.kind=1) || decide (t.kind=5)) && l.contains t.s
def PS.is (s:PS) (l:List Bs):Bool:=decide (s.e=0) && isTok s.now l
def PS.takes (s:PS) (w:Bs):Bool × PS:=if s.is [w]=true then (true,s.next) else (false,s)
def PS.want (s:PS) (w:Bs):PS:=if s.is [w]=true then s.next else s.fail 8
def PS.wants (s:PS) (l:List Bs):PS:=l.foldl PS.want s
def PS.of (s:PS) (k:Nat):Tok × Bool × PS:=if s.e=0 ∧ s.now.kind=k then (s.now,true,s.next) else (zTok,false,s.fail 8)
def PS.name (s:PS):Bs × PS:=((s.of 2).1.s,(s.of 2).2.2)
def PS.count (s:PS):Int × PS:=
 let s1:=if 0 < s.now.scale then s.fail 8 else s
 if (s1.of 3).2.1=true then ((s1.of 3).1.n,(s1.of 3).2.2) else (-1,(s1.of 3).2.2)
def zb5 (c:UInt8):UInt8:=if 65 ≤ c.toNat ∧ c.toNat ≤ 90 then c + 32 else c
def wPoint:Bs:=[46]
def wOpen:Bs:=[40]
def wShut:Bs:=[41]
def wStar:Bs:=[42]
def wMinus:Bs:=[45]
def wComma:Bs:=[44]
def wNot:Bs:=[78,79,84]
def wIs:Bs:=[73,83]
def wNull:Bs:=[78,85,76,76]
def wTrue:Bs:=[84,82,85,69]
def wFalse:Bs:=[70,65,76,83,69]
def wCount:Bs:=[67,79,85,78,84]
def wSum:Bs:=[83,85,77]
def wMin:Bs:=[77,73,78]
def wMax:Bs:=[77,65,88]
def oColumn:Bs:=[99,111,108,117,109,110]
def oNumber:Bs:=[110,117,109,98,101,114]
def oText:Bs:=[116,101,120,116]
def oBool:Bs:=[98,111,111,108]
def oNull:Bs:=[110,117,108,108]
def oCount:Bs:=[99,111,117,110,116]
def oAll:Bs:=[99,111,117,110,116,97,108,108]
def oNeg:Bs:=[110,101,103]
def oNot:Bs:=[110,111,116]
def oIs:Bs:=[105,115,110,117,108,108]
def oIsNot:Bs:=[110,111,116,110,117,108,108]
def emp:Tree:=.leaf ⟨[],0,[],[],0,0,[]⟩
abbrev PF:=PS → Tree × PS
structure Lvl where
 minus:PF
 not:PF
 expr:PF
def inF (sub:Option Lvl) (body:Lvl → PF) (d:Tree) (s:PS):Tree × PS:=
 match sub with
 | none => (d,s.fail 9)
 | some L => if s.e=0 then body L s.next else (d,s)
def zY (s:PS):Tree × PS:=
 let p:=s.name
 if (p.2.takes wPoint).1=true then (.leaf { op:=oColumn,pos:=s.now.pos,table:=p.1,name:=(p.2.takes wPoint).2.name.1 },(p.2.takes wPoint).2.name.2)
 else (.leaf { op:=oColumn,pos:=s.now.pos,name:=p.1 },(p.2.takes wPoint).2)
def zaE (sub:Option Lvl):PF:=inF sub (fun L s => ((L.expr s).1,(L.expr s).2.wants [wShut])) emp
def zK (sub:Option Lvl) (s:PS):Tree × PS:=
 let op:=s.now.s.map zb5
 inF sub (fun L s1 =>
  let s2:=s1.wants [wOpen]
  if op=oCount ∧ (s2.takes wStar).1=true then (.leaf { op:=oAll,pos:=s.now.pos },(s2.takes wStar).2.wants [wShut])
  else
   let s3:=if op=oCount then (s2.takes wStar).2 else s2
   (.un { op:=op,pos:=s.now.pos } (L.expr s3).1,(L.expr s3).2.wants [wShut])) (.leaf { op:=op,pos:=s.now.pos }) s
def zo (sub:Option Lvl) (s:PS):Tree × PS:=
 if s.e ≠ 0 then (emp,s)
 else if s.now.kind=3 then (.leaf { op:=oNumber,pos:=s.now.pos,n:=s.now.n,scale:=s.now.scale },s.next)
 else if s.now.kind=4 then (.leaf { op:=oText,pos:=s.now.pos,s:=s.now.s },s.next)
 else if s.now.kind=2 then zY s
 else if s.now.kind=1 ∧ s.now.s=wTrue then (.leaf { op:=oBool,pos:=s.now.pos,n:=1 },s.next)
 else if s.now.kind=1 ∧ s.now.s=wFalse then (.leaf { op:=oBool,pos:=s.now.pos },s.next)
 else if s.now.kind=1 ∧ s.now.s=wNull then (.leaf { op:=oNull,pos:=s.now.pos },s.next)
 else if s.now.kind=5 ∧ s.now.s=wOpen then zaE sub s
 else if s.now.kind=1 ∧ (s.now.s=wCount ∨ s.now.s=wSum ∨ s.now.s=wMin ∨ s.now.s=wMax) then zK sub s
 else (emp,s.fail 8)
def zR (sub:Option Lvl) (word op:Bs) (own:Lvl → PF) (rest:PF) (s:PS):Tree × PS:=
 if s.is [word]=true then inF sub (fun L s1 => (.un { op:=op,pos:=s.now.pos } (own L s1).1,(own L s1).2)) (.leaf { op:=op,pos:=s.now.pos }) s
 else rest s
def zaq (part:PF) (ws:List Bs):Nat → Tree → PS → Tree × PS
 | 0,x,s => (x,s)
 | n + 1,x,s => if s.is ws=true then zaq part ws n (.bin { op:=s.now.s.map zb5,pos:=s.now.pos } x (part s.next).1) (part s.next).2 else (x,s)
def zac (part:PF) (ws:List Bs) (s:PS):Tree × PS:=zaq part ws (part s).2.rest.length (part s).1 (part s).2
def zbo (sub:Option Lvl):PF:=zR sub wMinus oNeg Lvl.minus (zo sub)
def termF (sub:Option Lvl):PF:=zac (zbo sub) [wStar,[47]]
def zc6 (sub:Option Lvl):PF:=zac (termF sub) [[43],wMinus]
def relWords:List Bs:=[[61],[60,62],[60],[60,61],[62],[62,61]]
def zbg (sub:Option Lvl) (s:PS):Tree × PS:=
 let p:=zc6 sub s
 if p.2.is relWords=true then (.bin { op:=p.2.now.s,pos:=p.2.now.pos } p.1 (zc6 sub p.2.next).1,(zc6 sub p.2.next).2)
 else if (p.2.takes wIs).1=true then
  let t:=(p.2.takes wIs).2.takes wNot
  (.un { op:=if t.1=true then oIsNot else oIs,pos:=p.2.now.pos } p.1,t.2.wants [wNull])
 else (p.1,p.2)
def notF (sub:Option Lvl):PF:=zR sub wNot oNot Lvl.not (zbg sub)
def andF (sub:Option Lvl):PF:=zac (notF sub) [[65,78,68]]
def exprF (sub:Option Lvl):PF:=zac (andF sub) [[79,82]]
def mkLvl (sub:Option Lvl):Lvl:=⟨zbo sub,notF sub,exprF sub⟩
def lvl:Nat → Lvl
 | 0 => mkLvl none
 | f + 1 => mkLvl (some (lvl f))
def subOf:Nat → Option Lvl
 | 0 => none
 | f + 1 => some (lvl f)
theorem zfP (f:Nat):lvl f=mkLvl (subOf f):=by cases f <;> rfl
def WfT (r:List Tok):Prop:=(∃ t,r.getLast? = some t ∧ t.kind=0) ∧ ∀ t ∈ r,t.kind ≤ 5 ∧ t.s.length ≤ 5000
theorem WfT.ne {r:List Tok} (h:WfT r):r ≠ []:=by obtain ⟨⟨t,h,-⟩,-⟩:=h;intro h2; rw [h2] at h; cases h
theorem WfT.tail {t:Tok} {r:List Tok} (h:WfT (t :: r)) (hk:t.kind ≠ 0):WfT r:=by
 obtain ⟨⟨u,h1,h2⟩,h3⟩:=h
 cases r with
 | nil => simp at h1; subst h1; exact absurd h2 hk
 | cons a r => exact ⟨⟨u,by rw [List.getLast?_cons_cons] at h1; exact h1,h2⟩,fun t ht => h3 t (CM _ ht)⟩
theorem WfT.now {s:PS} (h:WfT s.rest):s.now.kind ≤ 5 ∧ s.now.s.length ≤ 5000:=by
 cases hr:s.rest with
 | nil => exact absurd hr h.ne
 | cons t r =>
  have hn:s.now=t:=by unfold PS.now; rw [hr]; rfl
  rw [hn];exact h.2 t BO
structure Aft (s s':PS):Prop where
 len:s'.rest.length ≤ s.rest.length
 wf:WfT s.rest → WfT s'.rest
 wf2:WfT s.rest.dropLast → WfT s'.rest.dropLast
 suf:s'.rest <:+ s.rest
 err:s.e ≠ 0 → s'=s
theorem Aft.refl (s:PS):Aft s s:=⟨LR _,id,id,List.suffix_refl _,fun _ => rfl⟩
theorem Aft.trans {a b c:PS} (h:Aft a b) (k:Aft b c):Aft a c:=
 ⟨Nat.le_trans k.len h.len,fun w => k.wf (h.wf w),fun w => k.wf2 (h.wf2 w),k.suf.trans h.suf,fun he => by have:=h.err he; rw [k.err (by rw [this]; exact he),this]⟩
theorem Aft.fail (s:PS) (k:Nat):Aft s (s.fail k):=by
 unfold PS.fail;split
 ·rename_i h; exact ⟨LR _,id,id,List.suffix_refl _,fun he => absurd h he⟩
 ·exact Aft.refl s
theorem Aft.next {s:PS} (he:s.e=0) (hk:s.now.kind ≠ 0):Aft s s.next:=by
 refine ⟨by simp [PS.next],fun w => ?_,fun w => ?_,List.tail_suffix _,fun h => absurd he h⟩
 ·unfold PS.next
  cases hr:s.rest with
  | nil => exact absurd hr w.ne
  | cons t r =>rw [hr] at w;exact w.tail (by unfold PS.now at hk; rw [hr] at hk; exact hk)
 ·unfold PS.next
  cases hr:s.rest with
  | nil => rw [hr] at w; exact absurd rfl w.ne
  | cons t r =>
   rw [hr] at w;have ht:t.kind ≠ 0:=by unfold PS.now at hk; rw [hr] at hk; exact hk
   cases r with
   | nil => exact absurd rfl w.ne
   | cons u r => exact WfT.tail (t:=t) (by simpa using w) ht
theorem zQ {s:PS} {l:List Bs} (h:s.is l=true):s.e=0 ∧ s.now.kind ≠ 0:=by unfold PS.is isTok at h;simp only [Bool.and_eq_true,decide_eq_true_eq,Bool.or_eq_true] at h;exact ⟨h.1,by omega⟩
theorem Aft.takes (s:PS) (w:Bs):Aft s (s.takes w).2:=by
 unfold PS.takes;split
 ·rename_i h; exact Aft.next (zQ h).1 (zQ h).2
 ·exact Aft.refl s
theorem Aft.want (s:PS) (w:Bs):Aft s (s.want w):=by
 unfold PS.want;split
 ·rename_i h; exact Aft.next (zQ h).1 (zQ h).2
 ·exact Aft.fail s _
theorem Aft.wants (l:List Bs):∀ s:PS,Aft s (s.wants l):=by
 induction l with
 | nil => exact fun s => Aft.refl s
 | cons w l ih => exact fun s => (Aft.want s w).trans (ih _)
theorem Aft.of (s:PS) (k:Nat) (hk:k ≠ 0):Aft s (s.of k).2.2:=by
 unfold PS.of;split
 ·rename_i h; exact Aft.next h.1 (by rw [h.2]; exact hk)
 ·exact Aft.fail s _
theorem Aft.name (s:PS):Aft s s.name.2:=Aft.of s 2 AD
def zbn (F:PF):Prop:=∀ s,Aft s (F s).2
theorem zhS {sub:Option Lvl} {body:Lvl → PF} {d:Tree} {s:PS} (hk:s.now.kind ≠ 0) (h:∀ L,sub=some L → zbn (body L)):Aft s (inF sub body d s).2:=by
 unfold inF;split
 ·exact Aft.fail s _
 ·rename_i L
  split
  ·rename_i he; exact (Aft.next he hk).trans (h L rfl _)
  ·exact Aft.refl s
theorem zaV:zbn zY:=by
 intro s;unfold zY;simp only;split
 ·exact ((Aft.name s).trans (Aft.takes _ _)).trans (Aft.name _)
 ·exact (Aft.name s).trans (Aft.takes _ _)
structure LvlGoes (L:Lvl):Prop where
 minus:zbn L.minus
 not:zbn L.not
 expr:zbn L.expr
def zaF (sub:Option Lvl):Prop:=∀ L,sub=some L → LvlGoes L
theorem zhd {sub:Option Lvl} (h:zaF sub) {s:PS} (hk:s.now.kind ≠ 0):Aft s (zaE sub s).2:=
 zhS hk fun L hL s => ((h L hL).expr s).trans (Aft.wants _ _)
theorem zgr {sub:Option Lvl} (h:zaF sub) {s:PS} (hk:s.now.kind ≠ 0):Aft s (zK sub s).2:=by
 unfold zK;refine zhS hk fun L hL s1 => ?_;simp only;split
 ·exact ((Aft.wants _ _).trans (Aft.takes _ _)).trans (Aft.wants _ _)
 ·split
  ·exact (((Aft.wants _ _).trans (Aft.takes _ _)).trans ((h L hL).expr _)).trans (Aft.wants _ _)
  ·exact ((Aft.wants _ _).trans ((h L hL).expr _)).trans (Aft.wants _ _)
theorem zhe {sub:Option Lvl} (h:zaF sub):zbn (zo sub):=by
 intro s;unfold zo;split
 ·exact Aft.refl s
 rename_i he
 have he:s.e=0:=by simpa using he
 split
 ·rename_i hk; exact Aft.next he AA
 split
 ·rename_i hk; exact Aft.next he AA
 split
 ·exact zaV s
 split
 ·rename_i hk; exact Aft.next he AA
 split
 ·rename_i hk; exact Aft.next he AA
 split
 ·rename_i hk; exact Aft.next he AA
 split
 ·rename_i hk; exact zhd h AA
 split
 ·rename_i hk; exact zgr h AA
 ·exact Aft.fail s _
theorem zeT {sub:Option Lvl} {w op:Bs} {own:Lvl → PF} {rest:PF} (h1:∀ L,sub=some L → zbn (own L)) (h2:zbn rest):zbn (zR sub w op own rest):=by
 intro s;unfold zR;split
 ·rename_i h
  exact zhS (zQ h).2 fun L hL s1 => h1 L hL s1
 ·exact h2 s
theorem zdV {part:PF} (h:zbn part) (ws:List Bs):∀ (n:Nat) (x:Tree),zbn (zaq part ws n x):=by
 intro n
 induction n with
 | zero => intro x s; exact Aft.refl s
 | succ n ih =>
  intro x s;unfold zaq;split
  ·rename_i hi
   exact ((Aft.next (zQ hi).1 (zQ hi).2).trans (h _)).trans (ih _ _)
  ·exact Aft.refl s
theorem zdq {part:PF} (h:zbn part) (ws:List Bs):zbn (zac part ws):=fun s => (h s).trans (zdV h ws _ _ _)
theorem zkA {sub:Option Lvl} (h:zbn (zc6 sub)):zbn (zbg sub):=by
 intro s;unfold zbg;simp only;split
 ·rename_i hi
  exact ((h s).trans (Aft.next (zQ hi).1 (zQ hi).2)).trans (h _)
 split
 ·exact (((h s).trans (Aft.takes _ _)).trans (Aft.takes _ _)).trans (Aft.wants _ _)
 ·exact h s
theorem zbG {sub:Option Lvl} (h:zaF sub):zbn (zbo sub):=zeT (fun L hL => (h L hL).minus) (zhe h)
theorem zdr {sub:Option Lvl} (h:zaF sub):zbn (termF sub):=zdq (zbG h) _
theorem zes {sub:Option Lvl} (h:zaF sub):zbn (zc6 sub):=zdq (zdr h) _
theorem zcO {sub:Option Lvl} (h:zaF sub):zbn (notF sub):=zeT (fun L hL => (h L hL).not) (zkA (zes h))
theorem zet {sub:Option Lvl} (h:zaF sub):zbn (andF sub):=zdq (zcO h) _
theorem zhf {sub:Option Lvl} (h:zaF sub):zbn (exprF sub):=zdq (zet h) _
theorem zcP (f:Nat):LvlGoes (lvl f):=by
 induction f with
 | zero => exact ⟨zbG (fun L h => by cases h),zcO (fun L h => by cases h),zhf (fun L h => by cases h)⟩
 | succ f ih =>
  have h:zaF (some (lvl f)):=fun L h => by cases h; exact ih
  exact ⟨zbG h,zcO h,zhf h⟩
theorem zmu (f:Nat):zaF (subOf f):=by
 cases f with
 | zero => intro L h; cases h
 | succ f => intro L h; cases h; exact zcP f
theorem zjw {part:PF} (h:zbn part) (ws:List Bs):∀ (n m:Nat) (x:Tree) (s:PS),WfT s.rest → s.rest.length ≤ n → s.rest.length ≤ m → zaq part ws n x s=zaq part ws m x s:=by
 intro n
 induction n with
 | zero =>intro m x s hw hn hm;exact absurd (List.length_eq_zero_iff.1 AA) hw.ne
 | succ n ih =>
  intro m x s hw hn hm
  cases m with
  | zero => exact absurd (List.length_eq_zero_iff.1 AA) hw.ne
  | succ m =>
   unfold zaq;split
   ·rename_i hi
    have hA:=Aft.next (zQ hi).1 (zQ hi).2;have hB:=h s.next;have hl:s.next.rest.length + 1=s.rest.length:=by
     unfold PS.next
     cases hr:s.rest with
     | nil => exact absurd hr hw.ne
     | cons t r => simp
    exact ih m _ _ (hB.wf (hA.wf hw)) (by have:=hB.len; omega) (by have:=hB.len; omega)
   ·rfl
def TkIn (w:World) (g:Nat) (l:Value) (rest:List Tok):Prop:=
 ∃ off cap,l = .slice (some ⟨g,off,none⟩) rest.length cap ∧ rest.length ≤ cap ∧ cap ≤ 9223372036854775807 ∧ ∀ j u,(zc5 rest)[j]? = some u → w.cell? ⟨g,off + j,none⟩ = some u
theorem TkIn.mods {w w':World} {g:Nat} {l:Value} {rest:List Tok} {L:List Nat} (h:TkIn w g l rest) (hM:Mods L w w') (hg:g ∉ L):TkIn w' g l rest:=by obtain ⟨off,cap,h1,h3,h4,h5⟩:=h;exact ⟨off,cap,h1,h3,h4,fun j u hu => hM.cell (h5 j u hu) hg⟩
def PSt (w:World) (pb tg:Nat) (s:PS) (f:Nat):Prop:=
 ∃ l,w.heap[pb]? = some (.cells #[l,.int .i64 (64 - (f:Int)),.int .i64 s.pos,.int .i64 s.e] 95 (0,0)) ∧ TkIn w tg l s.rest ∧ WfT s.rest ∧ f ≤ 64 ∧ tg ≠ pb
theorem PSt.mods {w w':World} {pb tg:Nat} {s:PS} {f:Nat} {L:List Nat} (h:PSt w pb tg s f) (hM:Mods L w w') (h1:pb ∉ L) (h2:tg ∉ L):PSt w' pb tg s f:=by obtain ⟨l,q1,q2,q3⟩:=h;exact ⟨l,hM.heap q1 h1,q2.mods hM h2,q3⟩
theorem PSt.later {w w':World} {pb tg:Nat} {s:PS} {f:Nat} (h:PSt w pb tg s f) (hM:Mods [] w w'):PSt w' pb tg s f:=h.mods hM AB AB
theorem PSt.lt {w:World} {pb tg:Nat} {s:PS} {f:Nat} (h:PSt w pb tg s f):pb < w.heap.size ∧ tg < w.heap.size:=by
 obtain ⟨l,q1,⟨off,cap,-,-,-,q2⟩,q3,-⟩:=h;refine ⟨zj q1,?_⟩
 cases hr:s.rest with
 | nil => exact absurd hr q3.ne
 | cons t r =>rw [hr] at q2;exact zD (q2 0 _ rfl)
def hdC (h:Hd) (args:Value):List Value:=[.string ⟨h.op.toArray⟩,.int .i64 h.pos,.string ⟨h.table.toArray⟩,.string ⟨h.name.toArray⟩,.int .i64 h.n,.int .i64 h.scale,.string ⟨h.s.toArray⟩,args]
def zh (b:Nat):Value:=.pointer (some ⟨b,0,none⟩)
def ExprAt (T T2:TypeId) (w:World) (L:List Nat) (v:Value):Tree → Prop
 | .leaf h => ∃ b,v=zh b ∧ b ∉ L ∧ w.heap[b]? = some (.cells (hdC h (.slice none 0 0)).toArray T (0,0))
 | .un h a => ∃ b c u,v=zh b ∧ b ∉ L ∧ c ∉ L ∧ w.heap[b]? = some (.cells (hdC h (.slice (some ⟨c,0,none⟩) 1 1)).toArray T (0,0)) ∧ w.heap[c]? = some (.cells #[u] T2 (0,0)) ∧ ExprAt T T2 w L u a
 | .bin h a d => ∃ b c u x,v=zh b ∧ b ∉ L ∧ c ∉ L ∧ w.heap[b]? = some (.cells (hdC h (.slice (some ⟨c,0,none⟩) 2 2)).toArray T (0,0)) ∧ w.heap[c]? = some (.cells #[u,x] T2 (0,0)) ∧ ExprAt T T2 w L u a ∧ ExprAt T T2 w L x d
theorem ExprAt.mods {T T2:TypeId} {w w':World} {L:List Nat} (hM:Mods L w w'):∀ {t:Tree} {v:Value},ExprAt T T2 w L v t → ExprAt T T2 w' L v t:=by
 intro t
 induction t with
 | leaf h =>rintro v ⟨b,h1,h2,h3⟩;exact ⟨b,h1,h2,hM.heap h3 h2⟩
 | un h a ih =>rintro v ⟨b,c,u,h1,h2,h3,h4,h5,h6⟩;exact ⟨b,c,u,h1,h2,h3,hM.heap h4 h2,hM.heap h5 h3,ih h6⟩
 | bin h a d iha ihd =>rintro v ⟨b,c,u,x,h1,h2,h3,h4,h5,h6,h7⟩;exact ⟨b,c,u,x,h1,h2,h3,hM.heap h4 h2,hM.heap h5 h3,iha h6,ihd h7⟩
theorem ExprAt.weaken {T T2:TypeId} {w:World} {L L':List Nat} (hL:∀ x ∈ L',x ∈ L):∀ {t:Tree} {v:Value},ExprAt T T2 w L v t → ExprAt T T2 w L' v t:=by
 intro t
 induction t with
 | leaf h =>rintro v ⟨b,h1,h2,h3⟩;exact ⟨b,h1,fun hm => h2 (hL _ hm),h3⟩
 | un h a ih =>rintro v ⟨b,c,u,h1,h2,h3,h4,h5,h6⟩;exact ⟨b,c,u,h1,fun hm => h2 (hL _ hm),fun hm => h3 (hL _ hm),h4,h5,ih h6⟩
 | bin h a d iha ihd =>rintro v ⟨b,c,u,x,h1,h2,h3,h4,h5,h6,h7⟩;exact ⟨b,c,u,x,h1,fun hm => h2 (hL _ hm),fun hm => h3 (hL _ hm),h4,h5,iha h6,ihd h7⟩
def PRes (pb tg f:Nat) (F:PF) (s:PS) (w:World) (e:Ending) (w':World):Prop:=
 ∃ b,e = .returned (zh b) ∧ Mods [pb] w w' ∧ PSt w' pb tg (F s).2 f ∧ ((F s).2.e=0 → ∀ L:List Nat,(∀ x ∈ L,x < w.heap.size) → ExprAt 171 103 w' L (zh b) (F s).1)
theorem PSt.tok {w:World} {pb tg:Nat} {s:PS} {f:Nat} (h:PSt w pb tg s f):∃ off cap,w.heap[pb]? = some (.cells #[.slice (some ⟨tg,off,none⟩) s.rest.length cap,.int .i64 (64 - (f:Int)),.int .i64 s.pos,.int .i64 s.e] 95 (0,0)) ∧ tg ≠ pb ∧ 0 < s.rest.length ∧ s.rest.length ≤ cap ∧ cap ≤ 9223372036854775807 ∧
  w.cell? ⟨tg,off,none⟩ = some (.int .i64 s.now.kind) ∧ w.cell? ⟨tg,off + 1,none⟩ = some (.int .i64 s.now.pos) ∧ w.cell? ⟨tg,off + 2,none⟩ = some (.string ⟨s.now.s.toArray⟩) ∧ w.cell? ⟨tg,off + 3,none⟩ = some (.int .i64 s.now.n) ∧ w.cell? ⟨tg,off + 4,none⟩ = some (.int .i64 s.now.scale):=by
 obtain ⟨l,h1,⟨off,cap,rfl,h3,h4,h5⟩,h6,h7,h8⟩:=h
 cases hr:s.rest with
 | nil => exact absurd hr h6.ne
 | cons t r =>
  have hn:s.now=t:=by unfold PS.now; rw [hr]; rfl
  rw [hn];rw [hr] at h5 h1 h3;exact ⟨off,cap,h1,h8,by simp,h3,h4,h5 0 _ rfl,h5 1 _ rfl,h5 2 _ rfl,h5 3 _ rfl,h5 4 _ rfl⟩
theorem PSt.turn {w w':World} {pb tg:Nat} {s s':PS} {f f':Nat} {off cap:Nat} (h:PSt w pb tg s f) (hM:Mods [pb] w w') (hc:w.heap[pb]? = some (.cells #[.slice (some ⟨tg,off,none⟩) s.rest.length cap,.int .i64 (64 - (f:Int)),.int .i64 s.pos,.int .i64 s.e] 95 (0,0))) (hr:s'.rest=s.rest) (hf:f' ≤ 64)
  (h':w'.heap[pb]? = some (.cells #[.slice (some ⟨tg,off,none⟩) s.rest.length cap,.int .i64 (64 - (f':Int)),.int .i64 s'.pos,.int .i64 s'.e] 95 (0,0))):PSt w' pb tg s' f':=by
 obtain ⟨l,h1,h2,h3,h4,h5⟩:=h;rw [h1] at hc;simp only [Option.some.injEq,Obj.cells.injEq,Array.mk.injEq,List.cons.injEq,and_true] at hc;obtain ⟨rfl⟩:=hc;exact ⟨_,h',by rw [hr]; exact h2.mods hM (by simpa using h5),by rw [hr]; exact h3,hf,h5⟩
theorem PSt.passed {w w':World} {pb tg:Nat} {s:PS} {f:Nat} {off cap:Nat} (h:PSt w pb tg s f) (hM:Mods [pb] w w') (hc:w.heap[pb]? = some (.cells #[.slice (some ⟨tg,off,none⟩) s.rest.length cap,.int .i64 (64 - (f:Int)),.int .i64 s.pos,.int .i64 s.e] 95 (0,0))) (hw:WfT s.rest.tail)
  (h':w'.heap[pb]? = some (.cells #[.slice (some ⟨tg,off + 5,none⟩) (s.rest.length - 1) (cap - 1),.int .i64 (64 - (f:Int)),.int .i64 s.pos,.int .i64 s.e] 95 (0,0))):PSt w' pb tg s.next f:=by
 obtain ⟨l,h1,h2,h3,h4,h5⟩:=h;rw [h1] at hc;simp only [Option.some.injEq,Obj.cells.injEq,Array.mk.injEq,List.cons.injEq,and_true] at hc;obtain ⟨rfl⟩:=hc;obtain ⟨off',cap',he,h6,h7,h8⟩:=h2.mods hM (by simpa using h5);simp only [Value.slice.injEq,Option.some.injEq,Addr.mk.injEq,and_true,true_and] at he;obtain ⟨rfl,rfl⟩:=he;refine ⟨_,h',⟨off + 5,cap - 1,by unfold PS.next; rw [List.length_tail],by unfold PS.next; rw [List.length_tail]; omega,by omega,fun j u hu => ?_⟩,hw,h4,h5⟩
 cases hr:s.rest with
 | nil => exact absurd hr h3.ne
 | cons t r =>
  have hn:s.next.rest=r:=by unfold PS.next; rw [hr]; rfl
  rw [hn] at hu
  have:=h8 (5 + j) u (by
   rw [hr];show (zdl t ++ zc5 r)[5 + j]? = _;rw [List.getElem?_append_right (by simp [zdl])]
   simpa [zdl] using hu)
  rw [show off + 5 + j=off + (5 + j) by omega];exact this
abbrev tokA (t:Tok):Array Value:=#[.int .i64 t.kind,.int .i64 t.pos,.string ⟨t.s.toArray⟩,.int .i64 t.n,.int .i64 t.scale]
theorem zaO (w:World) (pb tg:Nat) (s:PS) (f:Nat) (h:PSt w pb tg s f):Calls Tryz.prog 55 #[zh pb] w fun e w' => e = .returned (.agg #[.int .i64 s.now.kind,.int .i64 s.now.pos,.string ⟨s.now.s.toArray⟩,.int .i64 s.now.n,.int .i64 s.now.scale]) ∧ Mods [] w w':=by
 obtain ⟨off,cap,hb,hg,hlen,hcap,hcap2,c0,c1,c2,c3,c4⟩:=h.tok;unfold zh;generalize s.now=t at *;obtain ⟨n,hn⟩:=EX (s.rest.length);rw [hn] at hb hlen;have hM:=(QM [] w).alloc (.cells #[.int .i64 0,.int .i64 0,.string ⟨#[]⟩,.int .i64 0,.int .i64 0] 92);have hlz:(0:Int) < (n:Int):=by omega
 have a0:=hM.cell (za hb 0);change World.cell? _ _=some (.slice (some ⟨tg,off,none⟩) n cap) at a0;have d0:=hM.cell c0;have d1:=hM.cell c1;have d2:=hM.cell c2;have d3:=hM.cell c3;have d4:=hM.cell c4;clear c0 c1 c2 c3 c4 hb h hn;go_enter Tryz.func55, Tryz.ntmps55;go_wp2_with fail;go_returns;exact ⟨rfl,(QM [] w).alloc _⟩
theorem zfQ (t:Tok) (W:World):(Instr.field 92 (.agg #[.int .i64 t.kind,.int .i64 t.pos,.string ⟨t.s.toArray⟩,.int .i64 t.n,.int .i64 t.scale]) 0).run Tryz.prog W = .ok (.int .i64 t.kind) W:=by kernel_rfl
theorem zaA (t:Tok) (W:World):(Instr.field 92 (.agg #[.int .i64 t.kind,.int .i64 t.pos,.string ⟨t.s.toArray⟩,.int .i64 t.n,.int .i64 t.scale]) 1).run Tryz.prog W = .ok (.int .i64 t.pos) W:=by kernel_rfl
theorem zjx (t:Tok) (W:World):(Instr.field 92 (.agg #[.int .i64 t.kind,.int .i64 t.pos,.string ⟨t.s.toArray⟩,.int .i64 t.n,.int .i64 t.scale]) 2).run Tryz.prog W = .ok (.string ⟨t.s.toArray⟩) W:=by kernel_rfl
theorem zjy (t:Tok) (W:World):(Instr.field 92 (.agg #[.int .i64 t.kind,.int .i64 t.pos,.string ⟨t.s.toArray⟩,.int .i64 t.n,.int .i64 t.scale]) 4).run Tryz.prog W = .ok (.int .i64 t.scale) W:=by kernel_rfl
theorem zmv {P:Program} {t e:TypeId} (ht:P.underlying t=some (.slice e)) (hs:∀ w,(sizeOf e).run P w = .ok 5 w) (tg off len cap:Nat) (h1:1 ≤ len) (hc:1 < cap) (hcap:len ≤ cap) (w:World) :
  (Instr.sliceAt t (.slice (some ⟨tg,off,none⟩) len cap) (some (.int .i64 1)) none none).run P w = .ok (.slice (some ⟨tg,off + 5,none⟩) (len - 1) (cap - 1)) w:=by
 have he:P.elem t=e:=by unfold Program.elem; rw [ht]
 have ht2:P.underlying t=some (.slice (P.elem t)):=by rw [he]; exact ht
 rw [run_sliceAt_slice w t _ _ _ _ ht2,run_slice_l w t _ len cap ht2 .i64 1 AA AA,he,hs];simp only [Result.andThen,sliced];rw [if_neg (show ¬ cap=(1:Int).toNat by simp; omega)];rfl
theorem ziL (w:World) (pb tg:Nat) (s:PS) (f:Nat) (h:PSt w pb tg s f) (k:Nat):Calls Tryz.prog 88 #[zh pb,.int .i64 k] w fun e w' => e = .returned (.tuple #[]) ∧ Mods [pb] w w' ∧ PSt w' pb tg (s.fail k) f:=by
 obtain ⟨off,cap,hb,hg,hlen,hcap,hcap2,c0,c1,c2,c3,c4⟩:=h.tok;have hnow:=zaO w pb tg s f h;obtain ⟨hf64,-⟩ : f ≤ 64 ∧ True:=⟨by obtain ⟨l,-,-,-,h4,-⟩:=h; exact h4,trivial⟩;have HP:=QH h;have HB:=QH hb;have a3:=za hb 3;change w.cell? _=some (.int .i64 s.e) at a3;unfold zh at *;clear h c0 c1 c2 c3 c4;go_enter Tryz.func88, Tryz.ntmps88;by_cases he:s.e=0
 ·have hfd:=zaA s.now;have hs:s.fail k = { s with pos:=s.now.pos,e:=k }:=by unfold PS.fail; rw [if_pos he]
  have z:((s.e:Int) == 0)=true:=by rw [beq_iff_eq]; omega
  go_wp2_with fail;(with_reducible refine hnow.mono ?_);rintro e w2 ⟨rfl,hM2⟩;have hb2:=hM2.heap hb;have b3:=za hb2 3;have b2:=za hb2 2;change w2.cell? _=some (.int .i64 s.e) at b3;change w2.cell? _=some (.int .i64 s.pos) at b2;have g3:=zc hb2 3;have g2:=zc hb2 2;have hM3:Mods [pb] w2 ((w2.setCell ⟨pb,3,none⟩ (.int .i64 k)).setCell ⟨pb,2,none⟩ (.int .i64 s.now.pos)):=((QM _ _).setCell (.inl AB) _).setCell (.inl AB) _;have hb3:=zb (zb hb2 3 (.int .i64 k)) 2 (.int .i64 s.now.pos);have hM:=(hM2.mono (L':=[pb])).trans hM3;have hfin:=HP.out.turn (s':=s.fail k) (f':=f) hM HB.out (by rw [hs]) hf64 (by rw [hs]; exact hb3);have HF:=QH hfin;clear hnow hs hfin hb hb2 hb3 hM2 hM3;go_wp2_with fail;go_end0;exact ⟨rfl,hM,HF.out⟩
 ·have hs:s.fail k=s:=by unfold PS.fail; rw [if_neg he]
  have z:((s.e:Int) == 0)=false:=by rw [beq_eq_false_iff_ne]; omega
  have HS:=QH hs;clear he hs hnow;go_wp2_with fail;exact bodyPost_end (results_none rfl _ _ _) rfl ⟨rfl,QM _ _,by rw [HS.out]; exact HP.out⟩
theorem za9 (w:World) (pb tg:Nat) (s:PS) (f:Nat) (h:PSt w pb tg s f) (hw:WfT s.rest.tail):Calls Tryz.prog 90 #[zh pb] w fun e w' => e = .returned (.agg #[.int .i64 s.now.kind,.int .i64 s.now.pos,.string ⟨s.now.s.toArray⟩,.int .i64 s.now.n,.int .i64 s.now.scale]) ∧ Mods [pb] w w' ∧ PSt w' pb tg s.next f:=by
 obtain ⟨off,cap,hb,hg,hlen,hcap,hcap2,c0,c1,c2,c3,c4⟩:=h.tok;have hl2:1 < s.rest.length:=by have h1:=List.length_pos_iff.2 hw.ne;rw [List.length_tail] at h1; omega
 have hsl:=fun W => zmv (P:= Tryz.prog) Tryz.underlying88 (fun w => by kernel_rfl) tg off s.rest.length cap AA AA hcap W;have hMr:=(QM [] w).alloc (.cells #[.int .i64 0,.int .i64 0,.string ⟨#[]⟩,.int .i64 0,.int .i64 0] 92);have hnow:=zaO _ pb tg s f (h.later hMr);have HP:=QH h;have HB:=QH hb;have HW:=QH hw;unfold zh at *;clear h c0 c1 c2 c3 c4 hw;go_enter Tryz.func90, Tryz.ntmps90;have gC0:=QH trivial;exact yee
def StrsIn (w:World) (v:Value) (ws:List Bs):Prop:=∃ g off cap,v = .slice (some ⟨g,off,none⟩) ws.length cap ∧ ∀ j (h:j < ws.length),w.cell? ⟨g,off + j,none⟩ = some (.string ⟨ws[j].toArray⟩)
theorem StrsIn.mods {w w':World} {v:Value} {ws:List Bs} (h:StrsIn w v ws) (hM:Mods [] w w'):StrsIn w' v ws:=by obtain ⟨g,off,cap,h1,h2⟩:=h;exact ⟨g,off,cap,h1,fun j hj => hM.cell (h2 j hj)⟩
theorem zgs {s:PS} {ws:List Bs} (h:s.e ≠ 0 ∨ ¬ (s.now.kind=1 ∨ s.now.kind=5) ∨ ∀ x ∈ ws,x ≠ s.now.s):s.is ws=false:=by
 rw [Bool.eq_false_iff];intro h2;unfold PS.is isTok at h2;simp only [Bool.and_eq_true,decide_eq_true_eq,Bool.or_eq_true,List.contains_iff_mem] at h2;rcases h with h | h | h
 ·exact h h2.1
 ·exact h h2.2.1
 ·exact h _ h2.2.2 rfl
theorem zn1 {s:PS} {ws:List Bs} (h0:s.e=0) (h1:s.now.kind=1 ∨ s.now.kind=5) (h2:s.now.s ∈ ws):s.is ws=true:=by unfold PS.is isTok;simp only [Bool.and_eq_true,decide_eq_true_eq,Bool.or_eq_true,List.contains_iff_mem];exact ⟨h0,h1,h2⟩
theorem zea (w:World) (pb tg:Nat) (s:PS) (f:Nat) (h:PSt w pb tg s f) (v:Value) (ws:List Bs) (hws:StrsIn w v ws) (hl:ws.length ≤ 1000):Calls Tryz.prog 89 #[zh pb,v] w fun e w' => e = .returned (.bool (s.is ws)) ∧ Mods [] w w':=by obtain ⟨off,cap,hb,-⟩:=h.tok;have hnow:=zaO w pb tg s f h;obtain ⟨lb,lo,lcap,rfl,hcells⟩:=hws;obtain ⟨n,hn⟩:=EX (ws.length);rw [hn];have FIN:Hid (∀ b w',s.is ws=b → Mods [] w w' → (Ending.returned (.bool b):Ending) = .returned (.bool (s.is ws)) ∧ Mods [] w w'):=QH (fun b w' h1 h2 => ⟨by rw [h1],h2⟩);have HC:=QH (AI hcells hn);have hpw:pb < w.heap.size:=zj hb;unfold zh at *;clear h hcells;go_enter Tryz.func89, Tryz.ntmps89;have gC1:=QH trivial;exact yee
end Go.Proofs.YtcabeljiobiojaaGreatDoor
