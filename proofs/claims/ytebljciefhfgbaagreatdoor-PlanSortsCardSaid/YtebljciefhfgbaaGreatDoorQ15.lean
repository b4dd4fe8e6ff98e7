/-
  What check does, in plain words: exprs to typed nodes, queries to typed queries. It speaks of no program; no condition.
-/
import Derived.Test.YtebljciefhfgbaaGreatDoorQ11
set_option linter.unusedVariables false
set_option maxRecDepth 100000
set_option maxHeartbeats 4000000
namespace Go.Proofs.YtebljciefhfgbaaGreatDoor
open Go.RowKit
theorem AH {p:Prop} (h:p:=by simp [MapKept.IsKey]):p:=h
theorem ydt {p:Prop} (h:p:=by
  clear hfin;go_wp2_with fail;(with_reducible refine hA.mono ?_);rintro e w6 ⟨rfl,hM6⟩;have q0:=hM6.cell y0;have q1:=hM6.cell y1;have hB:=HB5.out w6;clear hA x0 x1 y0 y1;go_wp2_with fail;(with_reducible refine hB.mono ?_);rintro e w7 ⟨rfl,hM7⟩
  first
  |clear gBr
   clear hB;go_wp2_with fail
   go_meet
   exact HFIN.out w7 (hM6.trans hM7)
  |clear gBs
   have s1:=hM7.cell q1;have hM67:=hM6.trans hM7;clear hB q0 q1 hM6 hM7;rcases hs with h1 | ⟨h1,rfl⟩ | ⟨h1,rfl,h3⟩ | ⟨h1,rfl,h3⟩
   ·go_wp2_with fail
    go_meet
    exact HFIN.out true w7 (by constructor; (intro h; cases h); (intro h; omega)) hM67
   ·go_wp2_with fail
    go_meet
    rw [decide_eq_false (show ¬ (9:Int) < (sc:Int) by omega)];exact HFIN.out false w7 (by constructor; (intro _; exact ⟨by omega,fun h => by cases h.1⟩); (intro _; rfl)) hM67
   ·go_wp2_with fail
    go_meet
    exact HFIN.out true w7 (by constructor; (intro h; cases h); (intro h; exact absurd ⟨by trivial,by omega⟩ h.2)) hM67
   ·go_wp2_with fail
    go_meet
    rw [decide_eq_false (show ¬ (9:Int) < (sc:Int) by omega)];exact HFIN.out false w7 (by constructor; (intro _; exact ⟨by omega,fun h => by have:=h.2; omega⟩); (intro _; rfl)) hM67
 ):p:=h
theorem ycJ {p:Prop} (h:p:=by
  go_wp2_with fail;all_goals go_ret
  all_goals refine hfin _ hM ?_
  all_goals unfold zee
  all_goals rw [ht,ziR]
  all_goals simp_all
 ):p:=h
theorem yaU {p:Prop} (h:p:=by
  by_cases h0:str.size=0
  ·obtain rfl:=ze2 h0;exact ycJ
  ·have hne:str ≠ ⟨#[]⟩:=fun h => h0 (by rw [h]; rfl);have hnl:¬ str.toList=[]:=fun h => h0 ((zfT str).1 h);exact ycJ
 ):p:=h
theorem ybb {p:Prop} (h:p:=by
  go_wp2_with fail;(with_reducible refine hc1.mono ?_);rintro e w2 ⟨rfl,hM2⟩;have d0:=hM2.cell c0;clear hc1 c0 c1;go_wp2_with fail;go_ret;exact ⟨rfl,hM.trans hM2⟩
 ):p:=h
theorem ybg {p:Prop} (h:p:=by
  go_wp2_with fail;all_goals go_ret
  all_goals refine ⟨zbC ?_,hM⟩
  all_goals simp [zaN]
  all_goals first | done | omega
 ):p:=h
theorem ybt {p:Prop} (h:p:=by
  go_enter Tryz.func136, Tryz.ntmps136;go_wp2_with fail;go_ret;exact ⟨rfl,hM⟩
 ):p:=h
theorem ybQ {p:Prop} (h:p:=by
  go_wp2_with fail;(with_reducible refine hA.mono ?_);rintro e w2 ⟨rfl,hM2⟩;clear hA;go_wp2_with fail;go_ret;exact ⟨by rw [HE.out]; rfl,hM2⟩
 ):p:=h
theorem ybX {p:Prop} (h:p:=by
  exact ⟨HFIN.out,HR6.out.2.setRow (.inr (by have:=HBB.out; omega)) _⟩
 ):p:=h
theorem zhq {x l:Bs} (h:¬ x=l):(x == l)=false:=by rw [beq_eq_false_iff_ne]; exact h
structure Ty where
 k:Nat
 s:Nat
deriving DecidableEq
def tyInt:Ty:=⟨1,0⟩
def tyBytes:Ty:=⟨3,0⟩
def tyBool:Ty:=⟨4,0⟩
def tyNone:Ty:=⟨0,0⟩
def Ty.num (t:Ty):Bool:=decide (t.k=1) || decide (t.k=2)
def Ty.Right (t:Ty):Prop:=(t.k=2 ∧ 1 ≤ t.s ∧ t.s ≤ 9) ∨ ((t.k=1 ∨ t.k=3 ∨ t.k=4) ∧ t.s=0)
def scaleA (op:UInt8) (a b:Ty):Option Nat:=if op=43 ∨ op=45 then some (max a.s b.s) else if op=42 then some (a.s + b.s) else if op=47 then some a.s else none
def zb7 (op:UInt8) (a b:Ty):Option Ty:=
 match scaleA op a b with
 | none => none
 | some sc => if a.num=true ∧ b.num=true ∧ sc ≤ 9 ∧ ¬ (op=47 ∧ 0 < b.s) then (if sc=0 then some tyInt else some ⟨2,sc⟩) else none
def oSum:Bs:=[115,117,109]
def oMin:Bs:=[109,105,110]
def oMax:Bs:=[109,97,120]
def oAnd:Bs:=[97,110,100]
def oOr:Bs:=[111,114]
def oValue:Bs:=[118,97,108,117,101]
def oPlus:Bs:=[43]
def oMinus:Bs:=[45]
def oTimes:Bs:=[42]
def oOver:Bs:=[47]
def aggOps:List Bs:=[oAll,oCount,oSum,oMin,oMax]
def aggOpB (op:Bs):Bool:=aggOps.contains op
def rels:List Bs:=[[61],[60,62],[60],[60,61],[62],[62,61]]
def ops0:List Bs:=[oNumber,oText,oBool,oNull,oColumn,oAll]
def ops1:List Bs:=[oNeg,oNot,oIs,oIsNot,oCount,oSum,oMin,oMax]
def ops2:List Bs:=[oOr,oAnd,[61],[60,62],[60],[60,61],[62],[62,61],[43],[45],[42],[47]]
def zx (op:Bs) (a b:Ty):Option Ty:=
 if op=oAll ∨ op=oCount then some tyInt
 else if op=oNeg ∨ op=oSum then (if a.num=true then some a else none)
 else if op=oMin ∨ op=oMax then some a
 else if op=oIs ∨ op=oIsNot then some tyBool
 else if op=oNot then (if a=tyBool then some tyBool else none)
 else if op=oAnd ∨ op=oOr then (if a=tyBool ∧ b=tyBool then some tyBool else none)
 else if op=oPlus ∨ op=oMinus ∨ op=oTimes ∨ op=oOver then zb7 (op.headD 0) a b
 else if a=b ∨ (a.num=true ∧ b.num=true) then some tyBool else none
structure NHd where
 op:Bs
 t:Ty
 col:Nat:=0
 null:Bool:=false
 n:Nat:=0
 s:Bs:=[]
deriving DecidableEq
inductive NT where
 | leaf (h:NHd)
 | un (h:NHd) (a:NT)
 | bin (h:NHd) (a b:NT)
deriving DecidableEq
def NT.hd:NT → NHd
 | .leaf h => h
 | .un h _ => h
 | .bin h _ _ => h
def hasN:NT → Bool
 | .leaf h => aggOpB h.op
 | .un h a => aggOpB h.op || hasN a
 | .bin h a b => aggOpB h.op || (hasN a || hasN b)
structure EC where
 table:Bs
 name:Bs
 t:Ty
deriving DecidableEq
def zap (table name:Bs):Nat → List EC → List Nat
 | _,[] => []
 | i,e :: l => if (table=[] ∨ e.table=table) ∧ e.name=name then i :: zap table name (i + 1) l else zap table name (i + 1) l
def zaC (env:List EC) (table name:Bs):List Nat:=zap table name 0 env
inductive Chk (α:Type) where
 | ok (a:α)
 | bad (pos e:Nat)
def Chk.bind {α β:Type} (x:Chk α) (f:α → Chk β):Chk β:=match x with | .ok a => f a | .bad p e => .bad p e
def zbF (env:List EC) (h:Hd):Chk Nat:=
 match zaC env h.table h.name with
 | [] => .bad h.pos 13
 | [k] => .ok k
 | _ => .bad h.pos 4
def zS (h:Hd):Option NHd:=
 if h.op=oNumber then some { op:=oValue,t:=if 0 < h.scale then ⟨2,h.scale⟩ else tyInt,n:=h.n }
 else if h.op=oText then some { op:=oValue,t:=tyBytes,s:=h.s }
 else if h.op=oNull then some { op:=oValue,t:=tyBool,null:=true }
 else if h.op=oBool then some { op:=oValue,t:=tyBool,n:=h.n }
 else none
def zcX (d:Nat) (h:Hd) (a b:Ty) (mk:NHd → NT):Chk NT:=
 match zx h.op a b with
 | none => .bad h.pos 4
 | some t => if aggOpB h.op=true ∧ 0 < d then .bad h.pos 4 else .ok (mk { op:=h.op,t:=t })
def zy (d:Nat) (h:Hd):Nat:=if aggOpB h.op=true then d + 1 else d
def zq (env:List EC):Tree → Nat → Chk NT
 | .leaf h,d =>
  match zS h with
  | some n => .ok (.leaf n)
  | none => if h.op=oColumn then (zbF env h).bind (fun k => .ok (.leaf { op:=oColumn,t:=(env.getD k ⟨[],[],tyNone⟩).t,col:=k })) else zcX d h tyNone tyNone .leaf
 | .un h a,d => (zq env a (zy d h)).bind fun x => zcX d h x.hd.t tyNone (fun n => .un n x)
 | .bin h a b,d => (zq env a (zy d h)).bind fun x => (zq env b (zy d h)).bind fun y => zcX d h x.hd.t y.hd.t (fun n => .bin n x y)
def zT (h:Hd) (k:Nat):Bool:=(if ops0.contains h.op=true then decide (k=0) else if ops1.contains h.op=true then decide (k=1) else if ops2.contains h.op=true then decide (k=2) else false) && !(decide (h.op=oBool) && decide (1 < h.n)) && decide (h.scale ≤ 9) && decide (h.s.length ≤ 200)
def formedT:Tree → Bool
 | .leaf h => zT h 0
 | .un h a => zT h 1 && formedT a
 | .bin h a b => zT h 2 && (formedT a && formedT b)
def Tree.hd:Tree → Hd
 | .leaf h => h
 | .un h _ => h
 | .bin h _ _ => h
def zbB (env:List EC):Option Tree → Chk (Option NT)
 | none => .ok none
 | some t => (zq env t 0).bind fun n => if n.hd.t ≠ tyBool ∨ hasN n=true then .bad t.hd.pos 4 else .ok (some n)
structure TblT where
 name:Bs
 cols:List (Bs × Ty)
def TblT.env (t:TblT):List EC:=t.cols.map fun c => ⟨t.name,c.1,c.2⟩
def zbw (l:List TblT) (name:Bs):Option Nat:=l.findIdx? (fun t => t.name == name)
def zbd (l:List TblT) (name:Bs) (pos:Nat) (but:Option Nat):Chk Nat:=
 match zbw l name with
 | none => .bad pos 13
 | some k => if but=some k then .bad pos 4 else .ok k
def zcC (l:List TblT) (k:Nat):List EC:=(l.getD k ⟨[],[]⟩).env
structure KeyC where
 item:Nat
 desc:Bool
deriving DecidableEq
structure CQ where
 left:Nat
 right:Option Nat
 on:Option NT
 whr:Option NT
 grouped:Bool
 group:List Nat
 items:List NT
 names:List Bs
 order:List KeyC
 limit:Int
 offset:Int
def zbe (env:List EC):List Tree → Chk (List Nat)
 | [] => .ok []
 | g :: l => (zbF env g.hd).bind fun k => (zbe env l).bind fun ks => .ok (k :: ks)
def nameQ (env:List EC) (k:Nat) (i:za2) (n:NT):Bs:=if i.name ≠ [] then i.name else if n.hd.op=oColumn then (env.getD n.hd.col ⟨[],[],tyNone⟩).name else [99] ++ Lib.itoa ((k:Int) + 1)
def za5 (env:List EC):Nat → List za2 → Chk (List (NT × Bs))
 | _,[] => .ok []
 | k,i :: l => if k=64 then .bad i.e.hd.pos 4 else (zq env i.e 0).bind fun n => (za5 env (k + 1) l).bind fun r => .ok ((n,nameQ env k i n) :: r)
def fitsQ (group:List Nat):List za2 → List NT → Chk Unit
 | i :: l,n :: ns => if aggOpB n.hd.op=false ∧ (n.hd.op ≠ oColumn ∨ n.hd.col ∉ group) then .bad i.e.hd.pos 4 else fitsQ group l ns
 | _,_ => .ok ()
def zbi (env:List EC):List (NT × Bs):=(List.range env.length).map fun k => (.leaf { op:=oColumn,t:=(env.getD k ⟨[],[],tyNone⟩).t,col:=k },(env.getD k ⟨[],[],tyNone⟩).name)
def keyQ (items:List NT) (names:List Bs) (k:zfI):Chk KeyC:=
 let n:Int:=if k.name ≠ [] then (match names.findIdx? (· == k.name) with | some j => (j:Int) | none => -1) else k.item - 1
 if n < 0 ∨ (items.length:Int) ≤ n then .bad k.pos 13 else .ok ⟨n.toNat,k.desc⟩
def za6 (items:List NT) (names:List Bs):List zfI → Chk (List KeyC)
 | [] => .ok []
 | k :: l => (keyQ items names k).bind fun x => (za6 items names l).bind fun r => .ok (x :: r)
def zem (q:zt) (env:List EC) (group:List Nat):Chk (List (NT × Bs) × Bool):=
 (za5 env 0 q.items).bind fun l =>
  let grouped:=decide (0 < q.group.length) || l.any (fun x => hasN x.1)
  if grouped=true then (if q.star=true then .bad 0 4 else (fitsQ group q.items (l.map (·.1))).bind fun _ => .ok (l,true))
  else .ok ((if q.star=true then zbi env else []) ++ l,false)
def zao (tb:List TblT) (q:zt):Chk CQ:=
 (zbd tb q.src q.srcAt none).bind fun left =>
 (if q.join=[] then .ok none else (zbd tb q.join q.joinAt (some left)).bind fun k => .ok (some k)).bind fun (right:Option Nat) =>
 let env:=zcC tb left ++ (match right with | none => [] | some k => zcC tb k)
 (zbB env q.on).bind fun on =>
 (zbB env q.whr).bind fun whr =>
 (zbe env q.group).bind fun group =>
 (zem q env group).bind fun x =>
 (za6 (x.1.map (·.1)) (x.1.map (·.2)) q.order).bind fun order =>
 .ok ⟨left,right,on,whr,x.2,group,x.1.map (·.1),x.1.map (·.2),order,q.limit,q.offset⟩
structure zay (w:World) where
 val:World
 mods:Mods [] w val
instance {w:World}:Nonempty (zay w):=⟨⟨w,QM [] w⟩⟩
theorem zcK {P:Program} {id:Nat} {Q:Exit → Act → World → Prop} {a:Act} {w:World} {l:List Oper} (hm:P.follows .mixedOrders=true) (hB:Region.lexB .any l.toArray=true)
  (h:wpQuiet P l.toArray (fun w' => ∃ k:zay w,w'=k.val) (fun a' => ∀ w',(∃ k:zay w,w'=k.val) → Q .normal a' w') l a):(Code.region id l.toArray true).wp P Q a w:=
 wp_region_quiet (C:=fun w' => ∃ k:zay w,w'=k.val) hm hB ⟨⟨w.drew,(QM [] w).drew⟩,rfl⟩ AX
def zbj (l:List UInt8):Bool:=
 if 4096 < l.length then false else
 match za4 l with
 | .good [t,_] => decide (t = ⟨2,0,l,0,0⟩)
 | _ => false
theorem zgA (w:World) (hT:Tabs w) (s:ByteArray) (hs0:s.size ≤ 9223372036854775807) :
  Calls Tryz.prog 104 #[.string s] w fun e w' => e = .returned (.bool (zbj s.data.toList)) ∧ Mods [] w w':=by
 have hA:=zkz w hT s AA;have hsl:s.data.toList.length=s.size:=rfl;go_enter Tryz.func104, Tryz.ntmps104;by_cases hbig:4096 < s.size
 ·have e:zbj s.data.toList=false:=by unfold zbj; rw [if_pos AA]
  unfold zbu at hA;simp only [if_pos hbig] at hA;have HE:=QH e;clear hbig e;exact ybQ
 ·have hn:zbj s.data.toList=(match za4 s.data.toList with | .good [t,_] => decide (t = ⟨2,0,s.data.toList,0,0⟩) | _ => false):=by unfold zbj; rw [if_neg AA]
  unfold zbu at hA;simp only [if_neg hbig] at hA
  cases hl:za4 s.data.toList with
  | bad p =>rw [hl] at hn;simp only [hl] at hA;have HE:=QH hn;clear hbig hn hl;exact ybQ
  | good ts =>
   have hne:=zhc hl;rw [hl] at hn;simp only [hl] at hA;have HE:=QH hn;clear hbig hn hl;go_wp2_with fail;(with_reducible refine hA.mono ?_);rintro e w2 ⟨t1,rfl,hO1⟩;obtain ⟨g1,cap1,rfl,hA1,hc1⟩:=hO1.at hne;have hM2:=hO1.1;clear hA hO1;by_cases h2:ts.length=2
   ·match ts,h2 with
    | [t,u],_ =>
     obtain ⟨c0,c1,c2,c3,c4⟩:=hA1.tok 0 AB;simp only [List.getElem_cons_zero] at c0 c1 c2 c3 c4;clear hA1;go_wp2_with fail;all_goals go_ret
     all_goals refine ⟨zbC ?_,hM2⟩
     all_goals rw [HE.out]
     all_goals clear c0 c1 c2 c3 c4 HE
     all_goals obtain ⟨k,p,l,n,c⟩:=t
     all_goals simp_all [ByteArray.toList_eq]
     all_goals omega
   ·have h2z:((ts.length:Int) == 2)=false:=by rw [beq_eq_false_iff_ne]; omega
    have hno:zbj s.data.toList=false:=by
     rw [HE.out]
     match ts,h2 with
     | [],_ => rfl
     | [_],_ => rfl
     | [_,_],h => exact absurd rfl h
     | _ :: _ :: _ :: _,_ => rfl
    have HNO:=QH hno;clear hno HE;go_wp2_with fail;go_ret;exact ⟨by rw [HNO.out]; rfl,hM2⟩
def zaN (k s:Int):Bool:=(k == 2 && (decide (1 ≤ s) && decide (s ≤ 9))) || ((k == 1 || k == 3 || k == 4) && s == 0)
theorem zdg (k s:Int) (w:World):Calls Tryz.prog 75 #[.agg #[.int .i64 k,.int .i64 s]] w fun e w' => e = .returned (.bool (zaN k s)) ∧ Mods [] w w':=by
 have hM:=(QM [] w).alloc (.cells #[.int .i64 k,.int .i64 s] 62);go_enter Tryz.func75, Tryz.ntmps75;by_cases h2:k=2
 ·subst h2;exact ybg
 by_cases h1:k=1
 ·subst h1;exact ybg
 by_cases h3:k=3
 ·subst h3;exact ybg
 by_cases h4:k=4
 ·subst h4;exact ybg
 go_wp2_with fail;all_goals go_ret
 all_goals refine ⟨zbC ?_,hM⟩
 all_goals simp [zaN,h1,h2,h3,h4]
def zee (k s:Int) (null z:Bool) (n:Int) (str:ByteArray):Bool:=
 zaN k s && (if z=true then null && (n == 0 && str.size == 0) else if k=3 then n == 0 && decide (str.size ≤ 200) else str.size == 0 && (k != 4 || n / 2 == 0))
theorem ze2 {s:ByteArray} (h:s.size=0):s = ⟨#[]⟩:=by obtain ⟨d⟩:=s;simp [ByteArray.size] at h;rw [h]
theorem zk0 (w:World) (A B:Array Value) (t u:TypeId) (j:Nat):((w.alloc (.cells A t)).alloc (.cells B u)).cell? ⟨w.heap.size,j,none⟩ = A[j]?:=
 za ((Below.heap_alloc (w.alloc (.cells A t)) _ _ (by rw [zl]; omega)).trans (QN w _)) j
theorem ze3 (w:World) (A B:Array Value) (t u:TypeId) (j:Nat):((w.alloc (.cells A t)).alloc (.cells B u)).cell? ⟨w.heap.size + 1,j,none⟩ = B[j]?:=by have h:=QN (w.alloc (.cells A t)) (.cells B u);rw [zl] at h;exact za h j
theorem zfT (s:ByteArray):s.toList=[] ↔ s.size=0:=by rw [ByteArray.toList_eq];show s.data.toList=[] ↔ s.data.size=0;rw [← Array.length_toList];exact List.length_eq_zero_iff.symm
theorem zh2 (n:Nat):decide ((n:Int) ≤ 200)=decide (n ≤ 200):=by rw [decide_eq_decide]; omega
theorem ziR (s:ByteArray):(s.size == 0)=decide (s = ⟨#[]⟩):=by
 by_cases h:s.size=0
 ·rw [ze2 h]; rfl
 ·have:s ≠ ⟨#[]⟩:=fun e => h (by rw [e]; rfl);simp [h,this]
theorem ziS (k s:Int) (null z:Bool) (n:Int) (str:ByteArray) (hs:str.size ≤ 9223372036854775807) (w:World) :
  Calls Tryz.prog 109 #[.agg #[.int .i64 k,.int .i64 s],.bool null,.agg #[.bool z,.int .i64 n,.string str]] w fun e w' => e = .returned (.bool (zee k s null z n str)) ∧ Mods [] w w':=by
 have hM1:=((QM [] w).alloc (.cells #[.int .i64 k,.int .i64 s] 62)).alloc (.cells #[.bool z,.int .i64 n,.string str] 37);have fin:∀ w' b,Mods [] ((w.alloc (.cells #[.int .i64 k,.int .i64 s] 62)).alloc (.cells #[.bool z,.int .i64 n,.string str] 37)) w' → b=zee k s null z n str → Ending.returned (.bool b) = .returned (.bool (zee k s null z n str)) ∧ Mods [] w w':=fun w' b h1 h2 => ⟨by rw [h2],hM1.trans h1⟩;go_enter Tryz.func109, Tryz.ntmps109;go_wp2_with fail;refine (zdg k s _).mono ?_;rintro e w1 ⟨rfl,hM⟩;have c0:w1.cell? ⟨w.heap.size,0,none⟩ = some (.int .i64 k):=hM.cell ((zk0 _ _ _ _ _ _).trans rfl);have d0:w1.cell? ⟨w.heap.size + 1,0,none⟩ = some (.bool z):=hM.cell ((ze3 _ _ _ _ _ _).trans rfl);have d1:w1.cell? ⟨w.heap.size + 1,1,none⟩ = some (.int .i64 n):=hM.cell ((ze3 _ _ _ _ _ _).trans rfl);have d2:w1.cell? ⟨w.heap.size + 1,2,none⟩ = some (.string str):=hM.cell ((ze3 _ _ _ _ _ _).trans rfl);have hfin:=fin w1
 cases ht:zaN k s with
 | false =>go_wp2_with fail;go_ret;exact hfin _ hM (by simp [zee,ht])
 | true =>
  cases z with
  | true =>
   cases null with
   | false =>go_wp2_with fail;go_ret;exact hfin _ hM (by simp [zee])
   | true =>exact yaU
  | false =>
   by_cases h3:k=3
   ·subst h3;go_wp2_with fail;all_goals go_ret
    all_goals refine hfin _ hM ?_
    all_goals unfold zee
    all_goals rw [ht,← zh2]
    all_goals simp_all
   ·exact yaU
def tyA (t:Ty):Value:=.agg #[.int .i64 t.k,.int .i64 t.s]
theorem zmN {t:Ty} (h:t.Right):zaN t.k t.s=true:=by
 obtain ⟨k,s⟩:=t;unfold Ty.Right at h;unfold zaN;simp only at h ⊢;rcases h with ⟨rfl,h1,h2⟩ | ⟨rfl | rfl | rfl,rfl⟩
 ·have e1:decide ((1:Int) ≤ (s:Int))=true:=decide_eq_true AA;have e2:decide ((s:Int) ≤ 9)=true:=decide_eq_true AA;rw [e1,e2]; rfl
 ·rfl
 ·rfl
 ·rfl
theorem zn9 {P:Program} (w:World) (t1 t2 ty:TypeId) (k:IntKind) (m n r:Int) (hr:(m ≤ n ∧ r=n) ∨ (n < m ∧ r=m)):(Builtin.max_ #[t1,t2] ty #[.int k m,.int k n]).run P w = .ok (.int k r) w:=by
 rcases hr with ⟨h1,rfl⟩ | ⟨h1,rfl⟩
 ·by_cases h:m=r
  ·subst h; simp [Builtin.max_,Builtin.max2]
  ·have h2:m < r:=by omega
   simp [Builtin.max_,Builtin.max2,h2]
 ·have h2:¬ r < n:=by omega
  simp [Builtin.max_,Builtin.max2,h2]
theorem zdh (t:Ty) (w:World):Calls Tryz.prog 136 #[tyA t] w fun e w' => e = .returned (.bool t.num) ∧ Mods [] w w':=by
 obtain ⟨k,s⟩:=t;have hM:=(QM [] w).alloc (.cells #[.int .i64 k,.int .i64 s] 62);unfold tyA;by_cases h1:k=1
 ·subst h1;exact ybt
 have z1:((k:Int) == 1)=false:=beq_eq_false_iff_ne.2 AA;by_cases h2:k=2
 ·subst h2;exact ybt
 have z2:((k:Int) == 2)=false:=beq_eq_false_iff_ne.2 AA;have hn:(⟨k,s⟩ : Ty).num=false:=by unfold Ty.num; rw [decide_eq_false h1,decide_eq_false h2]; rfl
 rw [hn];clear h1 h2 hn;exact ybt
theorem ze4 (t:Ty) (ht:t.Right) (w:World):Calls Tryz.prog 112 #[tyA t] w fun e w' => e = .returned (.bool t.num) ∧ Mods [] w w':=by
 have hr:=zmN ht;obtain ⟨k,s⟩:=t;have hM:=(QM [] w).alloc (.cells #[.int .i64 k,.int .i64 s] 62);have hbn:=QN w (.cells #[.int .i64 k,.int .i64 s] 62);have hc:=fun W => zdg (k:Int) (s:Int) W;simp only at hr;rw [hr] at hc;unfold tyA;simp only;obtain ⟨nb,hnb⟩:=EX ((⟨k,s⟩ : Ty).num);rw [hnb];unfold Ty.num at hnb;simp only at hnb;go_enter Tryz.func112, Tryz.ntmps112;go_upto_region 1 with fail;generalize w.alloc (.cells #[.int .i64 k,.int .i64 s] 62)=w1 at *;generalize w.heap.size=b at *;have c0:=za hbn 0;have c1:=za hbn 1;change w1.cell? _=some (.int .i64 k) at c0;change w1.cell? _=some (.int .i64 s) at c1;have hc1:=hc w1;clear hc;by_cases h1:k=1
 ·have z1:((k:Int) == 1)=true:=by rw [h1]; rfl
  obtain rfl:nb=true:=by rw [← hnb,h1]; rfl
  clear hnb h1;exact ybb
 have z1:((k:Int) == 1)=false:=beq_eq_false_iff_ne.2 AA;by_cases h2:k=2
 ·have z2:((k:Int) == 2)=true:=by rw [h2]; rfl
  obtain rfl:nb=true:=by rw [← hnb,h2]; rfl
  clear hnb h2 h1;exact ybb
 have z2:((k:Int) == 2)=false:=beq_eq_false_iff_ne.2 AA;obtain rfl:nb=false:=by rw [← hnb,decide_eq_false h1,decide_eq_false h2]; rfl
 clear h1 h2 hnb;exact ybb
def scE (a b c d:Int):List MapEntry:=[{ key:=.int .u8 43,val:=.int .i64 a,born:=0 },{ key:=.int .u8 45,val:=.int .i64 b,born:=1 },{ key:=.int .u8 42,val:=.int .i64 c,born:=2 },{ key:=.int .u8 47,val:=.int .i64 d,born:=3 }]
theorem zjI (a b c d:Int) (op:Nat) (r:Int) (h:(op=43 ∧ r=a) ∨ (op=45 ∧ r=b) ∨ (op=42 ∧ r=c) ∨ (op=47 ∧ r=d)):∃ i,Instr.findNow (.int .u8) (.int .u8 op) (scE a b c d) 0=some (some (i,.int .i64 r)):=by
 rcases h with ⟨rfl,rfl⟩ | ⟨rfl,rfl⟩ | ⟨rfl,rfl⟩ | ⟨rfl,rfl⟩
 ·exact ⟨0,rfl⟩
 ·exact ⟨1,rfl⟩
 ·exact ⟨2,rfl⟩
 ·exact ⟨3,rfl⟩
theorem zhr (a b c d:Int) (op:Nat) (r:Int) (h:(op=43 ∧ r=a) ∨ (op=45 ∧ r=b) ∨ (op=42 ∧ r=c) ∨ (op=47 ∧ r=d)) (w:World):(Instr.lookup 267 (.map (some w.heap.size)) (.int .u8 op) true).run Tryz.prog (w.alloc (.map (scE a b c d).toArray 4)) = .ok (.tuple #[.int .i64 r,.bool true]) (w.alloc (.map (scE a b c d).toArray 4)):=by obtain ⟨i,hi⟩:=zjI a b c d op r h;have:=zfD (P:= Tryz.prog) 267 5 3 (.int .u8) Tryz.underlying267 Tryz.underlying5 w (scE a b c d).toArray 4 (.int .u8 op) (.int .i64 0) (fun w => by kernel_rfl) AH (some (i,.int .i64 r)) BH;rw [this]; rfl
theorem zA (k s:Int):(#[.int .i64 k,.int .i64 s]:Array Value).all (·.oneCell')=true:=by simp [Value.oneCell']
theorem zk:(Tryz.prog.info? 62).map (·.size)=some 2:=by kernel_rfl
def arithA (a b:Ty) (op:Nat) (e:Ending):Prop:=e = .returned (match zb7 (UInt8.ofNat op) a b with | none => .tuple #[tyA tyNone,.bool false] | some t => .tuple #[tyA t,.bool true])
def zen (na nb:Bool) (sc:Nat) (d:Bool) (bs:Nat) (w5:World) (t:Value) (wx:World):Prop:=∃ g:Bool,t = .bool g ∧ (g=false ↔ (na=true ∧ nb=true ∧ sc ≤ 9 ∧ ¬ (d=true ∧ 0 < bs))) ∧ Mods [] w5 wx
theorem zk1 (w:World) (op:Nat) (hop:op=43 ∨ op=45 ∨ op=42 ∨ op=47) (a b:Ty) (ha:a.Right) (hb:b.Right) :
  Calls Tryz.prog 108 #[.int .u8 op,tyA a,tyA b] w fun e w' => arithA a b op e ∧ Mods [] w w':=by
 have hA:=fun W => ze4 a ha W;have hB:=fun W => ze4 b hb W;have has:a.s ≤ 9:=by unfold Ty.Right at ha; omega
 have hbs:b.s ≤ 9:=by unfold Ty.Right at hb; omega
 obtain ⟨sc,hsc,hcase⟩ : ∃ sc:Nat,scaleA (UInt8.ofNat op) a b=some sc ∧ ((op=43 ∧ (sc:Int)=(max a.s b.s:Nat)) ∨ (op=45 ∧ (sc:Int)=(max a.s b.s:Nat)) ∨ (op=42 ∧ (sc:Int)=(a.s:Int) + b.s) ∨ (op=47 ∧ (sc:Int)=a.s)):=by
  rcases hop with rfl | rfl | rfl | rfl
  ·exact ⟨_,rfl,.inl ⟨rfl,rfl⟩⟩
  ·exact ⟨_,rfl,.inr (.inl ⟨rfl,rfl⟩)⟩
  ·exact ⟨a.s + b.s,rfl,.inr (.inr (.inl ⟨rfl,by omega⟩))⟩
  ·exact ⟨a.s,rfl,.inr (.inr (.inr ⟨rfl,rfl⟩))⟩
 obtain ⟨d,hd⟩:=EX (((op:Int) == 47));have hd2:UInt8.ofNat op=47 ↔ d=true:=by rw [← hd];rcases hop with rfl | rfl | rfl | rfl <;> decide
 have hop2:op < 256:=by omega
 have hRR:(match zb7 (UInt8.ofNat op) a b with | none => Value.tuple #[tyA tyNone,.bool false] | some t => .tuple #[tyA t,.bool true])=if a.num=true ∧ b.num=true ∧ sc ≤ 9 ∧ ¬ (d=true ∧ 0 < b.s) then (if sc=0 then .tuple #[tyA tyInt,.bool true] else .tuple #[tyA ⟨2,sc⟩,.bool true]) else .tuple #[tyA tyNone,.bool false]:=by
  unfold zb7;rw [hsc];simp only [hd2];split
  ·rename_i h
   split at h
   ·split at h <;> cases h
   ·rename_i hn; rw [if_neg hn]
  ·rename_i t h
   split at h
   ·rename_i hy
    rw [if_pos hy];split at h
    ·rename_i h0; cases h; rw [if_pos h0]
    ·rename_i h0; cases h; rw [if_neg h0]
   ·cases h
 have hmax:=fun W => zn9 (P:= Tryz.prog) W 3 3 3 .i64 a.s b.s ((max a.s b.s:Nat):Int) AA;have hi:=fun (w:World) (es:Array MapEntry) (c:Nat) (k:Int) (v:Value) => zZ (P:= Tryz.prog) 267 5 3 (.int .u8) Tryz.underlying267 Tryz.underlying5 w es c (.int .u8 k) v AH;have hmm:=@run_makeMap Tryz.prog;have i1:=fun w => hi w #[] 0 43 (.int .i64 (max a.s b.s:Nat)) rfl;have i2:=fun w => hi w ((scE (max a.s b.s:Nat) (max a.s b.s:Nat) ((a.s:Int) + b.s) a.s).take 1).toArray 1 45 (.int .i64 (max a.s b.s:Nat)) rfl;have i3:=fun w => hi w ((scE (max a.s b.s:Nat) (max a.s b.s:Nat) ((a.s:Int) + b.s) a.s).take 2).toArray 2 42 (.int .i64 ((a.s:Int) + b.s)) rfl;have i4:=fun w => hi w ((scE (max a.s b.s:Nat) (max a.s b.s:Nat) ((a.s:Int) + b.s) a.s).take 3).toArray 3 47 (.int .i64 a.s) rfl;have hl:=fun W => zhr (max a.s b.s:Nat) (max a.s b.s:Nat) ((a.s:Int) + b.s) a.s op sc hcase W;obtain ⟨mx,hmx⟩:=EX (((max a.s b.s:Nat):Int));rw [hmx] at hmax i1 i2 i3 i4;simp only [hmx] at hl;simp [scE] at i1 i2 i3 i4 hl;have HRR:=QH (AI hRR (AI hA hB));have hsc9:sc ≤ 18:=by omega
 clear hi hRR hcase hmx hsc hd2 hop hA hB;unfold arithA;rw [HRR.out.1];obtain ⟨na,hna⟩:=EX (a.num);obtain ⟨nb,hnb⟩:=EX (b.num);rw [hna,hnb] at HRR ⊢;have HA:=QH HRR.out.2.1;have HB:=QH HRR.out.2.2;clear HRR ha hb hna hnb;obtain ⟨RV,hRV⟩:=EX ((if na=true ∧ nb=true ∧ sc ≤ 9 ∧ ¬ (d=true ∧ 0 < b.s) then (if sc=0 then Value.tuple #[tyA tyInt,.bool true] else .tuple #[tyA ⟨2,sc⟩,.bool true]) else .tuple #[tyA tyNone,.bool false]));rw [hRV];have HRV:=QH hRV;clear hRV;unfold tyA at HA HB ⊢;go_enter Tryz.func108, Tryz.ntmps108;have hM1:=(QM [] w).alloc (.cells #[.int .i64 a.k,.int .i64 a.s] 62);have hM2:=(QM [] (w.alloc (.cells #[.int .i64 a.k,.int .i64 a.s] 62))).alloc (.cells #[.int .i64 b.k,.int .i64 b.s] 62);have hM3:=(QM [] ((w.alloc (.cells #[.int .i64 a.k,.int .i64 a.s] 62)).alloc (.cells #[.int .i64 b.k,.int .i64 b.s] 62))).alloc (.cells #[.int .i64 0,.int .i64 0] 62);have r1:=hM3.heap (hM2.heap (QN w (.cells #[.int .i64 a.k,.int .i64 a.s] 62))) AB;have r2:=hM3.heap (QN (w.alloc (.cells #[.int .i64 a.k,.int .i64 a.s] 62)) (.cells #[.int .i64 b.k,.int .i64 b.s] 62)) AB;have r3:=QN ((w.alloc (.cells #[.int .i64 a.k,.int .i64 a.s] 62)).alloc (.cells #[.int .i64 b.k,.int .i64 b.s] 62)) (.cells #[.int .i64 0,.int .i64 0] 62);rw [zl] at r2 r3;rw [zl] at r3;have hMw:=(hM1.trans hM2).trans hM3;go_upto_region 1 with fail;generalize ((w.alloc (.cells #[.int .i64 a.k,.int .i64 a.s] 62)).alloc (.cells #[.int .i64 b.k,.int .i64 b.s] 62)).alloc (.cells #[.int .i64 0,.int .i64 0] 62)=w4 at *;clear hM1 hM2 hM3;obtain ⟨ab,hab⟩:=EX (w.heap.size);obtain ⟨bb,hbb⟩:=EX (ab + 1);obtain ⟨cb,hcb⟩:=EX (bb + 1);rw [hab] at r1 r2 r3;rw [hbb] at r2 r3;rw [hcb] at r3;rw [hab,hbb,hcb];have HBB:=QH (AI hab (AI hbb hcb));clear hab hbb hcb;have a0:=za r1 0;have a1:=za r1 1;have b0:=za r2 0;have b1:=za r2 1;change w4.cell? _=some (.int .i64 a.k) at a0;change w4.cell? _=some (.int .i64 a.s) at a1;change w4.cell? _=some (.int .i64 b.k) at b0;change w4.cell? _=some (.int .i64 b.s) at b1;have f1:∀ (es:Array MapEntry) (c:Nat),(w4.alloc (.map es c)).cell? ⟨ab,1,none⟩ = some (.int .i64 a.s):=fun es c => ((QM [] w4).alloc (.map es c)).cell a1;have f2:∀ (es:Array MapEntry) (c:Nat),(w4.alloc (.map es c)).cell? ⟨bb,1,none⟩ = some (.int .i64 b.s):=fun es c => ((QM [] w4).alloc (.map es c)).cell b1;go_upto_region 2 with fail;clear i1 i2 i3 i4 hmax hmm f1 f2;go_upto_region 3 with fail;clear hl;have hMm:=(QM [] w4).alloc (.map #[{ key:=.int .u8 43,val:=.int .i64 mx,born:=0 },{ key:=.int .u8 45,val:=.int .i64 mx,born:=1 },{ key:=.int .u8 42,val:=.int .i64 ((a.s:Int) + b.s),born:=2 },{ key:=.int .u8 47,val:=.int .i64 a.s,born:=3 }] 4);have x0:=hMm.cell a0;have x1:=hMm.cell a1;have y0:=hMm.cell b0;have y1:=hMm.cell b1;have r5:=hMm.heap r3;have hMw5:=hMw.trans hMm;generalize w4.alloc (.map #[{ key:=.int .u8 43,val:=.int .i64 mx,born:=0 },{ key:=.int .u8 45,val:=.int .i64 mx,born:=1 },{ key:=.int .u8 42,val:=.int .i64 ((a.s:Int) + b.s),born:=2 },{ key:=.int .u8 47,val:=.int .i64 a.s,born:=3 }] 4)=w5 at *;generalize w4.heap.size=mb at *;clear hMm a0 a1 b0 b1 r1 r2 r3 hMw;have hA:=HA.out w5;have HB5:=HB.out;go_cut [60] from 36 to 59 (fun t60 wx => zen na nb sc d b.s w5 t60 wx)
 case first =>
  cases na with
  | false =>
   have hfin:∀ wx,Mods [] w5 wx → zen false nb sc d b.s w5 (.bool true) wx:=fun wx h => ⟨true,rfl,by simp,h⟩;have HFIN:=QH hfin;clear hfin HB5;go_wp2_with fail;(with_reducible refine hA.mono ?_);rintro e w6 ⟨rfl,hM6⟩;clear hA;go_wp2_with fail
   go_meet
   exact HFIN.out w6 hM6
  | true =>
   cases nb with
   | false =>have hfin:∀ wx,Mods [] w5 wx → zen true false sc d b.s w5 (.bool true) wx:=fun wx h => ⟨true,rfl,by simp,h⟩;have HFIN:=QH hfin;have HB5:=QH HB5;have gBr:=QH trivial;exact ydt
   | true =>
    have HB5:=QH HB5;have hs:9 < sc ∨ (¬ 9 < sc ∧ d=false) ∨ (¬ 9 < sc ∧ d=true ∧ 0 < b.s) ∨ (¬ 9 < sc ∧ d=true ∧ ¬ 0 < b.s):=by cases d <;> simp <;> omega
    have hfin:∀ g wx,(g=false ↔ (sc ≤ 9 ∧ ¬ (d=true ∧ 0 < b.s))) → Mods [] w5 wx → zen true true sc d b.s w5 (.bool g) wx:=fun g wx h1 h => ⟨g,rfl,by rw [h1]; simp,h⟩;have HFIN:=QH hfin;have gBs:=QH trivial;exact ydt
 case rest =>
 obtain ⟨g,rfl,hg,hM6⟩:=hcut;generalize wc=w6 at *;have r6:=hM6.heap r5;have hMw6:=hMw5.trans hM6;have HG:=QH hg;have HR6:=QH (AI r6 hMw6);clear hg hA HB5 x0 x1 y0 y1 r5 hM6 hMw5 r6 hMw6
 cases g with
 | true =>
  have hfin:RV = .tuple #[.agg #[.int .i64 0,.int .i64 0],.bool false]:=by rw [← HRV.out,if_neg (fun h => by have:=HG.out.2 h; cases this)]; rfl
  have HFIN:=QH (congrArg Ending.returned hfin).symm;clear hfin;go_wp2_with (refine wpList_store_row rfl 62 (.tmp 6) (.tmp 61) rfl cb #[.int .i64 0,.int .i64 0] rfl rfl 62 _ HR6.out.1 zk rfl (zA 0 0) ?_);refine bodyPost_ret (zg rfl _ _ cb 62 #[.int .i64 0,.int .i64 0] (0,0) _ rfl (zi _ HR6.out.1) Tryz.underlying62 rfl zk _ rfl) rfl ?_;exact ybX
 | false =>
  have hfin:=HG.out.1 rfl;by_cases h0:sc=0
  ·have hz:((sc:Int) == 0)=true:=by rw [h0]; rfl
   have hfin:RV = .tuple #[.agg #[.int .i64 1,.int .i64 0],.bool true]:=by rw [← HRV.out,if_pos hfin,if_pos h0]; rfl
   have HFIN:=QH (congrArg Ending.returned hfin).symm;clear hfin h0;go_wp2_with (refine wpList_store_row rfl 62 (.tmp 6) (.tmp 64) rfl cb #[.int .i64 1,.int .i64 0] rfl rfl 62 _ HR6.out.1 zk rfl (zA 1 0) ?_);refine bodyPost_ret (zg rfl _ _ cb 62 #[.int .i64 1,.int .i64 0] (0,0) _ rfl (zi _ HR6.out.1) Tryz.underlying62 rfl zk _ rfl) rfl ?_;exact ybX
  ·have hz:((sc:Int) == 0)=false:=beq_eq_false_iff_ne.2 AA;have hfin:RV = .tuple #[.agg #[.int .i64 2,.int .i64 sc],.bool true]:=by
    rw [← HRV.out,if_pos hfin,if_neg h0]; rfl
   have HFIN:=QH (congrArg Ending.returned hfin).symm;clear hfin h0;go_wp2_with (refine wpList_store_row rfl 62 (.tmp 6) (.tmp 66) rfl cb #[.int .i64 2,.int .i64 sc] rfl rfl 62 _ HR6.out.1 zk rfl (zA 2 sc) ?_);refine bodyPost_ret (zg rfl _ _ cb 62 #[.int .i64 2,.int .i64 sc] (0,0) _ rfl (zi _ HR6.out.1) Tryz.underlying62 rfl zk _ rfl) rfl ?_;exact ybX
end Go.Proofs.YtebljciefhfgbaaGreatDoor
