/-
  parse.Show, walked: a text, a bool, nothing, a column. No condition.
-/
import Derived.Test.YtgdpaieechgahaaGreatDoorQ17
import Derived.Test.YtgdpaieechgahaaGreatDoorQ13
import Derived.Test.YtgdpaieechgahaaGreatDoorQ01
import Derived.Test.YtgdpaieechgahaaGreatDoorQ00
import Derived.BigQuiet
import Derived.Test.YtgdpaieechgahaaGreatDoorQ05
namespace Go.Proofs.YtgdpaieechgahaaGreatDoor
open Go.RowKit
set_option linter.unusedVariables false
theorem cat3 (a b c:Bs):(⟨a.toArray⟩ : ByteArray) ++ ⟨b.toArray⟩ ++ ⟨c.toArray⟩ = ⟨(a ++ b ++ c).toArray⟩:=by
 apply ByteArray.ext; apply Array.toList_inj.1; simp [ByteArray.data_append]
open Go.RowKit
set_option linter.unusedVariables false
def strsV (l:List Bs):List Value:=l.map fun x => .string ⟨x.toArray⟩
theorem zf3 (l:List Bs) (x:Bs):strsV (l ++ [x])=strsV l ++ [.string ⟨x.toArray⟩]:=by simp [strsV]
theorem zhe {x l:Bs} (h:¬ x=l):(x == l)=false:=by rw [beq_eq_false_iff_ne]; exact h
theorem ziy (w:World) (l:List Bs) (sep:Bs) (g cap n:Nat) (hn:l.length=n) (hl:l.length ≤ 140737488355328) (hlen:(Lib.join l sep).length ≤ 140737488355328) (ho:w.ownsRow 0 9 1 (.slice (some ⟨g,0,none⟩) n cap) n (strsV l)) :
  Calls Tryz.prog 31 #[.slice (some ⟨g,0,none⟩) n cap,.string ⟨sep.toArray⟩] w fun e w' => e = .returned (.string ⟨(Lib.join l sep).toArray⟩) ∧ Mods [] w w':=by
 have hoo:=zS ho
 have e1:(l.map fun x => (⟨x.toArray⟩ : ByteArray)).length=n:=by simpa using hn
 have e2:(l.map fun x => (⟨x.toArray⟩ : ByteArray)).map (·.data.toList)=l:=by simp [Function.comp_def]
 have hj:= Tryz.strings_Join g 0 cap (l.map fun x => ⟨x.toArray⟩) ⟨sep.toArray⟩ w (by
  intro j x hx
  rw [Nat.zero_add]
  refine hoo.2.2 j _ ?_
  unfold strsV
  rw [List.getElem?_map] at hx ⊢
  cases hl2:l[j]? with
  | none => rw [hl2] at hx; cases hx
  | some y => rw [hl2] at hx; cases hx; rfl) hoo.1 (by rw [e1]; omega) (by rw [e1]; omega) (by rw [e2]; simpa using hlen)
 rw [e1,e2] at hj
 exact hj.mono fun e w' ⟨h1,h2⟩ => ⟨by simpa using h1,Mods.of_below h2 (Nat.le_refl _) []⟩
open Go.RowKit
set_option linter.unusedVariables false
theorem Pow.later {w w':World} (h:Pow w) (hM:Mods [] w w'):Pow w':=
 Joins.tab_stays (g:= 5) (by kernel_rfl) h (hM.below _ (Nat.le_refl _) (by simp)) (Nat.le_refl _)
open Go.RowKit
set_option linter.unusedVariables false
theorem zbE (w:World) (hT:Tabs w) (l:Bs) (q:QueryT) (h:parseV l = .good q) (hs:l.length ≤ 9223372036854775807) :
  Calls Tryz.prog 10 #[.string ⟨l.toArray⟩] w fun e w' => ∃ qb,e = .returned (.tuple #[PtrV qb,.int .i64 0,.int .i64 0]) ∧ Mods [] w w' ∧ QueryAt w' [] qb q ∧ QueryOk q:=
 (zef w hT ⟨l.toArray⟩ hs).mono fun e w' ⟨h1,h2⟩ => by
  have e1:(⟨l.toArray⟩ : ByteArray).data.toList=l:=by simp
  rw [e1,h] at h2
  obtain ⟨h3,qb,h4,-,h5⟩:=h2
  exact ⟨qb,h4,h1,h5,h3⟩
theorem zhf (w:World) (hT:Tabs w) (l:Bs) (p k:Nat) (h:parseV l = .bad p k) (hs:l.length ≤ 9223372036854775807) :
  Calls Tryz.prog 10 #[.string ⟨l.toArray⟩] w fun e w' => e = .returned (.tuple #[.pointer none,.int .i64 p,.int .i64 k]) ∧ Mods [] w w':=
 (zef w hT ⟨l.toArray⟩ hs).mono fun e w' ⟨h1,h2⟩ => by
  have e1:(⟨l.toArray⟩ : ByteArray).data.toList=l:=by simp
  rw [e1,h] at h2
  exact ⟨h2,h1⟩
def Tabs2 (w:World):Prop:=Tabs w ∧ Pow w
theorem Tabs2.later {w w':World} (h:Tabs2 w) (hM:Mods [] w w'):Tabs2 w':=⟨h.1.mods hM,h.2.later hM⟩
open Go.ChangeShapes Go.WideShapes Go.ChangeAt Go.RowKit
set_option linter.unusedVariables false
theorem ziz:(Rows.laid_internal_strconv_uint64pow10:DataW Unit)=Lib.tabData .u64 Lib.pow10Tab:=by kernel_rfl
theorem ziA {W:World} (hL:laidMetH Tryz.prog laidL W):Tabs2 W:=by
 refine ⟨zi7 hL,?_⟩
 rw [MakeChecks.laidMetH_plain _ _ _ (by kernel_rfl)] at hL
 have h2:=hL.tail.tail
 exact Lib.tabIs_of_head (rest:=_) (g:= 5) (t:= 235) (e:= 144) (n:=20) (by kernel_rfl) (by kernel_rfl) Tryz.underlying235 Tryz.underlying144 (by kernel_rfl) (by kernel_rfl) (by rw [← ziz]; exact h2)
open Go.RowKit
set_option linter.unusedVariables false
theorem zeg {x l:Bs} (h:¬ x=l):(x == l)=false:=by rw [beq_eq_false_iff_ne]; exact h
structure Ty where
 k:Nat
 s:Nat
deriving DecidableEq
def tyInt:Ty:=⟨1,0⟩
def tyBytes:Ty:=⟨3,0⟩
def tyBool:Ty:=⟨4,0⟩
def tyNone:Ty:=⟨0,0⟩
def Ty.num (t:Ty):Bool:=decide (t.k=1) || decide (t.k=2)
def Ty.Right (t:Ty):Prop:=(t.k=2 ∧ 1 ≤ t.s ∧ t.s ≤ 9) ∨ ((t.k=1 ∨ t.k=3 ∨ t.k=4) ∧ t.s=0)
def scaleA (op:UInt8) (a b:Ty):Option Nat:=if op=43 ∨ op=45 then some (max a.s b.s) else if op=42 then some (a.s + b.s) else if op=47 then some a.s else none
def arithT (op:UInt8) (a b:Ty):Option Ty:=
 match scaleA op a b with
 | none => none
 | some sc => if a.num=true ∧ b.num=true ∧ sc ≤ 9 ∧ ¬ (op=47 ∧ 0 < b.s) then (if sc=0 then some tyInt else some ⟨2,sc⟩) else none
def oSum:Bs:=[115,117,109]
def oMin:Bs:=[109,105,110]
def oMax:Bs:=[109,97,120]
def oAnd:Bs:=[97,110,100]
def oOr:Bs:=[111,114]
def oValue:Bs:=[118,97,108,117,101]
def oPlus:Bs:=[43]
def oMinus:Bs:=[45]
def oTimes:Bs:=[42]
def oOver:Bs:=[47]
def aggOps:List Bs:=[oAll,oCount,oSum,oMin,oMax]
def aggOpB (op:Bs):Bool:=aggOps.contains op
def rels:List Bs:=[[61],[60,62],[60],[60,61],[62],[62,61]]
def ops0:List Bs:=[oNumber,oText,oBool,oNull,oColumn,oAll]
def ops1:List Bs:=[oNeg,oNot,oIs,oIsNot,oCount,oSum,oMin,oMax]
def ops2:List Bs:=[oOr,oAnd,[61],[60,62],[60],[60,61],[62],[62,61],[43],[45],[42],[47]]
def typedV (op:Bs) (a b:Ty):Option Ty:=
 if op=oAll ∨ op=oCount then some tyInt
 else if op=oNeg ∨ op=oSum then (if a.num=true then some a else none)
 else if op=oMin ∨ op=oMax then some a
 else if op=oIs ∨ op=oIsNot then some tyBool
 else if op=oNot then (if a=tyBool then some tyBool else none)
 else if op=oAnd ∨ op=oOr then (if a=tyBool ∧ b=tyBool then some tyBool else none)
 else if op=oPlus ∨ op=oMinus ∨ op=oTimes ∨ op=oOver then arithT (op.headD 0) a b
 else if a=b ∨ (a.num=true ∧ b.num=true) then some tyBool else none
structure NHd where
 op:Bs
 t:Ty
 col:Nat:=0
 null:Bool:=false
 n:Nat:=0
 s:Bs:=[]
deriving DecidableEq
inductive NT where
 | leaf (h:NHd)
 | un (h:NHd) (a:NT)
 | bin (h:NHd) (a b:NT)
deriving DecidableEq
def NT.hd:NT → NHd
 | .leaf h => h
 | .un h _ => h
 | .bin h _ _ => h
def hasN:NT → Bool
 | .leaf h => aggOpB h.op
 | .un h a => aggOpB h.op || hasN a
 | .bin h a b => aggOpB h.op || (hasN a || hasN b)
structure EC where
 table:Bs
 name:Bs
 t:Ty
deriving DecidableEq
def colsFrom (table name:Bs):Nat → List EC → List Nat
 | _,[] => []
 | i,e :: l => if (table=[] ∨ e.table=table) ∧ e.name=name then i :: colsFrom table name (i + 1) l else colsFrom table name (i + 1) l
def colsOf (env:List EC) (table name:Bs):List Nat:=colsFrom table name 0 env
inductive Chk (α:Type) where
 | ok (a:α)
 | bad (pos e:Nat)
def Chk.bind {α β:Type} (x:Chk α) (f:α → Chk β):Chk β:=match x with | .ok a => f a | .bad p e => .bad p e
def colQ (env:List EC) (h:Hd):Chk Nat:=
 match colsOf env h.table h.name with
 | [] => .bad h.pos 13
 | [k] => .ok k
 | _ => .bad h.pos 4
def constQ (h:Hd):Option NHd:=
 if h.op=oNumber then some { op:=oValue,t:=if 0 < h.scale then ⟨2,h.scale⟩ else tyInt,n:=h.n }
 else if h.op=oText then some { op:=oValue,t:=tyBytes,s:=h.s }
 else if h.op=oNull then some { op:=oValue,t:=tyBool,null:=true }
 else if h.op=oBool then some { op:=oValue,t:=tyBool,n:=h.n }
 else none
def finQ (d:Nat) (h:Hd) (a b:Ty) (mk:NHd → NT):Chk NT:=
 match typedV h.op a b with
 | none => .bad h.pos 4
 | some t => if aggOpB h.op=true ∧ 0 < d then .bad h.pos 4 else .ok (mk { op:=h.op,t:=t })
def deeper (d:Nat) (h:Hd):Nat:=if aggOpB h.op=true then d + 1 else d
def exprQ (env:List EC):Tree → Nat → Chk NT
 | .leaf h,d =>
  match constQ h with
  | some n => .ok (.leaf n)
  | none => if h.op=oColumn then (colQ env h).bind (fun k => .ok (.leaf { op:=oColumn,t:=(env.getD k ⟨[],[],tyNone⟩).t,col:=k })) else finQ d h tyNone tyNone .leaf
 | .un h a,d => (exprQ env a (deeper d h)).bind fun x => finQ d h x.hd.t tyNone (fun n => .un n x)
 | .bin h a b,d => (exprQ env a (deeper d h)).bind fun x => (exprQ env b (deeper d h)).bind fun y => finQ d h x.hd.t y.hd.t (fun n => .bin n x y)
def formedH (h:Hd) (k:Nat):Bool:=(if ops0.contains h.op=true then decide (k=0) else if ops1.contains h.op=true then decide (k=1) else if ops2.contains h.op=true then decide (k=2) else false) && !(decide (h.op=oBool) && decide (1 < h.n)) && decide (h.scale ≤ 9) && decide (h.s.length ≤ 200)
def formedT:Tree → Bool
 | .leaf h => formedH h 0
 | .un h a => formedH h 1 && formedT a
 | .bin h a b => formedH h 2 && (formedT a && formedT b)
def Tree.hd:Tree → Hd
 | .leaf h => h
 | .un h _ => h
 | .bin h _ _ => h
def condQ (env:List EC):Option Tree → Chk (Option NT)
 | none => .ok none
 | some t => (exprQ env t 0).bind fun n => if n.hd.t ≠ tyBool ∨ hasN n=true then .bad t.hd.pos 4 else .ok (some n)
structure TblT where
 name:Bs
 cols:List (Bs × Ty)
def TblT.env (t:TblT):List EC:=t.cols.map fun c => ⟨t.name,c.1,c.2⟩
def tblFind (l:List TblT) (name:Bs):Option Nat:=l.findIdx? (fun t => t.name == name)
def tableQ (l:List TblT) (name:Bs) (pos:Nat) (but:Option Nat):Chk Nat:=
 match tblFind l name with
 | none => .bad pos 13
 | some k => if but=some k then .bad pos 4 else .ok k
def envAt (l:List TblT) (k:Nat):List EC:=(l.getD k ⟨[],[]⟩).env
structure KeyC where
 item:Nat
 desc:Bool
deriving DecidableEq
structure CQ where
 left:Nat
 right:Option Nat
 on:Option NT
 whr:Option NT
 grouped:Bool
 group:List Nat
 items:List NT
 names:List Bs
 order:List KeyC
 limit:Int
 offset:Int
def groupQ (env:List EC):List Tree → Chk (List Nat)
 | [] => .ok []
 | g :: l => (colQ env g.hd).bind fun k => (groupQ env l).bind fun ks => .ok (k :: ks)
def nameQ (env:List EC) (k:Nat) (i:ItemT) (n:NT):Bs:=if i.name ≠ [] then i.name else if n.hd.op=oColumn then (env.getD n.hd.col ⟨[],[],tyNone⟩).name else [99] ++ Lib.itoa ((k:Int) + 1)
def itemsQ (env:List EC):Nat → List ItemT → Chk (List (NT × Bs))
 | _,[] => .ok []
 | k,i :: l => if k=64 then .bad i.e.hd.pos 4 else (exprQ env i.e 0).bind fun n => (itemsQ env (k + 1) l).bind fun r => .ok ((n,nameQ env k i n) :: r)
def fitsQ (group:List Nat):List ItemT → List NT → Chk Unit
 | i :: l,n :: ns => if aggOpB n.hd.op=false ∧ (n.hd.op ≠ oColumn ∨ n.hd.col ∉ group) then .bad i.e.hd.pos 4 else fitsQ group l ns
 | _,_ => .ok ()
def starN (env:List EC):List (NT × Bs):=(List.range env.length).map fun k => (.leaf { op:=oColumn,t:=(env.getD k ⟨[],[],tyNone⟩).t,col:=k },(env.getD k ⟨[],[],tyNone⟩).name)
def keyQ (items:List NT) (names:List Bs) (k:KeyT):Chk KeyC:=
 let n:Int:=if k.name ≠ [] then (match names.findIdx? (· == k.name) with | some j => (j:Int) | none => -1) else k.item - 1
 if n < 0 ∨ (items.length:Int) ≤ n then .bad k.pos 13 else .ok ⟨n.toNat,k.desc⟩
def orderQ (items:List NT) (names:List Bs):List KeyT → Chk (List KeyC)
 | [] => .ok []
 | k :: l => (keyQ items names k).bind fun x => (orderQ items names l).bind fun r => .ok (x :: r)
def allQ (q:QueryT) (env:List EC) (group:List Nat):Chk (List (NT × Bs) × Bool):=
 (itemsQ env 0 q.items).bind fun l =>
  let grouped:=decide (0 < q.group.length) || l.any (fun x => hasN x.1)
  if grouped=true then (if q.star=true then .bad 0 4 else (fitsQ group q.items (l.map (·.1))).bind fun _ => .ok (l,true))
  else .ok ((if q.star=true then starN env else []) ++ l,false)
def checkQ (tb:List TblT) (q:QueryT):Chk CQ:=
 (tableQ tb q.src q.srcAt none).bind fun left =>
 (if q.join=[] then .ok none else (tableQ tb q.join q.joinAt (some left)).bind fun k => .ok (some k)).bind fun (right:Option Nat) =>
 let env:=envAt tb left ++ (match right with | none => [] | some k => envAt tb k)
 (condQ env q.on).bind fun on =>
 (condQ env q.whr).bind fun whr =>
 (groupQ env q.group).bind fun group =>
 (allQ q env group).bind fun x =>
 (orderQ (x.1.map (·.1)) (x.1.map (·.2)) q.order).bind fun order =>
 .ok ⟨left,right,on,whr,x.2,group,x.1.map (·.1),x.1.map (·.2),order,q.limit,q.offset⟩
open Go.RowKit
set_option linter.unusedVariables false
structure Later (w:World) where
 val:World
 mods:Mods [] w val
instance {w:World}:Nonempty (Later w):=⟨⟨w,Mods.refl [] w⟩⟩
theorem zbP {P:Program} {id:Nat} {Q:Exit → Act → World → Prop} {a:Act} {w:World} {l:List Oper} (hm:P.follows .mixedOrders=true) (hB:Region.lexB .any l.toArray=true)
  (h:wpQuiet P l.toArray (fun w' => ∃ k:Later w,w'=k.val) (fun a' => ∀ w',(∃ k:Later w,w'=k.val) → Q .normal a' w') l a):(Code.region id l.toArray true).wp P Q a w:=
 wp_region_quiet (C:=fun w' => ∃ k:Later w,w'=k.val) hm hB ⟨⟨w.drew,(Mods.refl [] w).drew⟩,rfl⟩ (by simpa using h)
open Go.RowKit
set_option linter.unusedVariables false
def nameL (l:List UInt8):Bool:=
 if 4096 < l.length then false else
 match lexAll l with
 | .good [t,_] => decide (t = ⟨2,0,l,0,0⟩)
 | _ => false
set_option maxRecDepth 100000 in
set_option maxHeartbeats 1000000 in
theorem zdA (w:World) (hT:Tabs w) (s:ByteArray) (hs0:s.size ≤ 9223372036854775807) :
  Calls Tryz.prog 110 #[.string s] w fun e w' => e = .returned (.bool (nameL s.data.toList)) ∧ Mods [] w w':=by
 have hA:=zgN w hT s (by omega)
 have hsl:s.data.toList.length=s.size:=rfl
 go_enter Tryz.func110, Tryz.ntmps110
 by_cases hbig:4096 < s.size
 ·have e:nameL s.data.toList=false:=by unfold nameL; rw [if_pos (by omega)]
  unfold AllPost at hA
  simp only [if_pos hbig] at hA
  have HE:=Lib.hid e
  clear hbig e
  go_wp2_with fail
  (with_reducible refine hA.mono ?_)
  rintro e w2 ⟨rfl,hM2⟩
  clear hA
  go_wp2_with fail
  go_ret
  exact ⟨by rw [HE.out]; rfl,hM2⟩
 ·have hn:nameL s.data.toList=(match lexAll s.data.toList with | .good [t,_] => decide (t = ⟨2,0,s.data.toList,0,0⟩) | _ => false):=by unfold nameL; rw [if_neg (by omega)]
  unfold AllPost at hA
  simp only [if_neg hbig] at hA
  cases hl:lexAll s.data.toList with
  | bad p =>
   rw [hl] at hn
   simp only [hl] at hA
   have HE:=Lib.hid hn
   clear hbig hn hl
   go_wp2_with fail
   (with_reducible refine hA.mono ?_)
   rintro e w2 ⟨rfl,hM2⟩
   clear hA
   go_wp2_with fail
   go_ret
   exact ⟨by rw [HE.out]; rfl,hM2⟩
  | good ts =>
   have hne:=zd3 hl
   rw [hl] at hn
   simp only [hl] at hA
   have HE:=Lib.hid hn
   clear hbig hn hl
   go_wp2_with fail
   (with_reducible refine hA.mono ?_)
   rintro e w2 ⟨t1,rfl,hO1⟩
   obtain ⟨g1,cap1,rfl,hA1,hc1⟩:=hO1.at hne
   have hM2:=hO1.1
   clear hA hO1
   by_cases h2:ts.length=2
   ·match ts,h2 with
    | [t,u],_ =>
     obtain ⟨c0,c1,c2,c3,c4⟩:=hA1.tok 0 (by simp)
     simp only [List.getElem_cons_zero] at c0 c1 c2 c3 c4
     clear hA1
     go_wp2_with fail
     all_goals go_ret
     all_goals refine ⟨zar ?_,hM2⟩
     all_goals rw [HE.out]
     all_goals clear c0 c1 c2 c3 c4 HE
     all_goals obtain ⟨k,p,l,n,c⟩:=t
     all_goals simp_all [ByteArray.toList_eq]
     all_goals omega
   ·have h2z:((ts.length:Int) == 2)=false:=by rw [beq_eq_false_iff_ne]; omega
    have hno:nameL s.data.toList=false:=by
     rw [HE.out]
     match ts,h2 with
     | [],_ => rfl
     | [_],_ => rfl
     | [_,_],h => exact absurd rfl h
     | _ :: _ :: _ :: _,_ => rfl
    have HNO:=Lib.hid hno
    clear hno HE
    go_wp2_with fail
    go_ret
    exact ⟨by rw [HNO.out]; rfl,hM2⟩
open Go.RowKit
set_option linter.unusedVariables false
def tyRight (k s:Int):Bool:=(k == 2 && (decide (1 ≤ s) && decide (s ≤ 9))) || ((k == 1 || k == 3 || k == 4) && s == 0)
def tyV (k s:Int):Value:=.agg #[.int .i64 k,.int .i64 s]
def valV (z:Bool) (n:Int) (s:ByteArray):Value:=.agg #[.bool z,.int .i64 n,.string s]
set_option maxRecDepth 100000 in
theorem za8 (k s:Int) (w:World):Calls Tryz.prog 82 #[.agg #[.int .i64 k,.int .i64 s]] w fun e w' => e = .returned (.bool (tyRight k s)) ∧ Mods [] w w':=by
 have hM:=(Mods.refl [] w).alloc (.cells #[.int .i64 k,.int .i64 s] 26)
 go_enter Tryz.func82, Tryz.ntmps82
 by_cases h2:k=2
 ·subst h2
  go_wp2_with fail
  all_goals go_ret
  all_goals refine ⟨zar ?_,hM⟩
  all_goals simp [tyRight]
  all_goals first | done | omega
 by_cases h1:k=1
 ·subst h1
  go_wp2_with fail
  all_goals go_ret
  all_goals refine ⟨zar ?_,hM⟩
  all_goals simp [tyRight]
  all_goals first | done | omega
 by_cases h3:k=3
 ·subst h3
  go_wp2_with fail
  all_goals go_ret
  all_goals refine ⟨zar ?_,hM⟩
  all_goals simp [tyRight]
  all_goals first | done | omega
 by_cases h4:k=4
 ·subst h4
  go_wp2_with fail
  all_goals go_ret
  all_goals refine ⟨zar ?_,hM⟩
  all_goals simp [tyRight]
  all_goals first | done | omega
 go_wp2_with fail
 all_goals go_ret
 all_goals refine ⟨zar ?_,hM⟩
 all_goals simp [tyRight,h1,h2,h3,h4]
def fitsV (k s:Int) (null z:Bool) (n:Int) (str:ByteArray):Bool:=
 tyRight k s && (if z=true then null && (n == 0 && str.size == 0) else if k=3 then n == 0 && decide (str.size ≤ 200) else str.size == 0 && (k != 4 || n / 2 == 0))
theorem zcu {s:ByteArray} (h:s.size=0):s = ⟨#[]⟩:=by
 obtain ⟨d⟩:=s
 simp [ByteArray.size] at h
 rw [h]
theorem zhg (w:World) (A B:Array Value) (t u:TypeId) (j:Nat):((w.alloc (.cells A t)).alloc (.cells B u)).cell? ⟨w.heap.size,j,none⟩ = A[j]?:=
 za ((Below.heap_alloc (w.alloc (.cells A t)) _ _ (by rw [zk]; omega)).trans (heap_alloc_new w _)) j
theorem zcv (w:World) (A B:Array Value) (t u:TypeId) (j:Nat):((w.alloc (.cells A t)).alloc (.cells B u)).cell? ⟨w.heap.size + 1,j,none⟩ = B[j]?:=by
 have h:=heap_alloc_new (w.alloc (.cells A t)) (.cells B u)
 rw [zk] at h
 exact za h j
theorem zc3 (s:ByteArray):s.toList=[] ↔ s.size=0:=by
 rw [ByteArray.toList_eq]
 show s.data.toList=[] ↔ s.data.size=0
 rw [← Array.length_toList]
 exact List.length_eq_zero_iff.symm
theorem zeI (n:Nat):decide ((n:Int) ≤ 200)=decide (n ≤ 200):=by rw [decide_eq_decide]; omega
theorem zfn (s:ByteArray):(s.size == 0)=decide (s = ⟨#[]⟩):=by
 by_cases h:s.size=0
 ·rw [zcu h]; rfl
 ·have:s ≠ ⟨#[]⟩:=fun e => h (by rw [e]; rfl)
  simp [h,this]
set_option maxRecDepth 100000 in
theorem zfo (k s:Int) (null z:Bool) (n:Int) (str:ByteArray) (hs:str.size ≤ 9223372036854775807) (w:World) :
  Calls Tryz.prog 60 #[.agg #[.int .i64 k,.int .i64 s],.bool null,.agg #[.bool z,.int .i64 n,.string str]] w fun e w' => e = .returned (.bool (fitsV k s null z n str)) ∧ Mods [] w w':=by
 have hM1:=((Mods.refl [] w).alloc (.cells #[.int .i64 k,.int .i64 s] 26)).alloc (.cells #[.bool z,.int .i64 n,.string str] 61)
 have fin:∀ w' b,Mods [] ((w.alloc (.cells #[.int .i64 k,.int .i64 s] 26)).alloc (.cells #[.bool z,.int .i64 n,.string str] 61)) w' → b=fitsV k s null z n str → Ending.returned (.bool b) = .returned (.bool (fitsV k s null z n str)) ∧ Mods [] w w':=fun w' b h1 h2 => ⟨by rw [h2],hM1.trans h1 (by simp)⟩
 go_enter Tryz.func60, Tryz.ntmps60
 go_wp2_with fail
 refine (za8 k s _).mono ?_
 rintro e w1 ⟨rfl,hM⟩
 have c0:w1.cell? ⟨w.heap.size,0,none⟩ = some (.int .i64 k):=hM.cell ((zhg _ _ _ _ _ _).trans rfl) (by simp)
 have d0:w1.cell? ⟨w.heap.size + 1,0,none⟩ = some (.bool z):=hM.cell ((zcv _ _ _ _ _ _).trans rfl) (by simp)
 have d1:w1.cell? ⟨w.heap.size + 1,1,none⟩ = some (.int .i64 n):=hM.cell ((zcv _ _ _ _ _ _).trans rfl) (by simp)
 have d2:w1.cell? ⟨w.heap.size + 1,2,none⟩ = some (.string str):=hM.cell ((zcv _ _ _ _ _ _).trans rfl) (by simp)
 have hfin:=fin w1
 cases ht:tyRight k s with
 | false =>
  go_wp2_with fail
  go_ret
  exact hfin _ hM (by simp [fitsV,ht])
 | true =>
  cases z with
  | true =>
   cases null with
   | false =>
    go_wp2_with fail
    go_ret
    exact hfin _ hM (by simp [fitsV])
   | true =>
    by_cases h0:str.size=0
    ·obtain rfl:=zcu h0
     go_wp2_with fail
     all_goals go_ret
     all_goals refine hfin _ hM ?_
     all_goals unfold fitsV
     all_goals rw [ht,zfn]
     all_goals simp_all
    ·have hne:str ≠ ⟨#[]⟩:=fun h => h0 (by rw [h]; rfl)
     have hnl:¬ str.toList=[]:=fun h => h0 ((zc3 str).1 h)
     go_wp2_with fail
     all_goals go_ret
     all_goals refine hfin _ hM ?_
     all_goals unfold fitsV
     all_goals rw [ht,zfn]
     all_goals simp_all
  | false =>
   by_cases h3:k=3
   ·subst h3
    go_wp2_with fail
    all_goals go_ret
    all_goals refine hfin _ hM ?_
    all_goals unfold fitsV
    all_goals rw [ht,← zeI]
    all_goals simp_all
   ·by_cases h0:str.size=0
    ·obtain rfl:=zcu h0
     go_wp2_with fail
     all_goals go_ret
     all_goals refine hfin _ hM ?_
     all_goals unfold fitsV
     all_goals rw [ht,zfn]
     all_goals simp_all
    ·have hne:str ≠ ⟨#[]⟩:=fun h => h0 (by rw [h]; rfl)
     have hnl:¬ str.toList=[]:=fun h => h0 ((zc3 str).1 h)
     go_wp2_with fail
     all_goals go_ret
     all_goals refine hfin _ hM ?_
     all_goals unfold fitsV
     all_goals rw [ht,zfn]
     all_goals simp_all
end Go.Proofs.YtgdpaieechgahaaGreatDoor
