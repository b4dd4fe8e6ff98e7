/-
  check.Check, in plain steps; what it hands back. No condition.
-/
import Derived.Test.YtgdpaieechgahaaGreatDoorQ37
set_option linter.unusedVariables false
namespace Go.Proofs.YtgdpaieechgahaaGreatDoor
open Go.RowKit
def joinQ (tb:List TblT) (q:zt) (left:Nat):Chk (Option Nat):=if q.join=[] then .ok none else (zbd tb q.join q.joinAt (some left)).bind fun k => .ok (some k)
def zbS (tb:List TblT) (left:Nat) (right:Option Nat):List EC:=zcC tb left ++ (match right with | none => [] | some k => zcC tb k)
section
variable (tb:List TblT) (q:zt)
def ck6 (left:Nat) (right:Option Nat) (on whr:Option NT) (group:List Nat) (x:List (NT × Bs) × Bool):Chk CQ:=
 (za6 (x.1.map (·.1)) (x.1.map (·.2)) q.order).bind fun order => .ok ⟨left,right,on,whr,x.2,group,x.1.map (·.1),x.1.map (·.2),order,q.limit,q.offset⟩
def ck5 (left:Nat) (right:Option Nat) (on whr:Option NT) (group:List Nat):Chk CQ:=(zem q (zbS tb left right) group).bind fun x => ck6 q left right on whr group x
def ck4 (left:Nat) (right:Option Nat) (on whr:Option NT):Chk CQ:=(zbe (zbS tb left right) q.group).bind fun group => ck5 tb q left right on whr group
def ck3 (left:Nat) (right:Option Nat) (on:Option NT):Chk CQ:=(zbB (zbS tb left right) q.whr).bind fun whr => ck4 tb q left right on whr
def ck2 (left:Nat) (right:Option Nat):Chk CQ:=(zbB (zbS tb left right) q.on).bind fun on => ck3 tb q left right on
def ck1 (left:Nat):Chk CQ:=(joinQ tb q left).bind fun right => ck2 tb q left right
theorem ck0:zao tb q=(zbd tb q.src q.srcAt none).bind fun left => ck1 tb q left:=rfl
end
theorem Chk.bad_of {α β:Type} {x:Chk α} {f:α → Chk β} {y:Chk β} {p k:Nat} (hy:y=x.bind f) (h:x = .bad p k):y = .bad p k:=by rw [hy,h]; rfl
theorem Chk.ok_of {α β:Type} {x:Chk α} {f:α → Chk β} {y:Chk β} {a:α} (hy:y=x.bind f) (h:x = .ok a):y=f a:=by rw [hy,h]; rfl
theorem zeA {tb:List TblT} {name:Bs} {pos:Nat} {but:Option Nat} {p e:Nat} (h:zbd tb name pos but = .bad p e):e ≠ 0:=by
 unfold zbd at h;split at h
 ·cases h; decide
 ·split at h
  ·cases h; decide
  ·cases h
def rightV:Option Nat → Int
 | none => -1
 | some k => (k:Nat)
def NameR:zel Bs:=fun w L cs s => cs=[.string ⟨s.toArray⟩]
def KeyCR:zel KeyC:=fun w L cs k => cs=[.int .i64 (k.item:Nat),.bool k.desc]
def CheckedAt (w:World) (L:List Nat) (cb:Nat) (c:CQ):Prop:=
 cb ∉ L ∧ ∃ von vwh vg its nms vo,CSt w cb c.left (rightV c.right) von vwh c.grouped vg its nms vo c.limit c.offset ∧ OptN w L von c.on ∧ OptN w L vwh c.whr ∧ GroupAt w L vg c.group ∧ ListIn NodR w L its c.items 1 ∧ ListIn NameR w L nms c.names 1 ∧ ListIn KeyCR w L vo c.order 2
def zeo (w:World) (tb:List TblT) (q:zt) (r:Ending) (w':World):Prop:=
 Mods [] w w' ∧ match zao tb q with
  | .bad p k => r = .returned (.tuple #[.pointer none,.int .i64 (p:Nat),.int .i64 (k:Nat)])
  | .ok c => ∃ cb,r = .returned (.tuple #[zh cb,.int .i64 0,.int .i64 0]) ∧ w.heap.size ≤ cb ∧ c.items.length=c.names.length ∧ ∀ L:List Nat,(∀ x ∈ L,x < w.heap.size) → CheckedAt w' L cb c
def QBlk (wB w:World) (rb:Nat) (q:zt):Prop:=
 ∃ lf rt von vwh gr vg its nms ns ss,CSt w rb lf rt von vwh gr vg its nms (.slice none 0 0) q.limit q.offset ∧ Coll wB w its nms ns ss ∧ ns.length=ss.length
def zc0 (wB:World) (sb rb:Nat) (mb:Nat) (tb:List TblT) (q:zt) (w:World):Prop:=
 ∃ cv env p e,e ≠ 0 ∧ ChkA wB w sb rb cv mb p e env ∧ zao tb q = .bad p e ∧ QBlk wB w rb q
structure Good1 (wB w:World) (sb rb mb:Nat) (tb:List TblT) (q:zt) (gr:Bool) (cv:Value) (left:Nat):Prop where
 eq:zao tb q=ck1 tb q left
 tbl:zbd tb q.src q.srcAt none = .ok left
 ch:ChkA wB w sb rb cv mb 0 0 (zcC tb left)
 st:CSt w rb left (-1) (.pointer none) (.pointer none) gr (.slice none 0 0) (.slice none 0 0) (.slice none 0 0) (.slice none 0 0) q.limit q.offset
structure Good2 (wB w:World) (sb rb mb:Nat) (tb:List TblT) (q:zt) (gr:Bool) (cv:Value) (left:Nat) (right:Option Nat):Prop where
 eq:zao tb q=ck2 tb q left right
 env:zbT (zbS tb left right) ∧ (zbS tb left right).length ≤ 1000
 ch:ChkA wB w sb rb cv mb 0 0 (zbS tb left right)
 st:CSt w rb left (rightV right) (.pointer none) (.pointer none) gr (.slice none 0 0) (.slice none 0 0) (.slice none 0 0) (.slice none 0 0) q.limit q.offset
structure Good3 (wB w:World) (sb rb mb:Nat) (tb:List TblT) (q:zt) (gr:Bool) (cv:Value) (left:Nat) (right:Option Nat) (on:Option NT) (von:Value):Prop where
 eq:zao tb q=ck3 tb q left right on
 env:zbT (zbS tb left right) ∧ (zbS tb left right).length ≤ 1000
 ch:ChkA wB w sb rb cv mb 0 0 (zbS tb left right)
 st:CSt w rb left (rightV right) von (.pointer none) gr (.slice none 0 0) (.slice none 0 0) (.slice none 0 0) (.slice none 0 0) q.limit q.offset
 on:∀ L:List Nat,(∀ x ∈ L,x < wB.heap.size) → OptN w L von on
structure Good4 (wB w:World) (sb rb mb:Nat) (tb:List TblT) (q:zt) (gr:Bool) (cv:Value) (left:Nat) (right:Option Nat) (on whr:Option NT) (von vwh:Value):Prop where
 eq:zao tb q=ck4 tb q left right on whr
 env:zbT (zbS tb left right) ∧ (zbS tb left right).length ≤ 1000
 ch:ChkA wB w sb rb cv mb 0 0 (zbS tb left right)
 st:CSt w rb left (rightV right) von vwh gr (.slice none 0 0) (.slice none 0 0) (.slice none 0 0) (.slice none 0 0) q.limit q.offset
 on:∀ L:List Nat,(∀ x ∈ L,x < wB.heap.size) → OptN w L von on
 whr:∀ L:List Nat,(∀ x ∈ L,x < wB.heap.size) → OptN w L vwh whr
theorem OptN.mods {w w':World} {L:List Nat} {v:Value} {o:Option NT} (h:OptN w L v o) (hM:Mods L w w'):OptN w' L v o:=by
 cases o with
 | none => exact h
 | some n => exact NAt.mods hM h
theorem OptN.weaken {w:World} {L L':List Nat} {v:Value} {o:Option NT} (h:OptN w L v o) (hL:∀ x ∈ L',x ∈ L):OptN w L' v o:=by
 cases o with
 | none => exact h
 | some n => exact NAt.weaken hL h
structure Good5 (wB w:World) (sb rb mb:Nat) (tb:List TblT) (q:zt) (gr:Bool) (cv:Value) (left:Nat) (right:Option Nat) (on whr:Option NT) (von vwh:Value) (group:List Nat) (vg:Value):Prop where
 eq:zao tb q=ck5 tb q left right on whr group
 env:zbT (zbS tb left right) ∧ (zbS tb left right).length ≤ 1000
 ch:ChkA wB w sb rb cv mb 0 0 (zbS tb left right)
 st:CSt w rb left (rightV right) von vwh gr vg (.slice none 0 0) (.slice none 0 0) (.slice none 0 0) q.limit q.offset
 on:∀ L:List Nat,(∀ x ∈ L,x < wB.heap.size) → OptN w L von on
 whr:∀ L:List Nat,(∀ x ∈ L,x < wB.heap.size) → OptN w L vwh whr
 grp:∀ L:List Nat,(∀ x ∈ L,x < wB.heap.size) → GroupAt w L vg group
 len:group.length ≤ 20000
theorem OptN.past {wB w w':World} {sb rb:Nat} {v:Value} {o:Option NT} (h:∀ L:List Nat,(∀ x ∈ L,x < wB.heap.size) → OptN w L v o) (hM:Mods [sb,rb] w w') (hs:sb < wB.heap.size) (hr:rb < wB.heap.size):∀ L:List Nat,(∀ x ∈ L,x < wB.heap.size) → OptN w' L v o:=fun L hL =>
 ((
  h (sb :: rb :: L) (fun x hx => by
  rcases MC hx with rfl | hx
  ·exact hs
  ·rcases MC hx with rfl | hx
   ·exact hr
   ·exact hL x hx)).mods (hM.mono)).weaken (fun x hx => by simp [hx])
structure TbsOk (l:List Tbl):Prop where
 ok:zd4 l=true
 each:∀ t ∈ l,t.ok ∧ ∀ c ∈ t.cols,c.nm.length ≤ 5000 ∧ 0 ≤ c.k ∧ 0 ≤ c.s
 apart:∀ (i j:Nat) (hi:i < l.length) (hj:j < l.length),i ≠ j → ∀ c ∈ l[i].cols,∀ d ∈ l[j].cols,c.nm ≠ d.nm
def tblsL:List TblT:=[⟨[116],[([97],tyInt),([98],⟨2,2⟩),([99],tyBytes),([100],tyBool)]⟩,⟨[117],[([120],tyInt),([121],⟨2,1⟩),([122],tyBytes)]⟩]
def zaI (s:Bs):Option (Chk CQ):=match zaj s with
 | .bad _ _ => none
 | .good q => some (zao tblsL q)
def joinT:Bs:=[32,70,82,79,77,32,116,32,74,79,73,78,32,117,32,79,78,32,116,46,97,32,61,32,117,46,120]
def selS:Bs:=[83,69,76,69,67,84,32]
def zd6 (r:Option (Chk CQ)):Option Ty:=match r with
 | some (.ok c) => (match c.items with
  | [n] => some n.hd.t
  | _ => none)
 | _ => none
def zaR (s:Bs):Option Ty:=zd6 (zaI (selS ++ s ++ joinT))
def zdn (n:Nat):Bs:=[83,69,76,69,67,84,32,97,44,32,98,32,65,83,32,113,44,32,97,32,43,32,49,44,32,117,46,120,32,70,82,79,77,32,116,32,74,79,73,78,32,117,32,79,78,32,84,82,85,69,32,79,82,68,69,82,32,66,89,32,113,32,68,69,83,67,44,32,99,51,44,32,120,44,32] ++ [UInt8.ofNat (48 + n)]
def namesOk (n:Nat) (r:Option (Chk CQ)):Bool:=match r with
 | none => false
 | some (.bad p e) => decide ((n < 1 ∨ 4 < n) ∧ p=75 ∧ e=13)
 | some (.ok c) => decide (1 ≤ n ∧ n ≤ 4) && (decide (c.names=[[97],[113],[99,51],[120]]) && (decide (c.order=[⟨1,true⟩,⟨2,false⟩,⟨3,false⟩,⟨n - 1,false⟩]) && (decide (c.right=some 1) && !c.grouped)))
theorem zhB:∀ n,n < 6 → namesOk n (zaI (zdn n))=true:=by decide +kernel
def zaD (s:Bs):Bool:=match zaI s with
 | some (.ok c) => c.grouped
 | _ => false
def zfy (k:Nat):Bs:=([[97],[98],[99],[100]]:List Bs).getD k []
def aggT (k:Nat):Bs:=([[67,79,85,78,84,40],[77,73,78,40],[77,65,88,40]]:List Bs).getD k []
def fromC:Bs:=[41,32,70,82,79,77,32,116]
def grT1 (x y f:Nat):Bs:=selS ++ zfy x ++ [44,32] ++ aggT f ++ [97] ++ fromC ++ [32,71,82,79,85,80,32,66,89,32] ++ zfy y
def grT2 (x f:Nat):Bs:=selS ++ aggT f ++ zfy x ++ fromC
def grT3 (x y f:Nat):Bs:=selS ++ aggT f ++ zfy x ++ fromC ++ [32,71,82,79,85,80,32,66,89,32,97,44,32] ++ zfy y
def grT4 (x f:Nat):Bs:=selS ++ aggT f ++ aggT f ++ zfy x ++ [41] ++ fromC
def grT5 (x f:Nat):Bs:=selS ++ aggT f ++ zfy x ++ fromC ++ [32,87,72,69,82,69,32] ++ aggT f ++ [97,41,32,61,32,49]
def grT6 (x f:Nat):Bs:=selS ++ [97,44,32] ++ aggT f ++ zfy x ++ fromC
def grT7:Bs:=selS ++ [42,32,70,82,79,77,32,116,32,71,82,79,85,80,32,66,89,32,97]
def groupsB (x y f:Nat):Bool:=(zaD (grT1 x y f) == decide (x=y)) && (zaD (grT2 x f) && (zaD (grT3 x y f) && (!zaD (grT4 x f) && (!zaD (grT5 x f) && !zaD (grT6 x f)))))
theorem zjX:∀ x,x < 4 → ∀ y,y < 4 → ∀ f,f < 3 → groupsB x y f=true:=by decide +kernel
theorem zip:zaD grT7=false:=by decide +kernel
def exG:Bs:=[83,69,76,69,67,84,32,49,32,43,32,49,46,53,32,70,82,79,77,32,116]
def exH:Bs:=[83,69,76,69,67,84,32,110,111,110,101,32,70,82,79,77,32,116]
def exNode:NT:=.bin { op:=[43],t:=⟨2,1⟩ } (.leaf { op:=oValue,t:=tyInt,n:=1 }) (.leaf { op:=oValue,t:=⟨2,1⟩,n:=15 })
def exGB (r:Option (Chk CQ)):Bool:=match r with
 | some (.ok c) => decide (c.items=[exNode])
 | _ => false
def exHB (r:Option (Chk CQ)):Bool:=match r with
 | some (.bad p e) => decide (p=7 ∧ e=13)
 | _ => false
theorem ex_g:exGB (zaI exG)=true:=by decide +kernel
theorem ex_h:exHB (zaI exH)=true:=by decide +kernel
open Go.Maps
theorem zm4 {α:Type} (f:α → List Value) (m:Nat) (hf:∀ x,(f x).length=m) (l:List α) (i:Nat) (h:i < l.length) (j:Nat) (hj:j < m):(l.flatMap f)[i * m + j]? = (f l[i])[j]?:=by
 induction l generalizing i with
 | nil => simp at h
 | cons x xs ih =>
  rw [List.flatMap_cons]
  cases i with
  | zero =>rw [Nat.zero_mul,Nat.zero_add,List.getElem?_append_left (by rw [hf]; exact hj)]; rfl
  | succ i =>rw [List.getElem?_append_right (by rw [hf,Nat.succ_mul]; omega),hf,show (i + 1) * m + j - m=i * m + j by rw [Nat.succ_mul]; omega];exact ih i (by simpa using h)
theorem zi6 {w:World} {b:Nat} {arr:Array Value} {T:TypeId} {fr:Nat × Nat} {cs:List Col} (h:w.heap[b]? = some (.cells arr T fr)) (ha:arr.toList=cs.flatMap colC):ColsIn w (some ⟨b,0,none⟩) cs []:=by intro _;refine ⟨b,0,rfl,by simp,fun i hi => ?_⟩;have g:=fun j (hj:j < 4) => zm4 colC 4 (fun _ => rfl) cs i hi j hj;rw [za h,za h,za h,za h,Nat.zero_add,← Array.getElem?_toList,← Array.getElem?_toList,← Array.getElem?_toList,← Array.getElem?_toList,ha];exact ⟨g 0 (by omega),g 1 (by omega),g 2 (by omega),g 3 (by omega)⟩
theorem zm5 {w:World} {b:Nat} {co du:Option Addr} {n c m d:Nat} {T:TypeId} {fr:Nat × Nat} {t u:Tbl} (h:w.heap[b]? = some (.cells #[.string t.name,.slice co n c,.string u.name,.slice du m d] T fr)) (hn:t.cols.length=n) (hv:ColsIn w co t.cols []) (hm:u.cols.length=m) (hu:ColsIn w du u.cols []):TblsIn w (some ⟨b,0,none⟩) [t,u] []:=by
 intro _;refine ⟨b,0,rfl,by simp,fun i hi => ?_⟩;by_cases h0:i=0
 ·subst h0;refine ⟨by rw [za h]; rfl,co,c,?_,hv⟩;rw [za h];simp [hn]
 ·obtain rfl:i=1:=by simp at hi; omega
  refine ⟨by rw [za h]; rfl,du,d,?_,hu⟩;rw [za h];simp [hm]
theorem zlu (w:World) (A B:Obj):((w.alloc A).alloc B).heap[w.heap.size]? = some A ∧ ((w.alloc A).alloc B).heap[w.heap.size + 1]? = some B:=by
 refine ⟨?_,?_⟩
 ·rw [Below.heap_alloc _ _ _ (by rw [zl]; omega)]; exact QN _ _
 ·have:=QN (w.alloc A) B;rw [zl] at this;exact this
def tabT:Tbl:=⟨⟨#[116]⟩,[⟨⟨#[97]⟩,1,0,false⟩,⟨⟨#[98]⟩,2,2,true⟩,⟨⟨#[99]⟩,3,0,true⟩,⟨⟨#[100]⟩,4,0,true⟩]⟩
def tabU:Tbl:=⟨⟨#[117]⟩,[⟨⟨#[120]⟩,1,0,true⟩,⟨⟨#[121]⟩,2,1,false⟩,⟨⟨#[122]⟩,3,0,false⟩]⟩
def tabsV:List Tbl:=[tabT,tabU]
theorem zjY:tabsV.map zax=tblsL:=by rfl
theorem zjZ:TbsOk tabsV where
 ok:=by decide +kernel
 each:=by
  intro t ht;simp only [tabsV,List.mem_cons,List.not_mem_nil,or_false] at ht;rcases ht with rfl | rfl
  ·refine ⟨⟨by decide,by decide,fun c hc => ?_⟩,fun c hc => ?_⟩ <;> (simp only [tabT,List.mem_cons,List.not_mem_nil,or_false] at hc; rcases hc with rfl | rfl | rfl | rfl);all_goals first | exact ⟨⟨⟨by decide,by decide⟩,by decide,by decide⟩,by decide⟩ | exact ⟨by decide,by decide,by decide⟩
  ·refine ⟨⟨by decide,by decide,fun c hc => ?_⟩,fun c hc => ?_⟩ <;> (simp only [tabU,List.mem_cons,List.not_mem_nil,or_false] at hc; rcases hc with rfl | rfl | rfl);all_goals first | exact ⟨⟨⟨by decide,by decide⟩,by decide,by decide⟩,by decide⟩ | exact ⟨by decide,by decide,by decide⟩
 apart:=by
  intro i j hi hj hij c hc d hd;have h2:tabsV.length=2:=rfl;have hi2:i=0 ∨ i=1:=by omega
  have hj2:j=0 ∨ j=1:=by omega
  rcases hi2 with rfl | rfl <;> rcases hj2 with rfl | rfl
  ·exact absurd rfl hij
  ·have hc:c ∈ tabT.cols:=hc;have hd:d ∈ tabU.cols:=hd;simp only [tabT,tabU,List.mem_cons,List.not_mem_nil,or_false] at hc hd;rcases hc with rfl | rfl | rfl | rfl <;> rcases hd with rfl | rfl | rfl <;> decide
  ·have hc:c ∈ tabU.cols:=hc;have hd:d ∈ tabT.cols:=hd;simp only [tabT,tabU,List.mem_cons,List.not_mem_nil,or_false] at hc hd;rcases hc with rfl | rfl | rfl <;> rcases hd with rfl | rfl | rfl | rfl <;> decide
  ·exact absurd rfl hij
set_option maxRecDepth 100000 in
set_option maxHeartbeats 4000000 in
theorem zbI (w:World):Calls Tryz.prog 13 #[] w fun e w' => ∃ b,e = .returned (.slice (some ⟨b,0,none⟩) 2 2) ∧ Mods [] w w' ∧ TblsIn w' (some ⟨b,0,none⟩) tabsV []:=by go_enter Tryz.func13, Tryz.ntmps13;go_wp2_with fail;go_ret;have hz:(w.alloc (.cells #[.int .i64 1,.int .i64 0] 26)).heap.size=w.heap.size + 1:=zl _ _;generalize hw1:w.alloc (.cells #[.int .i64 1,.int .i64 0] 26)=w1 at *;have hM1:Mods [] w w1:=hw1 ▸ (QM [] w).alloc _;rw [← hz];have hz2:(w1.alloc (.cells #[.string ⟨#[97]⟩,.int .i64 1,.int .i64 0,.bool false,.string ⟨#[98]⟩,.int .i64 2,.int .i64 2,.bool true,.string ⟨#[99]⟩,.int .i64 3,.int .i64 0,.bool true,.string ⟨#[100]⟩,.int .i64 4,.int .i64 0,.bool true] 96)).heap.size=w1.heap.size + 1:=zl _ _;have hB:=QN w1 (.cells #[.string ⟨#[97]⟩,.int .i64 1,.int .i64 0,.bool false,.string ⟨#[98]⟩,.int .i64 2,.int .i64 2,.bool true,.string ⟨#[99]⟩,.int .i64 3,.int .i64 0,.bool true,.string ⟨#[100]⟩,.int .i64 4,.int .i64 0,.bool true] 96);have hM2:=(QM [] w1).alloc (.cells #[.string ⟨#[97]⟩,.int .i64 1,.int .i64 0,.bool false,.string ⟨#[98]⟩,.int .i64 2,.int .i64 2,.bool true,.string ⟨#[99]⟩,.int .i64 3,.int .i64 0,.bool true,.string ⟨#[100]⟩,.int .i64 4,.int .i64 0,.bool true] 96);generalize w1.alloc (.cells #[.string ⟨#[97]⟩,.int .i64 1,.int .i64 0,.bool false,.string ⟨#[98]⟩,.int .i64 2,.int .i64 2,.bool true,.string ⟨#[99]⟩,.int .i64 3,.int .i64 0,.bool true,.string ⟨#[100]⟩,.int .i64 4,.int .i64 0,.bool true] 96)=w2 at *;rw [← hz2];have hz3:(w2.alloc (.cells #[.string ⟨#[120]⟩,.int .i64 1,.int .i64 0,.bool true,.string ⟨#[121]⟩,.int .i64 2,.int .i64 1,.bool false,.string ⟨#[122]⟩,.int .i64 3,.int .i64 0,.bool false] 96)).heap.size=w2.heap.size + 1:=zl _ _;have hC:=QN w2 (.cells #[.string ⟨#[120]⟩,.int .i64 1,.int .i64 0,.bool true,.string ⟨#[121]⟩,.int .i64 2,.int .i64 1,.bool false,.string ⟨#[122]⟩,.int .i64 3,.int .i64 0,.bool false] 96);have hM3:=(QM [] w2).alloc (.cells #[.string ⟨#[120]⟩,.int .i64 1,.int .i64 0,.bool true,.string ⟨#[121]⟩,.int .i64 2,.int .i64 1,.bool false,.string ⟨#[122]⟩,.int .i64 3,.int .i64 0,.bool false] 96);generalize w2.alloc (.cells #[.string ⟨#[120]⟩,.int .i64 1,.int .i64 0,.bool true,.string ⟨#[121]⟩,.int .i64 2,.int .i64 1,.bool false,.string ⟨#[122]⟩,.int .i64 3,.int .i64 0,.bool false] 96)=w3 at *;rw [← hz3];have hM4:=(QM [] w3).alloc (.cells #[.string ⟨#[116]⟩,.slice (some ⟨w1.heap.size,0,none⟩) 4 4,.string ⟨#[117]⟩,.slice (some ⟨w2.heap.size,0,none⟩) 3 3] 98);refine ⟨_,rfl,((hM1.trans hM2).trans hM3).trans hM4,zm5 (t:=tabT) (u:=tabU) (QN w3 _) rfl (zi6 (hM4.heap (hM3.heap hB (by simp))) rfl) rfl (zi6 (hM4.heap hC) rfl)⟩
end Go.Proofs.YtgdpaieechgahaaGreatDoor
