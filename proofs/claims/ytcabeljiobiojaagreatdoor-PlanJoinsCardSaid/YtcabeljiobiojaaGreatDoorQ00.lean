/-
  Plain lemmas that every text of this seat uses: worlds that keep their old blocks, small maps that a call makes itself, bytes. They speak of no program; no conditions.
-/
import Derived.WalkLawsBesides
import Derived.WalkSpells
import Derived.MapKept
import Derived.Laws.CopyOwn
import Derived.Lib.ParseIntB
import Derived.Lib.Case
import Derived.Lib.Bytealg
import Derived.Test.YtcabeljiobiojaaGreatDoorAl
namespace Go.Proofs.YtcabeljiobiojaaGreatDoor
open Go.RowKit
theorem AD {p:Prop} (h:p:=by decide):p:=h
theorem AB {p:Prop} (h:p:=by simp):p:=h
theorem AA {p:Prop} (h:p:=by omega):p:=h
theorem ycL {p:Prop} (h:p:=by
  have hc:(Instr.checkKey es.isEmpty 10000 kt k).run P w = .ok () w:=MapKept.run_checkKey hk hkey _ 9999;exact ybu
 ):p:=h
theorem ybu {p:Prop} (h:p:=by
  cases r <;> simp [Instr.lookup,run_underlying hT,MapKept.run_getObj_map hb,hc,MapKept.run_findKey hk hf,hz,Result.andThen]
 ):p:=h
theorem yce {p:Prop} (h:p:=by
  rcases Nat.lt_or_ge p.block w.heap.size with h1 | h1
  ·exact h1
  ·simp [World.cell?,Array.getElem?_eq_none h1] at hv
 ):p:=h
theorem zmd (h:Array Obj) (o o':Obj):(h.push o).setIfInBounds h.size o'=h.push o':=by
 apply Array.ext_getElem?;intro i;simp only [Array.getElem?_setIfInBounds,Array.getElem?_push,Array.size_push];by_cases h1:h.size=i
 ·subst h1; simp
 ·have h2:¬ i=h.size:=fun e => h1 e.symm;simp [h1,h2]
theorem zZ {P:Program} (T kt et:TypeId) (d:TypeDesc) (hT:P.underlying T=some (.map kt et)) (hk:P.underlying kt=some d) (w:World) (es:Array MapEntry) (clock:Nat) (k v:Value)
  (hkey:MapKept.IsKey d k) (hf:Instr.findNow d k es.toList 0=some none) :
  (Instr.mapUpdate T (.map (some w.heap.size)) k v).run P (w.alloc (.map es clock)) = .ok () (w.alloc (.map (es.push { key:=k,val:=v,born:=clock }) (clock + 1))):=by
 have hb:(w.alloc (.map es clock)).heap[w.heap.size]? = some (.map es clock):=QN w _;have hc:(Instr.checkKey false 10000 kt k).run P (w.alloc (.map es clock)) = .ok () (w.alloc (.map es clock)):=MapKept.run_checkKey hk hkey false 9999;have hw:({ w.alloc (.map es clock) with heap:=(w.alloc (.map es clock)).heap.setIfInBounds w.heap.size (.map (es.push { key:=k,val:=v,born:=clock }) (clock + 1)) }:World)=w.alloc (.map (es.push { key:=k,val:=v,born:=clock }) (clock + 1)):=by show ({ w.alloc (.map es clock) with heap:=(w.heap.push (.map es clock)).setIfInBounds w.heap.size (.map (es.push { key:=k,val:=v,born:=clock }) (clock + 1)) }:World)=_;rw [zmd]; rfl
 simp [Instr.mapUpdate,run_underlying hT,MapKept.run_getObj_map hb,hc,MapKept.run_findKey hk hf,MapKept.run_setObj_map _ hb,Result.andThen];exact hw
theorem zfD {P:Program} (T kt et:TypeId) (d:TypeDesc) (hT:P.underlying T=some (.map kt et)) (hk:P.underlying kt=some d) (w:World) (es:Array MapEntry) (clock:Nat) (k:Value) (z:Value)
  (hz:∀ w,(zeroValue et).run P w = .ok z w) (hkey:MapKept.IsKey d k) (r:Option (Nat × Value)) (hf:Instr.findNow d k es.toList 0=some r) :
  (Instr.lookup T (.map (some w.heap.size)) k true).run P (w.alloc (.map es clock)) = .ok (.tuple #[(r.map (·.2)).getD z,.bool r.isSome]) (w.alloc (.map es clock)):=by
 have hb:(w.alloc (.map es clock)).heap[w.heap.size]? = some (.map es clock):=QN w _;have hc:(Instr.checkKey es.isEmpty 10000 kt k).run P (w.alloc (.map es clock)) = .ok () (w.alloc (.map es clock)):=MapKept.run_checkKey hk hkey _ 9999;exact ybu
theorem zbC {a b:Bool} (h:a=b):Ending.returned (.bool a) = .returned (.bool b):=by rw [h]
theorem zdQ {k:IntKind} {a b:Int} (h:a=b):Ending.returned (.int k a) = .returned (.int k b):=by rw [h]
structure Mods (L:List Nat) (w w':World):Prop where
 os:w'.os=w.os
 tape:w'.tape=w.tape
 output:w'.output=w.output
 size:w.heap.size ≤ w'.heap.size
 block:∀ k,k < w.heap.size → k ∉ L → w'.heap[k]? = w.heap[k]?
theorem Mods.refl (L:List Nat) (w:World):Mods L w w:=⟨rfl,rfl,rfl,LR _,fun _ _ _ => rfl⟩
theorem QM (L:List Nat) (w:World):Mods L w w:=Mods.refl L w
theorem Mods.trans {L L':List Nat} {a b c:World} (h:Mods L a b) (k:Mods L' b c) (hs:∀ x ∈ L',x ∈ L ∨ a.heap.size ≤ x:=by simp):Mods L a c:=
 ⟨k.os.trans h.os,k.tape.trans h.tape,k.output.trans h.output,Nat.le_trans h.size k.size,fun i hi hn =>
  (k.block i (LL hi h.size) (fun hm => by rcases hs i hm with h1 | h1; exact hn h1; omega)).trans (h.block i hi hn)⟩
theorem Mods.mono {L L':List Nat} {a b:World} (h:Mods L a b) (hs:∀ x ∈ L,x ∈ L' ∨ a.heap.size ≤ x:=by simp):Mods L' a b:=
 (QM L' a).trans h hs
theorem Mods.of_below {B:Nat} {w w':World} (h:Below B w w') (hB:w.heap.size ≤ B) (L:List Nat):Mods L w w':=
 ⟨h.os,h.tape,h.output,h.size,fun k hk _ => h.block k AA⟩
theorem Mods.below {L:List Nat} {w w':World} (h:Mods L w w') (B:Nat) (hB:B ≤ w.heap.size) (hL:∀ x ∈ L,B ≤ x):Below B w w':=
 ⟨h.os,h.tape,h.output,h.size,fun k hk => h.block k AA (fun hm => by have:=hL k hm; omega)⟩
theorem Mods.drew {L:List Nat} {a w:World} (h:Mods L a w):Mods L a w.drew:=⟨h.os,h.tape,h.output,h.size,h.block⟩
theorem Mods.drewN {L:List Nat} {a w:World} (h:Mods L a w) (n:Nat):Mods L a (w.drewN n):=⟨h.os,h.tape,h.output,h.size,h.block⟩
theorem Mods.alloc {L:List Nat} {a w:World} (h:Mods L a w) (o:Obj):Mods L a (w.alloc o):=
 h.trans (L':=[]) ⟨rfl,rfl,rfl,by simp,fun k hk _ => Below.heap_alloc _ _ _ hk⟩ AB
theorem Mods.setCell {L:List Nat} {a w:World} (h:Mods L a w) {p:Addr} (hp:p.block ∈ L ∨ a.heap.size ≤ p.block) (u:Value):Mods L a (w.setCell p u):=
 h.trans (L':=[p.block]) ⟨rfl,rfl,rfl,by simp [World.setCell],fun k hk hn => Below.heap_setCell _ _ _ _ (by simpa using hn)⟩ (by simpa using hp)
theorem Mods.heap {L:List Nat} {w w':World} (h:Mods L w w') {k:Nat} {o:Obj} (hk:w.heap[k]? = some o) (hn:k ∉ L:=by simp):w'.heap[k]? = some o:=by
 rw [h.block k ?_ hn]; exact hk;rcases Nat.lt_or_ge k w.heap.size with h1 | h1
 ·exact h1
 ·rw [Array.getElem?_eq_none h1] at hk; cases hk
theorem Mods.cell {L:List Nat} {w w':World} (h:Mods L w w') {p:Addr} {v:Value} (hv:w.cell? p=some v) (hn:p.block ∉ L:=by simp):w'.cell? p=some v:=by
 have hlt:p.block < w.heap.size:=by exact yce
 rw [World.cell?_of_block (h.block p.block hlt hn)]; exact hv
theorem zj {w:World} {k:Nat} {o:Obj} (hk:w.heap[k]? = some o):k < w.heap.size:=(Array.getElem?_eq_some_iff.1 hk).1
theorem za {w:World} {g:Nat} {arr:Array Value} {t:TypeId} {fr:Nat × Nat} (h:w.heap[g]? = some (.cells arr t fr)) (o:Nat):w.cell? ⟨g,o,none⟩ = arr[o]?:=by simp [World.cell?,h]
theorem zc {w:World} {g:Nat} {arr:Array Value} {t:TypeId} (h:w.heap[g]? = some (.cells arr t (0,0))) (o:Nat):w.frozen? ⟨g,o,none⟩ = false:=by simp [World.frozen?,h]
theorem zb {w:World} {g:Nat} {arr:Array Value} {t:TypeId} {fr:Nat × Nat} (h:w.heap[g]? = some (.cells arr t fr)) (o:Nat) (u:Value) :
  (w.setCell ⟨g,o,none⟩ u).heap[g]? = some (.cells (arr.setIfInBounds o u) t fr):=by
 simp [World.setCell,Array.getElem?_modify,h]
theorem zdR {w:World} {g o:Nat} {u v:Value} (h:w.cell? ⟨g,o,none⟩ = some u):(w.setCell ⟨g,o,none⟩ v).cell? ⟨g,o,none⟩ = some v:=by
 unfold World.cell? at h;split at h
 ·rename_i c t fr hg
  have hlt:o < c.size:=by
   rcases Nat.lt_or_ge o c.size with h1 | h1
   ·exact h1
   ·simp [Array.getElem?_eq_none h1] at h
  rw [za (zb hg o v)];simp [hlt]
 ·cases h
theorem Mods.of_grown {w w':World} {row:Option Nat} (h:w.grownBy w' row):Mods row.toList w w':=
 ⟨h.os,h.tape,h.output,h.size,fun k hk hn => h.block k hk (fun e => hn (by simp [← e]))⟩
theorem zm {L:List Nat} {w w':World} {e:TypeId} {size:Nat} {v:Value} {n:Nat} {xs:List Value} (h:w.ownsRow 0 e size v n xs) (hm:Mods L w w') (hn:∀ g,v.ownBlock=some g → g ∉ L) :
  w'.ownsRow 0 e size v n xs:=by
 refine ⟨h.1,?_⟩;rcases h.2 with h2 | ⟨g,cap,cur,rfl,hb,hg,r⟩
 ·exact .inl h2
 ·exact .inr ⟨g,cap,cur,rfl,hb,hm.heap hg (hn g rfl),r⟩
theorem zw {P:Program} (w:World) {ops:Array Oper} {rest:List Oper} {o:Oper} {a:Act} {Q:Exit → Act → World → Prop}
  (hgd:o.guard=none) (s x:Operand) (t:TypeId) (ho:o.op = .call { callee:=.builtin .append,args:=#[s,x],argTypes:=#[t,t] })
  (e:TypeId) (i:TypeInfo) (z:Value) (size bytes:Nat) (ht:P.underlying t=some (.slice e)) (hi:P.info? e=some i) (hz:i.zero=some z)
  (hsize:i.size=size) (hby:i.bytes=bytes) (hzs:z.cells.size=size) (hsz:0 < size)
  (v:Value) (n:Nat) (xs:List Value) (hs:a.eval s=v) (hown:w.ownsRow 0 e size v n xs)
  (ad:Addr) (m c:Nat) (news:List Value) (hx:a.eval x = .slice (some ad) m c) (hl:news.length=m * size) (hnews:∀ j u,news[j]? = some u → w.cell? (ad.add j)=some u) (h1:∀ u ∈ news,u.oneCell'=true)
  (hm:0 < m) (h63:n + m ≤ maxLen) (hbytes:(n + m) * bytes ≤ 140737488355328)
  (hK:∀ g cap w',w'.ownsRow 0 e size (.slice (some ⟨g,0,none⟩) (n + m) cap) (n + m) (xs ++ news) → Mods v.ownBlock.toList w w' → (v.ownBlock=some g ∨ w.heap.size ≤ g) →
   wpList P ops Q rest (a.put o.dst (.slice (some ⟨g,0,none⟩) (n + m) cap)) w'):wpList P ops Q (o :: rest) a w:=by
 have grows:∀ (ao:Option Addr) (cap:Nat),v = .slice ao n cap → (ao=none → n=0 ∧ cap=0) → (∀ b,ao=some b → ∀ j u,xs[j]? = some u → w.cell? (b.add j)=some u) → cap < n + m → wpList P ops Q (o :: rest) a w:=by
  intro ao cap hv hnone holds hfull;refine wpList_append_grows w hgd s x t ho e i z size bytes ht hi hz hsize hby hzs hsz ao n cap xs (hs.trans hv) hnone hown.1 holds ad m c news hx hl hnews h1 hfull h63 hbytes ?_;intro v' w' hown' hgr;rcases hown'.2 with ⟨_,h0⟩ | ⟨g,cap',cur,rfl,hb,r⟩
  ·omega
  ·refine hK g cap' w' ⟨hown'.1,.inr ⟨g,cap',cur,rfl,Nat.zero_le _,r⟩⟩ ((Mods.of_grown hgr).mono) (.inr hb)
 rcases hown.2 with ⟨hv,hn0⟩ | ⟨g,cap,cur,hv,hb,hg,r⟩
 ·exact grows none 0 (by rw [hv,hn0]) (fun _ => ⟨hn0,rfl⟩) (fun b hb => by cases hb) AA
 ·by_cases hroom:n + m ≤ cap
  ·refine wpList_append_fits w hgd s x t ho 0 e i size ht hi hsize g n cap xs (hs.trans hv) (hv ▸ hown) ad m c news hx hl hnews h1 hroom ?_;intro w' hown' hgr;refine hK g cap w' hown' ?_ (.inl (by simp [hv,Value.ownBlock]));have:=Mods.of_grown hgr;simpa [hv,Value.ownBlock] using this
  ·exact grows (some ⟨g,0,none⟩) cap hv AB (fun b hb => by simp at hb; subst hb; exact hown.cells (by simp [hv,Value.ownBlock])) AA
theorem Mods.setRow {L:List Nat} {a w:World} (h:Mods L a w) {g:Nat} (hg:g ∈ L ∨ a.heap.size ≤ g) (cs:Array Value):Mods L a (w.setRow g cs):=
 h.trans (L':=[g]) ⟨rfl,rfl,rfl,by simp [World.setRow],fun k hk hn => setRow_other w g k cs (by simpa using hn)⟩ (by simpa using hg)
theorem zci (g o j:Nat):(⟨g,o,none⟩ : Addr).add j = ⟨g,o + j,none⟩:=by
 unfold Addr.add;split
 ·rename_i h; subst h; rfl
 ·rfl
theorem zl (w:World) (o:Obj):(w.alloc o).heap.size=w.heap.size + 1:=by simp
theorem zD {w:World} {p:Addr} {v:Value} (hv:w.cell? p=some v):p.block < w.heap.size:=by exact yce
theorem znU {P:Program} (w:World) (t1 t2 ty:TypeId) (k:IntKind) (m n r:Int) (hr:(m ≤ n ∧ r=m) ∨ (n < m ∧ r=n)):(Builtin.min_ #[t1,t2] ty #[.int k m,.int k n]).run P w = .ok (.int k r) w:=by
 rcases hr with ⟨h1,rfl⟩ | ⟨h1,rfl⟩
 ·have h2:¬ n < r:=by omega
  simp [Builtin.min_,Builtin.min2,h2]
 ·simp [Builtin.min_,Builtin.min2,h1]
theorem zqk (w:World) (x y z:Value) (t:TypeId):∀ j u,([x,y,z]:List Value)[j]? = some u → (w.alloc (.cells #[x,y,z] t)).cell? ((⟨w.heap.size,0,none⟩ : Addr).add j)=some u:=by intro j u hu;rw [zci,za (QN w _),Nat.zero_add];simpa using hu
def zah (c:UInt8):Bool:=(decide (97 ≤ c.toNat) && decide (c.toNat ≤ 122)) || (decide (65 ≤ c.toNat) && decide (c.toNat ≤ 90)) || decide (c.toNat=95)
def zC (c:UInt8):Bool:=decide (48 ≤ c.toNat) && decide (c.toNat ≤ 57)
def zb0 (c:UInt8):Bool:=zah c || zC c
def zbs (c:UInt8):Bool:=decide (c.toNat=32) || decide (c.toNat=9) || decide (c.toNat=10) || decide (c.toNat=13)
def upc (c:UInt8):UInt8:=if 97 ≤ c.toNat ∧ c.toNat ≤ 122 then c - 32 else c
def keyWords:List (List UInt8):=[[65,78,68],[65,83],[65,83,67],[66,89],[67,79,85,78,84],[68,69,83,67],[70,65,76,83,69],[70,82,79,77],[71,82,79,85,80],[73,83],[74,79,73,78],[76,73,77,73,84],[77,65,88],[77,73,78],[78,79,84],[78,85,76,76],[79,70,70,83,69,84],[79,78],[79,82],[79,82,68,69,82],[83,69,76,69,67,84],[83,85,77],[84,82,85,69],[87,72,69,82,69]]
def isKey (w:List UInt8):Bool:=keyWords.contains w
structure TokC where
 kind:Nat
 s:List UInt8
 n:Nat
 scale:Nat
deriving DecidableEq
structure Tok where
 kind:Nat
 pos:Nat
 s:List UInt8
 n:Nat
 scale:Nat
deriving DecidableEq
def TokC.put (t:TokC) (pos:Nat):Tok:=⟨t.kind,pos,t.s,t.n,t.scale⟩
def wordL (l:List UInt8):Option (TokC × Nat):=
 if isKey ((l.takeWhile zb0).map upc)=true then some (⟨1,(l.takeWhile zb0).map upc,0,0⟩,(l.takeWhile zb0).length)
 else if 40 < (l.takeWhile zb0).length then none
 else some (⟨2,l.takeWhile zb0,0,0⟩,(l.takeWhile zb0).length)
def numVal (l:List UInt8):Nat:=l.foldl (fun a c => a * 10 + (c.toNat - 48)) 0
def zbR (r:List UInt8):List UInt8:=if r.head? = some 46 then (r.drop 1).takeWhile zC else []
def zbK (l:List UInt8):Nat:=if zbR (l.dropWhile zC)=[] then (l.takeWhile zC).length else (l.takeWhile zC).length + 1 + (zbR (l.dropWhile zC)).length
def zab (l:List UInt8):List UInt8:=l.takeWhile zC ++ zbR (l.dropWhile zC)
def zdM (l:List UInt8):Bool:=match l with | [] => false | c :: _ => zah c
def zbt (l:List UInt8):Option (TokC × Nat):=
 if 9223372036854775807 < numVal (zab l) ∨ 9 < (zbR (l.dropWhile zC)).length ∨ zdM (l.drop (zbK l))=true then none
 else some (⟨3,[],numVal (zab l),(zbR (l.dropWhile zC)).length⟩,zbK l)
def textL:List UInt8 → Option (List UInt8 × Nat)
 | [] => none
 | c :: r => if c=39 then (match r with
   | [] => some ([],1)
   | d :: r' => if d=39 then (textL r').map (fun x => (39 :: x.1,x.2 + 2)) else some ([],1))
  else (textL r).map (fun x => (c :: x.1,x.2 + 1))
def zcV (l:List UInt8):Option (TokC × Nat):=
 match textL (l.drop 1) with
 | none => none
 | some x => if 200 < x.1.length then none else some (⟨4,x.1,0,0⟩,x.2 + 1)
def marks2:List (List UInt8):=[[60,62],[60,61],[62,61]]
def marks1:List UInt8:=[61,60,62,43,45,42,47,40,41,44,46]
def zcv (l:List UInt8):Option (TokC × Nat):=
 if marks2.contains (l.take 2)=true then some (⟨5,l.take 2,0,0⟩,2)
 else match l with
  | [] => none
  | c :: _ => if marks1.contains c=true then some (⟨5,[c],0,0⟩,1) else none
def zc3 (l:List UInt8):Option (TokC × Nat):=
 match l with
 | [] => none
 | c :: _ => if zah c=true then wordL l else if zC c=true then zbt l else if c=39 then zcV l else zcv l
inductive Lexed where
 | good (l:List Tok)
 | bad (pos:Nat)
deriving DecidableEq
def Lexed.pre (ts:List Tok):Lexed → Lexed
 | .good l => .good (ts ++ l)
 | .bad p => .bad p
theorem Lexed.pre_nil (x:Lexed):x.pre []=x:=by cases x <;> rfl
theorem Lexed.pre_pre (a b:List Tok) (x:Lexed):(x.pre b).pre a=x.pre (a ++ b):=by cases x <;> simp [Lexed.pre]
def lexF:Nat → List UInt8 → Nat → Lexed
 | 0,_,p => .bad p
 | f + 1,l,p =>
  match l with
  | [] => .good [⟨0,p,[],0,0⟩]
  | c :: r => match zc3 (c :: r) with
   | none => .bad p
   | some (t,n) => (lexF f (((c :: r).drop n).dropWhile zbs) (p + n + (((c :: r).drop n).takeWhile zbs).length)).pre [t.put p]
def lexG (l:List UInt8) (p:Nat):Lexed:=lexF (l.length + 1) l p
def za4 (l:List UInt8):Lexed:=lexG (l.dropWhile zbs) (l.takeWhile zbs).length
theorem zbx {α:Type} (p:α → Bool) (l:List α):(l.takeWhile p).length ≤ l.length:=by
 induction l with
 | nil => simp
 | cons a l ih => simp only [List.takeWhile_cons]; split <;> simp <;> omega
theorem zcE {α:Type} (p:α → Bool) (l:List α):(l.takeWhile p).length + (l.dropWhile p).length=l.length:=by rw [← List.length_append,List.takeWhile_append_dropWhile]
theorem zaM {α:Type} (p:α → Bool) (l:List α):l.dropWhile p=l.drop (l.takeWhile p).length:=by
 induction l with
 | nil => rfl
 | cons a l ih => simp only [List.dropWhile_cons,List.takeWhile_cons]; split <;> simp_all
theorem zme (r:List UInt8):zbR r=[] ∨ (zbR r).length + 1 ≤ r.length:=by
 unfold zbR;split
 ·rename_i h
  cases r with
  | nil => simp at h
  | cons c r => right; have:=zbx zC r; simp; omega
 ·left; rfl
theorem zg2 (l:List UInt8):zbK l ≤ l.length:=by
 unfold zbK;have h1:=zcE zC l;rcases zme (l.dropWhile zC) with h | h
 ·rw [if_pos h]; omega
 ·split <;> omega
theorem zmf:∀ (k:Nat) (l:List UInt8),l.length ≤ k → ∀ x,textL l=some x → 0 < x.2 ∧ x.2 ≤ l.length ∧ x.1.length ≤ x.2:=by
 intro k
 induction k with
 | zero => intro l hl x h; cases l with
  | nil => simp [textL] at h
  | cons c r => simp at hl
 | succ k ih =>
  intro l hl x h
  cases l with
  | nil => simp [textL] at h
  | cons c r =>
   unfold textL at h;split at h
   ·cases r with
    | nil => simp at h; subst h; simp
    | cons d r' =>
     simp only at h;split at h
     ·obtain ⟨y,hy,rfl⟩:=Option.map_eq_some_iff.1 h;have:=ih r' (by simp at hl; omega) y hy;simp; omega
     ·simp at h; subst h; simp
   ·obtain ⟨y,hy,rfl⟩:=Option.map_eq_some_iff.1 h;have:=ih r (by simp at hl; omega) y hy;simp; omega
theorem zge {l:List UInt8} {t:TokC} {n:Nat} (h:zc3 l=some (t,n)):0 < n ∧ n ≤ l.length:=by
 cases l with
 | nil => simp [zc3] at h
 | cons c r =>
  unfold zc3 at h;simp only at h;split at h
  ·rename_i hc
   have h1:zb0 c=true:=by simp [zb0,hc]
   have h2:0 < ((c :: r).takeWhile zb0).length:=by simp [h1]
   have h3:=zbx zb0 (c :: r);unfold wordL at h;split at h
   ·simp at h; obtain ⟨-,rfl⟩:=h; exact ⟨h2,h3⟩
   ·split at h
    ·simp at h
    ·simp at h; obtain ⟨-,rfl⟩:=h; exact ⟨h2,h3⟩
  ·split at h
   ·rename_i hc
    have h2:0 < ((c :: r).takeWhile zC).length:=by simp [hc]
    have h3:=zg2 (c :: r);unfold zbt at h;split at h
    ·simp at h
    ·simp only [Option.some.injEq,Prod.mk.injEq] at h; obtain ⟨-,rfl⟩:=h;refine ⟨?_,h3⟩;unfold zbK;split <;> omega
   ·split at h
    ·unfold zcV at h;split at h
     ·simp at h
     ·rename_i x hx
      have:=zmf _ _ (LR _) x hx;split at h
      ·simp at h
      ·simp at h; obtain ⟨-,rfl⟩:=h;simp at this ⊢; omega
    ·unfold zcv at h;split at h
     ·rename_i hm
      simp at h; obtain ⟨-,rfl⟩:=h;refine ⟨by omega,?_⟩
      cases r with
      | nil => simp [marks2] at hm
      | cons d r => simp
     ·simp only at h;split at h
      ·simp at h; obtain ⟨-,rfl⟩:=h; simp
      ·simp at h
theorem zkl:∀ (f g:Nat) (l:List UInt8) (p:Nat),l.length < f → l.length < g → lexF f l p=lexF g l p:=by
 intro f
 induction f with
 | zero => intro g l p h; omega
 | succ f ih =>
  intro g l p hf hg
  cases g with
  | zero => omega
  | succ g =>
   cases l with
   | nil => rfl
   | cons c r =>
    simp only [lexF]
    cases ht:zc3 (c :: r) with
    | none => rfl
    | some x =>obtain ⟨t,n⟩:=x;obtain ⟨h1,h2⟩:=zge ht;simp only;have h3:=zcE zbs ((c :: r).drop n);have h4:((c :: r).drop n).length=(c :: r).length - n:=List.length_drop;rw [ih g _ _ AA AA]
theorem ziG (p:Nat):lexG [] p = .good [⟨0,p,[],0,0⟩]:=rfl
theorem zgf {l:List UInt8} (p:Nat) (h0:l ≠ []) (h:zc3 l=none):lexG l p = .bad p:=by
 cases l with
 | nil => exact absurd rfl h0
 | cons c r => unfold lexG lexF; simp only; rw [h]
theorem zeM {l:List UInt8} (p:Nat) {t:TokC} {n:Nat} (h:zc3 l=some (t,n)) :
  lexG l p=(lexG ((l.drop n).dropWhile zbs) (p + n + ((l.drop n).takeWhile zbs).length)).pre [t.put p]:=by
 cases l with
 | nil => simp [zc3] at h
 | cons c r =>obtain ⟨h1,h2⟩:=zge h;have h3:=zcE zbs ((c :: r).drop n);have h4:((c :: r).drop n).length=(c :: r).length - n:=List.length_drop;unfold lexG;rw [lexF,h];simp only;rw [zkl _ ((((c :: r).drop n).dropWhile zbs).length + 1) _ _ AA AA]
theorem zkm {α:Type} {p:α → Bool} {l:List α} {x:α} (h:x ∈ l.takeWhile p):p x=true:=by
 induction l with
 | nil => simp at h
 | cons a l ih =>
  rw [List.takeWhile_cons] at h;split at h
  ·rename_i ha
   rcases MC h with rfl | h
   ·exact ha
   ·exact ih h
  ·simp at h
def lexB (l:List UInt8) (p:Nat):Lexed:=lexG (l.dropWhile zbs) (p + (l.takeWhile zbs).length)
theorem zcN {c:UInt8} (r:List UInt8) (h:c ≠ 39):textL (c :: r)=(textL r).map (fun x => (c :: x.1,x.2 + 1)):=by
 conv => lhs; unfold textL
 rw [if_neg h]
theorem zkp (r:List UInt8):textL (39 :: 39 :: r)=(textL r).map (fun x => (39 :: x.1,x.2 + 2)):=by
 conv => lhs; unfold textL
 rw [if_pos rfl];simp
theorem zg3 (c:UInt8) (r:List UInt8) (h:c ≠ 39):textL (39 :: c :: r)=some ([],1):=by unfold textL;rw [if_pos rfl];simp [h]
theorem zdS {c:UInt8} (h:zC c=true):zah c=false ∧ zbs c=false:=by
 have h':48 ≤ c.toNat ∧ c.toNat ≤ 57:=by simpa [zC] using h
 simp only [zah,zbs];constructor <;> simp <;> omega
theorem zg4 {c:UInt8} (h:zah c=true):zbs c=false:=by
 have h':((97 ≤ c.toNat ∧ c.toNat ≤ 122) ∨ (65 ≤ c.toNat ∧ c.toNat ≤ 90)) ∨ c.toNat=95:=by simpa [zah] using h
 simp only [zbs];simp; omega
def foldN (a:Nat) (l:List UInt8):Nat:=l.foldl (fun a c => a * 10 + (c.toNat - 48)) a
theorem zmg (l:List UInt8):∀ a,a ≤ foldN a l:=by
 induction l with
 | nil => intro a; exact LR a
 | cons c r ih =>intro a;have:=ih (a * 10 + (c.toNat - 48));show a ≤ foldN (a * 10 + (c.toNat - 48)) r;omega
theorem parseM (M:Nat) (hM:M=18446744073709551615) (l:List UInt8):∀ a,a ≤ M → (∀ x ∈ l,zC x=true) → Lib.parseUintM M a l=if M < foldN a l then .range else .ok (foldN a l):=by
 induction l with
 | nil => intro a ha _; unfold Lib.parseUintM; show _=if M < a then _ else _; rw [if_neg AA]; rfl
 | cons c r ih =>
  intro a ha hd;have hc:48 ≤ c.toNat ∧ c.toNat ≤ 57:=by simpa [zC] using hd c AB
  have hg:=zmg r (a * 10 + (c.toNat - 48));have e:foldN a (c :: r)=foldN (a * 10 + (c.toNat - 48)) r:=rfl;unfold Lib.parseUintM;rw [if_pos hc,e];split
  ·rw [if_pos AA]
  ·split
   ·rw [if_pos AA]
   ·exact ih _ AA (fun x hx => hd x (by simp [hx]))
theorem zg6 (d:List UInt8) (h0:d ≠ []) (hd:∀ x ∈ d,zC x=true):Lib.parseIntB 64 d=if 9223372036854775807 < numVal d then .range else .ok (numVal d:Int):=by
 cases d with
 | nil => exact absurd rfl h0
 | cons c r =>
  have hc:48 ≤ c.toNat ∧ c.toNat ≤ 57:=by simpa [zC] using hd c AB
  have hp:=parseM (2 ^ 64 - 1) AD (c :: r) 0 AA hd;have e:foldN 0 (c :: r)=numVal (c :: r):=rfl;rw [e] at hp;unfold Lib.parseIntB;simp only;rw [if_neg (show ¬ (c.toNat=43 ∨ c.toNat=45) by omega)];unfold Lib.parseUintB;rw [if_neg AB,hp];generalize numVal (c :: r)=v;have hneg:¬ c.toNat=45:=by omega
  by_cases h1:2 ^ 64 - 1 < v
  ·rw [if_pos h1,if_pos AA]
  ·rw [if_neg h1];simp only [hneg,if_false,not_false_eq_true,true_and,false_and];by_cases h2:9223372036854775807 < v
   ·rw [if_pos (show 2 ^ (64 - 1) ≤ v by omega),if_pos h2]
   ·rw [if_neg (show ¬ 2 ^ (64 - 1) ≤ v by omega),if_neg h2]
theorem zjq (c:UInt8):Lib.upperB c=upc c:=by
 have h:Lib.isLowerB c=decide (97 ≤ c.toNat ∧ c.toNat ≤ 122):=by rw [Bool.eq_iff_iff];simp [Lib.isLowerB,UInt8.le_iff_toNat_le]
 unfold Lib.upperB upc;rw [h];by_cases h1:97 ≤ c.toNat ∧ c.toNat ≤ 122 <;> simp [h1]
theorem zg7 (l:List UInt8):Lib.toUpperA l=l.map upc:=by unfold Lib.toUpperA;exact List.map_congr_left fun x _ => zjq x
theorem zmh {c:UInt8} (h:zb0 c=true):c.toNat < 128:=by
 have h':(((97 ≤ c.toNat ∧ c.toNat ≤ 122) ∨ (65 ≤ c.toNat ∧ c.toNat ≤ 90)) ∨ c.toNat=95) ∨ (48 ≤ c.toNat ∧ c.toNat ≤ 57):=by simpa [zb0,zah,zC] using h
 omega
theorem zhN (l:List UInt8):(Lib.indexByte l 39 = -1 ∧ textL l=none) ∨ ∃ n:Nat,Lib.indexByte l 39=n ∧ n < l.length ∧ l[n]? = some 39 ∧ textL l=(textL (l.drop n)).map (fun x => (l.take n ++ x.1,x.2 + n)):=by
 induction l with
 | nil => left; exact ⟨rfl,by unfold textL; rfl⟩
 | cons c r ih =>
  by_cases hc:c=39
  ·subst hc;right;refine ⟨0,by unfold Lib.indexByte; rfl,by simp,rfl,?_⟩;simp
  ·have hcb:(c == 39)=false:=by simpa using hc
   rcases ih with ⟨h1,h2⟩ | ⟨n,h1,h2,h3,h4⟩
   ·left;refine ⟨?_,by rw [zcN _ hc,h2]; rfl⟩;unfold Lib.indexByte;rw [hcb,h1]; rfl
   ·right;refine ⟨n + 1,?_,by simp only [List.length_cons]; omega,by simpa using h3,?_⟩
    ·unfold Lib.indexByte;rw [hcb,h1];have:((n:Int) == -1)=false:=by rw [beq_eq_false_iff_ne]; omega
     simp [this]
    ·rw [zcN _ hc,h4];simp only [List.drop_succ_cons,List.take_succ_cons]
     cases textL (r.drop n) with
     | none => rfl
     | some x => simp; omega
def setHeap (w:World) (r:Nat) (o:Obj):World:={ w with heap:=w.heap.setIfInBounds r o }
theorem zae {w:World} {r:Nat} {o o':Obj} (hb:w.heap[r]? = some o):(setHeap w r o').heap[r]? = some o':=(MapKept.heap_set hb).1
theorem Mods.setHeap {L:List Nat} {a w:World} (h:Mods L a w) {r:Nat} (hr:r ∈ L ∨ a.heap.size ≤ r) (o:Obj):Mods L a (setHeap w r o):=
 h.trans (L':=[r]) ⟨rfl,rfl,rfl,by simp [Proofs.YtcabeljiobiojaaGreatDoor.setHeap],fun k hk hn => by
  show (w.heap.setIfInBounds r o)[k]? = w.heap[k]?;have:¬ r=k:=fun e => hn (by simp [e])
  simp [this]⟩ (by simpa using hr)
theorem zgg {P:Program} (T kt et:TypeId) (d:TypeDesc) (hT:P.underlying T=some (.map kt et)) (hk:P.underlying kt=some d) (w:World) (r:Nat) (es:Array MapEntry) (clock:Nat) (hb:w.heap[r]? = some (.map es clock)) (k v:Value)
  (hkey:MapKept.IsKey d k) (hf:Instr.findNow d k es.toList 0=some none) :
  (Instr.mapUpdate T (.map (some r)) k v).run P w = .ok () (setHeap w r (.map (es.push { key:=k,val:=v,born:=clock }) (clock + 1))):=by
 have hc:(Instr.checkKey false 10000 kt k).run P w = .ok () w:=MapKept.run_checkKey hk hkey false 9999;simp [Instr.mapUpdate,run_underlying hT,MapKept.run_getObj_map hb,hc,MapKept.run_findKey hk hf,MapKept.run_setObj_map _ hb,Result.andThen];rfl
theorem zgh {P:Program} (T kt et:TypeId) (d:TypeDesc) (hT:P.underlying T=some (.map kt et)) (hk:P.underlying kt=some d) (w:World) (b:Nat) (es:Array MapEntry) (clock:Nat) (hb:w.heap[b]? = some (.map es clock)) (k:Value) (z:Value)
  (hz:∀ w,(zeroValue et).run P w = .ok z w) (hkey:MapKept.IsKey d k) (r:Option (Nat × Value)) (hf:Instr.findNow d k es.toList 0=some r) :
  (Instr.lookup T (.map (some b)) k true).run P w = .ok (.tuple #[(r.map (·.2)).getD z,.bool r.isSome]) w:=by
 exact ycL
def zV (l:List (List UInt8)):Array MapEntry:=(l.zipIdx.map fun x => ({ key:=.string ⟨x.1.toArray⟩,val:=.agg #[],born:=x.2 }:MapEntry)).toArray
theorem zd8 (l:List (List UInt8)):∀ x ∈ (zV l).toList,MapKept.IsKey .string x.key:=by intro x hx;simp only [zV,List.mem_map] at hx;obtain ⟨y,-,rfl⟩:=hx;trivial
theorem zda (l:List (List UInt8)) (s:ByteArray):(∃ x ∈ (zV l).toList,x.key = .string s) ↔ s.data.toList ∈ l:=by
 simp only [zV,List.mem_map];constructor
 ·rintro ⟨x,⟨y,hy,rfl⟩,hk⟩;simp only [Value.string.injEq] at hk;subst hk;have:=List.mem_zipIdx hy;simpa using this.2.2 ▸ List.getElem_mem _
 ·intro h;obtain ⟨i,hi,he⟩:=List.getElem_of_mem h;refine ⟨_,⟨(l[i],i),?_,rfl⟩,?_⟩
  ·rw [List.mem_iff_getElem]; exact ⟨i,by simpa using hi,by simp⟩
  ·simp only [he]
theorem zg8 (l:List (List UInt8)) (s:List UInt8):(zV l).push { key:=.string ⟨s.toArray⟩,val:=.agg #[],born:=l.length }=zV (l ++ [s]):=by simp [zV,List.zipIdx_append]
theorem zmi (l:List (List UInt8)) (s:ByteArray) (h:s.data.toList ∉ l):Instr.findNow .string (.string s) (zV l).toList 0=some none:=by
 rcases MapKept.findNow_spec (d:=.string) (k:=.string s) trivial (zV l).toList 0 (zd8 l) with h1 | ⟨j,e,-,h2,h3⟩
 ·exact h1.1
 ·exact absurd ((zda l s).1 ⟨e,List.mem_of_getElem? h2,h3⟩) h
theorem zmj (l:List (List UInt8)) (s:ByteArray):∃ r,Instr.findNow .string (.string s) (zV l).toList 0=some r ∧ r.isSome=l.contains s.data.toList ∧ ∀ z,(r.map (·.2)).getD z=z ∨ (r.map (·.2)).getD z = .agg #[]:=by
 rcases MapKept.findNow_spec (d:=.string) (k:=.string s) trivial (zV l).toList 0 (zd8 l) with ⟨h1,h2⟩ | ⟨j,e,h1,h2,h3⟩
 ·refine ⟨none,h1,?_,fun z => .inl rfl⟩;have:s.data.toList ∉ l:=fun hm => by
   obtain ⟨x,hx,hk⟩:=(zda l s).2 hm;exact h2 x hx hk
  simp [this]
 ·refine ⟨some (0 + j,e.val),h1,?_,fun z => .inr ?_⟩
  ·have:=(zda l s).1 ⟨e,List.mem_of_getElem? h2,h3⟩;simp [this]
  ·have hm:=List.mem_of_getElem? h2;simp only [zV,List.mem_map] at hm;obtain ⟨y,-,rfl⟩:=hm;rfl
def KeyMap (w:World) (mb:Nat):Prop:=∃ clock,w.heap[mb]? = some (.map (zV keyWords) clock)
theorem KeyMap.mods {w w':World} {mb:Nat} {L:List Nat} (h:KeyMap w mb) (hM:Mods L w w') (hn:mb ∉ L):KeyMap w' mb:=by obtain ⟨c,hc⟩:=h;exact ⟨c,hM.heap hc hn⟩
theorem KeyMap.look {P:Program} {w:World} {mb:Nat} (h:KeyMap w mb) (T kt et:TypeId) (hT:P.underlying T=some (.map kt et)) (hk:P.underlying kt=some .string) (hz:∀ w,(zeroValue et).run P w = .ok (.agg #[]) w) (s:ByteArray) :
  (Instr.lookup T (.map (some mb)) (.string s) true).run P w = .ok (.tuple #[.agg #[],.bool (isKey s.data.toList)]) w:=by
 obtain ⟨c,hc⟩:=h;obtain ⟨r,hr,h1,h2⟩:=zmj keyWords s;rw [zgh T kt et .string hT hk w mb _ c hc (.string s) (.agg #[]) hz trivial r hr];have:(r.map (·.2)).getD (.agg #[]) = .agg #[]:=by rcases h2 (.agg #[]) with h | h <;> exact h
 rw [this,h1];rfl
end Go.Proofs.YtcabeljiobiojaaGreatDoor
