/-
  check.expr, walked whole: an expr that is formed, over any columns. No condition but that Go's own variables hold what they were laid with.
-/
import Derived.Test.YtcabeljiobiojaaGreatDoorCkSa
import Derived.Test.YtcabeljiobiojaaGreatDoorCkSb
set_option linter.unusedVariables false
namespace Go.Proofs.YtcabeljiobiojaaGreatDoor
open Go.RowKit
theorem yaE {p:Prop} (h:p:=by
  exact ⟨zaZ AM AM AM AM,by rw [h1]; decide⟩
 ):p:=h
theorem CkVars.past {w w':World} {sb:Nat} (h:CkVars w) (hM:Mods [sb] w w') (hsg : 0 ≠ sb ∧ 2 ≠ sb):CkVars w':=
 ⟨⟨hM.cell h.1.1 (by simpa using hsg.1),hM.cell h.1.2 (by simpa using hsg.1)⟩,hM.cell h.2.1 (by simpa using hsg.2),hM.cell h.2.2 (by simpa using hsg.2)⟩
theorem zob {h:Hd} (hf:zT h 1=true):h.op=oNeg ∨ h.op=oNot ∨ h.op=oIs ∨ h.op=oIsNot ∨ h.op=oCount ∨ h.op=oSum ∨ h.op=oMin ∨ h.op=oMax:=by
 unfold zT at hf;simp only [Bool.and_eq_true] at hf;have h1:=hf.1.1.1;split at h1
 ·simp at h1
 ·split at h1
  ·rename_i hc
   have:=List.contains_iff_mem.1 hc;simpa [ops1] using this
  ·split at h1
   ·simp at h1
   ·cases h1
theorem zoc {h:Hd} (hf:zT h 2=true):h.op=oOr ∨ h.op=oAnd ∨ h.op ∈ rels ∨ h.op=oPlus ∨ h.op=oMinus ∨ h.op=oTimes ∨ h.op=oOver:=by
 unfold zT at hf;simp only [Bool.and_eq_true] at hf;have h1:=hf.1.1.1;split at h1
 ·simp at h1
 ·split at h1
  ·simp at h1
  ·split at h1
   ·rename_i hc
    have:=List.contains_iff_mem.1 hc;simp only [ops2,List.mem_cons,List.not_mem_nil,or_false] at this;simp only [rels,List.mem_cons,List.not_mem_nil,or_false];rcases this with h | h | h | h | h | h | h | h | h | h | h | h
    ·exact .inl h
    ·exact .inr (.inl h)
    ·simp [h]
    ·simp [h]
    ·simp [h]
    ·simp [h]
    ·simp [h]
    ·simp [h]
    ·exact .inr (.inr (.inr (.inl h)))
    ·exact .inr (.inr (.inr (.inr (.inl h))))
    ·exact .inr (.inr (.inr (.inr (.inr (.inl h)))))
    ·exact .inr (.inr (.inr (.inr (.inr (.inr h)))))
   ·cases h1
theorem zmS {op:Bs} (h:op=oOr ∨ op=oAnd ∨ op ∈ rels ∨ op=oPlus ∨ op=oMinus ∨ op=oTimes ∨ op=oOver):op=oAll ∨ op=oCount ∨ op=oNeg ∨ op=oSum ∨ op=oMin ∨ op=oMax ∨ op=oIs ∨ op=oIsNot ∨ op=oNot ∨ op=oAnd ∨ op=oOr ∨ op=oPlus ∨ op=oMinus ∨ op=oTimes ∨ op=oOver ∨ op ∈ rels:=by
 rcases h with h | h | h | h | h | h | h
 ·simp [h]
 ·simp [h]
 ·simp only [h,or_true]
 ·simp [h]
 ·simp [h]
 ·simp [h]
 ·simp [h]
theorem zaZ {h:Hd} (h1:h.op ≠ oNumber) (h2:h.op ≠ oText) (h3:h.op ≠ oNull) (h4:h.op ≠ oBool):zS h=none:=by unfold zS; rw [if_neg h1,if_neg h2,if_neg h3,if_neg h4]
theorem zjM {op:Bs} (h:op ∈ rels):op ≠ oNumber ∧ op ≠ oText ∧ op ≠ oNull ∧ op ≠ oBool ∧ op ≠ oColumn:=by simp only [rels,List.mem_cons,List.not_mem_nil,or_false] at h;rcases h with rfl | rfl | rfl | rfl | rfl | rfl <;> decide
section
variable (sb:Nat) (cv:Value) (mb:Nat) (env:List EC)
def ExprOk (t:Tree) (d:Nat):Prop:=∀ (w:World) (pos e:Nat) (v:Value),CkVars w → Scope w sb cv mb d pos e env → ExprAt 171 103 w [sb] v t →
 Calls Tryz.prog 67 #[zh sb,v] w (ERes w sb cv mb d pos e env (zq env t d))
theorem zfd (hsg : 0 ≠ sb ∧ 2 ≠ sb) (w:World) (hV:CkVars w) (d pos e:Nat) (hd:d ≤ 1000000) (hS:Scope w sb cv mb d pos e env) (xb:Nat) (t:Tree) (hOp:OpT t) (va:Value) (hx:w.heap[xb]? = some (.cells (hdC t.hd va).toArray 171 (0,0))) (hne:xb ≠ sb)
  (hcn:zS t.hd=none) (hnc:t.hd.op ≠ oColumn) (us:List Value) (n:Nat) (hn:t.args.length=n) (hun:us.length=n) (hn2:n ≤ 2) (ao:Option Addr) (hva:va = .slice ao n n)
  (hao:0 < n → ∃ c,ao=some ⟨c,0,none⟩ ∧ c ≠ sb ∧ ∀ i (hi:i < us.length),w.cell? ⟨c,i,none⟩ = some us[i])
  (hsub:∀ i (hi:i < us.length) (ha:i < t.args.length),ExprAt 171 103 w [sb] us[i] t.args[i] ∧ ExprOk sb cv mb env t.args[i] (zy d t.hd))
  (hop:t.hd.op=oAll ∨ t.hd.op=oCount ∨ t.hd.op=oNeg ∨ t.hd.op=oSum ∨ t.hd.op=oMin ∨ t.hd.op=oMax ∨ t.hd.op=oIs ∨ t.hd.op=oIsNot ∨ t.hd.op=oNot ∨ t.hd.op=oAnd ∨ t.hd.op=oOr ∨ t.hd.op=oPlus ∨ t.hd.op=oMinus ∨ t.hd.op=oTimes ∨ t.hd.op=oOver ∨ t.hd.op ∈ rels)
  (hri:(t.hd.op=oPlus ∨ t.hd.op=oMinus ∨ t.hd.op=oTimes ∨ t.hd.op=oOver) → ∀ xs,zcY env (zy d t.hd) t.args = .ok xs → (zcy xs 0).Right ∧ (zcy xs 1).Right) :
  Calls Tryz.prog 67 #[zh sb,zh xb] w (ERes w sb cv mb d pos e env (zq env t d)):=by
 have hsub2:∀ i (hi:i < us.length) (ha:i < t.args.length) W pos' e',Mods [sb] w W → zaX W sb cv mb (zy d t.hd) pos' e' → Calls Tryz.prog 67 #[zh sb,us[i]] W (ERes W sb cv mb (zy d t.hd) pos' e' env (zq env t.args[i] (zy d t.hd))):=fun i hi ha W pos' e' hM hst =>
  (hsub i hi ha).2 W pos' e' us[i] (hV.past hM hsg) (hS.go hM hst) ((hsub i hi ha).1.mods hM)
 cases hag:aggOpB t.hd.op with
 | false => exact zma w hV sb cv mb d pos e env hd hsg hS xb t hOp va hx hne hcn hnc hag us n hn hun hn2 ao hva hao hsub2 hop hri
 | true => exact zmb w hV sb cv mb d pos e env hd hsg hS xb t hOp va hx hne hcn hnc hag us n hn hun hn2 ao hva hao hsub2 hop hri
theorem zhx (d:Nat) (h:Hd):zy d h ≤ d + 1:=by unfold zy; split <;> omega
theorem zib (hsg : 0 ≠ sb ∧ 2 ≠ sb) (hel:env.length ≤ 1000) (hER:zbT env):∀ (t:Tree) (d:Nat),formedT t=true → TreeOk t → d + nodes t ≤ 1000000 → ExprOk sb cv mb env t d:=by
 intro t
 induction t with
 | leaf h =>
  intro d hf hok hd w pos e v hV hS hA;obtain ⟨b,rfl,hb,hx⟩:=hA;have hb:b ≠ sb:=by simpa using hb
  have hd:d ≤ 1000000:=by simp only [nodes] at hd; omega
  cases hc:zS h with
  | some n =>
   have hq:zq env (.leaf h) d = .ok (.leaf n):=by unfold zq; rw [hc]
   rw [hq];exact zjK w hV sb cv mb d pos e env hS b h _ hx n hc
  | none =>
   by_cases hcol:h.op=oColumn
   ·have hq:zq env (.leaf h) d=(zbF env h).bind fun k => .ok (.leaf { op:=oColumn,t:=(env.getD k ⟨[],[],tyNone⟩).t,col:=k }):=by unfold zq; rw [hc]; simp only; rw [if_pos hcol]
    rw [hq];exact zh6 w hV sb cv mb d pos e env hS hel b h _ hx hb hcol (by have:=hok.2.1; omega) (by have:=hok.2.2.1; omega)
   ·have hop:h.op=oAll:=by
     rcases zk7 (h:=h) hf with h1 | h1 | h1 | h1 | h1 | h1
     ·unfold zS at hc; rw [if_pos h1] at hc; cases hc
     ·unfold zS at hc; rw [if_neg AM,if_pos h1] at hc; cases hc
     ·exact ybY
     ·exact ycn
     ·exact absurd h1 hcol
     ·exact h1
    exact zfd sb cv mb env hsg w hV d pos e hd hS b (.leaf h) ⟨hc,hcol⟩ _ hx hb hc hcol [] 0 rfl rfl AA none rfl (fun h0 => by omega) (fun i hi => by simp at hi) (.inl hop) (fun hh => by
     exfalso;have hh:h.op=oPlus ∨ h.op=oMinus ∨ h.op=oTimes ∨ h.op=oOver:=hh;rw [hop] at hh
     revert hh
     decide)
 | un h a ih =>
  intro d hf hok hd w pos e v hV hS hA;have hf:(zT h 1 && formedT a)=true:=hf;simp only [Bool.and_eq_true] at hf;obtain ⟨b,c,u,rfl,hb,hc,hx,hcu,hA⟩:=hA;have hb:b ≠ sb:=by simpa using hb
  have hc:c ≠ sb:=by simpa using hc
  simp only [nodes] at hd;have hop:=zob hf.1;have hne:zS h=none ∧ h.op ≠ oColumn:=by
   rcases hop with h1 | h1 | h1 | h1 | h1 | h1 | h1 | h1 <;>
    exact ⟨zaZ AM AM AM AM,by rw [h1]; decide⟩
  refine zfd sb cv mb env hsg w hV d pos e AA hS b (.un h a) trivial _ hx hb hne.1 hne.2 [u] 1 rfl rfl AA _ rfl (fun _ => ⟨c,rfl,hc,fun i hi => ?_⟩) (fun i hi ha => ?_) ?_ (fun hh => ?_)
  ·obtain rfl:i=0:=by simp at hi; omega
   exact za hcu 0
  ·obtain rfl:i=0:=by simp at hi; omega
   exact ⟨hA,ih _ hf.2 hok.2 (by have:=zhx d h; show zy d h + _ ≤ _; omega)⟩
  ·show h.op=_ ∨ h.op=_ ∨ h.op=_ ∨ h.op=_ ∨ h.op=_ ∨ h.op=_ ∨ h.op=_ ∨ h.op=_ ∨ h.op=_ ∨ _;rcases hop with h1 | h1 | h1 | h1 | h1 | h1 | h1 | h1 <;> simp [h1]
  ·exfalso;have hh:h.op=oPlus ∨ h.op=oMinus ∨ h.op=oTimes ∨ h.op=oOver:=hh;rcases hop with h1 | h1 | h1 | h1 | h1 | h1 | h1 | h1 <;> (rw [h1] at hh; revert hh; decide)
 | bin h a b iha ihb =>
  intro d hf hok hd w pos e v hV hS hA;have hf:(zT h 2 && (formedT a && formedT b))=true:=hf;simp only [Bool.and_eq_true] at hf;obtain ⟨xb,c,u,x,rfl,hb,hc,hx,hcu,hA,hB⟩:=hA;have hb:xb ≠ sb:=by simpa using hb
  have hc:c ≠ sb:=by simpa using hc
  simp only [nodes] at hd;have hop:=zoc hf.1;have hne:zS h=none ∧ h.op ≠ oColumn:=by
   rcases hop with h1 | h1 | h1 | h1 | h1 | h1 | h1
   ·exact yaE
   ·exact yaE
   ·obtain ⟨q1,q2,q3,q4,q5⟩:=zjM h1;exact ⟨zaZ q1 q2 q3 q4,q5⟩
   ·exact yaE
   ·exact yaE
   ·exact yaE
   ·exact yaE
  refine zfd sb cv mb env hsg w hV d pos e AA hS xb (.bin h a b) trivial _ hx hb hne.1 hne.2 [u,x] 2 rfl rfl AA _ rfl (fun _ => ⟨c,rfl,hc,fun i hi => ?_⟩) (fun i hi ha => ?_) ?_ (fun hh xs hxs => ?_)
  ·have hi2:i=0 ∨ i=1:=by (try simp at hi); omega
   rcases hi2 with rfl | rfl
   ·exact za hcu 0
   ·exact za hcu 1
  ·have hi2:i=0 ∨ i=1:=by (try simp at hi); omega
   have hdl:=zhx d h;rcases hi2 with rfl | rfl
   ·exact ⟨hA,iha _ hf.2.1 hok.2.1 (by show zy d h + _ ≤ _; omega)⟩
   ·exact ⟨hB,ihb _ hf.2.2 hok.2.2 (by show zy d h + _ ≤ _; omega)⟩
  ·exact zmS hop
  ·have hxs:((zq env a (zy d h)).bind fun x => ((zq env b (zy d h)).bind fun x => Chk.ok [x]).bind fun xs => Chk.ok (x :: xs)) = .ok xs:=hxs
   cases ha:zq env a (zy d h) with
   | bad p k => rw [ha] at hxs; cases hxs
   | ok y =>
    cases hb2:zq env b (zy d h) with
    | bad p k => rw [ha,hb2] at hxs; cases hxs
    | ok z =>rw [ha,hb2] at hxs;cases hxs;exact ⟨zfV env hER a _ y hf.2.1 ha,zfV env hER b _ z hf.2.2 hb2⟩
end
open Go.Maps
def MapIs (w:World) (L:List Nat) (mb:Nat) (f:Bs → Bs → List Nat):Prop:=
 ∃ es c,w.heap[mb]? = some (.map es c) ∧ mb ∉ L ∧ (∀ e ∈ es.toList,∃ t n i b cap,e.key=zdm t n ∧ t.length ≤ 9223372036854775807 ∧ n.length ≤ 9223372036854775807 ∧ e.val = .slice (some ⟨b,0,none⟩) 1 cap ∧ (1 ≤ cap ∧ cap ≤ 9223372036854775807) ∧ b ∉ L ∧ w.cell? ⟨b,0,none⟩ = some (.int .i64 (i:Nat)) ∧ f t n=[i]) ∧
  (∀ t n,f t n ≠ [] → ∃ e ∈ es.toList,e.key=zdm t n) ∧ ∀ e ∈ es.toList,∀ e' ∈ es.toList,e.key=e'.key → e.val=e'.val
theorem EnvMap.is {w:World} {L:List Nat} {mb:Nat} {env:List EC} (h:EnvMap w L mb env):MapIs w L mb (zaC env):=h
theorem MapIs.env {w:World} {L:List Nat} {mb:Nat} {env:List EC} (h:MapIs w L mb (zaC env)):EnvMap w L mb env:=h
theorem MapIs.mods {w w':World} {L:List Nat} {mb:Nat} {f:Bs → Bs → List Nat} (h:MapIs w L mb f) (hM:Mods L w w'):MapIs w' L mb f:=by exact ybC
theorem MapIs.weaken {w:World} {L L':List Nat} {mb:Nat} {f:Bs → Bs → List Nat} (h:MapIs w L mb f) (hL:∀ x ∈ L',x ∈ L):MapIs w L' mb f:=by exact yby
theorem MapIs.fresh {w:World} {L:List Nat} {mb:Nat} {f:Bs → Bs → List Nat} {g:Nat} (h:MapIs w L mb f) (hg:w.heap.size ≤ g):MapIs w (g :: L) mb f:=by exact ybm
theorem MapIs.keys {es:Array MapEntry} {w:World} {L:List Nat} {f:Bs → Bs → List Nat} (h3:∀ e ∈ es.toList,∃ t n i b cap,e.key=zdm t n ∧ t.length ≤ 9223372036854775807 ∧ n.length ≤ 9223372036854775807 ∧ e.val = .slice (some ⟨b,0,none⟩) 1 cap ∧ (1 ≤ cap ∧ cap ≤ 9223372036854775807) ∧ b ∉ L ∧ w.cell? ⟨b,0,none⟩ = some (.int .i64 (i:Nat)) ∧ f t n=[i]):∀ e ∈ es.toList,∃ l,keyOf Tryz.prog 177 e.key=some l:=fun e he => by obtain ⟨t,n,i,b,cap,q1,q2,q3,-⟩:=h3 e he;rw [q1]; exact zcL t n q2 q3
theorem MapIs.absent {w:World} {L:List Nat} {mb:Nat} {f:Bs → Bs → List Nat} (h:MapIs w L mb f) (t n:Bs) (ht:t.length ≤ 9223372036854775807) (hn:n.length ≤ 9223372036854775807) (hf:f t n=[]) :
  ∀ w':World,w'.heap=w.heap → (Instr.lookup 99 (.map (some mb)) (zdm t n) false).run Tryz.prog w' = .ok (.slice none 0 0) w':=by
 obtain ⟨es,c,h1,h2,h3,h4,h5⟩:=h;obtain ⟨k,hk⟩:=zcL t n ht hn;intro w' hw';rcases named_keyed.find w' hk es.toList (MapIs.keys h3) with ⟨hf',-⟩ | ⟨j,e,hf',he,hek⟩
 ·exact ycb
 ·exfalso;obtain ⟨t',n',i,b,cap,q1,-,-,-,-,-,-,q8⟩:=h3 e (List.mem_of_getElem? he);obtain ⟨rfl,rfl⟩:=zgC (q1.symm.trans hek);rw [hf] at q8;cases q8
def updF (f:Bs → Bs → List Nat) (t0 n0:Bs) (k:Nat):Bs → Bs → List Nat:=fun t n => if t=t0 ∧ n=n0 then [k] else f t n
theorem MapIs.insert {w:World} {L:List Nat} {mb:Nat} {f:Bs → Bs → List Nat} (h:MapIs w L mb f) (t0 n0:Bs) (ht:t0.length ≤ 9223372036854775807) (hn:n0.length ≤ 9223372036854775807) (hf:f t0 n0=[]) {b cap k:Nat} (hb:w.cell? ⟨b,0,none⟩ = some (.int .i64 k)) (hbL:b ∉ L) (hcap:1 ≤ cap ∧ cap ≤ 9223372036854775807) :
  ∃ w',(Instr.mapUpdate 99 (.map (some mb)) (zdm t0 n0) (.slice (some ⟨b,0,none⟩) 1 cap)).run Tryz.prog w = .ok () w' ∧ MapIs w' L mb (updF f t0 n0 k) ∧ Mods [mb] w w':=by
 obtain ⟨es,c,h1,h2,h3,h4,h5⟩:=h;obtain ⟨lk,hk⟩:=zcL t0 n0 ht hn;have hnew:∀ e ∈ es.toList,e.key ≠ zdm t0 n0:=fun e he hke => by obtain ⟨t',n',i,b',cap',q1,-,-,-,-,-,-,q8⟩:=h3 e he;obtain ⟨rfl,rfl⟩:=zgC (q1.symm.trans hke);rw [hf] at q8;cases q8
 have hfk:(Instr.findKey 177 (zdm t0 n0) es.toList).run Tryz.prog w = .ok none w:=by
  rcases named_keyed.find w hk es.toList (MapIs.keys h3) with ⟨hf',-⟩ | ⟨j,e,hf',he,hek⟩
  ·exact hf'
  ·exact absurd hek (hnew e (List.mem_of_getElem? he))
 have hM:Mods [mb] w (setHeap w mb (.map (es.push { key:=zdm t0 n0,val:=.slice (some ⟨b,0,none⟩) 1 cap,born:=c }) (c + 1))):=(QM _ _).setHeap (.inl AB) _;have hcellne:∀ {p v},w.cell? ⟨p,0,none⟩ = some v → p ≠ mb:=fun {p v} hp he => by subst he;unfold World.cell? at hp;simp only [h1] at hp;cases hp
 refine ⟨_,zb8 named_keyed Tryz.underlying99 h1 hk hfk,⟨_,_,zae h1,h2,fun e he => ?_,fun t n hne => ?_,fun e he e' he' hke => ?_⟩,hM⟩
 ·simp only [Array.toList_push,List.mem_append,List.mem_singleton] at he;rcases he with he | rfl
  ·obtain ⟨t',n',i,b',cap',q1,q2,q3,q4,q5,q6,q7,q8⟩:=h3 e he;refine ⟨t',n',i,b',cap',q1,q2,q3,q4,q5,q6,hM.cell q7 (by simpa using hcellne q7),?_⟩;unfold updF;rw [if_neg]
   ·exact q8
   ·rintro ⟨rfl,rfl⟩;rw [hf] at q8;cases q8
  ·exact ⟨t0,n0,k,b,cap,rfl,ht,hn,rfl,hcap,hbL,hM.cell hb (by simpa using hcellne hb),by unfold updF; rw [if_pos ⟨rfl,rfl⟩]⟩
 ·simp only [Array.toList_push,List.mem_append,List.mem_singleton];unfold updF at hne;by_cases hc:t=t0 ∧ n=n0
  ·exact ⟨_,.inr rfl,by rw [hc.1,hc.2]⟩
  ·rw [if_neg hc] at hne;obtain ⟨e,he,hk⟩:=h4 t n hne;exact ⟨e,.inl he,hk⟩
 ·simp only [Array.toList_push,List.mem_append,List.mem_singleton] at he he';rcases he with he | rfl
  ·rcases he' with he' | rfl
   ·exact h5 e he e' he' hke
   ·exact absurd hke (hnew e he)
  ·rcases he' with he' | rfl
   ·exact absurd hke.symm (hnew e' he')
   ·rfl
theorem zgM (t n:Bs) (c:EC):∀ (l:List EC) (i:Nat),zap t n i (l ++ [c])=zap t n i l ++ (if (t=[] ∨ c.table=t) ∧ c.name=n then [i + l.length] else []):=by
 intro l
 induction l with
 | nil =>intro i;show (if _ then _ else _)=_;split <;> simp [zap]
 | cons e l ih =>intro i;show (if _ then i :: zap t n (i + 1) (l ++ [c]) else zap t n (i + 1) (l ++ [c]))=(if _ then i :: zap t n (i + 1) l else zap t n (i + 1) l) ++ _;rw [ih (i + 1),show i + 1 + l.length=i + (e :: l).length by simp; omega];split <;> rfl
theorem zcR {env:List EC} {n:Bs} (hnew:∀ e ∈ env,e.name ≠ n) (t:Bs):zaC env t n=[]:=by
 unfold zaC;suffices ∀ (l:List EC) (i:Nat),(∀ e ∈ l,e.name ≠ n) → zap t n i l=[] from this env 0 hnew;intro l
 induction l with
 | nil => intro i _; rfl
 | cons e l ih =>intro i h;unfold zap;rw [if_neg (fun hh => h e List.mem_cons_self hh.2)];exact ih _ fun e he => h e (CM _ he)
theorem zic {env:List EC} {c:EC} (hnew:∀ e ∈ env,e.name ≠ c.name) (ht:c.table ≠ []):zaC (env ++ [c])=updF (updF (zaC env) [] c.name env.length) c.table c.name env.length:=by
 funext t n;unfold updF;show zap t n 0 (env ++ [c])=_;rw [zgM,Nat.zero_add];by_cases hn:n=c.name
 ·subst hn;have h0:zap t c.name 0 env=[]:=zcR hnew t;rw [h0];by_cases h1:t=c.table
  ·simp [h1]
  ·by_cases h2:t=[]
   ·have h3:¬ ([]:Bs)=c.table:=fun h => ht h.symm;simp [h2,h3]
   ·have h3:¬ c.table=t:=fun h => h1 h.symm;simp [h1,h2,h3,zcR hnew t]
 ·rw [if_neg (fun hh => hn hh.2.symm),if_neg (fun hh => hn hh.2),if_neg (fun hh => hn hh.2),List.append_nil]; rfl
def EnvOwn (w:World) (cv:Value) (env:List EC):Prop:=∃ xs,w.ownsRow 0 61 4 cv env.length xs ∧ ∀ i (hi:i < env.length),xs[i * 4]? = some (.string ⟨env[i].name.toArray⟩) ∧ xs[i * 4 + 1]? = some (.int .i64 env[i].t.k) ∧ xs[i * 4 + 2]? = some (.int .i64 env[i].t.s) ∧ ∃ nl,xs[i * 4 + 3]? = some (.bool nl)
theorem EnvOwn.cols {w:World} {L:List Nat} {cv:Value} {env:List EC} (h:EnvOwn w cv env) (hL:∀ g,cv.ownBlock=some g → g ∉ L):EnvCols w L cv env:=by
 obtain ⟨xs,ho,hx⟩:=h;rcases ho.2 with ⟨hv,h0⟩ | ⟨g,cap,cur,hv,-⟩
 ·exact ⟨none,0,by rw [hv,h0],fun hh => by omega⟩
 ·subst hv;have h1:=zar ho;have h2:=ze0 ho
  exact ⟨_,_,rfl,fun _ => ⟨g,rfl,hL g rfl,h1.2.1,h2,fun i hi => by
   obtain ⟨q1,q2,q3,nl,q4⟩:=hx i hi
   exact ⟨h1.2.2 _ _ q1,h1.2.2 _ _ q2,h1.2.2 _ _ q3,nl,h1.2.2 _ _ q4⟩⟩⟩
theorem EnvOwn.mods {w w':World} {L:List Nat} {cv:Value} {env:List EC} (h:EnvOwn w cv env) (hM:Mods L w w') (hL:∀ g,cv.ownBlock=some g → g ∉ L):EnvOwn w' cv env:=by obtain ⟨xs,ho,hx⟩:=h;exact ⟨xs,zm ho hM hL,hx⟩
structure Adding (Lx Sl:List Nat) (w0 w:World) (sb:Nat) (cv:Value) (mb d pos e:Nat) (env:List EC):Prop where
 st:zaX w sb cv mb d pos e
 map:EnvMap w (sb :: (cv.ownBlock.toList ++ Lx)) mb env
 row:EnvOwn w cv env
 mods:Mods Sl w0 w
 old:sb ∈ Sl ∧ mb ∈ Sl ∧ ∀ g,cv.ownBlock=some g → (g ∈ Sl ∨ w0.heap.size ≤ g) ∧ g ≠ sb
 far:∀ x ∈ Lx,x < w0.heap.size
theorem Adding.scope {Lx Sl:List Nat} {w0 w:World} {sb:Nat} {cv:Value} {mb d pos e:Nat} {env:List EC} (h:Adding Lx Sl w0 w sb cv mb d pos e env):Scope w sb cv mb d pos e env:=
 ⟨h.st,h.map.weaken AB,h.row.cols fun g hg => by simpa using (h.old.2.2 g hg).2⟩
end Go.Proofs.YtcabeljiobiojaaGreatDoor
