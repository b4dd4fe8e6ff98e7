/-
  check's exprs, in plain words: what is of others; types are right; failures are told. And nodes in memory. No condition.
-/
import Derived.Test.YtcabeljiobiojaaGreatDoorQ18
set_option linter.unusedVariables false
set_option maxRecDepth 100000
set_option maxHeartbeats 1000000
namespace Go.Proofs.YtcabeljiobiojaaGreatDoor
open Go.RowKit
theorem AM {p:Prop} (h:p:=by rw [h1]; decide):p:=h
theorem ybK {p:Prop} (h:p:=by
  intro h0;obtain ⟨tb,off,h1,h2,h3⟩:=h h0;refine ⟨tb,off,h1,fun hm => ?_,h3⟩;have h4:tb < w.heap.size:=zD (h3 0 (List.length_pos_iff.2 h0)).1;have:=hL tb hm;omega
 ):p:=h
theorem ybY {p:Prop} (h:p:=by
  unfold zS at hc; rw [if_neg AM,if_neg AM,if_neg AM,if_pos h1] at hc; cases hc
 ):p:=h
theorem ycj {p:Prop} (h:p:=by
  rw [List.mem_reverse,List.mem_map] at h;obtain ⟨c,-,hc⟩:=h;have:=congrArg Prod.fst hc;simp at this; omega
 ):p:=h
theorem ycn {p:Prop} (h:p:=by
  unfold zS at hc; rw [if_neg AM,if_neg AM,if_pos h1] at hc; cases hc
 ):p:=h
def Tree.args:Tree → List Tree
 | .leaf _ => []
 | .un _ a => [a]
 | .bin _ a b => [a,b]
def mkN (n:NHd):List NT → NT
 | [] => .leaf n
 | [x] => .un n x
 | x :: y :: _ => .bin n x y
def zcY (env:List EC) (d:Nat):List Tree → Chk (List NT)
 | [] => .ok []
 | a :: l => (zq env a d).bind fun x => (zcY env d l).bind fun xs => .ok (x :: xs)
def zcy (xs:List NT) (i:Nat):Ty:=(xs.map (·.hd.t)).getD i tyNone
def OpT (t:Tree):Prop:=match t with | .leaf h => zS h=none ∧ h.op ≠ oColumn | _ => True
theorem zcm (env:List EC) (d:Nat) (t:Tree) (h:OpT t):zq env t d=(zcY env (zy d t.hd) t.args).bind fun xs => zcX d t.hd (zcy xs 0) (zcy xs 1) fun n => mkN n xs:=by
 cases t with
 | leaf h' =>obtain ⟨h1,h2⟩:=h;show (match zS h' with | some n => _ | none => _)=_;rw [h1];simp only;rw [if_neg h2];rfl
 | un h' a =>show (zq env a (zy d h')).bind _=((zq env a (zy d h')).bind _).bind _;cases zq env a (zy d h') <;> rfl
 | bin h' a b =>
  show (zq env a (zy d h')).bind _=((zq env a (zy d h')).bind _).bind _
  cases zq env a (zy d h') with
  | bad p k => rfl
  | ok x =>show (zq env b (zy d h')).bind _=(((zq env b (zy d h')).bind _).bind _).bind _;cases zq env b (zy d h') <;> rfl
theorem zfU (env:List EC) (d:Nat) (a:Tree):∀ (l:List Tree),zcY env d (l ++ [a])=(zcY env d l).bind fun xs => (zq env a d).bind fun x => .ok (xs ++ [x]):=by
 intro l
 induction l with
 | nil =>show (zq env a d).bind _=(zq env a d).bind _;cases zq env a d <;> rfl
 | cons b l ih =>
  show (zq env b d).bind _=((zq env b d).bind _).bind _
  cases zq env b d with
  | bad p k => rfl
  | ok x =>
   show (zcY env d (l ++ [a])).bind _=((zcY env d l).bind _).bind _;rw [ih]
   cases zcY env d l with
   | bad p k => rfl
   | ok xs =>show ((zq env a d).bind _).bind _=(zq env a d).bind _;cases zq env a d <;> rfl
def NZ {α:Type} (r:Chk α):Prop:=∀ p k,r = .bad p k → k ≠ 0
theorem NZ.bind {α β:Type} {r:Chk α} {f:α → Chk β} (h:NZ r) (hf:∀ a,r = .ok a → NZ (f a)):NZ (r.bind f):=by
 intro p k hk
 cases r with
 | ok a => exact hf a rfl p k hk
 | bad p' k' => simp only [Chk.bind,Chk.bad.injEq] at hk; rw [← hk.2]; exact h p' k' rfl
theorem NZ.ok {α:Type} (a:α):NZ (Chk.ok a):=fun p k h => by cases h
theorem NZ.four {α:Type} (p:Nat):NZ (Chk.bad p 4:Chk α):=fun p k h => by cases h; decide
theorem zk6 (d:Nat) (h:Hd) (a b:Ty) (mk:NHd → NT):NZ (zcX d h a b mk):=by
 unfold zcX;split
 ·exact NZ.four _
 ·split
  ·exact NZ.four _
  ·exact NZ.ok _
theorem zdZ (env:List EC):∀ (t:Tree) (d:Nat),NZ (zq env t d):=by
 intro t
 induction t with
 | leaf h =>
  intro d;unfold zq;split
  ·exact NZ.ok _
  ·split
   ·exact NZ.bind (fun p k hk => zgD hk) fun a _ => NZ.ok _
   ·exact zk6 _ _ _ _ _
 | un h a ih => intro d; exact NZ.bind (ih _) fun x _ => zk6 _ _ _ _ _
 | bin h a b iha ihb => intro d; exact NZ.bind (iha _) fun x _ => NZ.bind (ihb _) fun y _ => zk6 _ _ _ _ _
theorem ze7 (env:List EC) (d:Nat):∀ (l:List Tree),NZ (zcY env d l):=by
 intro l
 induction l with
 | nil => exact NZ.ok _
 | cons a l ih => exact NZ.bind (zdZ env a d) fun x _ => NZ.bind ih fun xs _ => NZ.ok _
theorem zaU {α:Type} {r:Chk α} (hr:NZ r) {pos e p1:Nat} (h:zai r pos e=(p1,0)):e=0 ∧ p1=pos ∧ ∃ a,r = .ok a:=by
 unfold zai at h;by_cases he:e=0
 ·rw [if_neg AA] at h
  cases r with
  | ok a => simp only [Prod.mk.injEq] at h; exact ⟨he,h.1.symm,a,rfl⟩
  | bad p k =>simp only [Prod.mk.injEq] at h;exact absurd h.2 (hr p k rfl)
 ·rw [if_pos he] at h;simp only [Prod.mk.injEq] at h;exact absurd h.2 he
theorem zdA {α β:Type} {r:Chk α} (hr:NZ r) {f:α → Chk β} {pos e p1 e1:Nat} (h:zai r pos e=(p1,e1)) (h1:e1 ≠ 0):zai (r.bind f) pos e=(p1,e1):=by
 unfold zai at h ⊢;by_cases he:e=0
 ·rw [if_neg AA] at h ⊢
  cases r with
  | ok a => simp only [Prod.mk.injEq] at h; omega
  | bad p k => exact h
 ·rw [if_pos he] at h ⊢; exact h
theorem zdB {α β γ:Type} {r:Chk α} {f:α → Chk β} {r2:Chk γ} {pos e p1 e1:Nat} (hr:NZ r) (h:zai r pos e=(p1,e1)) (hf:∀ a,r = .ok a → zai (f a) pos e=zai r2 pos e):zai (r.bind f) pos e=zai r2 p1 e1:=by
 by_cases h1:e1=0
 ·subst h1;obtain ⟨he,hp,a,rfl⟩:=zaU hr h;rw [hp,← he];exact hf a rfl
 ·rw [zdA hr h h1];unfold zai;rw [if_pos h1]
def zbT (env:List EC):Prop:=∀ e ∈ env,e.t.Right
theorem ze8:tyInt.Right:=.inr ⟨.inl rfl,rfl⟩
theorem zbH:tyBool.Right:=.inr ⟨.inr (.inr rfl),rfl⟩
theorem zh7:tyBytes.Right:=.inr ⟨.inr (.inl rfl),rfl⟩
theorem zh8 {op:UInt8} {a b t:Ty} (h:zb7 op a b=some t):t.Right:=by
 unfold zb7 at h;split at h
 ·cases h
 ·rename_i sc hsc
  split at h
  ·rename_i hc
   split at h
   ·cases h; exact ze8
   ·rename_i h0; cases h; exact .inl ⟨rfl,by show 1 ≤ sc; omega,hc.2.2.1⟩
  ·cases h
theorem zh9 {op:Bs} {a b t:Ty} (h:zx op a b=some t) (ha:op=oAll ∨ a.Right):t.Right:=by
 unfold zx at h;split at h
 ·cases h; exact ze8
 rename_i h1
 have ha:a.Right:=ha.resolve_left (fun e => h1 (.inl e));split at h
 ·split at h
  ·cases h; exact ha
  ·cases h
 split at h
 ·cases h; exact ha
 split at h
 ·cases h; exact zbH
 split at h
 ·split at h
  ·cases h; exact zbH
  ·cases h
 split at h
 ·split at h
  ·cases h; exact zbH
  ·cases h
 split at h
 ·exact zh8 h
 split at h
 ·cases h; exact zbH
 ·cases h
theorem ze9 {d:Nat} {h:Hd} {a b:Ty} {mk:NHd → NT} (hmk:∀ n,(mk n).hd=n) {x:NT} (hx:zcX d h a b mk = .ok x) (ha:h.op=oAll ∨ a.Right):x.hd.t.Right:=by
 unfold zcX at hx;split at hx
 ·cases hx
 ·rename_i t ht
  split at hx
  ·cases hx
  ·cases hx; rw [hmk]; exact zh9 ht ha
theorem zk7 {h:Hd} (hf:zT h 0=true):h.op=oNumber ∨ h.op=oText ∨ h.op=oBool ∨ h.op=oNull ∨ h.op=oColumn ∨ h.op=oAll:=by
 unfold zT at hf;simp only [Bool.and_eq_true] at hf;have h1:=hf.1.1.1;split at h1
 ·rename_i hc
  have:=List.contains_iff_mem.1 hc;simpa [ops0] using this
 ·split at h1
  ·simp at h1
  ·split at h1
   ·simp at h1
   ·cases h1
theorem zhu {h:Hd} {k:Nat} (hf:zT h k=true):h.scale ≤ 9 ∧ h.s.length ≤ 200:=by unfold zT at hf;simp only [Bool.and_eq_true,decide_eq_true_eq] at hf;exact ⟨hf.1.2,hf.2⟩
theorem zfV (env:List EC) (he:zbT env):∀ (t:Tree) (d:Nat) (n:NT),formedT t=true → zq env t d = .ok n → n.hd.t.Right:=by
 intro t
 induction t with
 | leaf h =>
  intro d n hf hx;have hf:zT h 0=true:=hf;unfold zq at hx;split at hx
  ·rename_i c hc
   cases hx;unfold zS at hc;split at hc
   ·cases hc;show Ty.Right (if 0 < h.scale then ⟨2,h.scale⟩ else tyInt);split
    ·exact .inl ⟨rfl,by show 1 ≤ h.scale; omega,(zhu hf).1⟩
    ·exact ze8
   split at hc
   ·cases hc; exact zh7
   split at hc
   ·cases hc; exact zbH
   split at hc
   ·cases hc; exact zbH
   ·cases hc
  ·rename_i hc
   split at hx
   ·rename_i ho
    cases hq:zbF env h with
    | bad p k => rw [hq] at hx; cases hx
    | ok k =>rw [hq] at hx;cases hx;have hlt:=zh5 hq;show (env.getD k _).t.Right;rw [List.getD_eq_getElem?_getD,List.getElem?_eq_getElem hlt];exact he _ (List.getElem_mem hlt)
   ·rename_i ho
    refine ze9 (fun n => rfl) hx (.inl ?_);rcases zk7 hf with h1 | h1 | h1 | h1 | h1 | h1
    ·unfold zS at hc; rw [if_pos h1] at hc; cases hc
    ·unfold zS at hc; rw [if_neg AM,if_pos h1] at hc; cases hc
    ·exact ybY
    ·exact ycn
    ·exact absurd h1 ho
    ·exact h1
 | un h a ih =>
  intro d n hf hx;have hf:(zT h 1 && formedT a)=true:=hf;simp only [Bool.and_eq_true] at hf
  cases hq:zq env a (zy d h) with
  | bad p k => unfold zq at hx; rw [hq] at hx; cases hx
  | ok x =>unfold zq at hx; rw [hq] at hx; simp only [Chk.bind] at hx;exact ze9 (fun n => rfl) hx (.inr (ih _ x hf.2 hq))
 | bin h a b iha ihb =>
  intro d n hf hx;have hf:(zT h 2 && (formedT a && formedT b))=true:=hf;simp only [Bool.and_eq_true] at hf
  cases hq:zq env a (zy d h) with
  | bad p k => unfold zq at hx; rw [hq] at hx; cases hx
  | ok x =>
   cases hq2:zq env b (zy d h) with
   | bad p k => unfold zq at hx; rw [hq] at hx; simp only [Chk.bind] at hx; rw [hq2] at hx; cases hx
   | ok y =>unfold zq at hx; rw [hq] at hx; simp only [Chk.bind] at hx; rw [hq2] at hx;exact ze9 (fun n => rfl) hx (.inr (iha _ x hf.2.1 hq))
theorem NAt.fresh {w:World} {L:List Nat} {g:Nat} (hg:w.heap.size ≤ g):∀ {t:NT} {v:Value},NAt w L v t → NAt w (g :: L) v t:=by
 intro t
 induction t with
 | leaf h =>rintro v ⟨b,h1,h2,h3⟩;have:=zj h3;exact ⟨b,h1,by simp; exact ⟨by omega,h2⟩,h3⟩
 | un h a ih =>rintro v ⟨b,c,cap,u,h1,h2,h3,h4,h5,h6,h7⟩;have:=zj h5;have hc:=zD h6;change c < _ at hc;exact ⟨b,c,cap,u,h1,by simp; exact ⟨by omega,h2⟩,by simp; exact ⟨by omega,h3⟩,h4,h5,h6,ih h7⟩
 | bin h a d iha ihd =>rintro v ⟨b,c,cap,u,x,h1,h2,h3,h4,h5,h6,h7,h8,h9⟩;have:=zj h5;have hc:=zD h6;change c < _ at hc;exact ⟨b,c,cap,u,x,h1,by simp; exact ⟨by omega,h2⟩,by simp; exact ⟨by omega,h3⟩,h4,h5,h6,h7,iha h8,ihd h9⟩
theorem NAt.head {w:World} {L:List Nat} {t:NT} {v:Value} (h:NAt w L v t):∃ b args,v=zh b ∧ b ∉ L ∧ w.heap[b]? = some (.cells (nhC t.hd args).toArray 80 (0,0)):=by
 cases t with
 | leaf h' => obtain ⟨b,h1,h2,h3⟩:=h; exact ⟨b,_,h1,h2,h3⟩
 | un h' a => obtain ⟨b,c,cap,u,h1,h2,-,-,h5,-⟩:=h; exact ⟨b,_,h1,h2,h5⟩
 | bin h' a d => obtain ⟨b,c,cap,u,x,h1,h2,-,-,h5,-⟩:=h; exact ⟨b,_,h1,h2,h5⟩
open Go.Maps
def okP (p:Int × List UInt8):Prop:=(-9223372036854775808 ≤ p.1 ∧ p.1 ≤ 9223372036854775807) ∧ p.2.length ≤ 9223372036854775807
def zc7 (p:Int × List UInt8):Value:=zeG p.1 ⟨p.2.toArray⟩
theorem zgN {p q:Int × List UInt8} (h:zc7 p=zc7 q):p=q:=by obtain ⟨a,b⟩:=p; obtain ⟨c,d⟩:=q;simp [zc7,zeG] at h;rw [h.1,h.2]
theorem okP.key {p:Int × List UInt8} (h:okP p):∃ l,keyOf Tryz.prog 211 (zc7 p)=some l:=zk4 p.1 h.1 _ h.2
structure NRow (es:Array MapEntry) (clock:Nat) (met:List (Int × List UInt8)):Prop where
 stamped:MapKept.Stamped es clock
 sub:∀ e ∈ es.toList,∃ p ∈ met,e.key=zc7 p ∧ e.val = .int .i64 1
 has:∀ p ∈ met,∃ e ∈ es.toList,e.key=zc7 p
 ok:∀ p ∈ met,okP p
theorem NRow.find {es:Array MapEntry} {clock:Nat} {met:List (Int × List UInt8)} (h:NRow es clock met) {p:Int × List UInt8} (hp:okP p) (w:World) :
  (p ∉ met ∧ (Instr.findKey 211 (zc7 p) es.toList).run Tryz.prog w = .ok none w) ∨
  (p ∈ met ∧ ∃ j e,(Instr.findKey 211 (zc7 p) es.toList).run Tryz.prog w = .ok (some (j,e.val)) w ∧ es[j]? = some e ∧ e.key=zc7 p ∧ e.val = .int .i64 1):=by
 obtain ⟨l,hl⟩:=hp.key;have hall:∀ e ∈ es.toList,∃ l,keyOf Tryz.prog 211 e.key=some l:=fun e he => by obtain ⟨q,hq,hk,-⟩:=h.sub e he;rw [hk]; exact (h.ok q hq).key
 rcases place_keyed.find w hl es.toList hall with ⟨h1,h2⟩ | ⟨j,e,h1,h2,h3⟩
 ·left;refine ⟨fun hm => ?_,h1⟩;obtain ⟨e,he,hk⟩:=h.has p hm;exact h2 e he hk
 ·right;have he:e ∈ es.toList:=List.mem_of_getElem? h2;obtain ⟨q,hq,hk,hv⟩:=h.sub e he;have:p=q:=zgN (h3.symm.trans hk);subst this;exact ⟨hq,j,e,h1,by simpa using h2,h3,hv⟩
theorem NRow.push {es:Array MapEntry} {clock:Nat} {met:List (Int × List UInt8)} (h:NRow es clock met) {p:Int × List UInt8} (hp:okP p) (hn:p ∉ met):NRow (es.push { key:=zc7 p,val:=.int .i64 1,born:=clock }) (clock + 1) (p :: met):=by
 have hk:∀ x ∈ es.toList,x.key ≠ zc7 p:=fun x hx he => by obtain ⟨q,hq,hk,-⟩:=h.sub x hx;exact hn (zgN (he.symm.trans hk) ▸ hq)
 refine ⟨MapKept.stamped_push h.stamped hk,fun e he => ?_,fun q hq => ?_,fun q hq => ?_⟩
 ·simp at he;rcases he with he | rfl
  ·obtain ⟨q,hq,h1,h2⟩:=h.sub e BB;exact ⟨q,CM _ hq,h1,h2⟩
  ·exact ⟨p,List.mem_cons_self,rfl,rfl⟩
 ·rcases MC hq with rfl | hq
  ·exact ⟨{ key:=zc7 q,val:=.int .i64 1,born:=clock },by simp,rfl⟩
  ·obtain ⟨e,he,hk⟩:=h.has q hq;exact ⟨e,by simp; left; simpa using he,hk⟩
 ·rcases MC hq with rfl | hq
  ·exact hp
  ·exact h.ok q hq
open Go.Maps
theorem zco (w:World):(zeroValue 3).run Tryz.prog w = .ok (.int .i64 0) w:=by kernel_rfl
theorem zfe {es:Array MapEntry} {clock:Nat} {met:List (Int × List UInt8)} (h:NRow es clock met) {p:Int × List UInt8} (hp:okP p) (hn:p ∉ met) (v:Value) (c:Nat) (w:World) :
  ∃ j,(Instr.findKey 211 (zc7 p) (es.push { key:=zc7 p,val:=v,born:=c }).toList).run Tryz.prog w = .ok (some (j,v)) w:=by
 obtain ⟨l,hl⟩:=hp.key;have hall:∀ e ∈ (es.push { key:=zc7 p,val:=v,born:=c }).toList,∃ l,keyOf Tryz.prog 211 e.key=some l:=fun e he => by
  simp at he;rcases he with he | rfl
  ·obtain ⟨q,hq,hk,-⟩:=h.sub e BB;rw [hk]; exact (h.ok q hq).key
  ·exact ⟨l,hl⟩
 rcases place_keyed.find w hl _ hall with ⟨h1,h2⟩ | ⟨j,e,h1,h2,h3⟩
 ·exact absurd rfl (h2 { key:=zc7 p,val:=v,born:=c } AB)
 ·have he:=List.mem_of_getElem? h2;simp at he;rcases he with he | rfl
  ·obtain ⟨q,hq,hk,-⟩:=h.sub e BB;exact absurd (zgN (h3.symm.trans hk) ▸ hq) hn
  ·exact ⟨j,h1⟩
theorem zla {es:Array MapEntry} {clock:Nat} (h:MapKept.Stamped es clock) (x:MapEntry) (hx:x.born=clock):(es.push x).findIdx? (fun e => (e.born:Int) == (clock:Int))=some es.size:=by
 rw [Array.findIdx?_push];have:es.findIdx? (fun e => (e.born:Int) == (clock:Int))=none:=by rw [Array.findIdx?_eq_none_iff];intro e he;have:=h.1 e BB;rw [beq_eq_false_iff_ne]; omega
 rw [this];simp [hx]
theorem zlb (w0 w:World) (hT:Tabs w0) (hM0:Mods [] w0 w) (mb:Nat) (hmb:w0.heap.size ≤ mb) (es:Array MapEntry) (clock:Nat) (hb:w.heap[mb]? = some (.map es clock)) (met:List (Int × List UInt8)) (hN:NRow es clock met) (t:Int) (s:ByteArray) (hp:okP (t,s.data.toList)) (hn:(t,s.data.toList) ∉ met) :
  Calls Tryz.prog 72 #[.map (some mb),.int .i64 t,.string s] w fun e w' => e = .returned (.bool (zbj s.data.toList)) ∧ Mods [mb] w w' ∧ ∃ es' clock',w'.heap[mb]? = some (.map es' clock') ∧ NRow es' clock' ((t,s.data.toList) :: met):=by
 obtain ⟨l,hl⟩:=hp.key;have hf:(Instr.findKey 211 (zeG t s) es.toList).run Tryz.prog w.drew = .ok none w.drew:=by
  rcases hN.find hp w.drew with ⟨-,h⟩ | ⟨h,-⟩
  ·exact h
  ·exact absurd h hn
 have hb1:w.drew.heap[mb]? = some (.map es clock):=hb;have e1:=zak (T:= 119) place_keyed Tryz.underlying119 hb1 hl zco none hf;have e2:=zeg (T:= 119) place_keyed Tryz.underlying119 hb1 hl zco hf;have hb2:=zae (o':=.map (es.push { key:=zc7 (t,s.data.toList),val:=.int .i64 0,born:=clock }) (clock + 1)) hb1;obtain ⟨j,hf2⟩:=zfe hN hp hn (.int .i64 0) clock (setHeap w.drew mb (.map (es.push { key:=zc7 (t,s.data.toList),val:=.int .i64 0,born:=clock }) (clock + 1)));have e3:=zak (T:= 119) place_keyed Tryz.underlying119 hb2 hl zco _ hf2;have e4:=zcc (P:= Tryz.prog) 119 hb2 (clock:Int) (.int .i64 1) (zla hN.stamped _ rfl);have hpush:(es.push { key:=zc7 (t,s.data.toList),val:=.int .i64 0,born:=clock }).modify es.size (fun e => { e with val:=.int .i64 1 })=es.push { key:=zc7 (t,s.data.toList),val:=.int .i64 1,born:=clock }:=by
  apply Array.ext_getElem?;intro i;rw [Array.getElem?_modify];by_cases h:es.size=i
  ·subst h; simp
  ·rw [if_neg h,Array.getElem?_push,Array.getElem?_push,if_neg (Ne.symm h),if_neg (Ne.symm h)]
 rw [hpush] at e4;have hkv:zc7 (t,s.data.toList) = .agg #[.int .i64 t,.string s]:=rfl;simp only [Option.map_none,Option.getD_none,Option.map_some,Option.getD_some] at e1 e3;have hMw1:=(((QM [mb] w).drew).setHeap (r:=mb) (.inl AB) (.map (es.push { key:=zc7 (t,s.data.toList),val:=.int .i64 0,born:=clock }) (clock + 1)));have hb3:=zae (o':=.map (es.push { key:=zc7 (t,s.data.toList),val:=.int .i64 1,born:=clock }) (clock + 1)) hb2;have hM2:=hMw1.setHeap (r:=mb) (.inl AB) (.map (es.push { key:=zc7 (t,s.data.toList),val:=.int .i64 1,born:=clock }) (clock + 1));obtain ⟨j5,hf5⟩:=zfe hN hp hn (.int .i64 1) clock (setHeap (setHeap w.drew mb (.map (es.push { key:=zc7 (t,s.data.toList),val:=.int .i64 0,born:=clock }) (clock + 1))) mb (.map (es.push { key:=zc7 (t,s.data.toList),val:=.int .i64 1,born:=clock }) (clock + 1)));have e5:=zak (T:= 119) place_keyed Tryz.underlying119 hb3 hl zco _ hf5;simp only [Option.map_some,Option.getD_some] at e5;have hNN:=QH (hN.push hp hn);rw [hkv] at e1 e2 e3 e4 e5 hb3 hM2;generalize setHeap w.drew mb (.map (es.push { key:=.agg #[.int .i64 t,.string s],val:=.int .i64 0,born:=clock }) (clock + 1))=w1 at *;clear hb2 hf2 hpush hf hf5 hMw1 hb1;go_enter Tryz.func72, Tryz.ntmps72;go_wp2_with fail;go_region;clear e1 e2 e3 e4;generalize setHeap w1 mb (.map (es.push { key:=.agg #[.int .i64 t,.string s],val:=.int .i64 1,born:=clock }) (clock + 1))=w2 at *;have hT2:=hT.mods (hM0.trans hM2 (fun x hx => .inr AQ));have hnm:=zgA w2 hT2 s hp.2;go_wp2_with fail;(with_reducible refine hnm.mono ?_);rintro e w3 ⟨rfl,hM3⟩;clear hnm;go_wp2_with fail;go_ret;exact ⟨rfl,hM2.trans hM3,_,_,hM3.heap hb3,hNN.out⟩
open Go.Maps
theorem zod {es:Array MapEntry} {clock:Nat} (h:MapKept.Stamped es clock) {j:Nat} {e:MapEntry} (he:es[j]? = some e):es.findIdx? (fun x => (x.born:Int) == (e.born:Int))=some j:=by
 obtain ⟨hj,hje⟩:=Array.getElem?_eq_some_iff.1 he;rw [Array.findIdx?_eq_some_iff_getElem];refine ⟨hj,by rw [hje]; simp,fun i hi => ?_⟩;have hnd:=h.2.1;intro hc;rw [beq_iff_eq] at hc;have hij:(es.toList.map (·.born))[i]? = (es.toList.map (·.born))[j]?:=by simp only [List.getElem?_map,Array.getElem?_toList,Array.getElem?_eq_getElem hj,Array.getElem?_eq_getElem (show i < es.size by omega),Option.map_some];congr 1;rw [hje]; omega
 have:=(List.getElem?_inj AE hnd).1 hij;omega
theorem zid {es:Array MapEntry} {j:Nat} {e:MapEntry} {k:Value} (he:es[j]? = some e) (hk:e.key=k):es.modify j (fun e => { e with key:=k })=es:=by
 apply Array.ext_getElem?;intro i;rw [Array.getElem?_modify];by_cases h:j=i
 ·subst h;rw [if_pos rfl,he];simp [← hk]
 ·rw [if_neg h]
theorem zie {es:Array MapEntry} {clock:Nat} {met:List (Int × List UInt8)} (h:NRow es clock met) {p:Int × List UInt8} (hp:okP p) {j:Nat} {e:MapEntry} (he:es[j]? = some e) (hk:e.key=zc7 p) (v:Value) (w:World) :
  ∃ i,(Instr.findKey 211 (zc7 p) (es.modify j fun x => { x with val:=v }).toList).run Tryz.prog w = .ok (some (i,v)) w:=by
 obtain ⟨l,hl⟩:=hp.key;have hget:∀ i x,(es.modify j fun x => { x with val:=v })[i]? = some x → ∃ y,es[i]? = some y ∧ x.key=y.key ∧ (i=j → x.val=v):=by
  intro i x hx;rw [Array.getElem?_modify] at hx;by_cases hij:j=i
  ·rw [if_pos hij] at hx;obtain ⟨y,hy,rfl⟩:=Option.map_eq_some_iff.1 hx;exact ⟨y,hy,rfl,fun _ => rfl⟩
  ·rw [if_neg hij] at hx;exact ⟨x,hx,rfl,fun h => absurd h.symm hij⟩
 have hall:∀ x ∈ (es.modify j fun x => { x with val:=v }).toList,∃ l,keyOf Tryz.prog 211 x.key=some l:=fun x hx => by obtain ⟨i,hi⟩:=List.mem_iff_getElem?.1 hx;rw [Array.getElem?_toList] at hi;obtain ⟨y,hy,hky,-⟩:=hget i x hi;obtain ⟨q,hq,hkq,-⟩:=h.sub y (List.mem_of_getElem? (by rw [Array.getElem?_toList]; exact hy));rw [hky,hkq]; exact (h.ok q hq).key
 rcases place_keyed.find w hl _ hall with ⟨h1,h2⟩ | ⟨i,x,h1,h2,h3⟩
 ·have hm:(es.modify j fun x => { x with val:=v })[j]? = some { e with val:=v }:=by rw [Array.getElem?_modify,if_pos rfl,he]; rfl
  exact absurd hk (h2 { e with val:=v } (List.mem_of_getElem? (by rw [Array.getElem?_toList]; exact hm)))
 ·rw [Array.getElem?_toList] at h2;obtain ⟨y,hy,hky,hv⟩:=hget i x h2;have hij:(es.toList.map (·.key))[i]? = (es.toList.map (·.key))[j]?:=by
   simp only [List.getElem?_map,Array.getElem?_toList,hy,he,Option.map_some];rw [← hky,h3,hk]
  have hlt:i < (es.toList.map (·.key)).length:=by have:=(Array.getElem?_eq_some_iff.1 hy).1;simpa using this
  have:=(List.getElem?_inj hlt h.stamped.2.2).1 hij;rw [hv this] at h1;exact ⟨i,h1⟩
theorem zlc (w:World) (mb:Nat) (es:Array MapEntry) (clock:Nat) (hb:w.heap[mb]? = some (.map es clock)) (met:List (Int × List UInt8)) (hN:NRow es clock met) (t:Int) (s:ByteArray) (hp:okP (t,s.data.toList)) (hn:(t,s.data.toList) ∈ met) :
  Calls Tryz.prog 72 #[.map (some mb),.int .i64 t,.string s] w fun e w' => e = .returned (.bool false) ∧ Mods [mb] w w':=by
 obtain ⟨l,hl⟩:=hp.key;have hfa:∀ W,∃ j e,(Instr.findKey 211 (zc7 (t,s.data.toList)) es.toList).run Tryz.prog W = .ok (some (j,e.val)) W ∧ es[j]? = some e ∧ e.key=zc7 (t,s.data.toList) ∧ e.val = .int .i64 1:=fun W => by
  rcases hN.find hp W with ⟨h,-⟩ | ⟨-,h⟩
  ·exact absurd hn h
  ·exact h
 have hb1:w.drew.heap[mb]? = some (.map es clock):=hb;obtain ⟨j,e,hf,he,hk,hv⟩:=hfa w.drew;have e1:=zak (T:= 119) place_keyed Tryz.underlying119 hb1 hl zco _ hf;have e2:=zeh (T:= 119) place_keyed Tryz.underlying119 hb1 hl hf he hk;have hsame:=zid he hk;rw [hsame] at e2;have hb2:=zae (o':=.map es clock) hb1;obtain ⟨j2,e',hf2,-,-,hv2⟩:=hfa (setHeap w.drew mb (.map es clock));have e3:=zak (T:= 119) place_keyed Tryz.underlying119 hb2 hl zco _ hf2;have e4:=zcc (P:= Tryz.prog) 119 hb2 (e.born:Int) (.int .i64 2) (zod hN.stamped he);have hb3:=zae (o':=.map (es.modify j fun x => { x with val:=.int .i64 2 }) clock) hb2;obtain ⟨j5,hf5⟩:=zie hN hp he hk (.int .i64 2) (setHeap (setHeap w.drew mb (.map es clock)) mb (.map (es.modify j fun x => { x with val:=.int .i64 2 }) clock));have e5:=zak (T:= 119) place_keyed Tryz.underlying119 hb3 hl zco _ hf5;have hM2:=(((QM [mb] w).drew).setHeap (r:=mb) (.inl AB) (.map es clock)).setHeap (r:=mb) (.inl AB) (.map (es.modify j fun x => { x with val:=.int .i64 2 }) clock);have hkv:zc7 (t,s.data.toList) = .agg #[.int .i64 t,.string s]:=rfl;simp only [Option.map_some,Option.getD_some,hv,hv2] at e1 e2 e3 e5;rw [hkv] at e1 e2 e3 e5;generalize setHeap w.drew mb (.map es clock)=w1 at *;generalize setHeap w1 mb (.map (es.modify j fun x => { x with val:=.int .i64 2 }) clock)=w2 at *;clear hb2 hf2 hf hf5 hb1 hb3 hb hfa he hk hv hv2 hsame hkv hN hp hn;go_enter Tryz.func72, Tryz.ntmps72;go_wp2_with fail;go_region;clear e1 e2 e3 e4;go_wp2_with fail;go_ret;exact ⟨rfl,hM2⟩
structure Col where
 name:ByteArray
 k:Int
 s:Int
 null:Bool
def Col.nm (c:Col):List UInt8:=c.name.data.toList
def Col.good (c:Col):Bool:=zbj c.nm && zaN c.k c.s
structure Tbl where
 name:ByteArray
 cols:List Col
def Tbl.nm (t:Tbl):List UInt8:=t.name.data.toList
abbrev Met:=List (Int × List UInt8)
def zeH (k:Int):Met → List Col → Option Met
 | met,[] => some met
 | met,c :: cs => if (k,c.nm) ∈ met then none else if zbj c.nm=true then (if zaN c.k c.s=true then zeH k ((k,c.nm) :: met) cs else none) else none
def tblK (k:Int) (met:Met) (t:Tbl):Option Met:=
 match zeH k met t.cols with
 | none => none
 | some m => if (-1,t.nm) ∈ m then none else if zbj t.nm=true ∧ 1 ≤ t.cols.length ∧ t.cols.length ≤ 16 then some ((-1,t.nm) :: m) else none
def tblsK:Int → Met → List Tbl → Option Met
 | _,met,[] => some met
 | k,met,t :: ts => if 16 < t.cols.length then none else match tblK k met t with
  | none => none
  | some m => tblsK (k + 1) m ts
def tblOK (t:Tbl):Bool:=zbj t.nm && (decide (1 ≤ t.cols.length) && (decide (t.cols.length ≤ 16) && (t.cols.all Col.good && decide (t.cols.map Col.nm).Nodup)))
def zd4 (l:List Tbl):Bool:=l.all tblOK && (decide (l.map Tbl.nm).Nodup && decide (l.length ≤ 16))
theorem zfX (k:Int) (cs:List Col):∀ (met m:Met),zeH k met cs=some m ↔ (∀ c ∈ cs,c.good=true) ∧ (cs.map Col.nm).Nodup ∧ (∀ c ∈ cs,(k,c.nm) ∉ met) ∧ m=(cs.map fun c => (k,c.nm)).reverse ++ met:=by
 induction cs with
 | nil => intro met m; simp [zeH]; exact eq_comm
 | cons c cs ih =>
  intro met m;unfold zeH;by_cases h1:(k,c.nm) ∈ met
  ·rw [if_pos h1];constructor
   ·intro h; cases h
   ·intro h; exact absurd h1 (h.2.2.1 c List.mem_cons_self)
  rw [if_neg h1];by_cases h2:zbj c.nm=true
  ·rw [if_pos h2];by_cases h3:zaN c.k c.s=true
   ·rw [if_pos h3,ih];have hg:c.good=true:=by simp [Col.good,h2,h3]
    constructor
    ·rintro ⟨a1,a2,a3,a4⟩;refine ⟨fun x hx => ?_,?_,fun x hx => ?_,?_⟩
     ·rcases MC hx with rfl | hx
      ·exact hg
      ·exact a1 x hx
     ·rw [List.map_cons,List.nodup_cons];refine ⟨fun hm => ?_,a2⟩;obtain ⟨x,hx,hxe⟩:=List.mem_map.1 hm;exact a3 x hx (by rw [hxe]; exact List.mem_cons_self)
     ·rcases MC hx with rfl | hx
      ·exact h1
      ·exact fun hm => a3 x hx (CM _ hm)
     ·rw [a4]; simp
    ·rintro ⟨a1,a2,a3,a4⟩;rw [List.map_cons,List.nodup_cons] at a2;refine ⟨fun x hx => a1 x (CM _ hx),a2.2,fun x hx hm => ?_,by rw [a4]; simp⟩;rcases MC hm with h | h
     ·have:x.nm=c.nm:=by simpa using h
      exact a2.1 (List.mem_map.2 ⟨x,hx,this⟩)
     ·exact a3 x (CM _ hx) h
   ·rw [if_neg h3];constructor
    ·intro h; cases h
    ·intro h;have:=h.1 c List.mem_cons_self;simp [Col.good,h3] at this
  ·rw [if_neg h2];constructor
   ·intro h; cases h
   ·intro h;have:=h.1 c List.mem_cons_self;simp [Col.good,h2] at this
theorem zhy {k:Int} (hk:0 ≤ k) {met:Met} (hm:∀ p ∈ met,p.1 < k) (t:Tbl) (m:Met):tblK k met t=some m ↔ tblOK t=true ∧ (-1,t.nm) ∉ met ∧ m=(-1,t.nm) :: ((t.cols.map fun c => (k,c.nm)).reverse ++ met):=by
 unfold tblK
 cases hc:zeH k met t.cols with
 | none =>
  constructor
  ·intro h; cases h
  ·rintro ⟨h1,h2,h3⟩;simp only [tblOK,Bool.and_eq_true,decide_eq_true_eq,List.all_eq_true] at h1;have:=(zfX k t.cols met _).2 ⟨h1.2.2.2.1,h1.2.2.2.2,fun c hc hx => by have:=hm _ hx; simp at this,rfl⟩;rw [hc] at this; cases this
 | some m0 =>
  obtain ⟨a1,a2,a3,a4⟩:=(zfX k t.cols met m0).1 hc;have hmem:(-1,t.nm) ∈ m0 ↔ (-1,t.nm) ∈ met:=by
   rw [a4,List.mem_append];constructor
   ·rintro (h | h)
    ·exact ycj
    ·exact h
   ·exact .inr
  have hok:tblOK t=true ↔ (zbj t.nm=true ∧ 1 ≤ t.cols.length ∧ t.cols.length ≤ 16):=by simp only [tblOK,Bool.and_eq_true,decide_eq_true_eq,List.all_eq_true];exact ⟨fun h => ⟨h.1,h.2.1,h.2.2.1⟩,fun h => ⟨h.1,h.2.1,h.2.2,a1,a2⟩⟩
  rw [hok];simp only;by_cases h1:(-1,t.nm) ∈ m0
  ·rw [if_pos h1];constructor
   ·intro h; cases h
   ·intro h; exact absurd (hmem.1 h1) h.2.1
  ·rw [if_neg h1];by_cases h2:zbj t.nm=true ∧ 1 ≤ t.cols.length ∧ t.cols.length ≤ 16
   ·rw [if_pos h2,Option.some.injEq];constructor
    ·intro h;exact ⟨h2,fun hx => h1 (hmem.2 hx),by rw [← h,a4]⟩
    ·intro h;rw [h.2.2,a4]
   ·rw [if_neg h2];constructor
    ·intro h; cases h
    ·intro h; exact absurd h.1 h2
theorem zjN (ts:List Tbl):∀ {k:Int} (hk:0 ≤ k) {met:Met} (hm:∀ p ∈ met,p.1 < k),(tblsK k met ts).isSome=true ↔ (∀ t ∈ ts,tblOK t=true) ∧ (ts.map Tbl.nm).Nodup ∧ (∀ t ∈ ts,(-1,t.nm) ∉ met):=by
 induction ts with
 | nil => intro k hk met hm; simp [tblsK]
 | cons t ts ih =>
  intro k hk met hm;unfold tblsK;by_cases h16:16 < t.cols.length
  ·rw [if_pos h16];constructor
   ·intro h; cases h
   ·intro h;have:=h.1 t List.mem_cons_self;simp only [tblOK,Bool.and_eq_true,decide_eq_true_eq,List.all_eq_true] at this;omega
  rw [if_neg h16]
  cases ht:tblK k met t with
  | none =>
   simp only [Option.isSome_none];constructor
   ·intro h; cases h
   ·intro h;have:=(zhy hk hm t _).2 ⟨h.1 t List.mem_cons_self,h.2.2 t List.mem_cons_self,rfl⟩;rw [ht] at this; cases this
  | some m =>
   obtain ⟨b1,b2,b3⟩:=(zhy hk hm t m).1 ht;have hm':∀ p ∈ m,p.1 < k + 1:=by
    intro p hp;rw [b3] at hp;rcases MC hp with rfl | hp
    ·simp; omega
    ·rcases List.mem_append.1 hp with hp | hp
     ·rw [List.mem_reverse,List.mem_map] at hp;obtain ⟨c,-,rfl⟩:=hp;simp; omega
     ·have:=hm p hp; omega
   have hmem:∀ x:List UInt8,(-1,x) ∈ m ↔ x=t.nm ∨ (-1,x) ∈ met:=by
    intro x;rw [b3,List.mem_cons,List.mem_append];constructor
    ·rintro (h | h | h)
     ·left; simpa using h
     ·exact ycj
     ·exact .inr h
    ·rintro (h | h)
     ·left; rw [h]
     ·exact .inr (.inr h)
   simp only;rw [ih AA hm'];constructor
   ·rintro ⟨a1,a2,a3⟩;refine ⟨fun x hx => ?_,?_,fun x hx => ?_⟩
    ·rcases MC hx with rfl | hx
     ·exact b1
     ·exact a1 x hx
    ·rw [List.map_cons,List.nodup_cons];refine ⟨fun hx => ?_,a2⟩;obtain ⟨x,hx,hxe⟩:=List.mem_map.1 hx;exact a3 x hx ((hmem x.nm).2 (.inl hxe))
    ·rcases MC hx with rfl | hx
     ·exact b2
     ·exact fun h => a3 x hx ((hmem x.nm).2 (.inr h))
   ·rintro ⟨a1,a2,a3⟩;rw [List.map_cons,List.nodup_cons] at a2;refine ⟨fun x hx => a1 x (CM _ hx),a2.2,fun x hx h => ?_⟩;rcases (hmem x.nm).1 h with h | h
    ·exact a2.1 (List.mem_map.2 ⟨x,hx,h⟩)
    ·exact a3 x (CM _ hx) h
theorem zld (l:List Tbl):zd4 l=((tblsK 0 [] l).isSome && decide (l.length ≤ 16)):=by
 have h:=zjN l (k:=0) AA (met:=[]) AB;rw [Bool.eq_iff_iff];simp only [zd4,Bool.and_eq_true,decide_eq_true_eq,List.all_eq_true,h];constructor
 ·rintro ⟨h1,h2,h3⟩; exact ⟨⟨h1,h2,by simp⟩,h3⟩
 ·rintro ⟨⟨h1,h2,-⟩,h3⟩; exact ⟨h1,h2,h3⟩
def Col.ok (c:Col):Prop:=((-9223372036854775808 ≤ c.k ∧ c.k ≤ 9223372036854775807) ∧ (-9223372036854775808 ≤ c.s ∧ c.s ≤ 9223372036854775807)) ∧ c.name.size ≤ 9223372036854775807
def Tbl.ok (t:Tbl):Prop:=t.name.size ≤ 9223372036854775807 ∧ t.cols.length ≤ 9223372036854775807 ∧ ∀ c ∈ t.cols,c.ok
def colC (c:Col):List Value:=[.string c.name,.int .i64 c.k,.int .i64 c.s,.bool c.null]
def ColsIn (w:World) (ao:Option Addr) (cs:List Col) (L:List Nat):Prop:=
 cs ≠ [] → ∃ b off,ao=some ⟨b,off,none⟩ ∧ b ∉ L ∧ ∀ i (h:i < cs.length),w.cell? ⟨b,off + i * 4,none⟩ = some (.string cs[i].name) ∧ w.cell? ⟨b,off + i * 4 + 1,none⟩ = some (.int .i64 cs[i].k) ∧ w.cell? ⟨b,off + i * 4 + 2,none⟩ = some (.int .i64 cs[i].s) ∧ w.cell? ⟨b,off + i * 4 + 3,none⟩ = some (.bool cs[i].null)
def TblsIn (w:World) (ao:Option Addr) (ts:List Tbl) (L:List Nat):Prop:=
 ts ≠ [] → ∃ b off,ao=some ⟨b,off,none⟩ ∧ b ∉ L ∧ ∀ i (h:i < ts.length),w.cell? ⟨b,off + i * 2,none⟩ = some (.string ts[i].name) ∧ ∃ co c,w.cell? ⟨b,off + i * 2 + 1,none⟩ = some (.slice co ts[i].cols.length c) ∧ ColsIn w co ts[i].cols L
theorem ColsIn.mods {w w':World} {ao:Option Addr} {cs:List Col} {L:List Nat} (h:ColsIn w ao cs L) (hM:Mods L w w'):ColsIn w' ao cs L:=by intro h0;obtain ⟨tb,off,h1,h2,h3⟩:=h h0;exact ⟨tb,off,h1,h2,fun i hi => ⟨hM.cell (h3 i hi).1 h2,hM.cell (h3 i hi).2.1 h2,hM.cell (h3 i hi).2.2.1 h2,hM.cell (h3 i hi).2.2.2 h2⟩⟩
theorem TblsIn.mods {w w':World} {ao:Option Addr} {ts:List Tbl} {L:List Nat} (h:TblsIn w ao ts L) (hM:Mods L w w'):TblsIn w' ao ts L:=by intro h0;obtain ⟨tb,off,h1,h2,h3⟩:=h h0;refine ⟨tb,off,h1,h2,fun i hi => ?_⟩;obtain ⟨q1,co,c,q2,q3⟩:=h3 i hi;exact ⟨hM.cell q1 h2,co,c,hM.cell q2 h2,q3.mods hM⟩
theorem ColsIn.apart {w:World} {ao:Option Addr} {cs:List Col} (h:ColsIn w ao cs []) {L:List Nat} (hL:∀ k ∈ L,w.heap.size ≤ k):ColsIn w ao cs L:=by exact ybK
theorem TblsIn.apart {w:World} {ao:Option Addr} {ts:List Tbl} (h:TblsIn w ao ts []) {L:List Nat} (hL:∀ k ∈ L,w.heap.size ≤ k):TblsIn w ao ts L:=by
 intro h0;obtain ⟨tb,off,h1,h2,h3⟩:=h h0;refine ⟨tb,off,h1,fun hm => ?_,fun i hi => ?_⟩
 ·have h4:tb < w.heap.size:=zD (h3 0 (List.length_pos_iff.2 h0)).1;have:=hL tb hm;omega
 ·obtain ⟨q1,co,c,q2,q3⟩:=h3 i hi;exact ⟨q1,co,c,q2,q3.apart hL⟩
structure V where
 z:Bool
 n:Int
 s:ByteArray
def V.ok (v:V):Prop:=(-9223372036854775808 ≤ v.n ∧ v.n ≤ 9223372036854775807) ∧ v.s.size ≤ 9223372036854775807
def ValsIn (w:World) (ao:Option Addr) (vs:List V) (L:List Nat):Prop:=
 vs ≠ [] → ∃ tb off,ao=some ⟨tb,off,none⟩ ∧ tb ∉ L ∧ ∀ i (h:i < vs.length),w.cell? ⟨tb,off + i * 3,none⟩ = some (.bool vs[i].z) ∧ w.cell? ⟨tb,off + i * 3 + 1,none⟩ = some (.int .i64 vs[i].n) ∧ w.cell? ⟨tb,off + i * 3 + 2,none⟩ = some (.string vs[i].s)
def RowsIn (w:World) (ao:Option Addr) (rs:List (List V)) (L:List Nat):Prop:=
 rs ≠ [] → ∃ rb off,ao=some ⟨rb,off,none⟩ ∧ rb ∉ L ∧ ∀ i (h:i < rs.length),∃ vo c,rs[i].length ≤ c ∧ w.cell? ⟨rb,off + i,none⟩ = some (.slice vo rs[i].length c) ∧ ValsIn w vo rs[i] L
theorem ValsIn.mods {w w':World} {ao:Option Addr} {vs:List V} {L:List Nat} (h:ValsIn w ao vs L) (hM:Mods L w w'):ValsIn w' ao vs L:=by intro h0;obtain ⟨tb,off,h1,h2,h3⟩:=h h0;exact ⟨tb,off,h1,h2,fun i hi => ⟨hM.cell (h3 i hi).1 h2,hM.cell (h3 i hi).2.1 h2,hM.cell (h3 i hi).2.2 h2⟩⟩
theorem RowsIn.mods {w w':World} {ao:Option Addr} {rs:List (List V)} {L:List Nat} (h:RowsIn w ao rs L) (hM:Mods L w w'):RowsIn w' ao rs L:=by intro h0;obtain ⟨rb,off,h1,h2,h3⟩:=h h0;refine ⟨rb,off,h1,h2,fun i hi => ?_⟩;obtain ⟨vo,c,hl,q1,q2⟩:=h3 i hi;exact ⟨vo,c,hl,hM.cell q1 h2,q2.mods hM⟩
theorem ValsIn.apart {w:World} {ao:Option Addr} {vs:List V} (h:ValsIn w ao vs []) {L:List Nat} (hL:∀ k ∈ L,w.heap.size ≤ k):ValsIn w ao vs L:=by exact ybK
end Go.Proofs.YtcabeljiobiojaaGreatDoor
