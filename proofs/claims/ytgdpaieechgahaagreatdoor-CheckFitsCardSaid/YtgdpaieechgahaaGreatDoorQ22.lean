/-
  check.expr, walked: of constants and columns. No condition but that Go's own variables hold what they were laid with.
-/
import Derived.Test.YtgdpaieechgahaaGreatDoorQ19
import Derived.Test.YtgdpaieechgahaaGreatDoorSpine
import Derived.StillTailTactics
import Derived.Deep.MidRow
set_option linter.unusedVariables false
set_option maxRecDepth 100000
set_option maxHeartbeats 4000000
namespace Go.Proofs.YtgdpaieechgahaaGreatDoor
open Go.RowKit
open Go.Maps
theorem zbX (w:World) (hV:CkVars w) (xb:Nat) (h:Hd) (va:Value) (hb:w.heap[xb]? = some (.cells (hdC h va).toArray 133 (0,0))):Calls Tryz.prog 86 #[zh xb] w (zaG w (zS h)):=by
 by_cases h1:h.op=oNumber
 ·have:zS h=some { op:=oValue,t:=if 0 < h.scale then ⟨2,h.scale⟩ else tyInt,n:=h.n }:=by unfold zS; rw [if_pos h1]
  rw [this]; exact ze6 w hV xb h va hb h1
 by_cases h2:h.op=oText
 ·have:zS h=some { op:=oValue,t:=tyBytes,s:=h.s }:=by unfold zS; rw [if_neg h1,if_pos h2]
  rw [this]; exact zgK w hV xb h va hb h2
 by_cases h4:h.op=oNull
 ·have:zS h=some { op:=oValue,t:=tyBool,null:=true }:=by unfold zS; rw [if_neg h1,if_neg h2,if_pos h4]
  rw [this]; exact zgJ w hV xb h va hb h4
 by_cases h3:h.op=oBool
 ·have:zS h=some (val0 h.n):=by unfold zS; rw [if_neg h1,if_neg h2,if_neg h4,if_pos h3]; rfl
  rw [this]; exact zgI w hV xb h va hb h3
 ·have:zS h=none:=by unfold zS; rw [if_neg h1,if_neg h2,if_neg h4,if_neg h3]
  rw [this]; exact (zgH w hV xb h va hb h1 h2 h3 h4).mono fun e w' h => ⟨h.2,h.1⟩
def EnvCols (w:World) (L:List Nat) (cv:Value) (env:List EC):Prop:=
 ∃ ao cap,cv = .slice ao env.length cap ∧ (0 < env.length → ∃ g,ao=some ⟨g,0,none⟩ ∧ g ∉ L ∧ env.length ≤ cap ∧ cap ≤ 9223372036854775807 ∧ ∀ i (hi:i < env.length),w.cell? ⟨g,i * 4,none⟩ = some (.string ⟨env[i].name.toArray⟩) ∧ w.cell? ⟨g,i * 4 + 1,none⟩ = some (.int .i64 env[i].t.k) ∧ w.cell? ⟨g,i * 4 + 2,none⟩ = some (.int .i64 env[i].t.s) ∧ ∃ nl,w.cell? ⟨g,i * 4 + 3,none⟩ = some (.bool nl))
theorem EnvCols.mods {w w':World} {L:List Nat} {cv:Value} {env:List EC} (h:EnvCols w L cv env) (hM:Mods L w w'):EnvCols w' L cv env:=by obtain ⟨ao,cap,h1,h2⟩:=h;refine ⟨ao,cap,h1,fun h0 => ?_⟩;obtain ⟨g,q1,q2,q3,q4,q5⟩:=h2 h0;refine ⟨g,q1,q2,q3,q4,fun i hi => ?_⟩;obtain ⟨p1,p2,p3,nl,p4⟩:=q5 i hi;exact ⟨hM.cell p1 q2,hM.cell p2 q2,hM.cell p3 q2,nl,hM.cell p4 q2⟩
structure Scope (w:World) (sb:Nat) (cv:Value) (mb d pos e:Nat) (env:List EC):Prop where
 st:zaX w sb cv mb d pos e
 map:EnvMap w [sb] mb env
 cols:EnvCols w [sb] cv env
theorem Scope.go {w w':World} {sb:Nat} {cv:Value} {mb d pos e d' pos' e':Nat} {env:List EC} (h:Scope w sb cv mb d pos e env) (hM:Mods [sb] w w') (hS:zaX w' sb cv mb d' pos' e'):Scope w' sb cv mb d' pos' e' env:=
 ⟨hS,h.map.mods hM,h.cols.mods hM⟩
theorem Scope.later {w w':World} {sb:Nat} {cv:Value} {mb d pos e:Nat} {env:List EC} (h:Scope w sb cv mb d pos e env) (hM:Mods [] w w'):Scope w' sb cv mb d pos e env:=
 h.go (hM.mono) (hM.heap h.st)
def ERes (w:World) (sb:Nat) (cv:Value) (mb d pos e:Nat) (env:List EC) (r0:Chk NT) (r:Ending) (w':World):Prop:=
 ∃ b,r = .returned (zh b) ∧ w.heap.size ≤ b ∧ Mods [sb] w w' ∧ zaX w' sb cv mb d (zai r0 pos e).1 (zai r0 pos e).2 ∧ (e=0 → ∀ n,r0 = .ok n → ∀ L:List Nat,(∀ x ∈ L,x < w.heap.size) → NAt w' L (zh b) n)
theorem zaP {α:Type} (a:α) (pos e:Nat):zai (.ok a) pos e=(pos,e):=by unfold zai; split <;> rfl
theorem zjK (w:World) (hV:CkVars w) (sb:Nat) (cv:Value) (mb d pos e:Nat) (env:List EC) (hS:Scope w sb cv mb d pos e env) (xb:Nat) (h:Hd) (va:Value) (hx:w.heap[xb]? = some (.cells (hdC h va).toArray 133 (0,0))) (n:NHd) (hn:zS h=some n) :
  Calls Tryz.prog 56 #[zh sb,zh xb] w (ERes w sb cv mb d pos e env (.ok (.leaf n))):=by
 have hc:=zbX w hV xb h va hx;rw [hn] at hc;have hst:=hS.st;obtain ⟨PP,hPP⟩:=EX (ERes w sb cv mb d pos e env (.ok (.leaf n)));rw [hPP];have HPP:=QH (AI hPP hst);clear hPP hst hS hx hn hV;unfold zh at *;go_enter Tryz.func56, Tryz.ntmps56;go_wp2_with fail;(with_reducible refine hc.mono ?_);rintro r w2 ⟨hM,b,rfl,hb,hbx⟩;have hfin:PP (.returned (.pointer (some ⟨b,0,none⟩))) w2:=by rw [← HPP.out.1];refine ⟨b,rfl,hb,hM.mono,by rw [zaP]; exact hM.heap HPP.out.2,fun _ n' hn' L hL => ?_⟩;cases hn';exact ⟨b,rfl,fun hm => by have:=hL b hm; omega,hbx⟩
 have HFIN:=QH hfin;unfold zh;clear hfin hM hb hbx hc;go_wp2_with fail;exact HFIN.out
theorem zh6 (w:World) (hV:CkVars w) (sb:Nat) (cv:Value) (mb d pos e:Nat) (env:List EC) (hS:Scope w sb cv mb d pos e env) (hel:env.length ≤ 1000) (xb:Nat) (h:Hd) (va:Value) (hx:w.heap[xb]? = some (.cells (hdC h va).toArray 133 (0,0))) (hne:xb ≠ sb) (hop:h.op=oColumn)
  (ht:h.table.length ≤ 9223372036854775807) (hn:h.name.length ≤ 9223372036854775807) :
  Calls Tryz.prog 56 #[zh sb,zh xb] w (ERes w sb cv mb d pos e env ((zbF env h).bind fun k => .ok (.leaf { op:=oColumn,t:=(env.getD k ⟨[],[],tyNone⟩).t,col:=k }))):=by
 have hc:=zbX w hV xb h va hx;have hcn:zS h=none:=by unfold zS; rw [hop]; rfl
 rw [hcn] at hc;have x0:=za hx 0;change w.cell? _=some (.string ⟨h.op.toArray⟩) at x0;rw [hop] at x0;change w.cell? _=some (.string ⟨#[99,111,108,117,109,110]⟩) at x0;obtain ⟨PP,hPP⟩:=EX (ERes w sb cv mb d pos e env ((zbF env h).bind fun k => .ok (.leaf { op:=oColumn,t:=(env.getD k ⟨[],[],tyNone⟩).t,col:=k })));rw [hPP];have HH:=QH (AI hPP (AI hS (AI hx (AI ht hn))));clear hPP hS hx ht hn hV hcn hop;unfold zh at *;go_enter Tryz.func56, Tryz.ntmps56;go_wp2_with fail;(with_reducible refine hc.mono ?_);rintro r w2 ⟨hM,rfl⟩;have y0:=hM.cell x0;have hS2:=HH.out.2.1.later hM;have hx2:=hM.heap HH.out.2.2.1;have hcol:=ze5 w2 sb cv mb d pos e hS2.st env hS2.map xb h va hx2 hne HH.out.2.2.2.1 HH.out.2.2.2.2;unfold zh at hcol;have H2:=QH (AI hS2 (AI hx2 hM));clear hc x0 hS2 hx2 hM;go_wp2_with fail;(with_reducible refine hcol.mono ?_);rintro r w3 ⟨rfl,hM3,hS3⟩;obtain ⟨kk,hkk⟩:=EX (colK env h e);obtain ⟨p3,hp3⟩:=EX ((zai (zbF env h) pos e).1);obtain ⟨e3,he3⟩:=EX ((zai (zbF env h) pos e).2);rw [hp3,he3] at hS3;rw [hkk];have HK:=QH (AI hkk (AI hp3 he3));clear hcol hkk hp3 he3 y0;have hz:=(QM [] w3).alloc (.cells #[.string ⟨#[99,111,108,117,109,110]⟩,.int .i64 0,.int .i64 0,.int .i64 kk,.bool false,.int .i64 0,.string ⟨#[]⟩,.slice none 0 0] 63);have hnb:=QN w3 (.cells #[.string ⟨#[99,111,108,117,109,110]⟩,.int .i64 0,.int .i64 0,.int .i64 kk,.bool false,.int .i64 0,.string ⟨#[]⟩,.slice none 0 0] 63);have hS4:Scope (w3.alloc (.cells #[.string ⟨#[99,111,108,117,109,110]⟩,.int .i64 0,.int .i64 0,.int .i64 kk,.bool false,.int .i64 0,.string ⟨#[]⟩,.slice none 0 0] 63)) sb cv mb d p3 e3 env:=(H2.out.1.go hM3 hS3).later hz;have hM4:Mods [sb] w (w3.alloc (.cells #[.string ⟨#[99,111,108,117,109,110]⟩,.int .i64 0,.int .i64 0,.int .i64 kk,.bool false,.int .i64 0,.string ⟨#[]⟩,.slice none 0 0] 63)):=(((H2.out.2.2.mono (L':=[sb])).trans hM3).trans (hz.mono (L':=[sb]) (by simp)));have hsz:w.heap.size ≤ w3.heap.size:=by have h1:=H2.out.2.2.size; have h2:=hM3.size; omega
 have hsbl:sb < w3.heap.size:=zj hS3;go_upto_region 6 with fail;generalize w3.alloc (.cells #[.string ⟨#[99,111,108,117,109,110]⟩,.int .i64 0,.int .i64 0,.int .i64 kk,.bool false,.int .i64 0,.string ⟨#[]⟩,.slice none 0 0] 63)=w4 at *;generalize w3.heap.size=nb at *;have c4:=za hS4.st 4;change w4.cell? _=some (.int .i64 (e3:Nat)) at c4;have H4:=QH (AI hS4 (AI hM4 (AI hnb (AI hsz hsbl))));by_cases hz3:e3=0
 ·have z3:((e3:Int) == 0)=true:=by rw [beq_iff_eq]; omega
  have hec:e=0 ∧ zbF env h = .ok kk ∧ p3=pos ∧ kk < env.length:=by
   have h1:=HK.out;unfold zai colK at h1;by_cases he:e=0
   ·rw [if_neg (by omega),if_neg (by omega)] at h1
    cases hq:zbF env h with
    | ok k =>rw [hq] at h1;simp only at h1;refine ⟨he,by rw [h1.1],h1.2.1.symm,?_⟩;rw [← h1.1];exact zh5 hq
    | bad p k =>rw [hq] at h1;simp only at h1;have:=zgD hq;omega
   ·rw [if_pos he,if_pos he] at h1;simp only at h1;omega
  obtain ⟨he,hq,hpp,hlt⟩:=hec;obtain ⟨ao,cap,hcv,hg⟩:=hS4.cols;obtain ⟨g,rfl,hg1,hg2,hg3,hg4⟩:=hg (by omega);obtain ⟨q0,q1,q2,nl,q3⟩:=hg4 kk hlt;have s0:=za hS4.st 0;change w4.cell? _=some cv at s0;rw [hcv] at s0;have hgd:env.getD kk ⟨[],[],tyNone⟩ = env[kk]:=by simp [hlt]
  obtain ⟨T,hT⟩:=EX (env[kk].t);rw [hT] at q1 q2;have n3:w4.cell? ⟨nb,3,none⟩ = some (.int .i64 kk):=za hnb 3;obtain ⟨len,hlen⟩:=EX (env.length);rw [hlen] at hlt hel hg2 s0;have b1:(kk:Int) < (len:Int):=by omega
  have hM5:Mods [sb] w ((w4.drew).setCells nb 1 [.int .i64 T.k,.int .i64 T.s]):=((hM4.drew.setCell (p:=⟨nb,1,none⟩) (.inr hsz) (.int .i64 T.k)).setCell (p:=⟨nb,2,none⟩) (.inr hsz) (.int .i64 T.s));have hnb5:((w4.drew).setCells nb 1 [.int .i64 T.k,.int .i64 T.s]).heap[nb]? = some (.cells (nhC { op:=oColumn,t:=T,col:=kk } (.slice none 0 0)).toArray 63 (0,0)):=zb (zb (show w4.drew.heap[nb]? = _ from hnb) 1 (.int .i64 T.k)) 2 (.int .i64 T.s);have hst5:zaX ((w4.drew).setCells nb 1 [.int .i64 T.k,.int .i64 T.s]) sb cv mb d p3 e3:=(show Mods [nb] w4 ((w4.drew).setCells nb 1 [.int .i64 T.k,.int .i64 T.s]) from ((QM [nb] w4).drew.setCell (p:=⟨nb,1,none⟩) (.inl (by simp)) (.int .i64 T.k)).setCell (p:=⟨nb,2,none⟩) (.inl (by simp)) (.int .i64 T.s)).heap hS4.st (by simp; omega);have hfin:PP (.returned (.pointer (some ⟨nb,0,none⟩))) ((w4.drew).setCells nb 1 [.int .i64 T.k,.int .i64 T.s]):=by
   rw [← HH.out.1,hq];refine ⟨nb,rfl,hsz,hM5,?_,fun _ n hn L hL => ?_⟩
   ·show zaX _ _ _ _ _ (zai (.ok _) pos e).1 (zai (.ok _) pos e).2;rw [zaP,← hpp,he,← hz3];exact hst5
   ·simp only [Chk.bind,Chk.ok.injEq] at hn;subst hn;exact ⟨nb,rfl,fun hm => by have:=hL nb hm; omega,by rw [hgd,hT]; exact hnb5⟩
  have HFIN:=QH hfin;have HT:w4.drew.there nb 1 2:=fun j hj => by
   have hj2:j=0 ∨ j=1:=by omega
   rcases hj2 with rfl | rfl
   ·exact ⟨(congrArg Option.isSome (za hnb 1)).trans rfl,zc hnb 1⟩
   ·exact ⟨(congrArg Option.isSome (za hnb 2)).trans rfl,zc hnb 2⟩
  clear hfin hM5 hnb5 hst5 hg4 hgd hT hq hpp he hlen hz3 hS4 hM4 hnb hcv HK HH H2 H4 hM3 hS3 hz;go_upto_region 7 with fail;go_still_tail 14,(by kernel_rfl);change wpList _ _ _ _ _ w4.drew;refine wpList_store_mid rfl 26 (.tmp 49) (.tmp 47) rfl nb 1 #[.int .i64 T.k,.int .i64 T.s] rfl rfl HT zk (zA _ _) ?_;generalize hw5:(w4.drew).setCells nb 1 (#[.int .i64 T.k,.int .i64 T.s]:Array Value).toList=w5;change (w4.drew).setCells nb 1 [.int .i64 T.k,.int .i64 T.s]=w5 at hw5;rw [hw5] at HFIN;clear hw5;go_wp2_with fail;exact HFIN.out
 ·have z3:((e3:Int) == 0)=false:=by rw [beq_eq_false_iff_ne]; omega
  have hfin:PP (.returned (.pointer (some ⟨nb,0,none⟩))) w4:=by
   rw [← HH.out.1];have hk:=HK.out;have hbind:zai ((zbF env h).bind fun k => .ok (NT.leaf { op:=oColumn,t:=(env.getD k ⟨[],[],tyNone⟩).t,col:=k })) pos e=(p3,e3):=by
    rw [← hk.2.1,← hk.2.2];unfold zai;by_cases he:e=0
    ·rw [if_neg (by omega),if_neg (by omega)]
     cases hq:zbF env h with
     | ok k =>exfalso;have h2:=hk.2.2;unfold zai at h2;rw [if_neg (by omega),hq] at h2;simp only at h2;omega
     | bad p k => rfl
    ·rw [if_pos he,if_pos he]
   refine ⟨nb,rfl,hsz,hM4,by rw [hbind]; exact hS4.st,fun he n hn => ?_⟩;exfalso;have h2:=hk.2.2
   cases hq:zbF env h with
   | ok k =>unfold zai at h2;rw [if_neg (by omega),hq] at h2;simp only at h2;omega
   | bad p k => rw [hq] at hn; cases hn
  have HFIN:=QH hfin;clear hfin hM4 hS4 hz3 HK HH H2 H4 hM3 hS3 hz hnb;go_wp2_with fail;exact HFIN.out
def Tree.args:Tree → List Tree
 | .leaf _ => []
 | .un _ a => [a]
 | .bin _ a b => [a,b]
def mkN (n:NHd):List NT → NT
 | [] => .leaf n
 | [x] => .un n x
 | x :: y :: _ => .bin n x y
def zcY (env:List EC) (d:Nat):List Tree → Chk (List NT)
 | [] => .ok []
 | a :: l => (zq env a d).bind fun x => (zcY env d l).bind fun xs => .ok (x :: xs)
def zcy (xs:List NT) (i:Nat):Ty:=(xs.map (·.hd.t)).getD i tyNone
def OpT (t:Tree):Prop:=match t with | .leaf h => zS h=none ∧ h.op ≠ oColumn | _ => True
theorem zcm (env:List EC) (d:Nat) (t:Tree) (h:OpT t):zq env t d=(zcY env (zy d t.hd) t.args).bind fun xs => zcX d t.hd (zcy xs 0) (zcy xs 1) fun n => mkN n xs:=by
 cases t with
 | leaf h' =>obtain ⟨h1,h2⟩:=h;show (match zS h' with | some n => _ | none => _)=_;rw [h1];simp only;rw [if_neg h2];rfl
 | un h' a =>show (zq env a (zy d h')).bind _=((zq env a (zy d h')).bind _).bind _;cases zq env a (zy d h') <;> rfl
 | bin h' a b =>
  show (zq env a (zy d h')).bind _=((zq env a (zy d h')).bind _).bind _
  cases zq env a (zy d h') with
  | bad p k => rfl
  | ok x =>show (zq env b (zy d h')).bind _=(((zq env b (zy d h')).bind _).bind _).bind _;cases zq env b (zy d h') <;> rfl
theorem zfU (env:List EC) (d:Nat) (a:Tree):∀ (l:List Tree),zcY env d (l ++ [a])=(zcY env d l).bind fun xs => (zq env a d).bind fun x => .ok (xs ++ [x]):=by
 intro l
 induction l with
 | nil =>show (zq env a d).bind _=(zq env a d).bind _;cases zq env a d <;> rfl
 | cons b l ih =>
  show (zq env b d).bind _=((zq env b d).bind _).bind _
  cases zq env b d with
  | bad p k => rfl
  | ok x =>
   show (zcY env d (l ++ [a])).bind _=((zcY env d l).bind _).bind _;rw [ih]
   cases zcY env d l with
   | bad p k => rfl
   | ok xs =>show ((zq env a d).bind _).bind _=(zq env a d).bind _;cases zq env a d <;> rfl
def NZ {α:Type} (r:Chk α):Prop:=∀ p k,r = .bad p k → k ≠ 0
theorem NZ.bind {α β:Type} {r:Chk α} {f:α → Chk β} (h:NZ r) (hf:∀ a,r = .ok a → NZ (f a)):NZ (r.bind f):=by
 intro p k hk
 cases r with
 | ok a => exact hf a rfl p k hk
 | bad p' k' => simp only [Chk.bind,Chk.bad.injEq] at hk; rw [← hk.2]; exact h p' k' rfl
theorem NZ.ok {α:Type} (a:α):NZ (Chk.ok a):=fun p k h => by cases h
theorem NZ.four {α:Type} (p:Nat):NZ (Chk.bad p 4:Chk α):=fun p k h => by cases h; decide
theorem zk6 (d:Nat) (h:Hd) (a b:Ty) (mk:NHd → NT):NZ (zcX d h a b mk):=by
 unfold zcX;split
 ·exact NZ.four _
 ·split
  ·exact NZ.four _
  ·exact NZ.ok _
theorem zdZ (env:List EC):∀ (t:Tree) (d:Nat),NZ (zq env t d):=by
 intro t
 induction t with
 | leaf h =>
  intro d;unfold zq;split
  ·exact NZ.ok _
  ·split
   ·exact NZ.bind (fun p k hk => zgD hk) fun a _ => NZ.ok _
   ·exact zk6 _ _ _ _ _
 | un h a ih => intro d; exact NZ.bind (ih _) fun x _ => zk6 _ _ _ _ _
 | bin h a b iha ihb => intro d; exact NZ.bind (iha _) fun x _ => NZ.bind (ihb _) fun y _ => zk6 _ _ _ _ _
theorem ze7 (env:List EC) (d:Nat):∀ (l:List Tree),NZ (zcY env d l):=by
 intro l
 induction l with
 | nil => exact NZ.ok _
 | cons a l ih => exact NZ.bind (zdZ env a d) fun x _ => NZ.bind ih fun xs _ => NZ.ok _
theorem zaU {α:Type} {r:Chk α} (hr:NZ r) {pos e p1:Nat} (h:zai r pos e=(p1,0)):e=0 ∧ p1=pos ∧ ∃ a,r = .ok a:=by
 unfold zai at h;by_cases he:e=0
 ·rw [if_neg (by omega)] at h
  cases r with
  | ok a => simp only [Prod.mk.injEq] at h; exact ⟨he,h.1.symm,a,rfl⟩
  | bad p k =>simp only [Prod.mk.injEq] at h;exact absurd h.2 (hr p k rfl)
 ·rw [if_pos he] at h;simp only [Prod.mk.injEq] at h;exact absurd h.2 he
theorem zdA {α β:Type} {r:Chk α} (hr:NZ r) {f:α → Chk β} {pos e p1 e1:Nat} (h:zai r pos e=(p1,e1)) (h1:e1 ≠ 0):zai (r.bind f) pos e=(p1,e1):=by
 unfold zai at h ⊢;by_cases he:e=0
 ·rw [if_neg (by omega)] at h ⊢
  cases r with
  | ok a => simp only [Prod.mk.injEq] at h; omega
  | bad p k => exact h
 ·rw [if_pos he] at h ⊢; exact h
theorem zdB {α β γ:Type} {r:Chk α} {f:α → Chk β} {r2:Chk γ} {pos e p1 e1:Nat} (hr:NZ r) (h:zai r pos e=(p1,e1)) (hf:∀ a,r = .ok a → zai (f a) pos e=zai r2 pos e):zai (r.bind f) pos e=zai r2 p1 e1:=by
 by_cases h1:e1=0
 ·subst h1;obtain ⟨he,hp,a,rfl⟩:=zaU hr h;rw [hp,← he];exact hf a rfl
 ·rw [zdA hr h h1];unfold zai;rw [if_pos h1]
def zbT (env:List EC):Prop:=∀ e ∈ env,e.t.Right
theorem ze8:tyInt.Right:=.inr ⟨.inl rfl,rfl⟩
theorem zbH:tyBool.Right:=.inr ⟨.inr (.inr rfl),rfl⟩
theorem zh7:tyBytes.Right:=.inr ⟨.inr (.inl rfl),rfl⟩
theorem zh8 {op:UInt8} {a b t:Ty} (h:zb7 op a b=some t):t.Right:=by
 unfold zb7 at h;split at h
 ·cases h
 ·rename_i sc hsc
  split at h
  ·rename_i hc
   split at h
   ·cases h; exact ze8
   ·rename_i h0; cases h; exact .inl ⟨rfl,by show 1 ≤ sc; omega,hc.2.2.1⟩
  ·cases h
theorem zh9 {op:Bs} {a b t:Ty} (h:zx op a b=some t) (ha:op=oAll ∨ a.Right):t.Right:=by
 unfold zx at h;split at h
 ·cases h; exact ze8
 rename_i h1
 have ha:a.Right:=ha.resolve_left (fun e => h1 (.inl e));split at h
 ·split at h
  ·cases h; exact ha
  ·cases h
 split at h
 ·cases h; exact ha
 split at h
 ·cases h; exact zbH
 split at h
 ·split at h
  ·cases h; exact zbH
  ·cases h
 split at h
 ·split at h
  ·cases h; exact zbH
  ·cases h
 split at h
 ·exact zh8 h
 split at h
 ·cases h; exact zbH
 ·cases h
theorem ze9 {d:Nat} {h:Hd} {a b:Ty} {mk:NHd → NT} (hmk:∀ n,(mk n).hd=n) {x:NT} (hx:zcX d h a b mk = .ok x) (ha:h.op=oAll ∨ a.Right):x.hd.t.Right:=by
 unfold zcX at hx;split at hx
 ·cases hx
 ·rename_i t ht
  split at hx
  ·cases hx
  ·cases hx; rw [hmk]; exact zh9 ht ha
theorem zk7 {h:Hd} (hf:zT h 0=true):h.op=oNumber ∨ h.op=oText ∨ h.op=oBool ∨ h.op=oNull ∨ h.op=oColumn ∨ h.op=oAll:=by
 unfold zT at hf;simp only [Bool.and_eq_true] at hf;have h1:=hf.1.1.1;split at h1
 ·rename_i hc
  have:=List.contains_iff_mem.1 hc;simpa [ops0] using this
 ·split at h1
  ·simp at h1
  ·split at h1
   ·simp at h1
   ·cases h1
theorem zhu {h:Hd} {k:Nat} (hf:zT h k=true):h.scale ≤ 9 ∧ h.s.length ≤ 200:=by unfold zT at hf;simp only [Bool.and_eq_true,decide_eq_true_eq] at hf;exact ⟨hf.1.2,hf.2⟩
theorem zfV (env:List EC) (he:zbT env):∀ (t:Tree) (d:Nat) (n:NT),formedT t=true → zq env t d = .ok n → n.hd.t.Right:=by
 intro t
 induction t with
 | leaf h =>
  intro d n hf hx;have hf:zT h 0=true:=hf;unfold zq at hx;split at hx
  ·rename_i c hc
   cases hx;unfold zS at hc;split at hc
   ·cases hc;show Ty.Right (if 0 < h.scale then ⟨2,h.scale⟩ else tyInt);split
    ·exact .inl ⟨rfl,by show 1 ≤ h.scale; omega,(zhu hf).1⟩
    ·exact ze8
   split at hc
   ·cases hc; exact zh7
   split at hc
   ·cases hc; exact zbH
   split at hc
   ·cases hc; exact zbH
   ·cases hc
  ·rename_i hc
   split at hx
   ·rename_i ho
    cases hq:zbF env h with
    | bad p k => rw [hq] at hx; cases hx
    | ok k =>rw [hq] at hx;cases hx;have hlt:=zh5 hq;show (env.getD k _).t.Right;rw [List.getD_eq_getElem?_getD,List.getElem?_eq_getElem hlt];exact he _ (List.getElem_mem hlt)
   ·rename_i ho
    refine ze9 (fun n => rfl) hx (.inl ?_);rcases zk7 hf with h1 | h1 | h1 | h1 | h1 | h1
    ·unfold zS at hc; rw [if_pos h1] at hc; cases hc
    ·unfold zS at hc; rw [if_neg (by rw [h1]; decide),if_pos h1] at hc; cases hc
    ·unfold zS at hc; rw [if_neg (by rw [h1]; decide),if_neg (by rw [h1]; decide),if_neg (by rw [h1]; decide),if_pos h1] at hc; cases hc
    ·unfold zS at hc; rw [if_neg (by rw [h1]; decide),if_neg (by rw [h1]; decide),if_pos h1] at hc; cases hc
    ·exact absurd h1 ho
    ·exact h1
 | un h a ih =>
  intro d n hf hx;have hf:(zT h 1 && formedT a)=true:=hf;simp only [Bool.and_eq_true] at hf
  cases hq:zq env a (zy d h) with
  | bad p k => unfold zq at hx; rw [hq] at hx; cases hx
  | ok x =>unfold zq at hx; rw [hq] at hx; simp only [Chk.bind] at hx;exact ze9 (fun n => rfl) hx (.inr (ih _ x hf.2 hq))
 | bin h a b iha ihb =>
  intro d n hf hx;have hf:(zT h 2 && (formedT a && formedT b))=true:=hf;simp only [Bool.and_eq_true] at hf
  cases hq:zq env a (zy d h) with
  | bad p k => unfold zq at hx; rw [hq] at hx; cases hx
  | ok x =>
   cases hq2:zq env b (zy d h) with
   | bad p k => unfold zq at hx; rw [hq] at hx; simp only [Chk.bind] at hx; rw [hq2] at hx; cases hx
   | ok y =>unfold zq at hx; rw [hq] at hx; simp only [Chk.bind] at hx; rw [hq2] at hx;exact ze9 (fun n => rfl) hx (.inr (iha _ x hf.2.1 hq))
theorem NAt.fresh {w:World} {L:List Nat} {g:Nat} (hg:w.heap.size ≤ g):∀ {t:NT} {v:Value},NAt w L v t → NAt w (g :: L) v t:=by
 intro t
 induction t with
 | leaf h =>rintro v ⟨b,h1,h2,h3⟩;have:=zj h3;exact ⟨b,h1,by simp; exact ⟨by omega,h2⟩,h3⟩
 | un h a ih =>rintro v ⟨b,c,cap,u,h1,h2,h3,h4,h5,h6,h7⟩;have:=zj h5;have hc:=zD h6;change c < _ at hc;exact ⟨b,c,cap,u,h1,by simp; exact ⟨by omega,h2⟩,by simp; exact ⟨by omega,h3⟩,h4,h5,h6,ih h7⟩
 | bin h a d iha ihd =>rintro v ⟨b,c,cap,u,x,h1,h2,h3,h4,h5,h6,h7,h8,h9⟩;have:=zj h5;have hc:=zD h6;change c < _ at hc;exact ⟨b,c,cap,u,x,h1,by simp; exact ⟨by omega,h2⟩,by simp; exact ⟨by omega,h3⟩,h4,h5,h6,h7,iha h8,ihd h9⟩
theorem NAt.head {w:World} {L:List Nat} {t:NT} {v:Value} (h:NAt w L v t):∃ b args,v=zh b ∧ b ∉ L ∧ w.heap[b]? = some (.cells (nhC t.hd args).toArray 63 (0,0)):=by
 cases t with
 | leaf h' => obtain ⟨b,h1,h2,h3⟩:=h; exact ⟨b,_,h1,h2,h3⟩
 | un h' a => obtain ⟨b,c,cap,u,h1,h2,-,-,h5,-⟩:=h; exact ⟨b,_,h1,h2,h5⟩
 | bin h' a d => obtain ⟨b,c,cap,u,x,h1,h2,-,-,h5,-⟩:=h; exact ⟨b,_,h1,h2,h5⟩
end Go.Proofs.YtgdpaieechgahaaGreatDoor
