/-
  A region that draws its order: operations that change the world, in an order that is forced, and others that only read: what only reads is gone through ahead, each stretch once, in any world of a class; what changes the world is gone through in its order. No condition.
-/
import Derived.Test.YtebljciefhfgbaaGreatDoorMix
set_option linter.unusedVariables false
namespace Go.Proofs.YtebljciefhfgbaaGreatDoor
open Go.RowKit
theorem AS {p:Prop} (h:p:=by rw [(zJ _ _ _).2,(zJ _ _ _).2]; exact hd):p:=h
theorem ydY {p:Prop} (h:p:=by
  have hpp:=h.path _ (hpath p hp);obtain ⟨-,o5,o6,o7⟩:=hparts p hp;have hflat:done ++ zL ((i,qs) :: p)=(done ++ i :: qs) ++ zL p:=by rw [zE]; simp
  refine ⟨?_,hflat ▸ hpp.nodup,fun k hk => hflat ▸ hpp.all k hk,fun k hk => hpp.bound k (by rw [hflat]; exact hk),?_,o5,?_⟩
  ·exact yco
  ·exact ybi
  first
  |clear gCK
   ·rcases hpp.last with h1 | h1
    ·exact .inl h1
    ·right
     cases p with
     | nil => rfl
     | cons x r => unfold lastB at h1; exact h1
  |clear gCL
   ·have:=hpp.early;unfold earlyB at this ⊢;rw [List.all_cons,Bool.and_eq_true] at this;exact this.2
 ):p:=h
theorem yeM {p:Prop} (h:p:=by
  obtain ⟨t1,t2,t3,t4⟩:=stretch hbq o4 hwalk hne;have hA2:∀ s0,oi.dst ≠ some s0 → AF2.tmps[s0]? = AF.tmps[s0]?:=fun s0 hs0 => by rw [hAt,zbA,if_neg (fun hh => hs0 hh.1)]
  have hA3:∀ s0,oi.dst ≠ some s0 → (∀ k ∈ qs,∀ o,l[k]? = some o → o.dst ≠ some s0) → AF3.tmps[s0]? = AF.tmps[s0]?:=fun s0 h1 h2 => (t4 s0 h2).trans (hA2 s0 h1);have hz2:AF2.tmps.size=AF.tmps.size:=by rw [hAt,(zJ _ _ _).1]
  have hza:a2.tmps.size=a.tmps.size:=by rw [hat,(zJ _ _ _).1]
  first
  |clear gEx
   have hqs:∀ k ∈ qs,k ∈ zL ((i,qs) :: t'.lead):=fun k hk => (zal (p:=(i,qs) :: t'.lead) List.mem_cons_self).2 k hk;have his:i ∈ zL ((i,qs) :: t'.lead):=(zal (p:=(i,qs) :: t'.lead) List.mem_cons_self).1;have hnot2:∀ j ∈ zL ((i,qs) :: t'.lead),listed[j]? ≠ some true:=fun j hj hl =>
    (List.nodup_append.1 hpl.nodup).2.2 j (h.sub j hl) j hj rfl
   first
   |clear gEp
    refine ih (done ++ i :: qs) t' AF3 _ _ _ ⟨by simp [h.size],hcov,fun p hp => ?_,fun k hk => ?_,hdown,fun k hk => ?_,fun s0 hs0 => ?_,by rw [hza,t3,hz2,h.fsize],by rw [t2,hde],?_,hseg⟩ hcount
    ·have gCK:=Lib.hid trivial;exact ydY
    ·exact ybx
    ·exact yaB
    ·exact ycN
    ·
     rcases hcls with ⟨hz,hr⟩ | hC
     ·right;have hr0:=zk9 hr;subst hr0;have hl:=(h.path _ (hpath [] (by simp [SpT.paths]))).last.resolve_left (by rw [hz]; decide);exact ybr
     ·exact .inl hC
   |clear gEq
    refine ih (done ++ i :: qs) t' AF3 _ _ _ ⟨by simp [h.size],hcov,fun p hp => ?_,fun k hk => ?_,hdown,fun k hk => ?_,fun s0 hs0 => ?_,by rw [hza,t3,hz2,h.fsize],by rw [t2,hde],?_,fun k hk => ?_,fun k hk => List.mem_append_left _ (h.frd k hk),fun k hk hz => ?_,hseg⟩ hcount
    ·have gCL:=Lib.hid trivial;exact ydY
    ·exact ybx
    ·exact yaB
    ·exact ycN
    ·
     cases hzi:z.contains i with
     | false =>rw [hzi] at hcls;exact .inl (hcls.resolve_left AD)
     | true =>right;intro k hk hkz hkf;have h1:=List.all_eq_true.1 hlt i (List.contains_iff_mem.1 hzi);have h2:=List.all_eq_true.1 h1 k (List.mem_range.2 hk);rw [hkz,hkf,Bool.false_or,Bool.false_or] at h2;exact hmono k (hwt k h2)
    ·
     rcases h.free k hk with h1 | h1
     ·exact .inl (hmono k h1)
     ·refine .inr (h1.later (t3.trans hz2) fun ok hok => ?_);have hkd:=h.frd k hk;have hq1:=hpl.once k i ok oi hok hoi hkd his;have hq2:=fun k2 (hk2:k2 ∈ qs) o2 (ho2:l[k2]? = some o2) => hpl.once k k2 ok o2 hok ho2 hkd (hqs k2 hk2);exact ycy
    ·
     rcases List.mem_append.1 hk with hk | hk
     ·exact hmono k (h.late k hk hz)
     rcases List.mem_cons.1 hk with rfl | hk
     ·exact hself
     ·exfalso;have h1:=hpl.early;unfold earlyB at h1;have h2:=List.all_eq_true.1 (List.all_eq_true.1 h1 (i,qs) List.mem_cons_self) k hk;rw [hz] at h2;cases h2
  |clear gEy
   refine ih (done ++ i :: qs) rest (some i) AF3 _ _ _ ⟨by simp [h.size],g4,hflat ▸ h.nodup,fun k hk => hflat ▸ h.all k hk,fun k hk => h.bound k (by rw [hflat]; exact hk),?_,o5,fun k hk => ?_,hdown,fun j hj => by cases hj; exact hself,fun k hk => ?_,fun s0 hs0 => ?_,by rw [hza,t3,hz2,h.fsize],by rw [t2,hde],?_,?_,hseg⟩ hcount
   ·
    intro k j ok oj hok hoj hk hj;rcases List.mem_append.1 hk with hk | hk
    ·exact h.once k j ok oj hok hoj hk (by rw [zE]; exact List.mem_cons_of_mem _ (List.mem_append_right _ hj))
    rcases List.mem_cons.1 hk with rfl | hk
    ·exact o3 ok (zM List.mem_cons_self hok) oj (List.mem_append_right _ (zM hj hoj))
    ·exact o6 ok (zM hk hok) oj (zM hj hoj)
   ·exact ybx
   ·
    rcases List.mem_append.1 hk with hk | hk
    ·rcases h.quiet k hk with h1 | h1
     ·exact .inl (hmono k h1)
     ·refine .inr (h1.later (t3.trans hz2) fun ok hok => ?_);have hq1:=h.once k i ok oi hok hoi hk (by rw [zE]; exact List.mem_cons_self);have hq2:=fun k2 (hk2:k2 ∈ qs) o2 (ho2:l[k2]? = some o2) => h.once k k2 ok o2 hok ho2 hk (by rw [zE]; exact List.mem_cons_of_mem _ (List.mem_append_left _ hk2));exact ycy
    rcases List.mem_cons.1 hk with rfl | hk
    ·exact .inl hself
    ·exact .inr (t1 k hk)
   ·
    have hnq:∀ k ∈ qs,∀ o,l[k]? = some o → o.dst ≠ some s0:=fun k hk o ho hds => by
     have h1:=hs0 k o ho hds (by simp [hk]);rw [hset] at h1;by_cases hki:k=i
     ·subst hki;have:=(List.nodup_append.1 h.nodup).2.1;rw [zE] at this;exact (List.nodup_cons.1 this).1 (List.mem_append_left _ hk)
     ·rw [if_neg hki] at h1;exact hnot k (by rw [zE]; simp [hk]) h1
    exact yao
   ·
    rcases hcls with ⟨hz,hr⟩ | hC
    ·right;have hr0:rest=[]:=by
      cases rest with
      | nil => rfl
      | cons x r =>exfalso;obtain ⟨s3,q3⟩:=x;have hb3:=h.bound s3 (List.mem_append_right _ (by rw [zE,zE]; simp));rw [zgb (List.getElem?_eq_getElem hb3)] at hr;cases hr
     subst hr0;have hl:=h.last.resolve_left (by rw [hz]; decide);exact ybr
    ·exact .inl hC
   ·rcases h.last with h1 | h1
    ·exact .inl h1
    ·right
     cases rest with
     | nil => rfl
     | cons x r => unfold lastB at h1; exact h1
 ):p:=h
theorem yeL {p:Prop} (h:p:=by
  have hp0:=h.path _ t.lead_mem;have hir:i ∈ zL t.lead:=by
   rcases List.mem_append.1 (hp0.all i hil) with h1 | h1
   ·exact absurd h1 hid
   ·exact h1
  have hnot:∀ j ∈ zL t.lead,listed[j]? ≠ some true:=fun j hj hl =>
   (List.nodup_append.1 hp0.nodup).2.2 j (h.sub j hl) j hj rfl
  have hwt:∀ j,zbf l l.length i j=true → listed[j]? = some true:=fun j hj => zcq h.down l.length i j oi hoi hdep hj;obtain ⟨x,hx,hxi⟩:=zfa hir;have hisp:i=x.1:=by exact ybH
  obtain ⟨x1,x2⟩:=x;simp only at hisp;subst hisp
  obtain ⟨qs,t',hhd,hcov,hpath⟩:=zfW h.cover hx (fun y hy hne => by
   cases hw:zbf l l.length i y.1 with
   | false => rfl
   | true => exact absurd (hwt y.1 hw) (hnot y.1 (zal hy).1))
  have hpl:=h.path _ (hpath _ t'.lead_mem);have g0:=List.all_eq_true.1 hpl.ok (i,qs) List.mem_cons_self;simp only [hoi,Bool.and_eq_true] at g0;have g1:=g0.1
  first
  |clear gEv
   have hrest:=zmQ h.rest hhd hoi;unfold zfA at hrest;have gEp:=Lib.hid trivial;exact yeJ
  |clear gEw
   have hrest:=zl8 h.rest hhd hoi;unfold stgV at hrest;have gEq:=Lib.hid trivial;exact yeJ
 ):p:=h
theorem yeW {p:Prop} (h:p:=by
  have hC:C w:=by
   rcases h.cls with hc | hc
   ·exact hc
   ·have:=hc i hil;rw [hun] at this;cases this
  have hq:QF P l C AF i:=by
   rcases h.quiet i hid with hq | hq
   ·rw [hun] at hq; cases hq
   ·exact hq
  obtain ⟨hsel,hq2⟩:=hq oi hoi;obtain ⟨v,hy,hv⟩:=hq2 w hC;obtain ⟨c1,c2⟩:=zaL hsel hlook;have hya:=hy.of_same c1 c2
  first
  |clear gER
   have hK:wpAny P .any l.toArray Q fuel (listed.setIfInBounds i true) (a.put oi.dst v) w:=by
    refine ih done rem p AF _ _ _ ⟨by simp [h.size],h.isOrder,h.nodup,h.all,h.bound,h.once,h.onceR,fun k hk => ?_,hdown,fun j hj => hmono _ (h.prev j hj),fun k hk => (h.quiet k hk).imp (hmono k) id,fun s hs => ?_,by rw [(zJ _ _ _).1,h.fsize],by rw [(zJ _ _ _).2,h.defers],.inl hC,h.last,h.rest⟩ hcount
    ·exact yeQ
    exact yeP
   exact yaF
  |clear gES
   have hK:wpAny P .any l.toArray Q fuel (listed.setIfInBounds i true) (a.put oi.dst v) w:=by
    refine ih done t AF _ _ _ ⟨by simp [h.size],h.cover,h.path,fun k hk => ?_,hdown,fun k hk => (h.quiet k hk).imp (hmono k) id,fun s hs => ?_,by rw [(zJ _ _ _).1,h.fsize],by rw [(zJ _ _ _).2,h.defers],.inl hC,h.rest⟩ hcount
    ·exact yeQ
    exact yeP
   exact yaF
 ):p:=h
theorem yeJ {p:Prop} (h:p:=by
  obtain ⟨c1,c2⟩:=zaL g1 hlook;refine zg0 hoi0 h.defers c1 c2 hrest ?_;intro a2 AF2 w2 v hde hat hAt hK;obtain ⟨hcls,AF3,hwalk,hseg⟩:=(show (_ ∨ C w2) ∧ ∃ AF3,_ ∧ _ from hK);have hbq:∀ k ∈ qs,k < l.length:=fun k hk => hpl.bound k (List.mem_append_right _ ((zal (p:=(i,qs) :: t'.lead) List.mem_cons_self).2 k hk));have hparts:∀ p ∈ t'.paths,zbQ l.toArray (zat l qs)=true ∧ zbQ l.toArray (zat l (zL p))=true ∧ (∀ oj ∈ zat l (zL p),(∀ s ∈ oi.looksAt l.toArray,oj.dst ≠ some s) ∧ ∀ d,oi.dst=some d → oj.dst ≠ some d) ∧ ∀ ok ∈ zat l qs,∀ oj ∈ zat l (zL p),(∀ s ∈ ok.looksAt l.toArray,oj.dst ≠ some s) ∧ ∀ d,ok.dst=some d → oj.dst ≠ some d:=by exact ybn
  obtain ⟨o4,-,-,-⟩:=hparts _ t'.lead_mem;have gEx:=Lib.hid trivial;exact yeM
 ):p:=h
theorem yeS {p:Prop} (h:p:=by
  obtain ⟨hun0,oi,hoi0,hdep0⟩:=mem_ready.1 hi;have gEW:=Lib.hid trivial;exact yeY
 ):p:=h
theorem ycy {p:Prop} (h:p:=by
  exact ⟨fun s0 hs0 => hA3 s0 (hq1.1 s0 hs0) fun k2 hk2 o2 ho2 => (hq2 k2 hk2 o2 ho2).1 s0 hs0,fun d hd => hA3 d (hq1.2 d hd) fun k2 hk2 o2 ho2 => (hq2 k2 hk2 o2 ho2).2 d hd⟩
 ):p:=h
theorem ycD {p:Prop} (h:p:=by
  have ht:a.tmps=AF.tmps:=Array.ext_getElem? fun s => h.frame s fun m om hm _ _ => main m (List.getElem?_eq_some_iff.1 hm).1;have hd:=h.defers;cases a;cases AF;simp only at ht hd;subst ht;subst hd;rfl
 ):p:=h
theorem yao {p:Prop} (h:p:=by
  rw [t4 s0 hnq,hat,hAt,zbA,zbA];by_cases hds:oi.dst=some s0
  ·by_cases hlt:s0 < a.tmps.size
   ·rw [if_pos ⟨hds,hlt⟩,if_pos ⟨hds,by rw [← h.fsize]; exact hlt⟩]
   ·have hlt2:¬ s0 < AF.tmps.size:=by rw [← h.fsize]; exact hlt
    rw [if_neg (fun hh => hlt hh.2),if_neg (fun hh => hlt2 hh.2),Array.getElem?_eq_none (Nat.le_of_not_lt hlt),Array.getElem?_eq_none (Nat.le_of_not_lt hlt2)]
  ·rw [if_neg (fun hh => hds hh.1),if_neg (fun hh => hds hh.1)];refine h.frame s0 fun m om hm hms hmd => ?_;have h1:=hs0 m om hm hms (List.mem_append_left _ hmd);rw [hset] at h1;by_cases hmi:m=i
   ·subst hmi; exact absurd hmd hid
   ·rw [if_neg hmi] at h1; exact h1
 ):p:=h
theorem yeP {p:Prop} (h:p:=by
  ·rw [zbA];by_cases hds:oi.dst=some s ∧ s < a.tmps.size
   ·rw [if_pos hds,hv s hds.1 (by rw [← h.fsize]; exact hds.2)]
   ·rw [if_neg hds];by_cases hlt:s < a.tmps.size
    ·have hne2:oi.dst ≠ some s:=fun e => hds ⟨e,hlt⟩;refine h.frame s fun m om hm hms hmd => ?_;have h3:=hs m om hm hms hmd;rw [hset] at h3;by_cases hmi:m=i
     ·subst hmi;rw [hoi] at hm;cases hm;exact absurd hms hne2
     ·rw [if_neg hmi] at h3;exact h3
    exact ycG
 ):p:=h
theorem yaF {p:Prop} (h:p:=by
  have hqq:=YieldsIn.qOp (K:=fun a2 => a2=a.put oi.dst v) hoi0 hya rfl
  exact wpOp_of_qOp (Q':=Q) (K':=wpAny P .any l.toArray Q fuel (listed.setIfInBounds i true)) (C:=fun u => ∃ k:Unit,u=w) ⟨(),rfl⟩ (fun a2 w2 hw2 ha2 => by
   obtain ⟨-,rfl⟩:=hw2;rw [ha2]
   exact hK) hqq
 ):p:=h
theorem yba {p:Prop} (h:p:=by
  intro k o hk ho e he hb;rw [hset] at hk;by_cases hki:k=i
  ·subst hki;rw [hoi] at ho;cases ho;exact hmono _ (hdep e he hb)
  ·rw [if_neg hki] at hk;exact hmono _ (h.down k o hk ho e he hb)
 ):p:=h
theorem ybf {p:Prop} (h:p:=by
  have h3:=hdep0 e BA hb;have hlt:e.on < listed.size:=by rw [h.size]; have:=(hwl i oi hoi).1 e he hb; omega
  rw [Array.getElem?_eq_getElem hlt];simp [hlt] at h3;rw [h3]
 ):p:=h
theorem ybr {p:Prop} (h:p:=by
  unfold lastB at hl;simp only [Bool.and_eq_true] at hl;intro k hk;have h1:=List.all_eq_true.1 hl.2 k (List.mem_range.2 hk);simp only [Bool.or_eq_true,decide_eq_true_eq] at h1;rcases h1 with rfl | h1
  ·exact hself
  ·exact hmono k (hwt k h1)
 ):p:=h
theorem ybx {p:Prop} (h:p:=by
  rw [hset] at hk;by_cases hki:k=i
  ·subst hki; simp
  ·rw [if_neg hki] at hk; exact List.mem_append_left _ (h.sub k hk)
 ):p:=h
theorem yeQ {p:Prop} (h:p:=by
  rw [hset] at hk;by_cases hki:k=i
  ·subst hki; exact hid
  ·rw [if_neg hki] at hk; exact h.sub k hk
 ):p:=h
theorem ybR {p:Prop} (h:p:=by
  obtain ⟨e,he,hb,rfl⟩:=(hwl i oi hoi).2 s hs m om hm hms;exact hdep e he hb
 ):p:=h
def zeI (R:Act → World → Prop) (x:Exit) (a:Act) (w:World):Prop:=match x with | .normal => R a w | _ => False
theorem zd {R:Act → World → Prop} {a:Act} {w:World} (h:R a w):zeI R .normal a w:=h
def zct (P:Program) (ops:Array Oper) (C:World → Prop) (z:Bool) (Q:Act → World → Prop):List (Oper × List Oper) → Act → World → Prop
 | [],a,w => Q a w
 | x :: rest,a,w => wpList P ops (zeI fun a' w' => ((z=false ∧ rest=[]) ∨ C w') ∧ ∃ AF,(∀ y,C y → wpQuiet P ops (fun u => ∃ k:Unit,u=y) (fun af => af=AF) x.2 a') ∧ zct P ops C z Q rest AF w') [x.1] a w
theorem zP {P:Program} {ops:Array Oper} {C:World → Prop} {z:Bool} {Q:Act → World → Prop} {s:Oper} {qs:List Oper} {rest:List (Oper × List Oper)} {a:Act} {w:World}
  (h:∀ R:Act → World → Prop,(∀ a' w',((z=false ∧ rest=[]) ∨ C w') → ∀ AF,(∀ y,C y → wpQuiet P ops (fun u => ∃ k:Unit,u=y) (fun af => af=AF) qs a') → zct P ops C z Q rest AF w' → R a' w') → wpList P ops (zeI R) [s] a w):zct P ops C z Q ((s,qs) :: rest) a w:=
 h _ fun a' w' h1 AF h2 h3 => ⟨h1,AF,h2,h3⟩
theorem zv {P:Program} {ops:Array Oper} {C:World → Prop} {z:Bool} {Q:Act → World → Prop} {s:Oper} {rest:List (Oper × List Oper)} {a:Act} {w:World}
  (h:∀ R:Act → World → Prop,(∀ a' w',((z=false ∧ rest=[]) ∨ C w') → zct P ops C z Q rest a' w' → R a' w') → wpList P ops (zeI R) [s] a w):zct P ops C z Q ((s,[]) :: rest) a w:=
 zP fun R hR => h R fun a' w' h1 h2 => hR a' w' h1 a' (fun y _ => rfl) h2
theorem zI {P:Program} {ops:Array Oper} {C:World → Prop} {z:Bool} {Q:Act → World → Prop} {a:Act} {w:World} (h:Q a w):zct P ops C z Q [] a w:=h
def zbf (l:List Oper):Nat → Nat → Nat → Bool
 | 0,_,_ => false
 | f + 1,i,j => match l[i]? with
  | none => false
  | some o => o.after.toList.any fun e => Region.binds .any e && (decide (e.on=j) || zbf l f e.on j)
def zL (sp:List (Nat × List Nat)):List Nat:=sp.flatMap fun x => x.1 :: x.2
def zat (l:List Oper) (q:List Nat):List Oper:=q.filterMap fun i => l[i]?
def pickS (l:List Oper) (sp:List (Nat × List Nat)):List (Oper × List Oper):=sp.filterMap fun x => (l[x.1]?).map fun o => (o,zat l x.2)
def zfJ (l:List Oper):Option Nat → List (Nat × List Nat) → Bool
 | _,[] => true
 | p,(s,qs) :: rest => (match l[s]? with | none => false | some o => noSel o) && (match p with | none => true | some j => zbf l l.length s j) && (qs.all fun q => zbf l l.length q s) && zfJ l (some s) rest
def lastB (l:List Oper):List (Nat × List Nat) → Bool
 | [] => true
 | [(s,qs)] => qs.isEmpty && (List.range l.length).all fun i => decide (i=s) || zbf l l.length s i
 | _ :: rest => lastB l rest
def spineB (l:List Oper) (q0:List Nat) (sp:List (Nat × List Nat)) (z:Bool):Bool:=
 decide (q0 ++ zL sp).Nodup && ((List.range l.length).all fun i => (q0 ++ zL sp).contains i) && ((q0 ++ zL sp).all fun i => decide (i < l.length)) && zbQ l.toArray (zat l (q0 ++ zL sp)) && waitB l && zfJ l none sp && (z || lastB l sp)
section
variable {P:Program} {l:List Oper} {C:World → Prop}
theorem zcq {listed:Array Bool} (hdown:∀ (i:Nat) (o:Oper),listed[i]? = some true → l[i]? = some o → ∀ e ∈ o.after.toList,Region.binds .any e=true → listed[e.on]? = some true) :
  ∀ (f i j:Nat) (o:Oper),l[i]? = some o → (∀ e ∈ o.after.toList,Region.binds .any e=true → listed[e.on]? = some true) → zbf l f i j=true → listed[j]? = some true:=by
 intro f
 induction f with
 | zero => intro i j o _ _ h; cases h
 | succ f ih =>
  intro i j o hi hd h;unfold zbf at h;rw [hi] at h;simp only [List.any_eq_true,Bool.and_eq_true,Bool.or_eq_true,decide_eq_true_eq] at h;obtain ⟨e,he,hb,h⟩:=h;have hl:=hd e he hb;rcases h with h | h
  ·rw [← h]; exact hl
  ·cases ho:l[e.on]? with
   | none =>
    cases f with
    | zero => cases h
    | succ f => unfold zbf at h; rw [ho] at h; cases h
   | some o2 => exact ih e.on j o2 ho (hdown _ _ hl ho) h
def QF (P:Program) (l:List Oper) (C:World → Prop) (AF:Act) (i:Nat):Prop:=
 ∀ o,l[i]? = some o → noSel o=true ∧ ∀ y,C y → ∃ v,YieldsIn P l.toArray (fun u => ∃ k:Unit,u=y) o v AF ∧ ∀ d,o.dst=some d → d < AF.tmps.size → AF.tmps[d]? = some v
theorem QF.later {AF AF':Act} {i:Nat} (h:QF P l C AF i) (hs:AF'.tmps.size=AF.tmps.size) (hk:∀ o,l[i]? = some o → (∀ s ∈ o.looksAt l.toArray,AF'.tmps[s]? = AF.tmps[s]?) ∧ ∀ d,o.dst=some d → AF'.tmps[d]? = AF.tmps[d]?):QF P l C AF' i:=by intro o ho;obtain ⟨h1,h2⟩:=h o ho;obtain ⟨k1,k2⟩:=hk o ho;refine ⟨h1,fun y hy => ?_⟩;obtain ⟨v,h3,h4⟩:=h2 y hy;obtain ⟨c1,c2⟩:=zaL h1 k1;exact ⟨v,h3.of_same c1 c2,fun d hd hlt => by rw [k2 d hd]; exact h4 d hd (by rw [← hs]; exact hlt)⟩
structure SpAt (P:Program) (l:List Oper) (C:World → Prop) (z:Bool) (Q:Act → World → Prop) (done:List Nat) (rem:List (Nat × List Nat)) (p:Option Nat) (AF:Act) (listed:Array Bool) (a:Act) (w:World):Prop where
 size:listed.size=l.length
 isOrder:zfJ l p rem=true
 nodup:(done ++ zL rem).Nodup
 all:∀ i,i < l.length → i ∈ done ++ zL rem
 bound:∀ i ∈ done ++ zL rem,i < l.length
 once:∀ (i j:Nat) (oi oj:Oper),l[i]? = some oi → l[j]? = some oj → i ∈ done → j ∈ zL rem → (∀ s ∈ oi.looksAt l.toArray,oj.dst ≠ some s) ∧ ∀ d,oi.dst=some d → oj.dst ≠ some d
 onceR:zbQ l.toArray (zat l (zL rem))=true
 sub:∀ i:Nat,listed[i]? = some true → i ∈ done
 down:∀ (i:Nat) (o:Oper),listed[i]? = some true → l[i]? = some o → ∀ e ∈ o.after.toList,Region.binds .any e=true → listed[e.on]? = some true
 prev:∀ j,p=some j → listed[j]? = some true
 quiet:∀ i ∈ done,listed[i]? = some true ∨ QF P l C AF i
 frame:∀ s,(∀ (m:Nat) (om:Oper),l[m]? = some om → om.dst=some s → m ∈ done → listed[m]? = some true) → a.tmps[s]? = AF.tmps[s]?
 fsize:a.tmps.size=AF.tmps.size
 defers:a.defers=AF.defers
 cls:C w ∨ ∀ i:Nat,i < l.length → listed[i]? = some true
 last:z=true ∨ lastB l rem=true
 rest:zct P l.toArray C z Q (pickS l rem) AF w
theorem zW (x y:List Nat):zat l (x ++ y)=zat l x ++ zat l y:=by simp [zat]
theorem zl6 {q:List Nat} {o:Oper} (h:o ∈ zat l q):∃ i ∈ q,l[i]? = some o:=by obtain ⟨i,hi,ho⟩:=List.mem_filterMap.1 h;exact ⟨i,hi,ho⟩
theorem zM {q:List Nat} {i:Nat} {o:Oper} (h:i ∈ q) (ho:l[i]? = some o):o ∈ zat l q:=List.mem_filterMap.2 ⟨i,h,ho⟩
theorem zX {ops:Array Oper}:∀ {x y:List Oper},zbQ ops (x ++ y)=true → zbQ ops x=true ∧ zbQ ops y=true ∧ ∀ oi ∈ x,∀ oj ∈ y,(∀ s ∈ oi.looksAt ops,oj.dst ≠ some s) ∧ ∀ d,oi.dst=some d → oj.dst ≠ some d:=by
 intro x
 induction x with
 | nil => intro y h; exact ⟨rfl,h,fun oi ho => by cases ho⟩
 | cons o x ih =>
  intro y h;rw [List.cons_append] at h;unfold zbQ at h;simp only [Bool.and_eq_true] at h;obtain ⟨⟨⟨k1,k2⟩,k3⟩,k4⟩:=h;obtain ⟨i1,i2,i3⟩:=ih k4;refine ⟨?_,i2,fun oi hoi oj hoj => ?_⟩
  ·unfold zbQ;simp only [Bool.and_eq_true];refine ⟨⟨⟨k1,?_⟩,?_⟩,i1⟩
   ·rw [List.all_eq_true];intro s hs;have:=List.all_eq_true.1 k2 s hs;rw [List.all_eq_true] at this ⊢;intro o' ho';refine this o' ?_;rcases List.mem_cons.1 ho' with rfl | h
    ·exact List.mem_cons_self
    ·exact List.mem_cons_of_mem _ (List.mem_append_left _ h)
   ·cases hd:o.dst with
    | none => rfl
    | some d =>rw [hd] at k3;simp only [List.all_eq_true] at k3 ⊢;exact fun o' ho' => k3 o' (List.mem_append_left _ ho')
  ·rcases List.mem_cons.1 hoi with rfl | hoi
   ·refine ⟨fun s hs => ?_,fun d hd => ?_⟩
    ·have h1:=List.all_eq_true.1 (List.all_eq_true.1 k2 s hs) oj (List.mem_cons_of_mem _ (List.mem_append_right _ hoj));simpa using h1
    ·rw [hd] at k3;have h1:=List.all_eq_true.1 k3 oj (List.mem_append_right _ hoj);simpa using h1
   ·exact i3 oi hoi oj hoj
theorem stretch {q:List Nat} {AF a:Act} (hb:∀ i ∈ q,i < l.length) (hon:zbQ l.toArray (zat l q)=true) (h:∀ y,C y → wpQuiet P l.toArray (fun u => ∃ k:Unit,u=y) (fun af => af=AF) (zat l q) a) (hne:∃ y,C y) :
  (∀ i ∈ q,QF P l C AF i) ∧ AF.defers=a.defers ∧ AF.tmps.size=a.tmps.size ∧ ∀ s,(∀ i ∈ q,∀ o,l[i]? = some o → o.dst ≠ some s) → AF.tmps[s]? = a.tmps[s]?:=by
 obtain ⟨y0,hy0⟩:=hne;obtain ⟨f1,f2,f3⟩:=zgc _ _ (h y0 hy0);refine ⟨fun i hi o ho => ?_,f1,f2,fun s hs => f3 s fun o ho => ?_⟩
 ·obtain ⟨k,hk⟩:=List.mem_iff_getElem?.1 (zM hi ho);exact ⟨(zc9 _ _ hon (h y0 hy0) k o hk).1,fun y hy => (zc9 _ _ hon (h y hy) k o hk).2⟩
 ·obtain ⟨i,hi,hio⟩:=zl6 ho;exact hs i hi o hio
theorem znF {o:Oper} {a AF:Act} {K K':Act → World → Prop} {Q Q':Exit → Act → World → Prop} {r:Result Next} (hd:a.defers=AF.defers)
  (h:∀ a2 AF2 w v,a2.defers=AF2.defers → a2.tmps=(a.put o.dst v).tmps → AF2.tmps=(AF.put o.dst v).tmps → K' AF2 w → K a2 w) (hq:∀ x a w,x ≠ .normal → ¬ Q' x a w) (hr:o.upon P AF K' Q' r):o.upon P a K Q r:=by
 cases r with
 | ok n w' =>
  cases n <;> simp only [Oper.upon] at hr ⊢
  case value v => exact h _ _ _ v AS rfl rfl hr
  case skip => exact h _ _ _ undef AS rfl rfl hr
  case defer d =>
   refine h _ _ _ undef ?_ ?_ ?_ hr
   ·rw [(zJ _ _ _).2,(zJ _ _ _).2,hd]
   ·cases o.dst <;> rfl
   ·cases o.dst <;> rfl
  case enter f args =>
   refine Calls.mono hr ?_;intro e w'' he
   cases e with
   | returned v => exact h _ _ _ v AS rfl rfl he
   | panicked c => exact absurd he (hq _ _ _ AB)
   | outgrown =>obtain ⟨a3,w3,h3⟩:=he;exact absurd h3 (hq _ _ _ AB)
  case row row args =>refine Rows.mono hr ?_;intro v w'' he;exact h _ _ _ v AS rfl rfl he
 | halt x w' =>cases x <;> simp only [Oper.upon] at hr ⊢;exact absurd hr (hq _ _ _ AB)
theorem zg0 {ops:Array Oper} {i:Nat} {o:Oper} {a AF:Act} {w:World} {K:Act → World → Prop} {R:Act → World → Prop} {Q:Exit → Act → World → Prop} (ho:ops[i]? = some o) (hd:a.defers=AF.defers) (c1:execOp a.eval o=execOp AF.eval o) (c2:Region.wanted o (yielded ops a.tmps)=Region.wanted o (yielded ops AF.tmps))
  (h:wpList P ops (zeI R) [o] AF w) (H:∀ a2 AF2 w2 v,a2.defers=AF2.defers → a2.tmps=(a.put o.dst v).tmps → AF2.tmps=(AF.put o.dst v).tmps → R AF2 w2 → K a2 w2):wpOp P ops Q i K a w:=by
 unfold wpList at h;unfold wpOp;rw [ho];simp only;rw [c2];by_cases hw:Region.wanted o (yielded ops AF.tmps)=true
 ·rw [if_pos hw] at h ⊢;have hwp:=h.resolve_right (fun hh => by obtain ⟨a3,w3,h3⟩:=hh.2; exact h3);refine .inl ?_;unfold Oper.wp at hwp ⊢;rw [c1];exact znF hd H (fun x a w hx hs => by cases x <;> first | exact hx rfl | exact hs) hwp
 ·rw [if_neg hw] at h ⊢;exact H _ _ _ undef AS rfl rfl h
theorem zE (s:Nat) (qs:List Nat) (rest:List (Nat × List Nat)):zL ((s,qs) :: rest)=s :: (qs ++ zL rest):=by simp [zL]
theorem zgb {s:Nat} {qs:List Nat} {rest:List (Nat × List Nat)} {o:Oper} (h:l[s]? = some o):pickS l ((s,qs) :: rest)=(o,zat l qs) :: pickS l rest:=by simp [pickS,h]
theorem zkc:∀ (rest:List (Nat × List Nat)) (s:Nat),zfJ l (some s) rest=true → ∀ i ∈ zL rest,∃ j ∈ s :: zL rest,zbf l l.length i j=true:=by
 intro rest
 induction rest with
 | nil => intro s _ i hi; simp [zL] at hi
 | cons x rest ih =>
  intro s h i hi;obtain ⟨s2,qs⟩:=x;unfold zfJ at h;simp only [Bool.and_eq_true] at h;obtain ⟨⟨⟨h1,h2⟩,h3⟩,h4⟩:=h;rw [zE] at hi ⊢;rcases List.mem_cons.1 hi with rfl | hi
  ·exact ⟨s,List.mem_cons_self,h2⟩
  rcases List.mem_append.1 hi with hi | hi
  ·exact ⟨s2,by simp,List.all_eq_true.1 h3 i hi⟩
  ·obtain ⟨j,hj,hw⟩:=ih s2 h4 i hi;refine ⟨j,?_,hw⟩;rcases List.mem_cons.1 hj with rfl | hj
   ·simp
   ·simp [hj]
theorem zl7 {z:Bool} {Q:Exit → Act → World → Prop} (hwait:waitB l=true) (hne:∃ y,C y) :
  ∀ (fuel:Nat) (done:List Nat) (rem:List (Nat × List Nat)) (p:Option Nat) (AF:Act) (listed:Array Bool) (a:Act) (w:World),SpAt P l C z (fun a w => Q .normal a w) done rem p AF listed a w → listed.toList.countP (fun b => !b) ≤ fuel → wpAny P .any l.toArray Q fuel listed a w:=by
 have gEJ:=Lib.hid trivial;exact yeU
theorem zr {id:Nat} {Q:Exit → Act → World → Prop} {a:Act} {w:World} (hm:P.follows .mixedOrders=true) (q0:List Nat) (sp:List (Nat × List Nat)) (z:Bool) (hok:spineB l q0 sp z=true) (C:World → Prop) (hC:C w.drew)
  (AF:Act) (hwalk:∀ y,C y → wpQuiet P l.toArray (fun u => ∃ k:Unit,u=y) (fun af => af=AF) (zat l q0) a) (hrun:zct P l.toArray C z (fun a w => Q .normal a w) (pickS l sp) AF w.drew):(Code.region id l.toArray true).wp P Q a w:=by
 refine wp_region_any hm ?_;unfold spineB at hok;simp only [Bool.and_eq_true] at hok;obtain ⟨⟨⟨⟨⟨⟨k1,k2⟩,k3⟩,k4⟩,k5⟩,k6⟩,k7⟩:=hok;have hnd:(q0 ++ zL sp).Nodup:=by simpa using k1
 have hbd:∀ i ∈ q0 ++ zL sp,i < l.length:=fun i hi => by simpa using List.all_eq_true.1 k3 i hi
 rw [zW] at k4;obtain ⟨o1,o2,o3⟩:=zX k4;obtain ⟨t1,t2,t3,t4⟩:=stretch (fun i hi => hbd i (List.mem_append_left _ hi)) o1 hwalk ⟨_,hC⟩;have hrep:∀ i:Nat,(Array.replicate l.toArray.size false)[i]? ≠ some true:=fun i => by simp [Array.getElem?_replicate]
 refine zl7 k5 ⟨_,hC⟩ _ q0 sp none AF _ _ _ ⟨by simp,k6,hnd,fun i hi => ?_,hbd,fun i j oi oj hoi hoj hi hj => o3 oi (zM hi hoi) oj (zM hj hoj),o2,fun i hi => absurd hi (hrep i),fun i o hi => absurd hi (hrep i),fun j hj => (by cases hj),fun i hi => .inr (t1 i hi),fun s hs => ?_,t3.symm,t2.symm,.inl hC,?_,hrun⟩ ?_
 ·exact List.contains_iff_mem.1 (List.all_eq_true.1 k2 i (List.mem_range.2 hi))
 ·exact (t4 s fun i hi o ho hds => hrep i (hs i o ho hds hi)).symm
 ·simpa using k7
 ·refine Nat.le_trans List.countP_le_length ?_;simp
end
end Go.Proofs.YtebljciefhfgbaaGreatDoor
