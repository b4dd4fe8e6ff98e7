/-
  A region that draws its order, with a tree of choices and a late part: behind what is late nothing is read that was told ahead. No condition.
-/
import Derived.Test.YtgdpaieechgahaaGreatDoorQ28
set_option linter.unusedVariables false
namespace Go.Proofs.YtgdpaieechgahaaGreatDoor
open Go.RowKit
inductive SpV where
 | fin
 | one (f:Bool) (o:Oper) (qs:List Oper) (t:SpV)
 | two (f1:Bool) (o1:Oper) (q1:List Oper) (t1:SpV) (f2:Bool) (o2:Oper) (q2:List Oper) (t2:SpV)
def pickV (l:List Oper) (z:List Nat):SpT → SpV
 | .fin => .fin
 | .one s qs t => .one (z.contains s) (l.getD s default) (zat l qs) (pickV l z t)
 | .two s1 q1 t1 s2 q2 t2 => .two (z.contains s1) (l.getD s1 default) (zat l q1) (pickV l z t1) (z.contains s2) (l.getD s2 default) (zat l q2) (pickV l z t2)
def stgV (P:Program) (ops:Array Oper) (C:World → Prop) (f:Bool) (o:Oper) (qs:List Oper) (K:Act → World → Prop) (a:Act) (w:World):Prop:=
 wpList P ops (zeI fun a' w' => (f=true ∨ C w') ∧ ∃ AF,(∀ y,C y → wpQuiet P ops (fun u => ∃ k:Unit,u=y) (fun af => af=AF) qs a') ∧ K AF w') [o] a w
def segV (P:Program) (ops:Array Oper) (C:World → Prop) (Q:Act → World → Prop):SpV → Act → World → Prop
 | .fin,a,w => Q a w
 | .one f o qs t,a,w => stgV P ops C f o qs (segV P ops C Q t) a w
 | .two f1 o1 q1 t1 f2 o2 q2 t2,a,w => stgV P ops C f1 o1 q1 (segV P ops C Q t1) a w ∧ stgV P ops C f2 o2 q2 (segV P ops C Q t2) a w
section
variable {P:Program} {ops:Array Oper} {C:World → Prop} {Q:Act → World → Prop} {a:Act} {w:World}
theorem zoH {f:Bool} {o:Oper} {qs:List Oper} {K:Act → World → Prop}
  (h:∀ R:Act → World → Prop,(∀ a' w',(f=true ∨ C w') → ∀ AF,(∀ y,C y → wpQuiet P ops (fun u => ∃ k:Unit,u=y) (fun af => af=AF) qs a') → K AF w' → R a' w') → wpList P ops (zeI R) [o] a w):stgV P ops C f o qs K a w:=
 h _ fun a' w' h1 AF h2 h3 => ⟨h1,AF,h2,h3⟩
theorem zp {f:Bool} {o:Oper} {K:Act → World → Prop}
  (h:∀ R:Act → World → Prop,(∀ a' w',(f=true ∨ C w') → K a' w' → R a' w') → wpList P ops (zeI R) [o] a w):stgV P ops C f o [] K a w:=
 zoH fun R hR => h R fun a' w' h1 h2 => hR a' w' h1 a' (fun y _ => rfl) h2
theorem zcr (h:Q a w):segV P ops C Q .fin a w:=h
theorem zu {f:Bool} {o:Oper} {qs:List Oper} {t:SpV} (h:stgV P ops C f o qs (segV P ops C Q t) a w):segV P ops C Q (.one f o qs t) a w:=h
theorem zdK {f1 f2:Bool} {o1 o2:Oper} {q1 q2:List Oper} {t1 t2:SpV} (h1:stgV P ops C f1 o1 q1 (segV P ops C Q t1) a w) (h2:stgV P ops C f2 o2 q2 (segV P ops C Q t2) a w):segV P ops C Q (.two f1 o1 q1 t1 f2 o2 q2 t2) a w:=⟨h1,h2⟩
end
def lateB (l:List Oper) (z fr:List Nat):Bool:=z.all fun s => (List.range l.length).all fun k => z.contains k || (fr.contains k || zbf l l.length s k)
def earlyB (z:List Nat) (p:List (Nat × List Nat)):Bool:=p.all fun x => x.2.all fun q => !z.contains q
def tailB (l:List Oper) (fr q1:List Nat) (t:SpT) (z:List Nat):Bool:=
 let q0:=fr ++ q1
 waitB l && zcD l t && lateB l z fr && (q0.all fun q => !z.contains q) && t.paths.all fun p => decide (q0 ++ zL p).Nodup && ((List.range l.length).all fun i => (q0 ++ zL p).contains i) && ((q0 ++ zL p).all fun i => decide (i < l.length)) && zbQ l.toArray (zat l (q0 ++ zL p)) && pathB l p && earlyB z p
section
variable {P:Program} {l:List Oper} {C:World → Prop}
structure PvAt (l:List Oper) (z:List Nat) (done:List Nat) (p:List (Nat × List Nat)):Prop where
 ok:pathB l p=true
 nodup:(done ++ zL p).Nodup
 all:∀ i,i < l.length → i ∈ done ++ zL p
 bound:∀ i ∈ done ++ zL p,i < l.length
 once:∀ (i j:Nat) (oi oj:Oper),l[i]? = some oi → l[j]? = some oj → i ∈ done → j ∈ zL p → (∀ s ∈ oi.looksAt l.toArray,oj.dst ≠ some s) ∧ ∀ d,oi.dst=some d → oj.dst ≠ some d
 onceR:zbQ l.toArray (zat l (zL p))=true
 early:earlyB z p=true
structure TvAt (P:Program) (l:List Oper) (C:World → Prop) (z fr:List Nat) (Q:Act → World → Prop) (done:List Nat) (t:SpT) (AF:Act) (listed:Array Bool) (a:Act) (w:World):Prop where
 size:listed.size=l.length
 cover:zcD l t=true
 path:∀ p ∈ t.paths,PvAt l z done p
 sub:∀ i:Nat,listed[i]? = some true → i ∈ done
 down:∀ (i:Nat) (o:Oper),listed[i]? = some true → l[i]? = some o → ∀ e ∈ o.after.toList,Region.binds .any e=true → listed[e.on]? = some true
 quiet:∀ i ∈ done,listed[i]? = some true ∨ QF P l C AF i
 frame:∀ s,(∀ (m:Nat) (om:Oper),l[m]? = some om → om.dst=some s → m ∈ done → listed[m]? = some true) → a.tmps[s]? = AF.tmps[s]?
 fsize:a.tmps.size=AF.tmps.size
 defers:a.defers=AF.defers
 cls:C w ∨ ∀ i:Nat,i < l.length → z.contains i=false → fr.contains i=false → listed[i]? = some true
 free:∀ i ∈ fr,listed[i]? = some true ∨ QF P l (fun _ => True) AF i
 frd:∀ i ∈ fr,i ∈ done
 late:∀ i ∈ done,z.contains i=true → listed[i]? = some true
 rest:segV P l.toArray C Q (pickV l z t) AF w
theorem zl8 {ops:Array Oper} {z:List Nat} {Q:Act → World → Prop} {t t':SpT} {i:Nat} {qs:List Nat} {a:Act} {w:World} (h:segV P ops C Q (pickV l z t) a w) (hm:(i,qs,t') ∈ t.heads) {o:Oper} (ho:l[i]? = some o) :
  stgV P ops C (z.contains i) o (zat l qs) (segV P ops C Q (pickV l z t')) a w:=by
 have hd:l.getD i default=o:=by rw [List.getD_eq_getElem?_getD,ho]; rfl
 cases t with
 | fin => simp [SpT.heads] at hm
 | one s q0 t0 =>simp only [SpT.heads,List.mem_singleton,Prod.mk.injEq] at hm;obtain ⟨rfl,rfl,rfl⟩:=hm;rw [← hd]; exact h
 | two s1 q1 t1 s2 q2 t2 =>
  simp only [SpT.heads,List.mem_cons,List.not_mem_nil,or_false,Prod.mk.injEq] at hm;rcases hm with ⟨rfl,rfl,rfl⟩ | ⟨rfl,rfl,rfl⟩
  ·rw [← hd]; exact h.1
  ·rw [← hd]; exact h.2
theorem znG {z fr:List Nat} {Q:Exit → Act → World → Prop} (hwait:waitB l=true) (hlt:lateB l z fr=true) (hne:∃ y,C y) :
  ∀ (fuel:Nat) (done:List Nat) (t:SpT) (AF:Act) (listed:Array Bool) (a:Act) (w:World),TvAt P l C z fr (fun a w => Q .normal a w) done t AF listed a w → listed.toList.countP (fun b => !b) ≤ fuel → wpAny P .any l.toArray Q fuel listed a w:=by
 have hwl:∀ (i:Nat) (o:Oper),l[i]? = some o → (∀ e ∈ o.after.toList,Region.binds .any e=true → e.on < i) ∧ ∀ s ∈ o.looksAt l.toArray,∀ (m:Nat) (om:Oper),l[m]? = some om → om.dst=some s → ∃ e ∈ o.after.toList,Region.binds .any e=true ∧ e.on=m:=by
  intro i o hi;have hlt:i < l.length:=(List.getElem?_eq_some_iff.1 hi).1;have h1:=List.all_eq_true.1 hwait i (List.mem_range.2 hlt);rw [hi] at h1;simp only [Bool.and_eq_true] at h1;refine ⟨fun e he hb => ?_,fun s hs m om hm hms => ?_⟩
  ·have:=List.all_eq_true.1 h1.1 e he;rw [hb] at this;simpa using this
  ·have h2:=List.all_eq_true.1 (List.all_eq_true.1 h1.2 s hs) m (List.mem_range.2 (List.getElem?_eq_some_iff.1 hm).1);rw [hm] at h2;simp only [Bool.or_eq_true,decide_eq_true_eq,List.any_eq_true,Bool.and_eq_true] at h2;rcases h2 with h2 | ⟨e,he,h3,h4⟩
   ·exact absurd hms h2
   ·exact ⟨e,he,h3,h4⟩
 have hall:∀ (done:List Nat) (t:SpT) (AF:Act) (listed:Array Bool) (a:Act) (w:World),TvAt P l C z fr (fun a w => Q .normal a w) done t AF listed a w → Region.ready .any l.toArray listed=[] → Q .normal a w:=by
  intro done t AF listed a w h hr;have main:∀ n,n < l.length → listed[n]? = some true:=by
   intro n
   induction n using Nat.strongRecOn with
   | ind n ih =>
    intro hn;have hs:listed[n]? = some (listed[n]'(by rw [h.size]; exact hn)):=Array.getElem?_eq_getElem (by rw [h.size]; exact hn);by_cases hb:listed[n]'(by rw [h.size]; exact hn)=true
    ·rw [hs,hb]
    ·exfalso;have hmem:n ∈ Region.ready .any l.toArray listed:=by
      rw [mem_ready];have ho:l[n]? = some l[n]:=List.getElem?_eq_getElem hn;refine ⟨?_,l[n],by simp,fun e he hbd => ?_⟩
      ·simp [h.size,hn];simpa using hb
      ·have hlt:=(hwl n _ ho).1 e (by simpa using he) hbd;have:=ih e.on hlt (by omega);simp [this]
     rw [hr] at hmem;cases hmem
  have haf:a=AF:=by have ht:a.tmps=AF.tmps:=Array.ext_getElem? fun s => h.frame s fun m om hm _ _ => main m (List.getElem?_eq_some_iff.1 hm).1;have hd:=h.defers;cases a;cases AF;simp only at ht hd;subst ht;subst hd;rfl
  subst haf
  cases t with
  | fin => exact h.rest
  | one s qs t0 =>exfalso;have hp:=h.path _ (SpT.lead_mem (.one s qs t0));have hm:=(zal (p:=(SpT.one s qs t0).lead) (x:=(s,qs)) (by simp [SpT.lead])).1;have hd:=h.sub s (main s (hp.bound s (List.mem_append_right _ hm)));exact (List.nodup_append.1 hp.nodup).2.2 s hd s hm rfl
  | two s qs t0 s2 q2 t2 =>exfalso;have hp:=h.path _ (SpT.lead_mem (.two s qs t0 s2 q2 t2));have hm:=(zal (p:=(SpT.two s qs t0 s2 q2 t2).lead) (x:=(s,qs)) (by simp [SpT.lead])).1;have hd:=h.sub s (main s (hp.bound s (List.mem_append_right _ hm)));exact (List.nodup_append.1 hp.nodup).2.2 s hd s hm rfl
 intro fuel
 induction fuel with
 | zero =>
  intro done t AF listed a w h hc;have hr:Region.ready .any l.toArray listed=[]:=by
   rw [List.eq_nil_iff_forall_not_mem];intro i hi;obtain ⟨h2,o',h3,-⟩:=mem_ready.1 hi;have hlt:i < listed.size:=by rw [h.size];have:=(Array.getElem?_eq_some_iff.1 h3).1;simpa using this
   have h0:listed.toList.countP (fun b => !b)=0:=by omega
   rw [List.countP_eq_zero] at h0;have:=h0 listed[i] (by simp);have hb:listed[i]=true:=by simpa using this
   simp [hlt,hb] at h2
  exact ⟨hr,hall _ _ _ listed a w h hr⟩
 | succ fuel ih =>
  intro done t AF listed a w h hc;refine ⟨hall _ _ _ listed a w h,fun i hi => ?_⟩;obtain ⟨hun0,oi,hoi0,hdep0⟩:=mem_ready.1 hi;have hoi:l[i]? = some oi:=by simpa using hoi0
  have hil:i < l.length:=(List.getElem?_eq_some_iff.1 hoi).1;have hnl:i < listed.size:=by rw [h.size]; exact hil
  have hun:listed[i]? = some false:=by rw [Array.getElem?_eq_getElem hnl];simp [hnl] at hun0;rw [hun0]
  have hdep:∀ e ∈ oi.after.toList,Region.binds .any e=true → listed[e.on]? = some true:=fun e he hb => by
   have h3:=hdep0 e (by simpa using he) hb;have hlt:e.on < listed.size:=by rw [h.size]; have:=(hwl i oi hoi).1 e he hb; omega
   rw [Array.getElem?_eq_getElem hlt];simp [hlt] at h3;rw [h3]
  have hset:∀ k,(listed.setIfInBounds i true)[k]? = if k=i then some true else listed[k]?:=by
   intro k;rw [Array.getElem?_setIfInBounds];by_cases hk:i=k
   ·subst hk; simp [hnl]
   ·rw [if_neg hk,if_neg (fun e => hk e.symm)]
  have hmono:∀ k:Nat,listed[k]? = some true → (listed.setIfInBounds i true)[k]? = some true:=fun k hk => by rw [hset]; split; rfl; exact hk
  have hself:(listed.setIfInBounds i true)[i]? = some true:=by rw [hset,if_pos rfl]
  have hlook:∀ s ∈ oi.looksAt l.toArray,a.tmps[s]? = AF.tmps[s]?:=fun s hs => h.frame s fun m om hm hms _ => by obtain ⟨e,he,hb,rfl⟩:=(hwl i oi hoi).2 s hs m om hm hms;exact hdep e he hb
  have hcount:(listed.setIfInBounds i true).toList.countP (fun b => !b) ≤ fuel:=by
   have h1:(listed.setIfInBounds i true).toList=listed.toList.set i true:=by simp
   rw [h1];have:=zcI listed.toList i (by simpa using hun);omega
  have hdown:∀ (k:Nat) (o:Oper),(listed.setIfInBounds i true)[k]? = some true → l[k]? = some o → ∀ e ∈ o.after.toList,Region.binds .any e=true → (listed.setIfInBounds i true)[e.on]? = some true:=by
   intro k o hk ho e he hb;rw [hset] at hk;by_cases hki:k=i
   ·subst hki;rw [hoi] at ho;cases ho;exact hmono _ (hdep e he hb)
   ·rw [if_neg hki] at hk;exact hmono _ (h.down k o hk ho e he hb)
  by_cases hid:i ∈ done
  ·have hnt:¬ listed[i]? = some true:=by rw [hun]; intro hh; cases hh
   have hqe:∃ D:World → Prop,QF P l D AF i ∧ D w:=by
    by_cases hfr:fr.contains i=true
    ·exact ⟨fun _ => True,(h.free i (List.contains_iff_mem.1 hfr)).resolve_left hnt,trivial⟩
    ·refine ⟨C,(h.quiet i hid).resolve_left hnt,?_⟩;rcases h.cls with hc | hc
     ·exact hc
     ·exfalso
      cases hzi:z.contains i with
      | false => exact hnt (hc i hil hzi (by simpa using hfr))
      | true => exact hnt (h.late i hid hzi)
   obtain ⟨D,hq,hD⟩:=hqe;obtain ⟨hsel,hq2⟩:=hq oi hoi;obtain ⟨v,hy,hv⟩:=hq2 w hD;obtain ⟨c1,c2⟩:=zaL hsel hlook;have hya:=hy.of_same c1 c2;have hK:wpAny P .any l.toArray Q fuel (listed.setIfInBounds i true) (a.put oi.dst v) w:=by
    refine ih done t AF _ _ _ ⟨by simp [h.size],h.cover,h.path,fun k hk => ?_,hdown,fun k hk => (h.quiet k hk).imp (hmono k) id,fun s hs => ?_,by rw [(zJ _ _ _).1,h.fsize],by rw [(zJ _ _ _).2,h.defers],h.cls.imp id (fun hc k hk hz hf => hmono k (hc k hk hz hf)),fun k hk => (h.free k hk).imp (hmono k) id,h.frd,fun k hk hz => hmono k (h.late k hk hz),h.rest⟩ hcount
    ·rw [hset] at hk;by_cases hki:k=i
     ·subst hki; exact hid
     ·rw [if_neg hki] at hk; exact h.sub k hk
    ·rw [zbA];by_cases hds:oi.dst=some s ∧ s < a.tmps.size
     ·rw [if_pos hds,hv s hds.1 (by rw [← h.fsize]; exact hds.2)]
     ·rw [if_neg hds];by_cases hlt:s < a.tmps.size
      ·have hne2:oi.dst ≠ some s:=fun e => hds ⟨e,hlt⟩;refine h.frame s fun m om hm hms hmd => ?_;have h3:=hs m om hm hms hmd;rw [hset] at h3;by_cases hmi:m=i
       ·subst hmi;rw [hoi] at hm;cases hm;exact absurd hms hne2
       ·rw [if_neg hmi] at h3;exact h3
      ·have hlt2:¬ s < AF.tmps.size:=by rw [← h.fsize]; exact hlt
       rw [Array.getElem?_eq_none (Nat.le_of_not_lt hlt),Array.getElem?_eq_none (Nat.le_of_not_lt hlt2)]
   have hqq:=YieldsIn.qOp (K:=fun a2 => a2=a.put oi.dst v) hoi0 hya rfl
   exact wpOp_of_qOp (Q':=Q) (K':=wpAny P .any l.toArray Q fuel (listed.setIfInBounds i true)) (C:=fun u => ∃ k:Unit,u=w) ⟨(),rfl⟩ (fun a2 w2 hw2 ha2 => by
    obtain ⟨-,rfl⟩:=hw2;rw [ha2]
    exact hK) hqq
  ·have hp0:=h.path _ t.lead_mem;have hir:i ∈ zL t.lead:=by
    rcases List.mem_append.1 (hp0.all i hil) with h1 | h1
    ·exact absurd h1 hid
    ·exact h1
   have hnot:∀ j ∈ zL t.lead,listed[j]? ≠ some true:=fun j hj hl =>
    (List.nodup_append.1 hp0.nodup).2.2 j (h.sub j hl) j hj rfl
   have hwt:∀ j,zbf l l.length i j=true → listed[j]? = some true:=fun j hj => zcq h.down l.length i j oi hoi hdep hj;obtain ⟨x,hx,hxi⟩:=zfa hir;have hisp:i=x.1:=by
    rcases hxi with h1 | h1
    ·exact h1
    ·exfalso;have h2:=List.all_eq_true.1 hp0.ok x hx;simp only [Bool.and_eq_true] at h2;exact hnot x.1 (zal hx).1 (hwt x.1 (List.all_eq_true.1 h2.2 i h1))
   obtain ⟨x1,x2⟩:=x;simp only at hisp;subst hisp
   obtain ⟨qs,t',hhd,hcov,hpath⟩:=zfW h.cover hx (fun y hy hne => by
    cases hw:zbf l l.length i y.1 with
    | false => rfl
    | true => exact absurd (hwt y.1 hw) (hnot y.1 (zal hy).1))
   have hpl:=h.path _ (hpath _ t'.lead_mem);have g0:=List.all_eq_true.1 hpl.ok (i,qs) List.mem_cons_self;simp only [hoi,Bool.and_eq_true] at g0;have g1:=g0.1;have hrest:=zl8 h.rest hhd hoi;unfold stgV at hrest;obtain ⟨c1,c2⟩:=zaL g1 hlook;refine zg0 hoi0 h.defers c1 c2 hrest ?_;intro a2 AF2 w2 v hde hat hAt hK;obtain ⟨hcls,AF3,hwalk,hseg⟩:=(show (_ ∨ C w2) ∧ ∃ AF3,_ ∧ _ from hK);have hbq:∀ k ∈ qs,k < l.length:=fun k hk => hpl.bound k (List.mem_append_right _ ((zal (p:=(i,qs) :: t'.lead) List.mem_cons_self).2 k hk));have hparts:∀ p ∈ t'.paths,zbQ l.toArray (zat l qs)=true ∧ zbQ l.toArray (zat l (zL p))=true ∧ (∀ oj ∈ zat l (zL p),(∀ s ∈ oi.looksAt l.toArray,oj.dst ≠ some s) ∧ ∀ d,oi.dst=some d → oj.dst ≠ some d) ∧ ∀ ok ∈ zat l qs,∀ oj ∈ zat l (zL p),(∀ s ∈ ok.looksAt l.toArray,oj.dst ≠ some s) ∧ ∀ d,ok.dst=some d → oj.dst ≠ some d:=by intro p hp;have hon:=(h.path _ (hpath p hp)).onceR;rw [zE,show i :: (qs ++ zL p)=[i] ++ (qs ++ zL p) from rfl,zW,zW] at hon;obtain ⟨-,o2,o3⟩:=zX hon;obtain ⟨o4,o5,o6⟩:=zX o2;exact ⟨o4,o5,fun oj hoj => o3 oi (zM List.mem_cons_self hoi) oj (List.mem_append_right _ hoj),o6⟩
   obtain ⟨o4,-,-,-⟩:=hparts _ t'.lead_mem;obtain ⟨t1,t2,t3,t4⟩:=stretch hbq o4 hwalk hne;have hA2:∀ s0,oi.dst ≠ some s0 → AF2.tmps[s0]? = AF.tmps[s0]?:=fun s0 hs0 => by rw [hAt,zbA,if_neg (fun hh => hs0 hh.1)]
   have hA3:∀ s0,oi.dst ≠ some s0 → (∀ k ∈ qs,∀ o,l[k]? = some o → o.dst ≠ some s0) → AF3.tmps[s0]? = AF.tmps[s0]?:=fun s0 h1 h2 => (t4 s0 h2).trans (hA2 s0 h1);have hz2:AF2.tmps.size=AF.tmps.size:=by rw [hAt,(zJ _ _ _).1]
   have hza:a2.tmps.size=a.tmps.size:=by rw [hat,(zJ _ _ _).1]
   have hqs:∀ k ∈ qs,k ∈ zL ((i,qs) :: t'.lead):=fun k hk => (zal (p:=(i,qs) :: t'.lead) List.mem_cons_self).2 k hk;have his:i ∈ zL ((i,qs) :: t'.lead):=(zal (p:=(i,qs) :: t'.lead) List.mem_cons_self).1;have hnot2:∀ j ∈ zL ((i,qs) :: t'.lead),listed[j]? ≠ some true:=fun j hj hl =>
    (List.nodup_append.1 hpl.nodup).2.2 j (h.sub j hl) j hj rfl
   refine ih (done ++ i :: qs) t' AF3 _ _ _ ⟨by simp [h.size],hcov,fun p hp => ?_,fun k hk => ?_,hdown,fun k hk => ?_,fun s0 hs0 => ?_,by rw [hza,t3,hz2,h.fsize],by rw [t2,hde],?_,fun k hk => ?_,fun k hk => List.mem_append_left _ (h.frd k hk),fun k hk hz => ?_,hseg⟩ hcount
   ·have hpp:=h.path _ (hpath p hp);obtain ⟨-,o5,o6,o7⟩:=hparts p hp;have hflat:done ++ zL ((i,qs) :: p)=(done ++ i :: qs) ++ zL p:=by rw [zE]; simp
    refine ⟨?_,hflat ▸ hpp.nodup,fun k hk => hflat ▸ hpp.all k hk,fun k hk => hpp.bound k (by rw [hflat]; exact hk),?_,o5,?_⟩
    ·have:=hpp.ok;unfold pathB at this ⊢;rw [List.all_cons,Bool.and_eq_true] at this;exact this.2
    ·intro k j ok oj hok hoj hk hj;rcases List.mem_append.1 hk with hk | hk
     ·exact hpp.once k j ok oj hok hoj hk (by rw [zE]; exact List.mem_cons_of_mem _ (List.mem_append_right _ hj))
     rcases List.mem_cons.1 hk with rfl | hk
     ·rw [hoi] at hok;cases hok;exact o6 oj (zM hj hoj)
     ·exact o7 ok (zM hk hok) oj (zM hj hoj)
    ·have:=hpp.early;unfold earlyB at this ⊢;rw [List.all_cons,Bool.and_eq_true] at this;exact this.2
   ·rw [hset] at hk;by_cases hki:k=i
    ·subst hki; simp
    ·rw [if_neg hki] at hk; exact List.mem_append_left _ (h.sub k hk)
   ·
    rcases List.mem_append.1 hk with hk | hk
    ·rcases h.quiet k hk with h1 | h1
     ·exact .inl (hmono k h1)
     ·refine .inr (h1.later (t3.trans hz2) fun ok hok => ?_);have hq1:=hpl.once k i ok oi hok hoi hk his;have hq2:=fun k2 (hk2:k2 ∈ qs) o2 (ho2:l[k2]? = some o2) => hpl.once k k2 ok o2 hok ho2 hk (hqs k2 hk2);exact ⟨fun s0 hs0 => hA3 s0 (hq1.1 s0 hs0) fun k2 hk2 o2 ho2 => (hq2 k2 hk2 o2 ho2).1 s0 hs0,fun d hd => hA3 d (hq1.2 d hd) fun k2 hk2 o2 ho2 => (hq2 k2 hk2 o2 ho2).2 d hd⟩
    rcases List.mem_cons.1 hk with rfl | hk
    ·exact .inl hself
    ·exact .inr (t1 k hk)
   ·
    have hnq:∀ k ∈ qs,∀ o,l[k]? = some o → o.dst ≠ some s0:=fun k hk o ho hds => by
     have h1:=hs0 k o ho hds (by simp [hk]);rw [hset] at h1;by_cases hki:k=i
     ·subst hki;have:=(List.nodup_append.1 hpl.nodup).2.1;rw [zE] at this;exact (List.nodup_cons.1 this).1 (List.mem_append_left _ hk)
     ·rw [if_neg hki] at h1;exact hnot2 k (hqs k hk) h1
    rw [t4 s0 hnq,hat,hAt,zbA,zbA];by_cases hds:oi.dst=some s0
    ·by_cases hlt:s0 < a.tmps.size
     ·rw [if_pos ⟨hds,hlt⟩,if_pos ⟨hds,by rw [← h.fsize]; exact hlt⟩]
     ·have hlt2:¬ s0 < AF.tmps.size:=by rw [← h.fsize]; exact hlt
      rw [if_neg (fun hh => hlt hh.2),if_neg (fun hh => hlt2 hh.2),Array.getElem?_eq_none (Nat.le_of_not_lt hlt),Array.getElem?_eq_none (Nat.le_of_not_lt hlt2)]
    ·rw [if_neg (fun hh => hds hh.1),if_neg (fun hh => hds hh.1)];refine h.frame s0 fun m om hm hms hmd => ?_;have h1:=hs0 m om hm hms (List.mem_append_left _ hmd);rw [hset] at h1;by_cases hmi:m=i
     ·subst hmi; exact absurd hmd hid
     ·rw [if_neg hmi] at h1; exact h1
   ·
    cases hzi:z.contains i with
    | false =>rw [hzi] at hcls;exact .inl (hcls.resolve_left (by decide))
    | true =>right;intro k hk hkz hkf;have h1:=List.all_eq_true.1 hlt i (List.contains_iff_mem.1 hzi);have h2:=List.all_eq_true.1 h1 k (List.mem_range.2 hk);rw [hkz,hkf,Bool.false_or,Bool.false_or] at h2;exact hmono k (hwt k h2)
   ·
    rcases h.free k hk with h1 | h1
    ·exact .inl (hmono k h1)
    ·refine .inr (h1.later (t3.trans hz2) fun ok hok => ?_);have hkd:=h.frd k hk;have hq1:=hpl.once k i ok oi hok hoi hkd his;have hq2:=fun k2 (hk2:k2 ∈ qs) o2 (ho2:l[k2]? = some o2) => hpl.once k k2 ok o2 hok ho2 hkd (hqs k2 hk2);exact ⟨fun s0 hs0 => hA3 s0 (hq1.1 s0 hs0) fun k2 hk2 o2 ho2 => (hq2 k2 hk2 o2 ho2).1 s0 hs0,fun d hd => hA3 d (hq1.2 d hd) fun k2 hk2 o2 ho2 => (hq2 k2 hk2 o2 ho2).2 d hd⟩
   ·
    rcases List.mem_append.1 hk with hk | hk
    ·exact hmono k (h.late k hk hz)
    rcases List.mem_cons.1 hk with rfl | hk
    ·exact hself
    ·exfalso;have h1:=hpl.early;unfold earlyB at h1;have h2:=List.all_eq_true.1 (List.all_eq_true.1 h1 (i,qs) List.mem_cons_self) k hk;rw [hz] at h2;cases h2
theorem zfv {id:Nat} {Q:Exit → Act → World → Prop} {a:Act} {w:World} (hm:P.follows .mixedOrders=true) (fr q0:List Nat) (t:SpT) (z:List Nat) (hok:tailB l fr q0 t z=true) (C:World → Prop) (hC:C w.drew)
  (AF1 AF:Act) (hfree:∀ y,wpQuiet P l.toArray (fun u => ∃ k:Unit,u=y) (fun af => af=AF1) (zat l fr) a) (hwalk:∀ y,C y → wpQuiet P l.toArray (fun u => ∃ k:Unit,u=y) (fun af => af=AF) (zat l q0) AF1) (hrun:segV P l.toArray C (fun a w => Q .normal a w) (pickV l z t) AF w.drew):(Code.region id l.toArray true).wp P Q a w:=by
 refine wp_region_any hm ?_;unfold tailB at hok;simp only [Bool.and_eq_true] at hok;obtain ⟨⟨⟨⟨k5,k6⟩,kl⟩,kq⟩,k7⟩:=hok;have hpaths:∀ p ∈ t.paths,PvAt l z (fr ++ q0) p:=by intro p hp;have h1:=List.all_eq_true.1 k7 p hp;simp only [Bool.and_eq_true] at h1;obtain ⟨⟨⟨⟨⟨k1,k2⟩,k3⟩,k4⟩,kp⟩,k8⟩:=h1;rw [zW] at k4;obtain ⟨o1,o2,o3⟩:=zX k4;exact ⟨kp,by simpa using k1,fun i hi => List.contains_iff_mem.1 (List.all_eq_true.1 k2 i (List.mem_range.2 hi)),fun i hi => by simpa using List.all_eq_true.1 k3 i hi,fun i j oi oj hoi hoj hi hj => o3 oi (zM hi hoi) oj (zM hj hoj),o2,k8⟩
 have ho1:zbQ l.toArray (zat l (fr ++ q0))=true:=by have h1:=List.all_eq_true.1 k7 _ t.lead_mem;simp only [Bool.and_eq_true] at h1;have k4:=h1.1.1.2;rw [zW] at k4;exact (zX k4).1
 rw [zW] at ho1;obtain ⟨of1,of2,of3⟩:=zX ho1;have hbd:∀ i ∈ fr ++ q0,i < l.length:=fun i hi => (hpaths _ t.lead_mem).bound i (List.mem_append_left _ hi);obtain ⟨f1,f2,f3,f4⟩:=stretch (C:=fun _ => True) (fun i hi => hbd i (List.mem_append_left _ hi)) of1 (fun y _ => hfree y) ⟨w,trivial⟩;obtain ⟨t1,t2,t3,t4⟩:=stretch (fun i hi => hbd i (List.mem_append_right _ hi)) of2 hwalk ⟨_,hC⟩;have hrep:∀ i:Nat,(Array.replicate l.toArray.size false)[i]? ≠ some true:=fun i => by simp [Array.getElem?_replicate]
 have hfr:∀ i ∈ fr,QF P l (fun _ => True) AF i:=fun i hi => (f1 i hi).later t3 fun ok hok => ⟨fun s0 hs0 => t4 s0 fun k hk o ho => (of3 ok (zM hi hok) o (zM hk ho)).1 s0 hs0,fun d hd => t4 d fun k hk o ho => (of3 ok (zM hi hok) o (zM hk ho)).2 d hd⟩;refine znG (fr:=fr) k5 kl ⟨_,hC⟩ _ (fr ++ q0) t AF _ _ _ ⟨by simp,k6,hpaths,fun i hi => absurd hi (hrep i),fun i o hi => absurd hi (hrep i),fun i hi => .inr ?_,fun s hs => ?_,(t3.trans f3).symm,(t2.trans f2).symm,.inl hC,fun i hi => .inr (hfr i hi),fun i hi => List.mem_append_left _ hi,fun i hi hz => absurd (List.all_eq_true.1 kq i hi) (by rw [hz]; decide),hrun⟩ ?_
 ·rcases List.mem_append.1 hi with hi | hi
  ·exact fun o ho => ⟨(hfr i hi o ho).1,fun y _ => (hfr i hi o ho).2 y trivial⟩
  ·exact t1 i hi
 ·exact ((t4 s fun i hi o ho hds => hrep i (hs i o ho hds (List.mem_append_right _ hi))).trans (f4 s fun i hi o ho hds => hrep i (hs i o ho hds (List.mem_append_left _ hi)))).symm
 ·refine Nat.le_trans List.countP_le_length ?_;simp
end
end Go.Proofs.YtgdpaieechgahaaGreatDoor
