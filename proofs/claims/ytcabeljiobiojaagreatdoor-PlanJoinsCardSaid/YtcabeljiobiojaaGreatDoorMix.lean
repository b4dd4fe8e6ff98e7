/-
  A region that draws its order: reads, calls that make memory of their own, and one store of a whole row into a block that nothing else of the region touches: one walk in the text's order serves every order. No condition.
-/
import Derived.Test.YtcabeljiobiojaaGreatDoorQ14
import Derived.Laws.Tables
set_option linter.unusedVariables false
namespace Go.Proofs.YtcabeljiobiojaaGreatDoor
open Go.RowKit
set_option maxRecDepth 100000
theorem yeY {p:Prop} (h:p:=by
  have hoi:l[i]? = some oi:=by simpa using hoi0
  have hil:i < l.length:=(List.getElem?_eq_some_iff.1 hoi).1;have hnl:i < listed.size:=by rw [h.size]; exact hil
  have hun:listed[i]? = some false:=by rw [Array.getElem?_eq_getElem hnl];simp [hnl] at hun0;rw [hun0]
  first
  |clear gEV
   have hset:∀ k,(listed.setIfInBounds i true)[k]? = if k=i then some true else listed[k]?:=by exact yaO
   have hlook:∀ s ∈ oi.looksAt l.toArray,a.tmps[s]? = AF.tmps[s]?:=fun s hs => h.frame s fun m om hm hms => by
    obtain ⟨e,he,hb,rfl⟩:=(hwl i oi hoi).2 s hs m om hm hms;have h3:=hdep e BB hb;have hlt:e.on < listed.size:=by rw [h.size]; exact (List.getElem?_eq_some_iff.1 hm).1
    rw [Array.getElem?_eq_getElem hlt];simp [hlt] at h3;rw [h3]
   have hcount:(listed.setIfInBounds i true).toList.countP (fun b => !b) ≤ fuel:=by exact yaH
   have hframe:∀ v,(∀ d,oi.dst=some d → d < AF.tmps.size → AF.tmps[d]? = some v) → ∀ s,(∀ (m:Nat) (om:Oper),l[m]? = some om → om.dst=some s → (listed.setIfInBounds i true)[m]? = some true) → (a.put oi.dst v).tmps[s]? = AF.tmps[s]?:=by
    intro v hv s hs;rw [zbA];by_cases hds:oi.dst=some s ∧ s < a.tmps.size
    ·rw [if_pos hds,hv s hds.1 (by rw [← h.fsize]; exact hds.2)]
    ·rw [if_neg hds];by_cases hlt:s < a.tmps.size
     ·have hne:oi.dst ≠ some s:=fun e => hds ⟨e,hlt⟩;refine h.frame s fun m om hm hms => ?_;have h3:=hs m om hm hms;rw [hset] at h3;by_cases hmi:m=i
      ·subst hmi;rw [hoi] at hm;cases hm;exact absurd hms hne
      ·rw [if_neg hmi] at h3;exact h3
     exact ycG
   unfold wpOp;rw [hoi0];simp only;by_cases hij:i=j
   ·subst hij;have hoe:o=oi:=by rw [hj] at hoi; simpa using hoi
    subst hoe;rw [if_pos (by simp [Region.wanted,hgd])];have hj0:listed.getD i false=false:=by simp [hun]
    have hw:=h.world;rw [hj0] at hw;change Mods [] w.drew w' at hw;have hrow':=hw.heap (show w.drew.heap[g]? = _ from hrow);have hops:∀ z ∈ o.op.operands.toList,a.eval z=AF.eval z:=by
     intro z hz
     cases z with
     | tmp s =>have:=hlook s (List.mem_append_left _ (List.mem_filterMap.2 ⟨.tmp s,hz,rfl⟩));simp only [Act.eval,Array.getD_eq_getD_getElem?,this]
     | _ => rfl
    have hxa':a.eval x=_:=(hops x (by rw [ho]; simp [Op.operands])).trans hxa;have hya':a.eval y=_:=(hops y (by rw [ho]; simp [Op.operands])).trans hya;refine .inl (wp_store_row ty x y ho g cells hxa' hya' t old hrow' hif hold h1 ?_);refine ih _ _ _ ⟨by simp [h.size],hframe undef (fun d hd' => by rw [hd] at hd'; cases hd'),by rw [(zJ _ _ _).1,h.fsize],by rw [(zJ _ _ _).2,h.defers],?_⟩ hcount;have hjt:(listed.setIfInBounds i true).getD i false=true:=by simp [hnl]
    rw [hjt];exact zhL (show w.drew.heap[g]? = _ from hrow) hw
   ·obtain ⟨hsel,v,hyi,hv⟩:=hy (listed.getD j false) i oi hij hoi;obtain ⟨c1,c2⟩:=zaL hsel hlook;have hya:=hyi.of_same c1 c2;have hgd:(listed.setIfInBounds i true).getD j false=listed.getD j false:=by
     simp [hij]
    have hK:∀ w'',Mods [] (zdL w g cells (listed.getD j false)) w'' → wpAny P .any l.toArray Q fuel (listed.setIfInBounds i true) (a.put oi.dst v) w'':=fun w'' hM =>
     ih _ _ _ ⟨by simp [h.size],hframe v hv,by rw [(zJ _ _ _).1,h.fsize],by rw [(zJ _ _ _).2,h.defers],by rw [hgd]; exact hM⟩ hcount
    have hq:=YieldsIn.qOp (K:=fun a2 => a2=a.put oi.dst v) hoi0 hya rfl
    have:=wpOp_of_qOp (Q':=Q) (K':=wpAny P .any l.toArray Q fuel (listed.setIfInBounds i true)) (C:=fun w' => ∃ k:zay (zdL w g cells (listed.getD j false)),w'=k.val) ⟨⟨w',h.world⟩,rfl⟩ (fun a2 w2 hw2 ha2 => by
     obtain ⟨k,rfl⟩:=hw2;rw [ha2]
     exact hK _ k.mods) hq
    unfold wpOp at this;rw [hoi0] at this;exact this
  |clear gEW
   have hdep:∀ e ∈ oi.after.toList,Region.binds .any e=true → listed[e.on]? = some true:=fun e he hb => by exact ybf
   have hset:∀ k,(listed.setIfInBounds i true)[k]? = if k=i then some true else listed[k]?:=by exact yaO
   have hmono:∀ k:Nat,listed[k]? = some true → (listed.setIfInBounds i true)[k]? = some true:=fun k hk => by rw [hset]; split; rfl; exact hk
   have hself:(listed.setIfInBounds i true)[i]? = some true:=by rw [hset,if_pos rfl]
   have hlook:∀ s ∈ oi.looksAt l.toArray,a.tmps[s]? = AF.tmps[s]?:=fun s hs => h.frame s fun m om hm hms _ => by exact ybR
   have hcount:(listed.setIfInBounds i true).toList.countP (fun b => !b) ≤ fuel:=by exact yaH
   have hdown:∀ (k:Nat) (o:Oper),(listed.setIfInBounds i true)[k]? = some true → l[k]? = some o → ∀ e ∈ o.after.toList,Region.binds .any e=true → (listed.setIfInBounds i true)[e.on]? = some true:=by exact yba
   by_cases hid:i ∈ done
   first
   |clear gEB
    ·have gER:=Lib.hid trivial;exact yeW
    ·have hir:i ∈ zL rem:=by
      rcases List.mem_append.1 (h.all i hil) with h1 | h1
      ·exact absurd h1 hid
      ·exact h1
     cases rem with
     | nil => simp [zL] at hir
     | cons x rest =>
      obtain ⟨s,qs⟩:=x;have hord:=h.isOrder;unfold zfJ at hord;simp only [Bool.and_eq_true] at hord;obtain ⟨⟨⟨g1,g2⟩,g3⟩,g4⟩:=hord;have hnot:∀ j ∈ zL ((s,qs) :: rest),listed[j]? ≠ some true:=fun j hj hl =>
       (List.nodup_append.1 h.nodup).2.2 j (h.sub j hl) j hj rfl
      have hwt:∀ j,zbf l l.length i j=true → listed[j]? = some true:=fun j hj => zcq h.down l.length i j oi hoi hdep hj;have his:i=s:=by
       rw [zE] at hir;rcases List.mem_cons.1 hir with h1 | h1
       ·exact h1
       exfalso;rcases List.mem_append.1 h1 with h1 | h1
       ·exact hnot s (by rw [zE]; exact List.mem_cons_self) (hwt s (List.all_eq_true.1 g3 i h1))
       ·obtain ⟨j,hj,hw⟩:=zkc rest s g4 i h1;refine hnot j ?_ (hwt j hw);rw [zE];rcases List.mem_cons.1 hj with rfl | hj
        ·exact List.mem_cons_self
        ·exact List.mem_cons_of_mem _ (List.mem_append_right _ hj)
      subst his;rw [hoi] at g1;have hrest:=h.rest;rw [zgb hoi] at hrest;unfold zct at hrest;obtain ⟨c1,c2⟩:=zaL g1 hlook;refine zg0 hoi0 h.defers c1 c2 hrest ?_;intro a2 AF2 w2 v hde hat hAt hK;obtain ⟨hcls,AF3,hwalk,hseg⟩:=(show (_ ∨ C w2) ∧ ∃ AF3,_ ∧ _ from hK);have hflat:done ++ zL ((i,qs) :: rest)=(done ++ i :: qs) ++ zL rest:=by rw [zE]; simp
      have hon:=h.onceR;rw [zE,show i :: (qs ++ zL rest)=[i] ++ (qs ++ zL rest) from rfl,zW,zW] at hon;obtain ⟨-,o2,o3⟩:=zX hon;obtain ⟨o4,o5,o6⟩:=zX o2;have hbq:∀ k ∈ qs,k < l.length:=fun k hk => h.bound k (List.mem_append_right _ (by rw [zE]; simp [hk]));have gEy:=Lib.hid trivial;exact yeM
   |clear gEC
    ·have gES:=Lib.hid trivial;exact yeW
    ·have gEv:=Lib.hid trivial;exact yeL
   |clear gED
    ·have hnt:¬ listed[i]? = some true:=by rw [hun]; intro hh; cases hh
     have hqe:∃ D:World → Prop,QF P l D AF i ∧ D w:=by
      by_cases hfr:fr.contains i=true
      ·exact ⟨fun _ => True,(h.free i (List.contains_iff_mem.1 hfr)).resolve_left hnt,trivial⟩
      ·refine ⟨C,(h.quiet i hid).resolve_left hnt,?_⟩;rcases h.cls with hc | hc
       ·exact hc
       ·exfalso
        cases hzi:z.contains i with
        | false => exact hnt (hc i hil hzi (by simpa using hfr))
        | true => exact hnt (h.late i hid hzi)
     obtain ⟨D,hq,hD⟩:=hqe;obtain ⟨hsel,hq2⟩:=hq oi hoi;obtain ⟨v,hy,hv⟩:=hq2 w hD;obtain ⟨c1,c2⟩:=zaL hsel hlook;have hya:=hy.of_same c1 c2;have hK:wpAny P .any l.toArray Q fuel (listed.setIfInBounds i true) (a.put oi.dst v) w:=by
      refine ih done t AF _ _ _ ⟨by simp [h.size],h.cover,h.path,fun k hk => ?_,hdown,fun k hk => (h.quiet k hk).imp (hmono k) id,fun s hs => ?_,by rw [(zJ _ _ _).1,h.fsize],by rw [(zJ _ _ _).2,h.defers],h.cls.imp id (fun hc k hk hz hf => hmono k (hc k hk hz hf)),fun k hk => (h.free k hk).imp (hmono k) id,h.frd,fun k hk hz => hmono k (h.late k hk hz),h.rest⟩ hcount
      ·exact yeQ
      exact yeP
     exact yaF
    ·have gEw:=Lib.hid trivial;exact yeL
 ):p:=h
theorem yeU {p:Prop} (h:p:=by
  have hwl:∀ (i:Nat) (o:Oper),l[i]? = some o → (∀ e ∈ o.after.toList,Region.binds .any e=true → e.on < i) ∧ ∀ s ∈ o.looksAt l.toArray,∀ (m:Nat) (om:Oper),l[m]? = some om → om.dst=some s → ∃ e ∈ o.after.toList,Region.binds .any e=true ∧ e.on=m:=by exact yak
  first
  |clear gEI
   have hall:∀ (listed:Array Bool) (a:Act) (w':World),MixAt l AF w g cells j listed a w' → Region.ready .any l.toArray listed=[] → Q .normal a w':=by
    intro listed a w' h hr;have main:∀ n,n < l.length → listed[n]? = some true:=by exact yaj
    have hjl:j < l.length:=(List.getElem?_eq_some_iff.1 hj).1;have hjt:listed.getD j false=true:=by have:=main j hjl;simp [this]
    have haf:a=AF:=by have ht:a.tmps=AF.tmps:=Array.ext_getElem? fun s => h.frame s fun m om hm _ => main m (List.getElem?_eq_some_iff.1 hm).1;have hd:=h.defers;cases a;cases AF;simp only at ht hd;subst ht;subst hd;rfl
    subst haf;have hw:=h.world;rw [hjt] at hw;exact hend w' hw
   intro fuel
   induction fuel with
   | zero =>
    intro listed a w' h hc;have hr:Region.ready .any l.toArray listed=[]:=by exact yar
    exact ⟨hr,hall listed a w' h hr⟩
   | succ fuel ih =>intro listed a w' h hc;refine ⟨hall listed a w' h,fun i hi => ?_⟩;obtain ⟨hun0,oi,hoi0,hdep⟩:=mem_ready.1 hi;have gEV:=Lib.hid trivial;exact yeY
  |clear gEJ
   have hall:∀ (done:List Nat) (rem:List (Nat × List Nat)) (p:Option Nat) (AF:Act) (listed:Array Bool) (a:Act) (w:World),SpAt P l C z (fun a w => Q .normal a w) done rem p AF listed a w → Region.ready .any l.toArray listed=[] → Q .normal a w:=by
    intro done rem p AF listed a w h hr;have main:∀ n,n < l.length → listed[n]? = some true:=by exact yaj
    have haf:a=AF:=by exact ycD
    subst haf
    cases rem with
    | nil => exact h.rest
    | cons x rest =>
     exfalso;obtain ⟨s,qs⟩:=x;have hm:s ∈ zL ((s,qs) :: rest):=by rw [zE]; exact List.mem_cons_self
     have hlt:=h.bound s (List.mem_append_right _ hm);have hd:=h.sub s (main s hlt);exact (List.nodup_append.1 h.nodup).2.2 s hd s hm rfl
   intro fuel
   induction fuel with
   | zero =>
    intro done rem p AF listed a w h hc;have hr:Region.ready .any l.toArray listed=[]:=by exact yar
    exact ⟨hr,hall _ _ _ _ listed a w h hr⟩
   | succ fuel ih =>intro done rem p AF listed a w h hc;refine ⟨hall _ _ _ _ listed a w h,fun i hi => ?_⟩;have gEB:=Lib.hid trivial;exact yeS
  |clear gEK
   have hall:∀ (done:List Nat) (t:SpT) (AF:Act) (listed:Array Bool) (a:Act) (w:World),TrAt P l C z (fun a w => Q .normal a w) done t AF listed a w → Region.ready .any l.toArray listed=[] → Q .normal a w:=by exact ycM
   intro fuel
   induction fuel with
   | zero =>exact ycI
   | succ fuel ih =>intro done t AF listed a w h hc;refine ⟨hall _ _ _ listed a w h,fun i hi => ?_⟩;have gEC:=Lib.hid trivial;exact yeS
  |clear gEL
   have hall:∀ (done:List Nat) (t:SpT) (AF:Act) (listed:Array Bool) (a:Act) (w:World),TvAt P l C z fr (fun a w => Q .normal a w) done t AF listed a w → Region.ready .any l.toArray listed=[] → Q .normal a w:=by exact ycM
   intro fuel
   induction fuel with
   | zero =>exact ycI
   | succ fuel ih =>intro done t AF listed a w h hc;refine ⟨hall _ _ _ listed a w h,fun i hi => ?_⟩;have gED:=Lib.hid trivial;exact yeS
 ):p:=h
theorem ycG {p:Prop} (h:p:=by
  ·have hlt2:¬ s < AF.tmps.size:=by rw [← h.fsize]; exact hlt
   rw [Array.getElem?_eq_none (Nat.le_of_not_lt hlt),Array.getElem?_eq_none (Nat.le_of_not_lt hlt2)]
 ):p:=h
theorem yaj {p:Prop} (h:p:=by
  intro n
  induction n using Nat.strongRecOn with
  | ind n ih =>
   intro hn;have hs:listed[n]? = some (listed[n]'AW):=Array.getElem?_eq_getElem AW;by_cases hb:listed[n]'AW=true
   ·rw [hs,hb]
   ·exfalso;have hmem:n ∈ Region.ready .any l.toArray listed:=by
     rw [mem_ready];have ho:l[n]? = some l[n]:=List.getElem?_eq_getElem hn;refine ⟨?_,l[n],by simp,fun e he hbd => ?_⟩
     ·simp [h.size,hn];simpa using hb
     ·have hlt:=(hwl n _ ho).1 e BB hbd;have:=ih e.on hlt AA;simp [this]
    rw [hr] at hmem;cases hmem
 ):p:=h
theorem yak {p:Prop} (h:p:=by
  intro i o hi;have hlt:i < l.length:=(List.getElem?_eq_some_iff.1 hi).1;have h1:=List.all_eq_true.1 hwait i (List.mem_range.2 hlt);rw [hi] at h1;simp only [Bool.and_eq_true] at h1;refine ⟨fun e he hb => ?_,fun s hs m om hm hms => ?_⟩
  ·have:=List.all_eq_true.1 h1.1 e he;rw [hb] at this;simpa using this
  ·have h2:=List.all_eq_true.1 (List.all_eq_true.1 h1.2 s hs) m (List.mem_range.2 (List.getElem?_eq_some_iff.1 hm).1);rw [hm] at h2;simp only [Bool.or_eq_true,decide_eq_true_eq,List.any_eq_true,Bool.and_eq_true] at h2;rcases h2 with h2 | ⟨e,he,h3,h4⟩
   ·exact absurd hms h2
   ·exact ⟨e,he,h3,h4⟩
 ):p:=h
theorem yar {p:Prop} (h:p:=by
  rw [List.eq_nil_iff_forall_not_mem];intro i hi;obtain ⟨h2,o',h3,-⟩:=mem_ready.1 hi;have hlt:i < listed.size:=by rw [h.size];have:=(Array.getElem?_eq_some_iff.1 h3).1;simpa using this
  have h0:listed.toList.countP (fun b => !b)=0:=by omega
  rw [List.countP_eq_zero] at h0;have:=h0 listed[i] AB;have hb:listed[i]=true:=by simpa using this
  simp [hlt,hb] at h2
 ):p:=h
def nop (o:Oper):Oper:={ o with op:=.move (.const undef) }
def noSel (o:Oper):Bool:=match o.op with | .select _ _ => false | _ => true
theorem zmc {o:Oper} (h:noSel o=true):∀ cs b,o.op ≠ .select cs b:=by intro cs b he;unfold noSel at h;rw [he] at h;cases h
def zbQ (ops:Array Oper):List Oper → Bool
 | [] => true
 | o :: rest => noSel o && ((o.looksAt ops).all fun s => (o :: rest).all fun o' => decide (o'.dst ≠ some s)) && (match o.dst with | none => true | some d => rest.all fun o' => decide (o'.dst ≠ some d)) && zbQ ops rest
def waitB (l:List Oper):Bool:=
 (List.range l.length).all fun i => match l[i]? with
  | none => true
  | some o => (o.after.toList.all fun e => !Region.binds .any e || decide (e.on < i)) &&
   ((o.looksAt l.toArray).all fun s => (List.range l.length).all fun m => decide ((l[m]?).bind (·.dst) ≠ some s) || o.after.toList.any fun e => Region.binds .any e && decide (e.on=m))
theorem zaL {ops:Array Oper} {o:Oper} (hs:noSel o=true) {a a':Act} (h:∀ s ∈ o.looksAt ops,a'.tmps[s]? = a.tmps[s]?) :
  execOp a'.eval o=execOp a.eval o ∧ Region.wanted o (yielded ops a'.tmps)=Region.wanted o (yielded ops a.tmps):=by
 constructor
 ·refine execOp_congr o (zmc hs) fun x hx => ?_
  cases x with
  | tmp t =>have:=h t (List.mem_append_left _ (List.mem_filterMap.2 ⟨.tmp t,by simpa using hx,rfl⟩));simp only [Act.eval,Array.getD_eq_getD_getElem?,this]
  | _ => rfl
 ·unfold Region.wanted
  cases hg:o.guard with
  | none => rfl
  | some gw =>
   obtain ⟨g,want⟩:=gw;have hy:yielded ops a'.tmps g=yielded ops a.tmps g:=by
    unfold yielded
    cases ht:(ops[g]?).bind (·.dst) with
    | none => rfl
    | some t =>have:=h t (List.mem_append_right _ (by simp [hg,ht]));simp only [Option.bind_some,this]
   simp only [hy]
section
variable {P:Program} {ops:Array Oper} {C:World → Prop} {AF:Act}
theorem zfL {Q:Act → Prop} {o:Oper} {rest:List Oper} {a:Act} (h:wpQuiet P ops C Q (o :: rest) a):∃ v,YieldsIn P ops C o v a ∧ wpQuiet P ops C Q rest (a.put o.dst v):=by
 unfold wpQuiet at h;by_cases hw:Region.wanted o (yielded ops a.tmps)=true
 ·rw [if_pos hw] at h;obtain ⟨v,h1,h2⟩:=h;exact ⟨v,.inl ⟨hw,h1⟩,h2⟩
 ·rw [if_neg hw] at h;exact ⟨undef,.inr ⟨by simpa using hw,rfl⟩,h⟩
theorem zJ (a:Act) (d:Option Tmp) (v:Value):(a.put d v).tmps.size=a.tmps.size ∧ (a.put d v).defers=a.defers:=by
 cases d with
 | none => exact ⟨rfl,rfl⟩
 | some d => exact ⟨by simp [Act.put],rfl⟩
theorem zbA (a:Act) (d:Option Tmp) (v:Value) (s:Nat):(a.put d v).tmps[s]? = if d=some s ∧ s < a.tmps.size then some v else a.tmps[s]?:=by
 cases d with
 | none => simp [Act.put]
 | some d =>
  simp only [Act.put,Array.getElem?_setIfInBounds,Option.some.injEq];by_cases h:d=s
  ·subst h;by_cases h2:d < a.tmps.size
   ·simp [h2]
   ·simp [h2]
  ·simp [h]
theorem zgc:∀ (l:List Oper) (a:Act),wpQuiet P ops C (fun af => af=AF) l a → AF.defers=a.defers ∧ AF.tmps.size=a.tmps.size ∧ ∀ s,(∀ o ∈ l,o.dst ≠ some s) → AF.tmps[s]? = a.tmps[s]?:=by
 intro l
 induction l with
 | nil => intro a h; have h:a=AF:=h; subst h; exact ⟨rfl,rfl,fun _ _ => rfl⟩
 | cons o rest ih =>intro a h;obtain ⟨v,-,h2⟩:=zfL h;obtain ⟨i1,i2,i3⟩:=ih _ h2;obtain ⟨p1,p2⟩:=zJ a o.dst v;refine ⟨i1.trans p2,i2.trans p1,fun s hs => ?_⟩;rw [i3 s (fun o' ho => hs o' (List.mem_cons_of_mem _ ho)),zbA,if_neg (fun h => hs o List.mem_cons_self h.1)]
theorem zc9:∀ (l:List Oper) (a:Act),zbQ ops l=true → wpQuiet P ops C (fun af => af=AF) l a →
  ∀ (i:Nat) (o:Oper),l[i]? = some o → noSel o=true ∧ ∃ v,YieldsIn P ops C o v AF ∧ ∀ d,o.dst=some d → d < AF.tmps.size → AF.tmps[d]? = some v:=by
 intro l
 induction l with
 | nil => intro a _ _ i o hi; simp at hi
 | cons o rest ih =>
  intro a hk h i x hi;obtain ⟨v,hy,h2⟩:=zfL h;unfold zbQ at hk;simp only [Bool.and_eq_true] at hk;obtain ⟨⟨⟨k1,k2⟩,k3⟩,k4⟩:=hk
  cases i with
  | succ i => exact ih _ k4 h2 i x BA
  | zero =>
   simp at hi;subst hi;obtain ⟨-,hsz,hf⟩:=zgc rest _ h2;have hl:∀ s ∈ o.looksAt ops,AF.tmps[s]? = a.tmps[s]?:=fun s hs => by have h3:=List.all_eq_true.1 k2 s hs;have h4:=List.all_eq_true.1 h3;rw [hf s (fun o' ho => by simpa using h4 o' (List.mem_cons_of_mem _ ho)),zbA,if_neg];intro h5;have:=h4 o List.mem_cons_self;simp [h5.1] at this
   obtain ⟨c1,c2⟩:=zaL k1 hl;refine ⟨k1,v,hy.of_same c1 c2,fun d hd hlt => ?_⟩;rw [hd] at k3;have h4:=List.all_eq_true.1 k3;rw [hf d (fun o' ho => by simpa using h4 o' ho),zbA,if_pos ⟨hd,by rw [hsz,(zJ a o.dst v).1] at hlt; exact hlt⟩]
end
def zdL (w:World) (g:Nat) (cells:Array Value) (b:Bool):World:=if b=true then w.drew.setRow g cells else w.drew
theorem zhL {w w':World} {g:Nat} {cells old:Array Value} {t:TypeId} {fr:Nat × Nat} (hrow:w.heap[g]? = some (.cells old t fr)) (h:Mods [] w w'):Mods [] (w.setRow g cells) (w'.setRow g cells):=by
 refine ⟨h.os,h.tape,h.output,by simpa [World.setRow] using h.size,fun k hk _ => ?_⟩;by_cases hkg:k=g
 ·subst hkg;rw [setRow_heap w' k old cells t fr (h.heap hrow),setRow_heap w k old cells t fr hrow]
 ·rw [setRow_other _ _ _ _ hkg,setRow_other _ _ _ _ hkg];exact h.block k (by simpa [World.setRow] using hk) AB
structure MixAt (l:List Oper) (AF:Act) (w:World) (g:Nat) (cells:Array Value) (j:Nat) (listed:Array Bool) (a:Act) (w':World):Prop where
 size:listed.size=l.length
 frame:∀ s,(∀ (m:Nat) (om:Oper),l[m]? = some om → om.dst=some s → listed[m]? = some true) → a.tmps[s]? = AF.tmps[s]?
 fsize:a.tmps.size=AF.tmps.size
 defers:a.defers=AF.defers
 world:Mods [] (zdL w g cells (listed.getD j false)) w'
theorem znS {P:Program} {Q:Exit → Act → World → Prop} {w:World} {l:List Oper} {AF:Act} {g:Nat} {cells old:Array Value} {t:TypeId} (j:Nat) (o:Oper) (hj:l[j]? = some o) (ty:TypeId) (x y:Operand) (ho:o.op = .store ty x y) (hgd:o.guard=none) (hd:o.dst=none)
  (hwait:waitB l=true) (hrow:w.heap[g]? = some (.cells old t (0,0))) (hif:(P.info? ty).map (·.size)=some cells.size) (hold:old.size=cells.size) (h1:cells.all (·.oneCell')=true)
  (hy:∀ b (i:Nat) (o:Oper),i ≠ j → l[i]? = some o → noSel o=true ∧ ∃ v,YieldsIn P l.toArray (fun w' => ∃ k:zay (zdL w g cells b),w'=k.val) o v AF ∧ ∀ d,o.dst=some d → d < AF.tmps.size → AF.tmps[d]? = some v)
  (hxa:AF.eval x = .pointer (some ⟨g,0,none⟩)) (hya:AF.eval y = .agg cells) (hend:∀ w',Mods [] (w.drew.setRow g cells) w' → Q .normal AF w') :
  ∀ (fuel:Nat) (listed:Array Bool) (a:Act) (w':World),MixAt l AF w g cells j listed a w' → listed.toList.countP (fun b => !b) ≤ fuel → wpAny P .any l.toArray Q fuel listed a w':=by
 have gEI:=Lib.hid trivial;exact yeU
theorem zz {P:Program} {id:Nat} {Q:Exit → Act → World → Prop} {a:Act} {w:World} {l:List Oper} (hm:P.follows .mixedOrders=true) (j:Nat) (o:Oper) (hj:l[j]? = some o) (ty:TypeId) (x y:Operand) (ho:o.op = .store ty x y) (hgd:o.guard=none) (hd:o.dst=none)
  (honce:zbQ l.toArray (l.set j (nop o))=true) (hwait:waitB l=true) (g:Nat) (cells old:Array Value) (t:TypeId) (hrow:w.heap[g]? = some (.cells old t (0,0))) (hif:(P.info? ty).map (·.size)=some cells.size) (hold:old.size=cells.size) (h1:cells.all (·.oneCell')=true)
  (AF:Act) (hwalk:∀ b,wpQuiet P l.toArray (fun w' => ∃ k:zay (zdL w g cells b),w'=k.val) (fun af => af=AF) (l.set j (nop o)) a)
  (hxa:AF.eval x = .pointer (some ⟨g,0,none⟩)) (hya:AF.eval y = .agg cells) (hend:∀ w',Mods [] (w.drew.setRow g cells) w' → Q .normal AF w'):(Code.region id l.toArray true).wp P Q a w:=by
 refine wp_region_any hm ?_;have hfin:=zgc _ _ (hwalk true);have hjl:j < l.length:=(List.getElem?_eq_some_iff.1 hj).1;refine znS j o hj ty x y ho hgd hd hwait hrow hif hold h1 (fun b i oi hij hoi => zc9 _ _ honce (hwalk b) i oi (by rw [List.getElem?_set]; rw [if_neg (fun e => hij e.symm)]; exact hoi)) hxa hya hend _ _ _ _ ⟨by simp,fun s hs => ?_,hfin.2.1.symm,hfin.1.symm,?_⟩ ?_
 ·symm
  refine hfin.2.2 s fun o' ho' hds => ?_;obtain ⟨m,hm⟩:=List.mem_iff_getElem?.1 ho';rw [List.getElem?_set] at hm;by_cases hjm:j=m
  ·rw [if_pos hjm] at hm;subst hjm;simp [hjl] at hm;subst hm;have:(nop o).dst=o.dst:=rfl;rw [this,hd] at hds;cases hds
  ·rw [if_neg hjm] at hm;have:=hs m o' hm hds;have hml:m < l.length:=(List.getElem?_eq_some_iff.1 hm).1;simp [hml] at this
 ·have:(Array.replicate l.toArray.size false).getD j false=false:=by
   simp [hjl]
  rw [this];exact QM _ _
 ·refine Nat.le_trans List.countP_le_length ?_;simp
end Go.Proofs.YtcabeljiobiojaaGreatDoor
