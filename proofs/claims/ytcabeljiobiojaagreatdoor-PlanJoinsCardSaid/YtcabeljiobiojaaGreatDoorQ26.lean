/-
  A region that draws its order, where what changes the world may come in more than one order: a tree of choices. No condition.
-/
import Derived.Test.YtcabeljiobiojaaGreatDoorQ19
import Derived.Test.YtcabeljiobiojaaGreatDoorQ25
set_option linter.unusedVariables false
namespace Go.Proofs.YtcabeljiobiojaaGreatDoor
open Go.RowKit
theorem ycI {p:Prop} (h:p:=by
  intro done t AF listed a w h hc;have hr:Region.ready .any l.toArray listed=[]:=by exact yar
  exact ⟨hr,hall _ _ _ listed a w h hr⟩
 ):p:=h
theorem ycK {p:Prop} (h:p:=by
  have hd:=h.sub s (main s (hp.bound s (List.mem_append_right _ hm)));exact (List.nodup_append.1 hp.nodup).2.2 s hd s hm rfl
 ):p:=h
theorem ycM {p:Prop} (h:p:=by
  intro done t AF listed a w h hr;have main:∀ n,n < l.length → listed[n]? = some true:=by exact yaj
  exact yaw
 ):p:=h
theorem ycN {p:Prop} (h:p:=by
  
  have hnq:∀ k ∈ qs,∀ o,l[k]? = some o → o.dst ≠ some s0:=fun k hk o ho hds => by exact ybq
  exact yao
 ):p:=h
theorem yaw {p:Prop} (h:p:=by
  have haf:a=AF:=by exact ycD
  subst haf
  cases t with
  | fin => exact h.rest
  | one s qs t0 =>exfalso;have hp:=h.path _ (SpT.lead_mem (.one s qs t0));have hm:=(zal (p:=(SpT.one s qs t0).lead) (x:=(s,qs)) (by simp [SpT.lead])).1;exact ycK
  | two s qs t0 s2 q2 t2 =>exfalso;have hp:=h.path _ (SpT.lead_mem (.two s qs t0 s2 q2 t2));have hm:=(zal (p:=(SpT.two s qs t0 s2 q2 t2).lead) (x:=(s,qs)) (by simp [SpT.lead])).1;exact ycK
 ):p:=h
theorem yaB {p:Prop} (h:p:=by
  
  rcases List.mem_append.1 hk with hk | hk
  ·rcases h.quiet k hk with h1 | h1
   ·exact .inl (hmono k h1)
   ·refine .inr (h1.later (t3.trans hz2) fun ok hok => ?_);have hq1:=hpl.once k i ok oi hok hoi hk his;have hq2:=fun k2 (hk2:k2 ∈ qs) o2 (ho2:l[k2]? = some o2) => hpl.once k k2 ok o2 hok ho2 hk (hqs k2 hk2);exact ycy
  rcases MC hk with rfl | hk
  ·exact .inl hself
  ·exact .inr (t1 k hk)
 ):p:=h
theorem yaP {p:Prop} (h:p:=by
  have hd:l.getD i default=o:=by rw [List.getD_eq_getElem?_getD,ho]; rfl
  cases t with
  | fin => simp [SpT.heads] at hm
  | one s q0 t0 =>simp only [SpT.heads,List.mem_singleton,Prod.mk.injEq] at hm;obtain ⟨rfl,rfl,rfl⟩:=hm;rw [← hd]; exact h
  | two s1 q1 t1 s2 q2 t2 =>
   simp only [SpT.heads,List.mem_cons,List.not_mem_nil,or_false,Prod.mk.injEq] at hm;rcases hm with ⟨rfl,rfl,rfl⟩ | ⟨rfl,rfl,rfl⟩
   ·rw [← hd]; exact h.1
   ·rw [← hd]; exact h.2
 ):p:=h
theorem ybi {p:Prop} (h:p:=by
  intro k j ok oj hok hoj hk hj;rcases List.mem_append.1 hk with hk | hk
  ·exact hpp.once k j ok oj hok hoj hk (by rw [zE]; exact CM _ (List.mem_append_right _ hj))
  rcases MC hk with rfl | hk
  ·rw [hoi] at hok;cases hok;exact o6 oj (zM hj hoj)
  ·exact o7 ok (zM hk hok) oj (zM hj hoj)
 ):p:=h
theorem ybn {p:Prop} (h:p:=by
  intro p hp;have hon:=(h.path _ (hpath p hp)).onceR;rw [zE,show i :: (qs ++ zL p)=[i] ++ (qs ++ zL p) from rfl,zW,zW] at hon;obtain ⟨-,o2,o3⟩:=zX hon;obtain ⟨o4,o5,o6⟩:=zX o2;exact ⟨o4,o5,fun oj hoj => o3 oi (zM List.mem_cons_self hoi) oj (List.mem_append_right _ hoj),o6⟩
 ):p:=h
theorem ybq {p:Prop} (h:p:=by
  have h1:=hs0 k o ho hds (by simp [hk]);rw [hset] at h1;by_cases hki:k=i
  ·subst hki;have:=(List.nodup_append.1 hpl.nodup).2.1;rw [zE] at this;exact (List.nodup_cons.1 this).1 (List.mem_append_left _ hk)
  ·rw [if_neg hki] at h1;exact hnot2 k (hqs k hk) h1
 ):p:=h
theorem ybH {p:Prop} (h:p:=by
  rcases hxi with h1 | h1
  ·exact h1
  ·exfalso;have h2:=List.all_eq_true.1 hp0.ok x hx;simp only [Bool.and_eq_true] at h2;exact hnot x.1 (zal hx).1 (hwt x.1 (List.all_eq_true.1 h2.2 i h1))
 ):p:=h
theorem yca {p:Prop} (h:p:=by
  have h1:=List.all_eq_true.1 k7 _ t.lead_mem;simp only [Bool.and_eq_true] at h1;have k4:=h1.1.1.2;rw [zW] at k4;exact (zX k4).1
 ):p:=h
theorem yco {p:Prop} (h:p:=by
  have:=hpp.ok;unfold pathB at this ⊢;rw [List.all_cons,Bool.and_eq_true] at this;exact this.2
 ):p:=h
inductive SpT where
 | fin
 | one (s:Nat) (qs:List Nat) (t:SpT)
 | two (s1:Nat) (q1:List Nat) (t1:SpT) (s2:Nat) (q2:List Nat) (t2:SpT)
inductive SpO where
 | fin
 | one (o:Oper) (qs:List Oper) (t:SpO)
 | two (o1:Oper) (q1:List Oper) (t1:SpO) (o2:Oper) (q2:List Oper) (t2:SpO)
def pickT (l:List Oper):SpT → SpO
 | .fin => .fin
 | .one s qs t => .one (l.getD s default) (zat l qs) (pickT l t)
 | .two s1 q1 t1 s2 q2 t2 => .two (l.getD s1 default) (zat l q1) (pickT l t1) (l.getD s2 default) (zat l q2) (pickT l t2)
def SpO.isFin:SpO → Bool
 | .fin => true
 | _ => false
def zfA (P:Program) (ops:Array Oper) (C:World → Prop) (z:Bool) (f:Bool) (o:Oper) (qs:List Oper) (K:Act → World → Prop) (a:Act) (w:World):Prop:=
 wpList P ops (zeI fun a' w' => ((z=false ∧ f=true) ∨ C w') ∧ ∃ AF,(∀ y,C y → wpQuiet P ops (fun u => ∃ k:Unit,u=y) (fun af => af=AF) qs a') ∧ K AF w') [o] a w
def segT (P:Program) (ops:Array Oper) (C:World → Prop) (z:Bool) (Q:Act → World → Prop):SpO → Act → World → Prop
 | .fin,a,w => Q a w
 | .one o qs t,a,w => zfA P ops C z t.isFin o qs (segT P ops C z Q t) a w
 | .two o1 q1 t1 o2 q2 t2,a,w => zfA P ops C z t1.isFin o1 q1 (segT P ops C z Q t1) a w ∧ zfA P ops C z t2.isFin o2 q2 (segT P ops C z Q t2) a w
section
variable {P:Program} {ops:Array Oper} {C:World → Prop} {z:Bool} {Q:Act → World → Prop} {a:Act} {w:World}
theorem zbD {f:Bool} {o:Oper} {qs:List Oper} {K:Act → World → Prop}
  (h:∀ R:Act → World → Prop,(∀ a' w',((z=false ∧ f=true) ∨ C w') → ∀ AF,(∀ y,C y → wpQuiet P ops (fun u => ∃ k:Unit,u=y) (fun af => af=AF) qs a') → K AF w' → R a' w') → wpList P ops (zeI R) [o] a w):zfA P ops C z f o qs K a w:=
 h _ fun a' w' h1 AF h2 h3 => ⟨h1,AF,h2,h3⟩
theorem zdC {f:Bool} {o:Oper} {K:Act → World → Prop}
  (h:∀ R:Act → World → Prop,(∀ a' w',((z=false ∧ f=true) ∨ C w') → K a' w' → R a' w') → wpList P ops (zeI R) [o] a w):zfA P ops C z f o [] K a w:=
 zbD fun R hR => h R fun a' w' h1 h2 => hR a' w' h1 a' (fun y _ => rfl) h2
theorem zex (h:Q a w):segT P ops C z Q .fin a w:=h
theorem zbY {o:Oper} {qs:List Oper} {t:SpO} (h:zfA P ops C z t.isFin o qs (segT P ops C z Q t) a w):segT P ops C z Q (.one o qs t) a w:=h
theorem ziW {o1 o2:Oper} {q1 q2:List Oper} {t1 t2:SpO} (h1:zfA P ops C z t1.isFin o1 q1 (segT P ops C z Q t1) a w) (h2:zfA P ops C z t2.isFin o2 q2 (segT P ops C z Q t2) a w):segT P ops C z Q (.two o1 q1 t1 o2 q2 t2) a w:=⟨h1,h2⟩
end
def SpT.paths:SpT → List (List (Nat × List Nat))
 | .fin => [[]]
 | .one s qs t => t.paths.map ((s,qs) :: ·)
 | .two s1 q1 t1 s2 q2 t2 => t1.paths.map ((s1,q1) :: ·) ++ t2.paths.map ((s2,q2) :: ·)
def SpT.lead:SpT → List (Nat × List Nat)
 | .fin => []
 | .one s qs t => (s,qs) :: t.lead
 | .two s1 q1 t1 _ _ _ => (s1,q1) :: t1.lead
theorem SpT.lead_mem:∀ t:SpT,t.lead ∈ t.paths:=by
 intro t
 induction t with
 | fin => simp [SpT.lead,SpT.paths]
 | one s qs t ih => exact List.mem_map.2 ⟨_,ih,rfl⟩
 | two s1 q1 t1 s2 q2 t2 ih1 ih2 => exact List.mem_append_left _ (List.mem_map.2 ⟨_,ih1,rfl⟩)
def SpT.heads:SpT → List (Nat × List Nat × SpT)
 | .fin => []
 | .one s qs t => [(s,qs,t)]
 | .two s1 q1 t1 s2 q2 t2 => [(s1,q1,t1),(s2,q2,t2)]
def zcD (l:List Oper):SpT → Bool
 | .fin => true
 | .one s qs t => ((SpT.one s qs t).lead.all fun x => decide (x.1=s) || (SpT.one s qs t).lead.any fun y => decide (y.1 ≠ x.1) && zbf l l.length x.1 y.1) && zcD l t
 | .two s1 q1 t1 s2 q2 t2 => ((SpT.two s1 q1 t1 s2 q2 t2).lead.all fun x => decide (x.1=s1) || decide (x.1=s2) || (SpT.two s1 q1 t1 s2 q2 t2).lead.any fun y => decide (y.1 ≠ x.1) && zbf l l.length x.1 y.1) && zcD l t1 && zcD l t2
def pathB (l:List Oper) (p:List (Nat × List Nat)):Bool:=p.all fun x => (match l[x.1]? with | none => false | some o => noSel o) && x.2.all fun q => zbf l l.length q x.1
def treeB (l:List Oper) (q0:List Nat) (t:SpT) (z:Bool):Bool:=
 waitB l && zcD l t && t.paths.all fun p => decide (q0 ++ zL p).Nodup && ((List.range l.length).all fun i => (q0 ++ zL p).contains i) && ((q0 ++ zL p).all fun i => decide (i < l.length)) && zbQ l.toArray (zat l (q0 ++ zL p)) && pathB l p && (z || lastB l p)
section
variable {P:Program} {l:List Oper} {C:World → Prop}
structure PathAt (l:List Oper) (z:Bool) (done:List Nat) (p:List (Nat × List Nat)):Prop where
 ok:pathB l p=true
 nodup:(done ++ zL p).Nodup
 all:∀ i,i < l.length → i ∈ done ++ zL p
 bound:∀ i ∈ done ++ zL p,i < l.length
 once:∀ (i j:Nat) (oi oj:Oper),l[i]? = some oi → l[j]? = some oj → i ∈ done → j ∈ zL p → (∀ s ∈ oi.looksAt l.toArray,oj.dst ≠ some s) ∧ ∀ d,oi.dst=some d → oj.dst ≠ some d
 onceR:zbQ l.toArray (zat l (zL p))=true
 last:z=true ∨ lastB l p=true
structure TrAt (P:Program) (l:List Oper) (C:World → Prop) (z:Bool) (Q:Act → World → Prop) (done:List Nat) (t:SpT) (AF:Act) (listed:Array Bool) (a:Act) (w:World):Prop where
 size:listed.size=l.length
 cover:zcD l t=true
 path:∀ p ∈ t.paths,PathAt l z done p
 sub:∀ i:Nat,listed[i]? = some true → i ∈ done
 down:∀ (i:Nat) (o:Oper),listed[i]? = some true → l[i]? = some o → ∀ e ∈ o.after.toList,Region.binds .any e=true → listed[e.on]? = some true
 quiet:∀ i ∈ done,listed[i]? = some true ∨ QF P l C AF i
 frame:∀ s,(∀ (m:Nat) (om:Oper),l[m]? = some om → om.dst=some s → m ∈ done → listed[m]? = some true) → a.tmps[s]? = AF.tmps[s]?
 fsize:a.tmps.size=AF.tmps.size
 defers:a.defers=AF.defers
 cls:C w ∨ ∀ i:Nat,i < l.length → listed[i]? = some true
 rest:segT P l.toArray C z Q (pickT l t) AF w
theorem zfa {p:List (Nat × List Nat)} {i:Nat} (h:i ∈ zL p):∃ x ∈ p,i=x.1 ∨ i ∈ x.2:=by unfold zL at h;obtain ⟨x,hx,hi⟩:=List.mem_flatMap.1 h;exact ⟨x,hx,MC hi⟩
theorem zal {p:List (Nat × List Nat)} {x:Nat × List Nat} (h:x ∈ p):x.1 ∈ zL p ∧ ∀ q ∈ x.2,q ∈ zL p:=
 ⟨List.mem_flatMap.2 ⟨x,h,List.mem_cons_self⟩,fun q hq => List.mem_flatMap.2 ⟨x,h,CM _ hq⟩⟩
theorem zfW {t:SpT} (hc:zcD l t=true) {i:Nat} {qs:List Nat} (hi:(i,qs) ∈ t.lead) (hno:∀ y ∈ t.lead,y.1 ≠ i → zbf l l.length i y.1=false) :
  ∃ qs t',(i,qs,t') ∈ t.heads ∧ zcD l t'=true ∧ ∀ p ∈ t'.paths,(i,qs) :: p ∈ t.paths:=by
 cases t with
 | fin => simp [SpT.lead] at hi
 | one s q0 t0 =>
  unfold zcD at hc;simp only [Bool.and_eq_true] at hc;have h1:=List.all_eq_true.1 hc.1 (i,qs) hi;simp only [Bool.or_eq_true,decide_eq_true_eq,List.any_eq_true,Bool.and_eq_true] at h1;rcases h1 with rfl | ⟨y,hy,hne,hw⟩
  ·exact ⟨q0,t0,by simp [SpT.heads],hc.2,fun p hp => List.mem_map.2 ⟨p,hp,rfl⟩⟩
  ·rw [hno y hy hne] at hw; cases hw
 | two s1 q1 t1 s2 q2 t2 =>
  unfold zcD at hc;simp only [Bool.and_eq_true] at hc;have h1:=List.all_eq_true.1 hc.1.1 (i,qs) hi;simp only [Bool.or_eq_true,decide_eq_true_eq,List.any_eq_true,Bool.and_eq_true] at h1;rcases h1 with (rfl | rfl) | ⟨y,hy,hne,hw⟩
  ·exact ⟨q1,t1,by simp [SpT.heads],hc.1.2,fun p hp => List.mem_append_left _ (List.mem_map.2 ⟨p,hp,rfl⟩)⟩
  ·exact ⟨q2,t2,by simp [SpT.heads],hc.2,fun p hp => List.mem_append_right _ (List.mem_map.2 ⟨p,hp,rfl⟩)⟩
  ·rw [hno y hy hne] at hw; cases hw
theorem zmQ {ops:Array Oper} {z:Bool} {Q:Act → World → Prop} {t t':SpT} {i:Nat} {qs:List Nat} {a:Act} {w:World} (h:segT P ops C z Q (pickT l t) a w) (hm:(i,qs,t') ∈ t.heads) {o:Oper} (ho:l[i]? = some o) :
  zfA P ops C z (pickT l t').isFin o (zat l qs) (segT P ops C z Q (pickT l t')) a w:=by
 exact yaP
theorem zk9 {t:SpT} (h:(pickT l t).isFin=true):t = .fin:=by
 cases t with
 | fin => rfl
 | one s qs t => cases h
 | two s1 q1 t1 s2 q2 t2 => cases h
theorem zmR {z:Bool} {Q:Exit → Act → World → Prop} (hwait:waitB l=true) (hne:∃ y,C y) :
  ∀ (fuel:Nat) (done:List Nat) (t:SpT) (AF:Act) (listed:Array Bool) (a:Act) (w:World),TrAt P l C z (fun a w => Q .normal a w) done t AF listed a w → listed.toList.countP (fun b => !b) ≤ fuel → wpAny P .any l.toArray Q fuel listed a w:=by
 have gEK:=QH trivial;exact yeU
theorem zfb {id:Nat} {Q:Exit → Act → World → Prop} {a:Act} {w:World} (hm:P.follows .mixedOrders=true) (q0:List Nat) (t:SpT) (z:Bool) (hok:treeB l q0 t z=true) (C:World → Prop) (hC:C w.drew)
  (AF:Act) (hwalk:∀ y,C y → wpQuiet P l.toArray (fun u => ∃ k:Unit,u=y) (fun af => af=AF) (zat l q0) a) (hrun:segT P l.toArray C z (fun a w => Q .normal a w) (pickT l t) AF w.drew):(Code.region id l.toArray true).wp P Q a w:=by
 refine wp_region_any hm ?_;unfold treeB at hok;simp only [Bool.and_eq_true] at hok;obtain ⟨⟨k5,k6⟩,k7⟩:=hok;have hpaths:∀ p ∈ t.paths,PathAt l z q0 p:=by intro p hp;have h1:=List.all_eq_true.1 k7 p hp;simp only [Bool.and_eq_true] at h1;obtain ⟨⟨⟨⟨⟨k1,k2⟩,k3⟩,k4⟩,kp⟩,k8⟩:=h1;rw [zW] at k4;obtain ⟨o1,o2,o3⟩:=zX k4;exact ⟨kp,by simpa using k1,fun i hi => List.contains_iff_mem.1 (List.all_eq_true.1 k2 i (List.mem_range.2 hi)),fun i hi => by simpa using List.all_eq_true.1 k3 i hi,fun i j oi oj hoi hoj hi hj => o3 oi (zM hi hoi) oj (zM hj hoj),o2,by simpa using k8⟩
 have ho1:zbQ l.toArray (zat l q0)=true:=by exact yca
 have hbd:∀ i ∈ q0,i < l.length:=fun i hi => (hpaths _ t.lead_mem).bound i (List.mem_append_left _ hi);obtain ⟨t1,t2,t3,t4⟩:=stretch hbd ho1 hwalk ⟨_,hC⟩;have hrep:∀ i:Nat,(Array.replicate l.toArray.size false)[i]? ≠ some true:=fun i => by simp [Array.getElem?_replicate]
 refine zmR k5 ⟨_,hC⟩ _ q0 t AF _ _ _ ⟨by simp,k6,hpaths,fun i hi => absurd hi (hrep i),fun i o hi => absurd hi (hrep i),fun i hi => .inr (t1 i hi),fun s hs => ?_,t3.symm,t2.symm,.inl hC,hrun⟩ ?_
 ·exact (t4 s fun i hi o ho hds => hrep i (hs i o ho hds hi)).symm
 ·refine Nat.le_trans List.countP_le_length ?_;simp
end
structure OpI (w:World) (sb:Nat) (cv:Value) (mb d pos e:Nat) (env:List EC) (ags:List Tree) (op:Bs) (nb i:Nat) (av:Value) (vs:List Value) (p1 e1:Nat) (wr:World):Prop where
 len:vs.length=i
 chk:zai (zcY env d (ags.take i)) pos e=(p1,e1)
 st:zaX wr sb cv mb d p1 e1
 mods:Mods [sb] w wr
 nbl:w.heap.size ≤ nb
 node:wr.heap[nb]? = some (.cells (nhC { op:=op,t:=tyNone } av).toArray 80 (0,0))
 own:wr.ownsRow 0 51 1 av i vs
 blk:∀ g,av.ownBlock=some g → w.heap.size ≤ g ∧ g ≠ nb
 sbl:sb < w.heap.size
 zero:i=0 → av = .slice none 0 0
 kids:e=0 → ∀ xs,zcY env d (ags.take i) = .ok xs → xs.length=i ∧ ∀ j (hx:j < xs.length) (hv:j < vs.length),∀ L:List Nat,(∀ x ∈ L,x < w.heap.size ∨ x=nb ∨ av.ownBlock=some x) → NAt wr L vs[j] xs[j]
theorem zey {α β:Type} (r:Chk α) (f:α → β) (pos e:Nat):zai (r.bind fun x => .ok (f x)) pos e=zai r pos e:=by cases r <;> rfl
theorem OpI.step {w wr w2 w4:World} {sb:Nat} {cv:Value} {mb d pos e:Nat} {env:List EC} {ags:List Tree} {op:Bs} {nb i:Nat} {av:Value} {vs:List Value} {p1 e1:Nat} (h:OpI w sb cv mb d pos e env ags op nb i av vs p1 e1 wr)
  {a:Tree} (hi:ags[i]? = some a) {b:Nat} (hM2:Mods [sb] wr w2) (hst:zaX w2 sb cv mb d (zai (zq env a d) p1 e1).1 (zai (zq env a d) p1 e1).2)
  (hk:e1=0 → ∀ n,zq env a d = .ok n → ∀ L:List Nat,(∀ x ∈ L,x < wr.heap.size) → NAt w2 L (zh b) n) {o:Obj} {g' cap':Nat}
  (hown:w4.ownsRow 0 51 1 (.slice (some ⟨g',0,none⟩) (i + 1) cap') (i + 1) (vs ++ [zh b])) (hM4:Mods av.ownBlock.toList (w2.alloc o) w4) (hg:av.ownBlock=some g' ∨ (w2.alloc o).heap.size ≤ g') :
  OpI w sb cv mb d pos e env ags op nb (i + 1) (.slice (some ⟨g',0,none⟩) (i + 1) cap') (vs ++ [zh b]) (zai (zq env a d) p1 e1).1 (zai (zq env a d) p1 e1).2 (w4.setCell ⟨nb,7,none⟩ (.slice (some ⟨g',0,none⟩) (i + 1) cap')):=by
 have hz:=(QM [] w2).alloc o;have hsw:=h.mods.size;have hs2:=hM2.size;have hs4:=hM4.size;have hsz:=zl w2 o;have hnbr:=zj h.node;have hsbl:=h.sbl;have hnbl:=h.nbl;have hgl:w.heap.size ≤ g' ∧ g' ≠ nb:=by
  rcases hg with h1 | h1
  ·exact h.blk g' h1
  ·exact ⟨by omega,by omega⟩
 have hnsb:nb ≠ sb:=by omega
 have hM5:Mods [nb] w4 (w4.setCell ⟨nb,7,none⟩ (.slice (some ⟨g',0,none⟩) (i + 1) cap')):=(QM _ _).setCell (.inl AB) _;have hnav:nb ∉ av.ownBlock.toList:=fun hm => (h.blk nb AH).2 rfl;have hsav:sb ∉ av.ownBlock.toList:=fun hm => by have:=(h.blk sb AH).1;omega
 have htk:ags.take (i + 1)=ags.take i ++ [a]:=by rw [List.take_add_one,hi]; rfl
 have hold:∀ L:List Nat,(∀ x ∈ L,x < w.heap.size ∨ x=nb ∨ some g'=some x) → ∀ (v:Value) (n:NT),NAt w2 ([nb,sb] ++ av.ownBlock.toList ++ L.filter (fun x => decide (x < w.heap.size))) v n → NAt (w4.setCell ⟨nb,7,none⟩ (.slice (some ⟨g',0,none⟩) (i + 1) cap')) L v n:=by
  intro L hL v n hn;have n3:NAt (w2.alloc o) ([nb,sb] ++ av.ownBlock.toList ++ L.filter (fun x => decide (x < w.heap.size))) v n:=hn.mods (hz.mono);have n4:NAt (w2.alloc o) (g' :: ([nb,sb] ++ av.ownBlock.toList ++ L.filter (fun x => decide (x < w.heap.size)))) v n:=by
   rcases hg with h1 | h1
   ·refine n3.weaken fun x hx => ?_;rcases MC hx with rfl | hx
    ·simp [h1]
    ·exact hx
   ·exact n3.fresh h1
  have n5:=n4.mods (hM4.mono (L':=g' :: ([nb,sb] ++ av.ownBlock.toList ++ L.filter (fun x => decide (x < w.heap.size)))) (fun x hx => .inl (by simp [hx])));have n6:=n5.mods (hM5.mono (L':=g' :: ([nb,sb] ++ av.ownBlock.toList ++ L.filter (fun x => decide (x < w.heap.size)))) (fun x hx => .inl (by simp at hx; simp [hx])));refine n6.weaken fun x hx => ?_;rcases hL x hx with h1 | rfl | h1
  ·simp [hx,h1]
  ·simp
  ·cases h1; simp
 refine ⟨by rw [List.length_append,h.len]; rfl,?_,?_,?_,h.nbl,?_,?_,fun g he => ?_,h.sbl,fun h0 => absurd h0 (Nat.succ_ne_zero i),fun he ys hys => ?_⟩
 ·rw [htk,zfU,zdB (r2:=zq env a d) (ze7 env d _) h.chk];intro xs _;exact zey _ _ _ _
 ·exact hM5.heap (hM4.heap (hz.heap hst) hsav) (by simpa using hnsb.symm)
 ·refine (((h.mods.trans hM2).trans (hz.mono (L':=[sb]) AB)).trans hM4 (fun x hx => .inr ?_)).trans hM5 (fun x hx => .inr ?_)
  ·exact (h.blk x AJ).1
  ·simp at hx; omega
 ·have h1:=hM4.heap (hz.heap (hM2.heap h.node BE)) hnav;have h2:=zb h1 7 (.slice (some ⟨g',0,none⟩) (i + 1) cap');rw [h2];rfl
 ·refine zm hown hM5 fun g he => ?_;simp [Value.ownBlock] at he;simp;omega
 ·simp [Value.ownBlock] at he;omega
 ·rw [htk,zfU] at hys
  cases hq:zcY env d (ags.take i) with
  | bad p k => rw [hq] at hys; cases hys
  | ok xs =>
   cases hq2:zq env a d with
   | bad p k => rw [hq] at hys; simp only [Chk.bind] at hys; rw [hq2] at hys; cases hys
   | ok n =>
    rw [hq] at hys; simp only [Chk.bind] at hys; rw [hq2] at hys; simp only [Chk.ok.injEq] at hys;subst hys;obtain ⟨hl,hkd⟩:=h.kids he xs hq;have he1:e1=0:=by have:=h.chk;rw [hq,zaP] at this;simp only [Prod.mk.injEq] at this;omega
    refine ⟨by rw [List.length_append,hl]; rfl,fun j hx hv L hL => hold L (by simpa [Value.ownBlock] using hL) _ _ ?_⟩;have hlv:=h.len;by_cases hj:j < i
    ·have e1:(vs ++ [zh b])[j]=vs[j]'AA:=List.getElem_append_left AA;have e2:(xs ++ [n])[j]=xs[j]'AA:=List.getElem_append_left AA;rw [e1,e2];refine (hkd j AA AA _ fun x hx => ?_).mods (hM2.mono (fun x hx => .inl (by simp at hx; simp [hx])));rcases List.mem_append.1 hx with hx | hx
     ·rcases List.mem_append.1 hx with hx | hx
      ·simp at hx;rcases hx with rfl | rfl
       ·exact .inr (.inl rfl)
       ·exact .inl hsbl
      ·exact .inr (.inr AJ)
     ·exact .inl (by simpa using (List.mem_filter.1 hx).2)
    ·have hji:j=i:=by simp at hx; omega
     subst hji;have e1':(vs ++ [zh b])[j]=zh b:=by rw [List.getElem_append_right AA]; simp [hlv]
     have e2':(xs ++ [n])[j]=n:=by rw [List.getElem_append_right AA]; simp [hl]
     rw [e1',e2'];refine hk he1 n hq2 _ fun x hx => ?_;rcases List.mem_append.1 hx with hx | hx
     ·rcases List.mem_append.1 hx with hx | hx
      ·simp at hx;rcases hx with rfl | rfl
       ·exact hnbr
       ·omega
      ·exact (h.own.lt x AJ).2
     ·have:=(List.mem_filter.1 hx).2;simp at this;omega
theorem ziX {w:World} {T:TypeId} {av:Value} {n:Nat} {vs:List Value} (h:w.ownsRow 0 T 1 av n vs) (hn:vs.length=n):∃ ao cap,av = .slice ao n cap ∧ (n=0 → True) ∧ (0 < n → ∃ c,ao=some ⟨c,0,none⟩ ∧ av.ownBlock=some c ∧ c < w.heap.size ∧ n ≤ cap ∧ cap ≤ 9223372036854775807 ∧ ∀ i (hi:i < vs.length),w.cell? ⟨c,i,none⟩ = some vs[i]) ∧ (ao=none → av = .slice none 0 0):=by
 rcases h.2 with ⟨hv,h0⟩ | ⟨g,cap,cur,hv,-,hg,r⟩
 ·exact ⟨none,0,by rw [hv,h0],fun _ => trivial,fun hh => by omega,fun _ => hv⟩
 ·subst hv;have ho:=zar h;have hc:=ze0 h;exact ⟨some ⟨g,0,none⟩,cap,rfl,fun _ => trivial,fun _ => ⟨g,rfl,rfl,ho.1,ho.2.1,hc,fun i hi => ho.2.2 i _ (List.getElem?_eq_getElem hi)⟩,fun hh => by cases hh⟩
theorem zfc {w:World} {L:List Nat} {nb:Nat} {av:Value} {n:Nat} {vs:List Value} {xs:List NT} {op:Bs} {t:Ty} (hnode:w.heap[nb]? = some (.cells (nhC { op:=op,t:=t } av).toArray 80 (0,0))) (hnb:nb ∉ L) (hlv:vs.length=n) (hlx:xs.length=n) (hn2:n ≤ 2)
  (ho:n=0 → av = .slice none 0 0) (h1:0 < n → ∃ c cap,av = .slice (some ⟨c,0,none⟩) n cap ∧ c ∉ L ∧ n ≤ cap ∧ cap ≤ 9223372036854775807 ∧ ∀ i (hi:i < vs.length),w.cell? ⟨c,i,none⟩ = some vs[i])
  (hk:∀ j (hx:j < xs.length) (hv:j < vs.length),NAt w L vs[j] xs[j]):NAt w L (zh nb) (mkN { op:=op,t:=t } xs):=by
 match xs,hlx with
 | [],h => exact ⟨nb,rfl,hnb,by rw [hnode,ho h.symm]⟩
 | [x],h =>
  obtain ⟨c,cap,hv,hc,h2,h3,h4⟩:=h1 (by rw [← h]; simp);have hv0:0 < vs.length:=by rw [hlv,← h]; simp
  subst h;exact ⟨nb,c,cap,vs[0],rfl,hnb,hc,⟨h2,h3⟩,by rw [hnode,hv]; rfl,h4 0 hv0,hk 0 AB hv0⟩
 | [x,y],h =>
  obtain ⟨c,cap,hv,hc,h2,h3,h4⟩:=h1 (by rw [← h]; simp);have hv0:0 < vs.length:=by rw [hlv,← h]; simp
  have hv1:1 < vs.length:=by rw [hlv,← h]; simp
  subst h;exact ⟨nb,c,cap,vs[0],vs[1],rfl,hnb,hc,⟨h2,h3⟩,by rw [hnode,hv]; rfl,h4 0 hv0,h4 1 hv1,hk 0 AB hv0,hk 1 AB hv1⟩
 | x :: y :: z :: r,h => simp at h; omega
theorem zdD {d:Nat} {h:Hd} {a b:Ty} {mk:NHd → NT} {ok c:Bool} (hok:(zx h.op a b).isSome=ok) (hc:c=(!ok || (aggOpB h.op && decide (0 < d)))) (pos:Nat):zai (zcX d h a b mk) pos 0=zaa c 4 h.pos pos 0:=by
 unfold zcX zaa zai;rw [if_neg AA]
 cases ht:zx h.op a b with
 | none =>rw [ht] at hok;have:ok=false:=hok.symm;subst this;rw [if_pos ⟨by rw [hc]; rfl,rfl⟩]
 | some t =>
  rw [ht] at hok;have:ok=true:=hok.symm;subst this;simp only [Bool.not_true,Bool.false_or] at hc;by_cases hg:aggOpB h.op=true ∧ 0 < d
  ·simp only;rw [if_pos hg,if_pos (by rw [hc,hg.1,decide_eq_true hg.2]; simp)]
  ·simp only;rw [if_neg hg,if_neg];intro h1;have h1:c=true:=by simpa using h1
   rw [hc,Bool.and_eq_true,decide_eq_true_eq] at h1;exact hg h1
theorem zhw {d:Nat} {h:Hd} {a b:Ty} {mk:NHd → NT} {n:NT} (hf:zcX d h a b mk = .ok n):∃ u,zx h.op a b=some u ∧ n=mk { op:=h.op,t:=u }:=by
 unfold zcX at hf
 cases ht:zx h.op a b with
 | none => rw [ht] at hf; cases hf
 | some t =>
  rw [ht] at hf;simp only at hf;split at hf
  ·cases hf
  ·cases hf; exact ⟨t,rfl,rfl⟩
def CutT (w:World) (o:Option Ty) (s12 s13:Value) (wx:World):Prop:=∃ (ab:Nat) (t:Ty),s12=zh ab ∧ s13 = .bool o.isSome ∧ w.heap.size ≤ ab ∧ wx.heap[ab]? = some (.cells #[.int .i64 t.k,.int .i64 t.s] 59 (0,0)) ∧ Mods [] w wx ∧ ∀ u,o=some u → t=u
end Go.Proofs.YtcabeljiobiojaaGreatDoor
