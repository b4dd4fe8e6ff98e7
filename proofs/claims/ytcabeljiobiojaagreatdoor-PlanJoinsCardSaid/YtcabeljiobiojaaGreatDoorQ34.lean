/-
  The runner's join of a query of one table without conditions, walked. No condition.
-/
import Derived.Test.YtcabeljiobiojaaGreatDoorQ33
set_option linter.unusedVariables false
namespace Go.Proofs.YtcabeljiobiojaaGreatDoor
open Go.RowKit
structure RunQ (w:World) (rb pb cb:Nat) (c:CQ):Prop where
 run:RunAt w rb pb
 plan:∃ vl vr vt vk,w.heap[pb]? = some (.cells #[zh cb,.int .i64 4,vl,vr,vt,vk] 49 (0,0))
 pne:pb ≠ rb
 q:CheckedAt w [rb] cb c
theorem RunQ.mods {w w':World} {rb pb cb:Nat} {c:CQ} (h:RunQ w rb pb cb c) (hM:Mods [rb] w w') (hR:RunAt w' rb pb):RunQ w' rb pb cb c:=by obtain ⟨vl,vr,vt,vk,hp⟩:=h.plan;obtain ⟨hn,von,vwh,vg,its,nms,vo,h1,h2,h3,h4,h5,h6,h7⟩:=h.q;refine ⟨hR,⟨vl,vr,vt,vk,hM.heap hp (by simpa using h.pne)⟩,h.pne,hn,von,vwh,vg,its,nms,vo,hM.heap h1 hn,h2.mods hM,h3.mods hM,?_,h5.mods nodRep hM,h6.mods nameRep hM,h7.mods keyCRep hM⟩;exact h4.mods hM
theorem RunQ.later {w w':World} {rb pb cb:Nat} {c:CQ} (h:RunQ w rb pb cb c) (hM:Mods [] w w'):RunQ w' rb pb cb c:=h.mods (hM.mono) (h.run.mods hM AB)
def XRow (w:World) (g m:Nat) (done:List V):Prop:=∃ arr:Array Value,w.heap[g]? = some (.cells arr 35 (0,0)) ∧ arr.size=m * 3 ∧ ∀ (j:Nat) (u:Value),(zph done)[j]? = some u → arr[j]? = some u
theorem XRow.start (w:World) (m:Nat):XRow (w.alloc (.cells (mkC m) 35)) w.heap.size m []:=⟨mkC m,QN w _,size_madeCells _ _,fun j u hj => by simp [zph] at hj⟩
theorem XRow.mods {w w':World} {g m:Nat} {done:List V} {L:List Nat} (h:XRow w g m done) (hM:Mods L w w') (hg:g ∉ L):XRow w' g m done:=by obtain ⟨arr,h1,h2⟩:=h;exact ⟨arr,hM.heap h1 hg,h2⟩
theorem XRow.there {w:World} {g m:Nat} {done:List V} (h:XRow w g m done) {k:Nat} (hk:k < m):w.there g (k * 3) 3:=by obtain ⟨arr,h1,h2,-⟩:=h;intro j hj;refine ⟨?_,zc h1 _⟩;rw [za h1,Array.getElem?_eq_getElem AA];rfl
theorem zpH (vs:List V) (v:V):zph (vs ++ [v])=zph vs ++ [.bool v.z,.int .i64 v.n,.string v.s]:=by simp [zph]
theorem XRow.push {w:World} {g m:Nat} {done:List V} (h:XRow w g m done) {k:Nat} (hd:done.length=k) (hk:k < m) (v:V):XRow (w.setCells g (k * 3) [.bool v.z,.int .i64 v.n,.string v.s]) g m (done ++ [v]):=by
 obtain ⟨arr,h1,h2,h3⟩:=h;have hl:(zph done).length=k * 3:=by rw [zpR,hd]
 refine ⟨_,zb (zb (zb h1 (k * 3) (.bool v.z)) (k * 3 + 1) (.int .i64 v.n)) (k * 3 + 1 + 1) (.string v.s),by simp [h2],fun j u hj => ?_⟩;rw [zpH] at hj;by_cases hlt:j < k * 3
 ·rw [List.getElem?_append_left AA] at hj;rw [Array.getElem?_setIfInBounds_ne AA,Array.getElem?_setIfInBounds_ne AA,Array.getElem?_setIfInBounds_ne AA];exact h3 j u hj
 ·rw [List.getElem?_append_right AA,hl] at hj;have hj3:j - k * 3 < 3:=by
   have:=(List.getElem?_eq_some_iff.1 hj).1;simpa using this
  have h3c:j=k * 3 ∨ j=k * 3 + 1 ∨ j=k * 3 + 2:=by omega
  rcases h3c with rfl | rfl | rfl
  ·have hj:some (Value.bool v.z)=some u:=by simpa using hj
   rw [← hj,Array.getElem?_setIfInBounds_ne AA,Array.getElem?_setIfInBounds_ne AA,Array.getElem?_setIfInBounds_self_of_lt AA]
  ·have hj:some (Value.int .i64 v.n)=some u:=by simpa using hj
   rw [← hj,Array.getElem?_setIfInBounds_ne AA,Array.getElem?_setIfInBounds_self_of_lt AE]
  ·have hj:some (Value.string v.s)=some u:=by simpa using hj
   rw [← hj,Array.getElem?_setIfInBounds_self_of_lt AE]
theorem XRow.vals {w:World} {g m:Nat} {vs:List V} (h:XRow w g m vs) {L:List Nat} (hg:g ∉ L):ValsIn w (some ⟨g,0,none⟩) vs L:=by obtain ⟨arr,h1,-,h3⟩:=h;exact fun _ => ⟨g,0,rfl,hg,zpw (off:=0) (fun j u hj => by rw [Nat.zero_add,za h1]; exact h3 j u hj)⟩
def zeroV0:V:=⟨false,0,⟨#[]⟩⟩
def ztg (w:World) (rb pb:Nat) (rs:List (List V)) (e:Ending) (w':World):Prop:=∃ t,e = .returned t ∧ Mods [rb] w w' ∧ RunAt w' rb pb ∧ RowsC w w' t rs
def RowU (w:World) (L:List Nat) (u:Value) (r:List V):Prop:=∃ vo c,u = .slice vo r.length c ∧ r.length ≤ c ∧ ValsIn w vo r L
theorem RowU.mods {w w':World} {L:List Nat} {u:Value} {r:List V} (h:RowU w L u r) (hM:Mods L w w'):RowU w' L u r:=by obtain ⟨vo,c,h1,h2,h3⟩:=h;exact ⟨vo,c,h1,h2,h3.mods hM⟩
def diffC (a b:List V) (c:Nat):Bool:=!decide (a.getD c zeroV0=b.getD c zeroV0)
def zr1 (gs:List Nat) (a b:List V):Bool:=(gs.map (diffC a b)).any id
def firstN:List Bool → Nat
 | [] => 0
 | true :: _ => 0
 | false :: l => firstN l + 1
theorem zsh:∀ l:List Bool,firstN l ≤ l.length
 | [] => LR _
 | true :: _ => Nat.zero_le _
 | false :: l => Nat.succ_le_succ (zsh l)
theorem zrY {w:World} {T:TypeId} {t:Value} {n:Nat} {xs:List Value} (h:w.ownsRow 0 T 1 t n xs) (hu:xs.length=n):∃ ao cap,t = .slice ao n cap ∧ (0 < n → ∃ c,ao=some ⟨c,0,none⟩ ∧ ∀ i (hi:i < xs.length),w.cell? ⟨c,i,none⟩ = some xs[i]):=by
 rcases h.2 with ⟨hv,hn⟩ | ⟨g,cap,cur,hv,-⟩
 ·subst hn;exact ⟨none,0,hv,fun h => absurd h (Nat.lt_irrefl _)⟩
 ·subst hv;exact ⟨_,_,rfl,fun _ => ⟨g,rfl,fun i hi => (zar h).2.2 i _ (List.getElem?_eq_getElem hi)⟩⟩
inductive SpV where
 | fin
 | one (f:Bool) (o:Oper) (qs:List Oper) (t:SpV)
 | two (f1:Bool) (o1:Oper) (q1:List Oper) (t1:SpV) (f2:Bool) (o2:Oper) (q2:List Oper) (t2:SpV)
def pickV (l:List Oper) (z:List Nat):SpT → SpV
 | .fin => .fin
 | .one s qs t => .one (z.contains s) (l.getD s default) (zat l qs) (pickV l z t)
 | .two s1 q1 t1 s2 q2 t2 => .two (z.contains s1) (l.getD s1 default) (zat l q1) (pickV l z t1) (z.contains s2) (l.getD s2 default) (zat l q2) (pickV l z t2)
def stgV (P:Program) (ops:Array Oper) (C:World → Prop) (f:Bool) (o:Oper) (qs:List Oper) (K:Act → World → Prop) (a:Act) (w:World):Prop:=
 wpList P ops (zeI fun a' w' => (f=true ∨ C w') ∧ ∃ AF,(∀ y,C y → wpQuiet P ops (fun u => ∃ k:Unit,u=y) (fun af => af=AF) qs a') ∧ K AF w') [o] a w
def segV (P:Program) (ops:Array Oper) (C:World → Prop) (Q:Act → World → Prop):SpV → Act → World → Prop
 | .fin,a,w => Q a w
 | .one f o qs t,a,w => stgV P ops C f o qs (segV P ops C Q t) a w
 | .two f1 o1 q1 t1 f2 o2 q2 t2,a,w => stgV P ops C f1 o1 q1 (segV P ops C Q t1) a w ∧ stgV P ops C f2 o2 q2 (segV P ops C Q t2) a w
section
variable {P:Program} {ops:Array Oper} {C:World → Prop} {Q:Act → World → Prop} {a:Act} {w:World}
theorem zoH {f:Bool} {o:Oper} {qs:List Oper} {K:Act → World → Prop}
  (h:∀ R:Act → World → Prop,(∀ a' w',(f=true ∨ C w') → ∀ AF,(∀ y,C y → wpQuiet P ops (fun u => ∃ k:Unit,u=y) (fun af => af=AF) qs a') → K AF w' → R a' w') → wpList P ops (zeI R) [o] a w):stgV P ops C f o qs K a w:=
 h _ fun a' w' h1 AF h2 h3 => ⟨h1,AF,h2,h3⟩
theorem zp {f:Bool} {o:Oper} {K:Act → World → Prop}
  (h:∀ R:Act → World → Prop,(∀ a' w',(f=true ∨ C w') → K a' w' → R a' w') → wpList P ops (zeI R) [o] a w):stgV P ops C f o [] K a w:=
 zoH fun R hR => h R fun a' w' h1 h2 => hR a' w' h1 a' (fun y _ => rfl) h2
theorem zcr (h:Q a w):segV P ops C Q .fin a w:=h
theorem zu {f:Bool} {o:Oper} {qs:List Oper} {t:SpV} (h:stgV P ops C f o qs (segV P ops C Q t) a w):segV P ops C Q (.one f o qs t) a w:=h
theorem zdK {f1 f2:Bool} {o1 o2:Oper} {q1 q2:List Oper} {t1 t2:SpV} (h1:stgV P ops C f1 o1 q1 (segV P ops C Q t1) a w) (h2:stgV P ops C f2 o2 q2 (segV P ops C Q t2) a w):segV P ops C Q (.two f1 o1 q1 t1 f2 o2 q2 t2) a w:=⟨h1,h2⟩
end
def lateB (l:List Oper) (z fr:List Nat):Bool:=z.all fun s => (List.range l.length).all fun k => z.contains k || (fr.contains k || zbf l l.length s k)
def earlyB (z:List Nat) (p:List (Nat × List Nat)):Bool:=p.all fun x => x.2.all fun q => !z.contains q
def tailB (l:List Oper) (fr q1:List Nat) (t:SpT) (z:List Nat):Bool:=
 let q0:=fr ++ q1
 waitB l && zcD l t && lateB l z fr && (q0.all fun q => !z.contains q) && t.paths.all fun p => decide (q0 ++ zL p).Nodup && ((List.range l.length).all fun i => (q0 ++ zL p).contains i) && ((q0 ++ zL p).all fun i => decide (i < l.length)) && zbQ l.toArray (zat l (q0 ++ zL p)) && pathB l p && earlyB z p
section
variable {P:Program} {l:List Oper} {C:World → Prop}
structure PvAt (l:List Oper) (z:List Nat) (done:List Nat) (p:List (Nat × List Nat)):Prop where
 ok:pathB l p=true
 nodup:(done ++ zL p).Nodup
 all:∀ i,i < l.length → i ∈ done ++ zL p
 bound:∀ i ∈ done ++ zL p,i < l.length
 once:∀ (i j:Nat) (oi oj:Oper),l[i]? = some oi → l[j]? = some oj → i ∈ done → j ∈ zL p → (∀ s ∈ oi.looksAt l.toArray,oj.dst ≠ some s) ∧ ∀ d,oi.dst=some d → oj.dst ≠ some d
 onceR:zbQ l.toArray (zat l (zL p))=true
 early:earlyB z p=true
structure TvAt (P:Program) (l:List Oper) (C:World → Prop) (z fr:List Nat) (Q:Act → World → Prop) (done:List Nat) (t:SpT) (AF:Act) (listed:Array Bool) (a:Act) (w:World):Prop where
 size:listed.size=l.length
 cover:zcD l t=true
 path:∀ p ∈ t.paths,PvAt l z done p
 sub:∀ i:Nat,listed[i]? = some true → i ∈ done
 down:∀ (i:Nat) (o:Oper),listed[i]? = some true → l[i]? = some o → ∀ e ∈ o.after.toList,Region.binds .any e=true → listed[e.on]? = some true
 quiet:∀ i ∈ done,listed[i]? = some true ∨ QF P l C AF i
 frame:∀ s,(∀ (m:Nat) (om:Oper),l[m]? = some om → om.dst=some s → m ∈ done → listed[m]? = some true) → a.tmps[s]? = AF.tmps[s]?
 fsize:a.tmps.size=AF.tmps.size
 defers:a.defers=AF.defers
 cls:C w ∨ ∀ i:Nat,i < l.length → z.contains i=false → fr.contains i=false → listed[i]? = some true
 free:∀ i ∈ fr,listed[i]? = some true ∨ QF P l (fun _ => True) AF i
 frd:∀ i ∈ fr,i ∈ done
 late:∀ i ∈ done,z.contains i=true → listed[i]? = some true
 rest:segV P l.toArray C Q (pickV l z t) AF w
theorem zl8 {ops:Array Oper} {z:List Nat} {Q:Act → World → Prop} {t t':SpT} {i:Nat} {qs:List Nat} {a:Act} {w:World} (h:segV P ops C Q (pickV l z t) a w) (hm:(i,qs,t') ∈ t.heads) {o:Oper} (ho:l[i]? = some o) :
  stgV P ops C (z.contains i) o (zat l qs) (segV P ops C Q (pickV l z t')) a w:=by
 exact yaP
theorem znG {z fr:List Nat} {Q:Exit → Act → World → Prop} (hwait:waitB l=true) (hlt:lateB l z fr=true) (hne:∃ y,C y) :
  ∀ (fuel:Nat) (done:List Nat) (t:SpT) (AF:Act) (listed:Array Bool) (a:Act) (w:World),TvAt P l C z fr (fun a w => Q .normal a w) done t AF listed a w → listed.toList.countP (fun b => !b) ≤ fuel → wpAny P .any l.toArray Q fuel listed a w:=by
 have gEL:=QH trivial;exact yeU
theorem zfv {id:Nat} {Q:Exit → Act → World → Prop} {a:Act} {w:World} (hm:P.follows .mixedOrders=true) (fr q0:List Nat) (t:SpT) (z:List Nat) (hok:tailB l fr q0 t z=true) (C:World → Prop) (hC:C w.drew)
  (AF1 AF:Act) (hfree:∀ y,wpQuiet P l.toArray (fun u => ∃ k:Unit,u=y) (fun af => af=AF1) (zat l fr) a) (hwalk:∀ y,C y → wpQuiet P l.toArray (fun u => ∃ k:Unit,u=y) (fun af => af=AF) (zat l q0) AF1) (hrun:segV P l.toArray C (fun a w => Q .normal a w) (pickV l z t) AF w.drew):(Code.region id l.toArray true).wp P Q a w:=by
 refine wp_region_any hm ?_;unfold tailB at hok;simp only [Bool.and_eq_true] at hok;obtain ⟨⟨⟨⟨k5,k6⟩,kl⟩,kq⟩,k7⟩:=hok;have hpaths:∀ p ∈ t.paths,PvAt l z (fr ++ q0) p:=by intro p hp;have h1:=List.all_eq_true.1 k7 p hp;simp only [Bool.and_eq_true] at h1;obtain ⟨⟨⟨⟨⟨k1,k2⟩,k3⟩,k4⟩,kp⟩,k8⟩:=h1;rw [zW] at k4;obtain ⟨o1,o2,o3⟩:=zX k4;exact ⟨kp,by simpa using k1,fun i hi => List.contains_iff_mem.1 (List.all_eq_true.1 k2 i (List.mem_range.2 hi)),fun i hi => by simpa using List.all_eq_true.1 k3 i hi,fun i j oi oj hoi hoj hi hj => o3 oi (zM hi hoi) oj (zM hj hoj),o2,k8⟩
 have ho1:zbQ l.toArray (zat l (fr ++ q0))=true:=by exact yca
 rw [zW] at ho1;obtain ⟨of1,of2,of3⟩:=zX ho1;have hbd:∀ i ∈ fr ++ q0,i < l.length:=fun i hi => (hpaths _ t.lead_mem).bound i (List.mem_append_left _ hi);obtain ⟨f1,f2,f3,f4⟩:=stretch (C:=fun _ => True) (fun i hi => hbd i (List.mem_append_left _ hi)) of1 (fun y _ => hfree y) ⟨w,trivial⟩;obtain ⟨t1,t2,t3,t4⟩:=stretch (fun i hi => hbd i (List.mem_append_right _ hi)) of2 hwalk ⟨_,hC⟩;have hrep:∀ i:Nat,(Array.replicate l.toArray.size false)[i]? ≠ some true:=fun i => by simp [Array.getElem?_replicate]
 have hfr:∀ i ∈ fr,QF P l (fun _ => True) AF i:=fun i hi => (f1 i hi).later t3 fun ok hok => ⟨fun s0 hs0 => t4 s0 fun k hk o ho => (of3 ok (zM hi hok) o (zM hk ho)).1 s0 hs0,fun d hd => t4 d fun k hk o ho => (of3 ok (zM hi hok) o (zM hk ho)).2 d hd⟩;refine znG (fr:=fr) k5 kl ⟨_,hC⟩ _ (fr ++ q0) t AF _ _ _ ⟨by simp,k6,hpaths,fun i hi => absurd hi (hrep i),fun i o hi => absurd hi (hrep i),fun i hi => .inr ?_,fun s hs => ?_,(t3.trans f3).symm,(t2.trans f2).symm,.inl hC,fun i hi => .inr (hfr i hi),fun i hi => List.mem_append_left _ hi,fun i hi hz => absurd (List.all_eq_true.1 kq i hi) (by rw [hz]; decide),hrun⟩ ?_
 ·rcases List.mem_append.1 hi with hi | hi
  ·exact fun o ho => ⟨(hfr i hi o ho).1,fun y _ => (hfr i hi o ho).2 y trivial⟩
  ·exact t1 i hi
 ·exact ((t4 s fun i hi o ho hds => hrep i (hs i o ho hds (List.mem_append_right _ hi))).trans (f4 s fun i hi o ho hds => hrep i (hs i o ho hds (List.mem_append_left _ hi)))).symm
 ·refine Nat.le_trans List.countP_le_length ?_;simp
end
abbrev PR:=Value × List V
def dPR:PR:=(.bool false,[])
def updN {α:Type} (f:Nat → α) (n:Nat) (v:α):Nat → α:=fun i => if i=n then v else f i
theorem zrW {α:Type} (f:Nat → α) (n:Nat) (v:α):updN f n v n=v:=if_pos rfl
theorem zrV {α:Type} (f:Nat → α) {n i:Nat} (v:α) (h:i ≠ n):updN f n v i=f i:=if_neg h
structure GS (w0 wr:World) (t:Value) (bs:Nat → Nat) (rv:Nat → Value) (out:List (List PR)) (n:Nat):Prop where
 len:out.length=n
 mods:Mods [] w0 wr
 own:wr.ownsRow 0 138 1 t n ((List.range n).map fun i => zh (bs i))
 tb:∀ x,t.ownBlock=some x → w0.heap.size ≤ x ∧ ∀ i,i < n → bs i ≠ x ∧ (rv i).ownBlock ≠ some x
 blk:∀ i,i < n → w0.heap.size ≤ bs i ∧ wr.heap[bs i]? = some (.cells #[rv i] 140 (0,0))
 inj:∀ i j,i < n → j < n → bs i=bs j → i=j
 rows:∀ i,i < n → wr.ownsRow 0 37 1 (rv i) (out.getD i []).length ((out.getD i []).map (·.1))
 rb:∀ i,i < n → ∀ x,(rv i).ownBlock=some x → w0.heap.size ≤ x ∧ ∀ j,j < n → bs j ≠ x ∧ ((rv j).ownBlock=some x → j=i)
theorem GS.start (w:World):GS w w (.slice none 0 0) (fun _ => 0) (fun _ => .slice none 0 0) [] 0:=
 ⟨rfl,QM _ _,World.ownsRow_nil _ _ _ _,(fun x h => nomatch (show (none:Option Nat)=some x from h)),fun i h => absurd h (Nat.not_lt_zero i),fun i j h => absurd h (Nat.not_lt_zero i),fun i h => absurd h (Nat.not_lt_zero i),fun i h => absurd h (Nat.not_lt_zero i)⟩
theorem GS.later {w0 wr w':World} {t:Value} {bs:Nat → Nat} {rv:Nat → Value} {out:List (List PR)} {n:Nat} (h:GS w0 wr t bs rv out n) (hM:Mods [] wr w'):GS w0 w' t bs rv out n:=
 ⟨h.len,h.mods.trans hM,zm h.own hM AB,h.tb,fun i hi => ⟨(h.blk i hi).1,hM.heap (h.blk i hi).2 AB⟩,h.inj,fun i hi => zm (h.rows i hi) hM AB,h.rb⟩
theorem GS.lt_b {w0 wr:World} {t:Value} {bs:Nat → Nat} {rv:Nat → Value} {out:List (List PR)} {n:Nat} (h:GS w0 wr t bs rv out n) (i:Nat) (hi:i < n):bs i < wr.heap.size:=zj (h.blk i hi).2
theorem GS.lt_r {w0 wr:World} {t:Value} {bs:Nat → Nat} {rv:Nat → Value} {out:List (List PR)} {n:Nat} (h:GS w0 wr t bs rv out n) (i:Nat) (hi:i < n) (x:Nat) (hx:(rv i).ownBlock=some x):x < wr.heap.size:=((h.rows i hi).lt x hx).2
theorem GS.grow {w0 wr wa w9:World} {t:Value} {bs:Nat → Nat} {rv:Nat → Value} {out:List (List PR)} {n nb g cap:Nat} (h:GS w0 wr t bs rv out n) (hMa:Mods [] wr wa) (hnb:wr.heap.size ≤ nb) (hn:wa.heap[nb]? = some (.cells #[.slice none 0 0] 140 (0,0)))
  (hown:w9.ownsRow 0 138 1 (.slice (some ⟨g,0,none⟩) (n + 1) cap) (n + 1) (((List.range n).map fun i => zh (bs i)) ++ [zh nb])) (hM9:Mods t.ownBlock.toList wa w9) (hg:t.ownBlock=some g ∨ wa.heap.size ≤ g) :
  GS w0 w9 (.slice (some ⟨g,0,none⟩) (n + 1) cap) (updN bs n nb) (updN rv n (.slice none 0 0)) (out ++ [[]]) (n + 1):=by
 have hs0:=h.mods.size;have hsa:=hMa.size;have hnl:=zj hn;have htl:∀ x,t.ownBlock=some x → x < wr.heap.size:=fun x hx => (h.own.lt x hx).2;have hout:∀ i,i < n → (out ++ [[]]).getD i []=out.getD i []:=fun i hi => by rw [List.getD_eq_getElem?_getD,List.getD_eq_getElem?_getD,List.getElem?_append_left (by rw [h.len]; exact hi)]
 have houtn:(out ++ [[]]).getD n []=[]:=by rw [List.getD_eq_getElem?_getD,List.getElem?_append_right (by rw [h.len]; exact LR _),h.len,Nat.sub_self]; rfl
 refine ⟨by rw [List.length_append,h.len]; rfl,(h.mods.trans hMa).trans hM9 (fun x hx => .inr (h.tb x AJ).1),?_,fun x hx => ?_,fun i hi => ?_,fun i j hi hj e => ?_,fun i hi => ?_,fun i hi x hx => ?_⟩
 ·have e:((List.range (n + 1)).map fun i => zh (updN bs n nb i))=((List.range n).map fun i => zh (bs i)) ++ [zh nb]:=by
   rw [List.range_succ,List.map_append];congr 1
   ·exact List.map_congr_left fun i hi => by rw [zrV _ _ (by have:=List.mem_range.1 hi; omega)]
   ·show [zh (updN bs n nb n)]=_;rw [zrW]
  rw [e];exact hown
 ·obtain rfl:g=x:=by simpa [Value.ownBlock] using hx
  refine ⟨?_,fun i hi => ?_⟩
  ·rcases hg with hg | hg
   ·exact (h.tb g hg).1
   ·omega
  ·by_cases hin:i=n
   ·subst hin;rw [zrW,zrW];refine ⟨?_,fun h0 => nomatch (show (none:Option Nat)=some g from h0)⟩;rcases hg with hg | hg
    ·have:=htl g hg; omega
    ·omega
   ·rw [zrV _ _ hin,zrV _ _ hin];have hi':i < n:=by omega
    rcases hg with hg | hg
    ·exact (h.tb g hg).2 i hi'
    ·exact ⟨by have:=h.lt_b i hi'; omega,fun e => by have:=h.lt_r i hi' g e; omega⟩
 ·by_cases hin:i=n
  ·subst hin;rw [zrW,zrW];exact ⟨by omega,hM9.heap hn (fun hm => by have:=htl nb AH; omega)⟩
  ·have hi':i < n:=by omega
   rw [zrV _ _ hin,zrV _ _ hin];exact ⟨(h.blk i hi').1,hM9.heap (hMa.heap (h.blk i hi').2 AB) (fun hm => ((h.tb _ AH).2 i hi').1 rfl)⟩
 ·by_cases hin:i=n
  ·by_cases hjn:j=n
   ·omega
   ·rw [hin,zrW,zrV _ _ hjn] at e;have:=h.lt_b j AA;omega
  ·by_cases hjn:j=n
   ·rw [hjn,zrW,zrV _ _ hin] at e;have:=h.lt_b i AA;omega
   ·rw [zrV _ _ hin,zrV _ _ hjn] at e;exact h.inj i j AA AA e
 ·by_cases hin:i=n
  ·subst hin;rw [zrW,houtn];exact World.ownsRow_nil _ _ _ _
  ·have hi':i < n:=by omega
   rw [zrV _ _ hin,hout i hi'];exact zm (zm (h.rows i hi') hMa AB) hM9 (fun x hx hm => ((h.tb x AH).2 i hi').2 hx)
 ·by_cases hin:i=n
  ·rw [hin,zrW] at hx;exact nomatch (show (none:Option Nat)=some x from hx)
  ·have hi':i < n:=by omega
   rw [zrV _ _ hin] at hx;refine ⟨(h.rb i hi' x hx).1,fun j hj => ?_⟩;by_cases hjn:j=n
   ·subst hjn;rw [zrW,zrW];refine ⟨?_,fun h0 => nomatch (show (none:Option Nat)=some x from h0)⟩;have:=h.lt_r i hi' x hx;omega
   ·rw [zrV _ _ hjn,zrV _ _ hjn];exact (h.rb i hi' x hx).2 j AA
theorem GS.push {w0 wr wa w9:World} {t:Value} {bs:Nat → Nat} {rv:Nat → Value} {out:List (List PR)} {n k g cap:Nat} {p:PR} (h:GS w0 wr t bs rv out n) (hk:k < n) (hMa:Mods [] wr wa) {m:Nat} (hm:(out.getD k []).length=m)
  (hown:w9.ownsRow 0 37 1 (.slice (some ⟨g,0,none⟩) (m + 1) cap) (m + 1) ((out.getD k []).map (·.1) ++ [p.1])) (hM9:Mods (rv k).ownBlock.toList wa w9) (hg:(rv k).ownBlock=some g ∨ wa.heap.size ≤ g) :
  GS w0 (w9.setCell ⟨bs k,0,none⟩ (.slice (some ⟨g,0,none⟩) (m + 1) cap)) t bs (updN rv k (.slice (some ⟨g,0,none⟩) (m + 1) cap)) (out.set k (out.getD k [] ++ [p])) n:=by
 have hs0:=h.mods.size;have hsa:=hMa.size;have hMs:Mods [bs k] w9 (w9.setCell ⟨bs k,0,none⟩ (.slice (some ⟨g,0,none⟩) (m + 1) cap)):=(QM _ _).setCell (.inl AB) _;have hgg:w0.heap.size ≤ g ∧ ∀ j,j < n → bs j ≠ g ∧ ((rv j).ownBlock=some g → j=k):=by
  rcases hg with hg | hg
  ·exact h.rb k hk g hg
  ·exact ⟨by omega,fun j hj => ⟨by have:=h.lt_b j hj; omega,fun e => by have:=h.lt_r j hj g e; omega⟩⟩
 have htg:t.ownBlock ≠ some g:=fun e => by
  rcases hg with hg | hg
  ·exact ((h.tb g e).2 k hk).2 hg
  ·have:=(h.own.lt g e).2; omega
 have hkm:∀ x,x ∈ (rv k).ownBlock.toList → (rv k).ownBlock=some x:=fun x hx => by simpa using hx
 have hkl:k < out.length:=by rw [h.len]; exact hk
 have hout:∀ i,i ≠ k → (out.set k (out.getD k [] ++ [p])).getD i []=out.getD i []:=fun i hi => by rw [List.getD_eq_getElem?_getD,List.getElem?_set_ne (Ne.symm hi),← List.getD_eq_getElem?_getD]
 have houtk:(out.set k (out.getD k [] ++ [p])).getD k []=out.getD k [] ++ [p]:=by rw [List.getD_eq_getElem?_getD,List.getElem?_set_self hkl]; rfl
 have hbn:∀ i,i < n → bs i ∉ (rv k).ownBlock.toList:=fun i hi hx => ((h.rb k hk _ (hkm _ hx)).2 i hi).1 rfl;refine ⟨by rw [List.length_set,h.len],((h.mods.trans hMa).trans hM9 (fun x hx => .inr (h.rb k hk x (hkm x hx)).1)).setCell (.inr (h.blk k hk).1) _,?_,fun x hx => ⟨(h.tb x hx).1,fun i hi => ⟨((h.tb x hx).2 i hi).1,?_⟩⟩,fun i hi => ⟨(h.blk i hi).1,?_⟩,h.inj,fun i hi => ?_,fun i hi x hx => ?_⟩
 ·refine zm (zm (zm h.own hMa AB) hM9 (fun x hx hm => ((h.tb x hx).2 k hk).2 (hkm x hm))) hMs (fun x hx hm => ?_);obtain rfl:x=bs k:=by simpa using hm
  exact ((h.tb _ hx).2 k hk).1 rfl
 ·by_cases hik:i=k
  ·rw [hik,zrW];intro e;obtain rfl:g=x:=by simpa [Value.ownBlock] using e
   exact htg hx
  ·rw [zrV _ _ hik];exact ((h.tb x hx).2 i hi).2
 ·have h9:=hM9.heap (hMa.heap (h.blk i hi).2 AB) (hbn i hi);by_cases hik:i=k
  ·subst hik;rw [zrW];exact zb h9 0 _
  ·rw [zrV _ _ hik];exact hMs.heap h9 (by simpa using fun e => hik (h.inj i k hi hk e))
 ·by_cases hik:i=k
  ·rw [hik,zrW,houtk,List.map_append,List.length_append,hm]
   exact zm hown hMs (fun x hx hmm => by
    obtain rfl:g=x:=by simpa [Value.ownBlock] using hx
    exact (hgg.2 k hk).1 (by simpa [eq_comm] using hmm))
  ·rw [zrV _ _ hik,hout i hik];refine zm (zm (zm (h.rows i hi) hMa AB) hM9 (fun x hx hm => hik (((h.rb k hk x (hkm x hm)).2 i hi).2 hx))) hMs (fun x hx hmm => ?_);obtain rfl:x=bs k:=by simpa using hmm
   exact ((h.rb i hi _ hx).2 k hk).1 rfl
 ·by_cases hik:i=k
  ·rw [hik,zrW] at hx;obtain rfl:g=x:=by simpa [Value.ownBlock] using hx
   refine ⟨hgg.1,fun j hj => ⟨(hgg.2 j hj).1,fun e => ?_⟩⟩;by_cases hjk:j=k
   ·omega
   ·rw [zrV _ _ hjk] at e;have:=(hgg.2 j hj).2 e;omega
  ·rw [zrV _ _ hik] at hx;refine ⟨(h.rb i hi x hx).1,fun j hj => ⟨((h.rb i hi x hx).2 j hj).1,fun e => ?_⟩⟩;by_cases hjk:j=k
   ·rw [hjk,zrW] at e;obtain rfl:g=x:=by simpa [Value.ownBlock] using e
    have:=(hgg.2 i hi).2 hx;omega
   ·rw [zrV _ _ hjk] at e;exact ((h.rb i hi x hx).2 j hj).2 e
def zr4 (g:List PR):List V:=(g.getD 0 dPR).2
def placeG (gs:List Nat) (out:List (List PR)) (r:List V):Nat:=firstN (out.map fun g => !zr1 gs (zr4 g) r)
def putG (gs:List Nat) (out:List (List PR)) (p:PR):List (List PR):=
 let k:=placeG gs out p.2;let o:=if k < out.length then out else out ++ [[]]
 o.set k (o.getD k [] ++ [p])
end Go.Proofs.YtcabeljiobiojaaGreatDoor
