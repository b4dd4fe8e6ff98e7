/-
  The state of check.expr while it goes through what an operator is of. No condition.
-/
import Derived.Test.YtgdpaieechgahaaGreatDoorQ24
import Derived.Test.YtgdpaieechgahaaGreatDoorQ29
import Derived.Test.YtgdpaieechgahaaGreatDoorQ17
import Derived.Test.YtgdpaieechgahaaGreatDoorTree
namespace Go.Proofs.YtgdpaieechgahaaGreatDoor
open Go.RowKit
set_option linter.unusedVariables false
structure OpI (w:World) (sb:Nat) (cv:Value) (mb d pos e:Nat) (env:List EC) (ags:List Tree) (op:Bs) (nb i:Nat) (av:Value) (vs:List Value) (p1 e1:Nat) (wr:World):Prop where
 len:vs.length=i
 chk:chkE (argsQ env d (ags.take i)) pos e=(p1,e1)
 st:ScSt wr sb cv mb d p1 e1
 mods:Mods [sb] w wr
 nbl:w.heap.size ≤ nb
 node:wr.heap[nb]? = some (.cells (nhC { op:=op,t:=tyNone } av).toArray 63 (0,0))
 own:wr.ownsRow 0 41 1 av i vs
 blk:∀ g,av.ownBlock=some g → w.heap.size ≤ g ∧ g ≠ nb
 sbl:sb < w.heap.size
 zero:i=0 → av = .slice none 0 0
 kids:e=0 → ∀ xs,argsQ env d (ags.take i) = .ok xs → xs.length=i ∧ ∀ j (hx:j < xs.length) (hv:j < vs.length),∀ L:List Nat,(∀ x ∈ L,x < w.heap.size ∨ x=nb ∨ av.ownBlock=some x) → NAt wr L vs[j] xs[j]
theorem zbX {α β:Type} (r:Chk α) (f:α → β) (pos e:Nat):chkE (r.bind fun x => .ok (f x)) pos e=chkE r pos e:=by
 cases r <;> rfl
theorem OpI.step {w wr w2 w4:World} {sb:Nat} {cv:Value} {mb d pos e:Nat} {env:List EC} {ags:List Tree} {op:Bs} {nb i:Nat} {av:Value} {vs:List Value} {p1 e1:Nat} (h:OpI w sb cv mb d pos e env ags op nb i av vs p1 e1 wr)
  {a:Tree} (hi:ags[i]? = some a) {b:Nat} (hM2:Mods [sb] wr w2) (hst:ScSt w2 sb cv mb d (chkE (exprQ env a d) p1 e1).1 (chkE (exprQ env a d) p1 e1).2)
  (hk:e1=0 → ∀ n,exprQ env a d = .ok n → ∀ L:List Nat,(∀ x ∈ L,x < wr.heap.size) → NAt w2 L (PtrV b) n) {o:Obj} {g' cap':Nat}
  (hown:w4.ownsRow 0 41 1 (.slice (some ⟨g',0,none⟩) (i + 1) cap') (i + 1) (vs ++ [PtrV b])) (hM4:Mods av.ownBlock.toList (w2.alloc o) w4) (hg:av.ownBlock=some g' ∨ (w2.alloc o).heap.size ≤ g') :
  OpI w sb cv mb d pos e env ags op nb (i + 1) (.slice (some ⟨g',0,none⟩) (i + 1) cap') (vs ++ [PtrV b]) (chkE (exprQ env a d) p1 e1).1 (chkE (exprQ env a d) p1 e1).2 (w4.setCell ⟨nb,7,none⟩ (.slice (some ⟨g',0,none⟩) (i + 1) cap')):=by
 have hz:=(Mods.refl [] w2).alloc o
 have hsw:=h.mods.size
 have hs2:=hM2.size
 have hs4:=hM4.size
 have hsz:=zk w2 o
 have hnbr:=zi h.node
 have hsbl:=h.sbl
 have hnbl:=h.nbl
 have hgl:w.heap.size ≤ g' ∧ g' ≠ nb:=by
  rcases hg with h1 | h1
  ·exact h.blk g' h1
  ·exact ⟨by omega,by omega⟩
 have hnsb:nb ≠ sb:=by omega
 have hM5:Mods [nb] w4 (w4.setCell ⟨nb,7,none⟩ (.slice (some ⟨g',0,none⟩) (i + 1) cap')):=(Mods.refl _ _).setCell (.inl (by simp)) _
 have hnav:nb ∉ av.ownBlock.toList:=fun hm => (h.blk nb (by simpa using hm)).2 rfl
 have hsav:sb ∉ av.ownBlock.toList:=fun hm => by
  have:=(h.blk sb (by simpa using hm)).1
  omega
 have htk:ags.take (i + 1)=ags.take i ++ [a]:=by
  rw [List.take_add_one,hi]; rfl
 have hold:∀ L:List Nat,(∀ x ∈ L,x < w.heap.size ∨ x=nb ∨ some g'=some x) → ∀ (v:Value) (n:NT),NAt w2 ([nb,sb] ++ av.ownBlock.toList ++ L.filter (fun x => decide (x < w.heap.size))) v n → NAt (w4.setCell ⟨nb,7,none⟩ (.slice (some ⟨g',0,none⟩) (i + 1) cap')) L v n:=by
  intro L hL v n hn
  have n3:NAt (w2.alloc o) ([nb,sb] ++ av.ownBlock.toList ++ L.filter (fun x => decide (x < w.heap.size))) v n:=hn.mods (hz.mono (by simp))
  have n4:NAt (w2.alloc o) (g' :: ([nb,sb] ++ av.ownBlock.toList ++ L.filter (fun x => decide (x < w.heap.size)))) v n:=by
   rcases hg with h1 | h1
   ·refine n3.weaken fun x hx => ?_
    rcases List.mem_cons.1 hx with rfl | hx
    ·simp [h1]
    ·exact hx
   ·exact n3.fresh h1
  have n5:=n4.mods (hM4.mono (L':=g' :: ([nb,sb] ++ av.ownBlock.toList ++ L.filter (fun x => decide (x < w.heap.size)))) (fun x hx => .inl (by simp [hx])))
  have n6:=n5.mods (hM5.mono (L':=g' :: ([nb,sb] ++ av.ownBlock.toList ++ L.filter (fun x => decide (x < w.heap.size)))) (fun x hx => .inl (by simp at hx; simp [hx])))
  refine n6.weaken fun x hx => ?_
  rcases hL x hx with h1 | rfl | h1
  ·simp [hx,h1]
  ·simp
  ·cases h1; simp
 refine ⟨by rw [List.length_append,h.len]; rfl,?_,?_,?_,h.nbl,?_,?_,fun g he => ?_,h.sbl,fun h0 => absurd h0 (Nat.succ_ne_zero i),fun he ys hys => ?_⟩
 ·rw [htk,zc4,zbq (r2:=exprQ env a d) (zcz env d _) h.chk]
  intro xs _
  exact zbX _ _ _ _
 ·exact hM5.heap (hM4.heap (hz.heap hst (by simp)) hsav) (by simpa using hnsb.symm)
 ·refine (((h.mods.trans hM2 (by simp)).trans (hz.mono (L':=[sb]) (by simp)) (by simp)).trans hM4 (fun x hx => .inr ?_)).trans hM5 (fun x hx => .inr ?_)
  ·exact (h.blk x (by simpa using hx)).1
  ·simp at hx; omega
 ·have h1:=hM4.heap (hz.heap (hM2.heap h.node (by simpa using hnsb)) (by simp)) hnav
  have h2:=zb h1 7 (.slice (some ⟨g',0,none⟩) (i + 1) cap')
  rw [h2]
  rfl
 ·refine zl hown hM5 fun g he => ?_
  simp [Value.ownBlock] at he
  simp
  omega
 ·simp [Value.ownBlock] at he
  omega
 ·rw [htk,zc4] at hys
  cases hq:argsQ env d (ags.take i) with
  | bad p k => rw [hq] at hys; cases hys
  | ok xs =>
   cases hq2:exprQ env a d with
   | bad p k => rw [hq] at hys; simp only [Chk.bind] at hys; rw [hq2] at hys; cases hys
   | ok n =>
    rw [hq] at hys; simp only [Chk.bind] at hys; rw [hq2] at hys; simp only [Chk.ok.injEq] at hys
    subst hys
    obtain ⟨hl,hkd⟩:=h.kids he xs hq
    have he1:e1=0:=by
     have:=h.chk
     rw [hq,z9] at this
     simp only [Prod.mk.injEq] at this
     omega
    refine ⟨by rw [List.length_append,hl]; rfl,fun j hx hv L hL => hold L (by simpa [Value.ownBlock] using hL) _ _ ?_⟩
    have hlv:=h.len
    by_cases hj:j < i
    ·have e1:(vs ++ [PtrV b])[j]=vs[j]'(by omega):=List.getElem_append_left (by omega)
     have e2:(xs ++ [n])[j]=xs[j]'(by omega):=List.getElem_append_left (by omega)
     rw [e1,e2]
     refine (hkd j (by omega) (by omega) _ fun x hx => ?_).mods (hM2.mono (fun x hx => .inl (by simp at hx; simp [hx])))
     rcases List.mem_append.1 hx with hx | hx
     ·rcases List.mem_append.1 hx with hx | hx
      ·simp at hx
       rcases hx with rfl | rfl
       ·exact .inr (.inl rfl)
       ·exact .inl hsbl
      ·exact .inr (.inr (by simpa using hx))
     ·exact .inl (by simpa using (List.mem_filter.1 hx).2)
    ·have hji:j=i:=by simp at hx; omega
     subst hji
     have e1':(vs ++ [PtrV b])[j]=PtrV b:=by rw [List.getElem_append_right (by omega)]; simp [hlv]
     have e2':(xs ++ [n])[j]=n:=by rw [List.getElem_append_right (by omega)]; simp [hl]
     rw [e1',e2']
     refine hk he1 n hq2 _ fun x hx => ?_
     rcases List.mem_append.1 hx with hx | hx
     ·rcases List.mem_append.1 hx with hx | hx
      ·simp at hx
       rcases hx with rfl | rfl
       ·exact hnbr
       ·omega
      ·exact (h.own.lt x (by simpa using hx)).2
     ·have:=(List.mem_filter.1 hx).2
      simp at this
      omega
theorem ze6 {w:World} {T:TypeId} {av:Value} {n:Nat} {vs:List Value} (h:w.ownsRow 0 T 1 av n vs) (hn:vs.length=n):∃ ao cap,av = .slice ao n cap ∧ (n=0 → True) ∧ (0 < n → ∃ c,ao=some ⟨c,0,none⟩ ∧ av.ownBlock=some c ∧ c < w.heap.size ∧ n ≤ cap ∧ cap ≤ 9223372036854775807 ∧ ∀ i (hi:i < vs.length),w.cell? ⟨c,i,none⟩ = some vs[i]) ∧ (ao=none → av = .slice none 0 0):=by
 rcases h.2 with ⟨hv,h0⟩ | ⟨g,cap,cur,hv,-,hg,r⟩
 ·exact ⟨none,0,by rw [hv,h0],fun _ => trivial,fun hh => by omega,fun _ => hv⟩
 ·subst hv
  have ho:=zS h
  have hc:=zct h
  exact ⟨some ⟨g,0,none⟩,cap,rfl,fun _ => trivial,fun _ => ⟨g,rfl,rfl,ho.1,ho.2.1,hc,fun i hi => ho.2.2 i _ (List.getElem?_eq_getElem hi)⟩,fun hh => by cases hh⟩
theorem zce {w:World} {L:List Nat} {nb:Nat} {av:Value} {n:Nat} {vs:List Value} {xs:List NT} {op:Bs} {t:Ty} (hnode:w.heap[nb]? = some (.cells (nhC { op:=op,t:=t } av).toArray 63 (0,0))) (hnb:nb ∉ L) (hlv:vs.length=n) (hlx:xs.length=n) (hn2:n ≤ 2)
  (ho:n=0 → av = .slice none 0 0) (h1:0 < n → ∃ c cap,av = .slice (some ⟨c,0,none⟩) n cap ∧ c ∉ L ∧ n ≤ cap ∧ cap ≤ 9223372036854775807 ∧ ∀ i (hi:i < vs.length),w.cell? ⟨c,i,none⟩ = some vs[i])
  (hk:∀ j (hx:j < xs.length) (hv:j < vs.length),NAt w L vs[j] xs[j]):NAt w L (PtrV nb) (mkN { op:=op,t:=t } xs):=by
 match xs,hlx with
 | [],h => exact ⟨nb,rfl,hnb,by rw [hnode,ho h.symm]⟩
 | [x],h =>
  obtain ⟨c,cap,hv,hc,h2,h3,h4⟩:=h1 (by rw [← h]; simp)
  have hv0:0 < vs.length:=by rw [hlv,← h]; simp
  subst h
  exact ⟨nb,c,cap,vs[0],rfl,hnb,hc,⟨h2,h3⟩,by rw [hnode,hv]; rfl,h4 0 hv0,hk 0 (by simp) hv0⟩
 | [x,y],h =>
  obtain ⟨c,cap,hv,hc,h2,h3,h4⟩:=h1 (by rw [← h]; simp)
  have hv0:0 < vs.length:=by rw [hlv,← h]; simp
  have hv1:1 < vs.length:=by rw [hlv,← h]; simp
  subst h
  exact ⟨nb,c,cap,vs[0],vs[1],rfl,hnb,hc,⟨h2,h3⟩,by rw [hnode,hv]; rfl,h4 0 hv0,h4 1 hv1,hk 0 (by simp) hv0,hk 1 (by simp) hv1⟩
 | x :: y :: z :: r,h => simp at h; omega
theorem zbd {d:Nat} {h:Hd} {a b:Ty} {mk:NHd → NT} {ok c:Bool} (hok:(typedV h.op a b).isSome=ok) (hc:c=(!ok || (aggOpB h.op && decide (0 < d)))) (pos:Nat):chkE (finQ d h a b mk) pos 0=failE c 4 h.pos pos 0:=by
 unfold finQ failE chkE
 rw [if_neg (by omega)]
 cases ht:typedV h.op a b with
 | none =>
  rw [ht] at hok
  have:ok=false:=hok.symm
  subst this
  rw [if_pos ⟨by rw [hc]; rfl,rfl⟩]
 | some t =>
  rw [ht] at hok
  have:ok=true:=hok.symm
  subst this
  simp only [Bool.not_true,Bool.false_or] at hc
  by_cases hg:aggOpB h.op=true ∧ 0 < d
  ·simp only
   rw [if_pos hg,if_pos (by rw [hc,hg.1,decide_eq_true hg.2]; simp)]
  ·simp only
   rw [if_neg hg,if_neg]
   intro h1
   have h1:c=true:=by simpa using h1
   rw [hc,Bool.and_eq_true,decide_eq_true_eq] at h1
   exact hg h1
theorem zdT {d:Nat} {h:Hd} {a b:Ty} {mk:NHd → NT} {n:NT} (hf:finQ d h a b mk = .ok n):∃ u,typedV h.op a b=some u ∧ n=mk { op:=h.op,t:=u }:=by
 unfold finQ at hf
 cases ht:typedV h.op a b with
 | none => rw [ht] at hf; cases hf
 | some t =>
  rw [ht] at hf
  simp only at hf
  split at hf
  ·cases hf
  ·cases hf; exact ⟨t,rfl,rfl⟩
def CutT (w:World) (o:Option Ty) (s12 s13:Value) (wx:World):Prop:=∃ (ab:Nat) (t:Ty),s12=PtrV ab ∧ s13 = .bool o.isSome ∧ w.heap.size ≤ ab ∧ wx.heap[ab]? = some (.cells #[.int .i64 t.k,.int .i64 t.s] 26 (0,0)) ∧ Mods [] w wx ∧ ∀ u,o=some u → t=u
end Go.Proofs.YtgdpaieechgahaaGreatDoor
