/-
  Lists of what parse reads, read out of memory. No condition.
-/
import Derived.Test.YtgdpaieechgahaaGreatDoorQ15
import Derived.Test.YtgdpaieechgahaaGreatDoorQ38
namespace Go.Proofs.YtgdpaieechgahaaGreatDoor
open Go.RowKit
set_option linter.unusedVariables false
theorem AllR.at {α:Type} {R:RepR α} {w:World} {L:List Nat} {k:Nat} (hk:∀ c x,R w L c x → c.length=k):∀ {css:List (List Value)} {xs:List α},AllR R w L css xs → ∀ j (hj:j < xs.length),∃ c,R w L c xs[j] ∧ ∀ i u,c[i]? = some u → css.flatten[j * k + i]? = some u:=by
 intro css
 induction css with
 | nil => intro xs h j hj; cases xs with
  | nil => simp at hj
  | cons x xs => exact h.elim
 | cons c css ih => intro xs h j hj; cases xs with
  | nil => exact h.elim
  | cons x xs =>
   have hl:=hk c x h.1
   cases j with
   | zero =>
    refine ⟨c,h.1,fun i u hi => ?_⟩
    have hlt:i < c.length:=by
     rcases Nat.lt_or_ge i c.length with h | h
     ·exact h
     ·rw [List.getElem?_eq_none h] at hi; cases hi
    rw [List.flatten_cons,Nat.zero_mul,Nat.zero_add,List.getElem?_append_left hlt]
    exact hi
   | succ j =>
    obtain ⟨c2,h2,h3⟩:=ih h.2 j (by simpa using hj)
    refine ⟨c2,h2,fun i u hi => ?_⟩
    rw [List.flatten_cons,List.getElem?_append_right (by rw [hl,Nat.add_mul]; omega),hl,show (j + 1) * k + i - k=j * k + i by rw [Nat.add_mul]; omega]
    exact h3 i u hi
theorem ListAt.read {α:Type} {R:RepR α} {w:World} {k:Nat} {v:Value} {l:List α} (hk:∀ c x,R w [] c x → c.length=k) (h:ListAt R w [] v l) :
  ∃ ao cap,v = .slice ao l.length cap ∧ (0 < l.length → ∃ g,ao=some ⟨g,0,none⟩ ∧ ∀ j (hj:j < l.length),∃ c,R w [] c l[j] ∧ ∀ i u,c[i]? = some u → w.cell? ⟨g,j * k + i,none⟩ = some u):=by
 rcases h with ⟨rfl,rfl⟩ | ⟨g,cap,css,rfl,-,-,hc,hA⟩
 ·exact ⟨none,0,rfl,fun h => by simp at h⟩
 ·refine ⟨_,_,rfl,fun _ => ⟨g,rfl,fun j hj => ?_⟩⟩
  obtain ⟨c,h1,h2⟩:=AllR.at hk hA j hj
  exact ⟨c,h1,fun i u hi => hc _ u (h2 i u hi)⟩
theorem itemLen {w:World} {L:List Nat}:∀ c x,ItemR w L c x → c.length=2:=fun c x ⟨b,h,_⟩ => by rw [h]; rfl
theorem treeLen {w:World} {L:List Nat}:∀ c x,TreeR w L c x → c.length=1:=fun c x ⟨b,h,_⟩ => by rw [h]; rfl
theorem keyLen {w:World} {L:List Nat}:∀ c x,KeyR w L c x → c.length=4:=fun c x h => by unfold KeyR at h; rw [h]; rfl
open Go.RowKit
set_option linter.unusedVariables false
def NodR:RepR NT:=fun w L cs n => ∃ b,cs=[PtrV b] ∧ NAt w L (PtrV b) n
theorem nodRep:Rep NodR:=⟨fun ⟨b,h1,h2⟩ hM => ⟨b,h1,h2.mods hM⟩,fun hL ⟨b,h1,h2⟩ => ⟨b,h1,h2.weaken hL⟩,fun hg ⟨b,h1,h2⟩ => ⟨b,h1,h2.fresh hg⟩⟩
def Far (w1:World) (its nms:Value) (x:Nat):Prop:=x < w1.heap.size ∨ its.ownBlock=some x ∨ nms.ownBlock=some x
structure Coll (w1 wr:World) (its nms:Value) (ns:List NT) (ss:List Bs):Prop where
 size:w1.heap.size ≤ wr.heap.size
 rowI:∃ css,wr.ownsRow 0 41 1 its ns.length css.flatten ∧ ∀ L:List Nat,(∀ x ∈ L,Far w1 its nms x) → AllR NodR wr L css ns
 rowN:wr.ownsRow 0 9 1 nms ss.length (ss.map fun s => Value.string ⟨s.toArray⟩)
 apart:∀ g,its.ownBlock=some g → w1.heap.size ≤ g ∧ nms.ownBlock ≠ some g
 later:∀ g,nms.ownBlock=some g → w1.heap.size ≤ g
theorem Coll.start (w1:World):Coll w1 w1 (.slice none 0 0) (.slice none 0 0) [] []:=
 ⟨Nat.le_refl _,⟨[],World.ownsRow_nil _ _ _ _,fun L _ => trivial⟩,World.ownsRow_nil _ _ _ _,(fun g hg => nomatch (show (none:Option Nat)=some g from hg)),(fun g hg => nomatch (show (none:Option Nat)=some g from hg))⟩
theorem Coll.go {w1 wr w2:World} {its nms:Value} {ns:List NT} {ss:List Bs} {P:List Nat} (h:Coll w1 wr its nms ns ss) (hM:Mods P wr w2) (hP:∀ x ∈ P,x < w1.heap.size):Coll w1 w2 its nms ns ss:=by
 obtain ⟨css,h1,h2⟩:=h.rowI
 have hs:=hM.size
 have h0:=h.size
 refine ⟨by omega,⟨css,zl h1 hM (fun g hg hm => by have:=(h.apart g hg).1; have:=hP g hm; omega),fun L hL => ?_⟩,zl h.rowN hM (fun g hg hm => by have:=h.later g hg; have:=hP g hm; omega),h.apart,h.later⟩
 have a:=h2 (P ++ L) (fun x hx => by
  rcases List.mem_append.1 hx with hx | hx
  ·exact .inl (hP x hx)
  ·exact hL x hx)
 exact (a.map fun c x hx => nodRep.mods hx (hM.mono (fun y hy => .inl (by simp [hy])))).map fun c x hx => nodRep.weaken (fun y hy => List.mem_append_right _ hy) hx
theorem Coll.node {w1 wr w3:World} {its nms:Value} {ns:List NT} {ss:List Bs} (h:Coll w1 wr its nms ns ss) {css:List (List Value)} (hcs:∀ L:List Nat,(∀ x ∈ L,Far w1 its nms x) → AllR NodR wr L css ns) {b:Nat} {n:NT} (hn:∀ L:List Nat,(∀ x ∈ L,Far w1 its nms x) → NAt wr L (PtrV b) n) {g cap k:Nat} (hk:ns.length=k)
  (hown:w3.ownsRow 0 41 1 (.slice (some ⟨g,0,none⟩) (k + 1) cap) (k + 1) (css.flatten ++ [PtrV b])) (hM:Mods its.ownBlock.toList wr w3) (hg:its.ownBlock=some g ∨ wr.heap.size ≤ g):Coll w1 w3 (.slice (some ⟨g,0,none⟩) (k + 1) cap) nms (ns ++ [n]) ss:=by
 have hs:=hM.size
 have h0:=h.size
 have hgs:w1.heap.size ≤ g ∧ nms.ownBlock ≠ some g:=by
  rcases hg with hg | hg
  ·exact h.apart g hg
  ·refine ⟨by omega,fun he => ?_⟩
   have:=(h.rowN.lt g he).2
   omega
 refine ⟨by omega,⟨css ++ [[PtrV b]],by rw [List.length_append,List.flatten_append,List.length_singleton,hk]; simpa using hown,fun L hL => ?_⟩,zl h.rowN hM (fun x hx hm => ?_),fun x hx => ?_,h.later⟩
 ·have hL':∀ x ∈ its.ownBlock.toList ++ L.filter (fun x => decide (x ≠ g)),Far w1 its nms x:=fun x hx => by
   rcases List.mem_append.1 hx with hx | hx
   ·exact .inr (.inl (by simpa using hx))
   ·rw [List.mem_filter] at hx
    rcases hL x hx.1 with q | q | q
    ·exact .inl q
    ·have q:some g=some x:=q
     cases q
     simp at hx
    ·exact .inr (.inr q)
  have a4:=AllR.snoc (R:=NodR) (c:=[PtrV b]) ⟨b,rfl,hn _ hL'⟩ (hcs _ hL')
  have a6:AllR NodR wr (g :: (its.ownBlock.toList ++ L.filter (fun x => decide (x ≠ g)))) (css ++ [[PtrV b]]) (ns ++ [n]):=by
   rcases hg with hg | hg
   ·exact a4.map fun c x hx => nodRep.weaken (fun y hy => by
     rcases List.mem_cons.1 hy with rfl | hy
     ·exact List.mem_append_left _ (by simp [hg])
     ·exact hy) hx
   ·exact a4.map fun c x hx => nodRep.fresh hg hx
  exact (a6.map (R:=NodR) (w':=w3) (L':=g :: (its.ownBlock.toList ++ L.filter (fun x => decide (x ≠ g)))) fun c x hx => nodRep.mods hx (hM.mono (fun y hy => .inl (List.mem_cons_of_mem _ (List.mem_append_left _ hy))))).map fun c x hx => nodRep.weaken (fun y hy => by
   by_cases hyg:y=g
   ·rw [hyg]; exact List.mem_cons_self
   ·exact List.mem_cons_of_mem _ (List.mem_append_right _ (List.mem_filter.2 ⟨hy,by simpa using hyg⟩))) hx
 ·exact (h.apart x (by simpa using hm)).2 hx
 ·have hx:some g=some x:=hx
  cases hx
  exact hgs
theorem Coll.name {w1 wr w3:World} {its nms:Value} {ns:List NT} {ss:List Bs} (h:Coll w1 wr its nms ns ss) {s:Bs} {g cap k:Nat} (hk:ss.length=k)
  (hown:w3.ownsRow 0 9 1 (.slice (some ⟨g,0,none⟩) (k + 1) cap) (k + 1) ((ss.map fun s => Value.string ⟨s.toArray⟩) ++ [.string ⟨s.toArray⟩])) (hM:Mods nms.ownBlock.toList wr w3) (hg:nms.ownBlock=some g ∨ wr.heap.size ≤ g):Coll w1 w3 its (.slice (some ⟨g,0,none⟩) (k + 1) cap) ns (ss ++ [s]):=by
 have hs:=hM.size
 have h0:=h.size
 obtain ⟨css,h1,h2⟩:=h.rowI
 have hgs:w1.heap.size ≤ g ∧ its.ownBlock ≠ some g:=by
  rcases hg with hg | hg
  ·exact ⟨h.later g hg,fun he => (h.apart g he).2 hg⟩
  ·refine ⟨by omega,fun he => ?_⟩
   have:=(h1.lt g he).2
   omega
 refine ⟨by omega,⟨css,zl h1 hM (fun x hx hm => ?_),fun L hL => ?_⟩,by rw [List.length_append,List.map_append,List.length_singleton,hk]; exact hown,fun x hx => ⟨(h.apart x hx).1,fun he => ?_⟩,fun x hx => ?_⟩
 ·exact (h.apart x hx).2 (by simpa using hm)
 ·have hL':∀ x ∈ nms.ownBlock.toList ++ L.filter (fun x => decide (x ≠ g)),Far w1 its nms x:=fun x hx => by
   rcases List.mem_append.1 hx with hx | hx
   ·exact .inr (.inr (by simpa using hx))
   ·rw [List.mem_filter] at hx
    rcases hL x hx.1 with q | q | q
    ·exact .inl q
    ·exact .inr (.inl q)
    ·have q:some g=some x:=q
     cases q
     simp at hx
  have a4:=h2 _ hL'
  have a6:AllR NodR wr (g :: (nms.ownBlock.toList ++ L.filter (fun x => decide (x ≠ g)))) css ns:=by
   rcases hg with hg | hg
   ·exact a4.map fun c x hx => nodRep.weaken (fun y hy => by
     rcases List.mem_cons.1 hy with rfl | hy
     ·exact List.mem_append_left _ (by simp [hg])
     ·exact hy) hx
   ·exact a4.map fun c x hx => nodRep.fresh hg hx
  exact (a6.map (R:=NodR) (w':=w3) (L':=g :: (nms.ownBlock.toList ++ L.filter (fun x => decide (x ≠ g)))) fun c x hx => nodRep.mods hx (hM.mono (fun y hy => .inl (List.mem_cons_of_mem _ (List.mem_append_left _ hy))))).map fun c x hx => nodRep.weaken (fun y hy => by
   by_cases hyg:y=g
   ·rw [hyg]; exact List.mem_cons_self
   ·exact List.mem_cons_of_mem _ (List.mem_append_right _ (List.mem_filter.2 ⟨hy,by simpa using hyg⟩))) hx
 ·have he:some g=some x:=he
  cases he
  exact hgs.2 hx
 ·have hx:some g=some x:=hx
  cases hx
  exact hgs.1
def CSt (w:World) (rb:Nat) (lf rt:Int) (von vwh:Value) (gr:Bool) (vg its nms vo:Value) (lim off:Int):Prop:=
 w.heap[rb]? = some (.cells #[.int .i64 lf,.int .i64 rt,von,vwh,.bool gr,vg,its,nms,vo,.int .i64 lim,.int .i64 off] 47 (0,0))
open Go.RowKit
set_option linter.unusedVariables false
theorem zao {α:Type} (r:Chk α) {p e:Nat} (h:e ≠ 0):chkE r p e=(p,e):=by
 unfold chkE
 rw [if_pos h]
theorem zhy {α:Type} {c:Prop} [Decidable c] (a:α) (k p pos e:Nat):chkE (if c then Chk.bad p k else Chk.ok a) pos e=failE (decide c) k p pos e:=by
 by_cases he:e=0
 ·subst he
  unfold failE chkE
  by_cases h:c
  ·rw [if_neg (by simp),if_pos h,if_pos ⟨decide_eq_true h,rfl⟩]
  ·rw [if_neg (by simp),if_neg h,if_neg (by simp [h])]
 ·rw [zao _ he]
  unfold failE
  rw [if_neg (fun h => he h.2)]
theorem zcG (env:List EC) (a:Tree):∀ (l:List Tree),groupQ env (l ++ [a])=(groupQ env l).bind fun ks => (colQ env a.hd).bind fun k => .ok (ks ++ [k]):=by
 intro l
 induction l with
 | nil =>
  show (colQ env a.hd).bind _=(colQ env a.hd).bind _
  cases colQ env a.hd <;> rfl
 | cons b l ih =>
  show (colQ env b.hd).bind _=((colQ env b.hd).bind _).bind _
  cases colQ env b.hd with
  | bad p k => rfl
  | ok x =>
   show (groupQ env (l ++ [a])).bind _=((groupQ env l).bind _).bind _
   rw [ih]
   cases groupQ env l with
   | bad p k => rfl
   | ok xs =>
    show ((colQ env a.hd).bind _).bind _=(colQ env a.hd).bind _
    cases colQ env a.hd <;> rfl
theorem zb7 (env:List EC):∀ (l:List Tree),NZ (groupQ env l):=by
 intro l
 induction l with
 | nil => exact NZ.ok _
 | cons a l ih => exact NZ.bind (fun p k hk => zdD hk) fun x _ => NZ.bind ih fun xs _ => NZ.ok _
theorem zfw {env:List EC} {gs:List Tree} {i:Nat} {a:Tree} {pos e p1 e1:Nat} (h:chkE (groupQ env (gs.take i)) pos e=(p1,e1)) (ha:gs[i]? = some a):chkE (groupQ env (gs.take (i + 1))) pos e=chkE (colQ env a.hd) p1 e1:=by
 rw [List.take_add_one,ha]
 show chkE (groupQ env (gs.take i ++ [a])) pos e=_
 rw [zcG]
 exact zbq (zb7 env _) h fun xs _ => zbX _ _ _ _
theorem zcH (items:List NT) (names:List Bs) (a:KeyT):∀ (l:List KeyT),orderQ items names (l ++ [a])=(orderQ items names l).bind fun ks => (keyQ items names a).bind fun k => .ok (ks ++ [k]):=by
 intro l
 induction l with
 | nil =>
  show (keyQ items names a).bind _=(keyQ items names a).bind _
  cases keyQ items names a <;> rfl
 | cons b l ih =>
  show (keyQ items names b).bind _=((keyQ items names b).bind _).bind _
  cases keyQ items names b with
  | bad p k => rfl
  | ok x =>
   show (orderQ items names (l ++ [a])).bind _=((orderQ items names l).bind _).bind _
   rw [ih]
   cases orderQ items names l with
   | bad p k => rfl
   | ok xs =>
    show ((keyQ items names a).bind _).bind _=(keyQ items names a).bind _
    cases keyQ items names a <;> rfl
def keyN (names:List Bs) (k:KeyT):Int:=if k.name ≠ [] then (match names.findIdx? (· == k.name) with | some j => (j:Int) | none => -1) else k.item - 1
theorem zeY (items:List NT) (names:List Bs) (k:KeyT):keyQ items names k=if keyN names k < 0 ∨ (items.length:Int) ≤ keyN names k then .bad k.pos 13 else .ok ⟨(keyN names k).toNat,k.desc⟩:=rfl
theorem zjJ (items:List NT) (names:List Bs) (k:KeyT):NZ (keyQ items names k):=by
 rw [zeY]
 split
 ·intro p e h; cases h; decide
 ·exact NZ.ok _
theorem zdP (items:List NT) (names:List Bs):∀ (l:List KeyT),NZ (orderQ items names l):=by
 intro l
 induction l with
 | nil => exact NZ.ok _
 | cons a l ih => exact NZ.bind (zjJ _ _ _) fun x _ => NZ.bind ih fun xs _ => NZ.ok _
theorem ziH {items:List NT} {names:List Bs} {ks:List KeyT} {i:Nat} {a:KeyT} {pos e p1 e1:Nat} (h:chkE (orderQ items names (ks.take i)) pos e=(p1,e1)) (ha:ks[i]? = some a) :
  chkE (orderQ items names (ks.take (i + 1))) pos e=failE (decide (keyN names a < 0 ∨ (items.length:Int) ≤ keyN names a)) 13 a.pos p1 e1:=by
 rw [List.take_add_one,ha]
 show chkE (orderQ items names (ks.take i ++ [a])) pos e=_
 rw [zcH,zbq (r2:=keyQ items names a) (zdP _ _ _) h fun xs _ => zbX _ _ _ _,zeY]
 exact zhy _ _ _ _ _
def offB (group:List Nat) (n:NT):Bool:=decide (aggOpB n.hd.op=false ∧ (n.hd.op ≠ oColumn ∨ n.hd.col ∉ group))
theorem zgf (group:List Nat) (i:ItemT) (n:NT):∀ (l:List ItemT) (ns:List NT),l.length=ns.length → fitsQ group (l ++ [i]) (ns ++ [n])=(fitsQ group l ns).bind fun _ => if aggOpB n.hd.op=false ∧ (n.hd.op ≠ oColumn ∨ n.hd.col ∉ group) then .bad i.e.hd.pos 4 else .ok ():=by
 intro l
 induction l with
 | nil =>
  intro ns h
  cases ns with
  | nil => rfl
  | cons x ns => cases h
 | cons b l ih =>
  intro ns h
  cases ns with
  | nil => cases h
  | cons x ns =>
   show (if _ then _ else fitsQ group (l ++ [i]) (ns ++ [n]))=(if _ then _ else fitsQ group l ns:Chk Unit).bind _
   rw [ih ns (by simpa using h)]
   split <;> rfl
theorem zhz (group:List Nat):∀ (l:List ItemT) (ns:List NT),NZ (fitsQ group l ns):=by
 intro l
 induction l with
 | nil => intro ns; exact NZ.ok _
 | cons b l ih =>
  intro ns
  cases ns with
  | nil => exact NZ.ok _
  | cons x ns =>
   show NZ (if _ then _ else fitsQ group l ns)
   split
   ·exact NZ.four _
   ·exact ih ns
theorem zjo {group:List Nat} {its:List ItemT} {ns:List NT} {k:Nat} {i:ItemT} {n:NT} {pos e p1 e1:Nat} (h:chkE (fitsQ group (its.take k) (ns.take k)) pos e=(p1,e1)) (hi:its[k]? = some i) (hn:ns[k]? = some n) :
  chkE (fitsQ group (its.take (k + 1)) (ns.take (k + 1))) pos e=failE (offB group n) 4 i.e.hd.pos p1 e1:=by
 have h1:k < its.length:=(List.getElem?_eq_some_iff.1 hi).1
 have h2:k < ns.length:=(List.getElem?_eq_some_iff.1 hn).1
 rw [List.take_add_one,List.take_add_one,hi,hn]
 show chkE (fitsQ group (its.take k ++ [i]) (ns.take k ++ [n])) pos e=_
 rw [zgf _ _ _ _ _ (by simp only [List.length_take]; omega)]
 exact (zbq (zhz _ _ _) h fun _ _ => rfl).trans (zhy _ _ _ _ _)
def ItemsGo (env:List EC) (its:List ItemT) (i:Nat) (r:List (NT × Bs)):Prop:=itemsQ env 0 its=(itemsQ env i (its.drop i)).bind fun r' => .ok (r ++ r')
theorem ItemsGo.start (env:List EC) (its:List ItemT):ItemsGo env its 0 []:=by
 show itemsQ env 0 its=(itemsQ env 0 its).bind _
 cases itemsQ env 0 its <;> rfl
theorem ItemsGo.drop {env:List EC} {its:List ItemT} {i:Nat} {it:ItemT} (hi:its[i]? = some it):its.drop i=it :: its.drop (i + 1):=by
 obtain ⟨h,rfl⟩:=List.getElem?_eq_some_iff.1 hi
 exact List.drop_eq_getElem_cons h
theorem ItemsGo.step {env:List EC} {its:List ItemT} {i:Nat} {r:List (NT × Bs)} {it:ItemT} {n:NT} (h:ItemsGo env its i r) (hi:its[i]? = some it) (h64:i ≠ 64) (he:exprQ env it.e 0 = .ok n):ItemsGo env its (i + 1) (r ++ [(n,nameQ env i it n)]):=by
 unfold ItemsGo at h ⊢
 rw [h,ItemsGo.drop (env:=env) hi]
 show (if i=64 then _ else (exprQ env it.e 0).bind _:Chk _).bind _=_
 rw [if_neg h64,he]
 show ((itemsQ env (i + 1) (its.drop (i + 1))).bind _).bind _=_
 cases itemsQ env (i + 1) (its.drop (i + 1)) with
 | bad p k => rfl
 | ok r' =>
  show Chk.ok (r ++ ((n,nameQ env i it n) :: r'))=Chk.ok (r ++ [(n,nameQ env i it n)] ++ r')
  rw [List.append_assoc]; rfl
theorem ItemsGo.full {env:List EC} {its:List ItemT} {i:Nat} {r:List (NT × Bs)} {it:ItemT} (h:ItemsGo env its i r) (hi:its[i]? = some it) (h64:i=64):itemsQ env 0 its = .bad it.e.hd.pos 4:=by
 unfold ItemsGo at h
 rw [h,ItemsGo.drop (env:=env) hi]
 show (if i=64 then _ else (exprQ env it.e 0).bind _:Chk _).bind _=_
 rw [if_pos h64]; rfl
theorem ItemsGo.bad {env:List EC} {its:List ItemT} {i:Nat} {r:List (NT × Bs)} {it:ItemT} {p k:Nat} (h:ItemsGo env its i r) (hi:its[i]? = some it) (h64:i ≠ 64) (he:exprQ env it.e 0 = .bad p k):itemsQ env 0 its = .bad p k:=by
 unfold ItemsGo at h
 rw [h,ItemsGo.drop (env:=env) hi]
 show (if i=64 then _ else (exprQ env it.e 0).bind _:Chk _).bind _=_
 rw [if_neg h64,he]; rfl
theorem ItemsGo.fin {env:List EC} {its:List ItemT} {i:Nat} {r:List (NT × Bs)} (h:ItemsGo env its i r) (hi:its.length ≤ i):itemsQ env 0 its = .ok r:=by
 unfold ItemsGo at h
 rw [h,List.drop_eq_nil_of_le hi]
 show Chk.ok (r ++ [])=_
 rw [List.append_nil]
theorem ziI (env:List EC):∀ (l:List ItemT) (k:Nat),NZ (itemsQ env k l):=by
 intro l
 induction l with
 | nil => intro k; exact NZ.ok _
 | cons a l ih =>
  intro k
  show NZ (if k=64 then _ else (exprQ env a.e 0).bind _)
  split
  ·exact NZ.four _
  ·exact NZ.bind (zbF env _ _) fun x _ => NZ.bind (ih _) fun xs _ => NZ.ok _
open Go.RowKit
set_option linter.unusedVariables false
theorem zad {w:World} {b:Nat} {v:Value} (h:w.cell? ⟨b,0,none⟩ = some v):∀ (j:Nat) (u:Value),[v][j]? = some u → w.cell? ((⟨b,0,none⟩ : Addr).add j)=some u:=by
 intro j u hj
 cases j with
 | zero => cases hj; exact h
 | succ j => simp at hj
structure MakeK (Md:List Nat) (w W:World) (rb:Nat) (lf rt:Int) (von vwh:Value) (gr:Bool) (gv vo:Value) (lim off:Int) (ci cn its nms:Value) (ns:List NT) (ss:List Bs):Prop where
 mods:Mods Md w W
 st:CSt W rb lf rt von vwh gr gv ci cn vo lim off
 coll:Coll w W its nms ns ss
 rbl:rb < w.heap.size
 rbm:rb ∈ Md
section
variable {Md:List Nat} {w W:World} {rb:Nat} {lf rt:Int} {von vwh:Value} {gr:Bool} {gv vo:Value} {lim off:Int} {ci cn its nms:Value} {ns:List NT} {ss:List Bs}
theorem MakeK.later (h:MakeK Md w W rb lf rt von vwh gr gv vo lim off ci cn its nms ns ss) {W':World} (hM:Mods [] W W'):MakeK Md w W' rb lf rt von vwh gr gv vo lim off ci cn its nms ns ss:=
 ⟨h.mods.trans hM (by simp),hM.heap h.st (by simp),h.coll.go hM (by simp),h.rbl,h.rbm⟩
theorem MakeK.past (h:MakeK Md w W rb lf rt von vwh gr gv vo lim off ci cn its nms ns ss) {W':World} {sb:Nat} (hM:Mods [sb] W W') (hs:sb ∈ Md) (hl:sb < w.heap.size) (hne:sb ≠ rb):MakeK Md w W' rb lf rt von vwh gr gv vo lim off ci cn its nms ns ss:=
 ⟨h.mods.trans hM (fun x hx => .inl (by simp at hx; rw [hx]; exact hs)),hM.heap h.st (by simpa using Ne.symm hne),h.coll.go hM (by simpa using hl),h.rbl,h.rbm⟩
theorem MakeK.node (h:MakeK Md w W rb lf rt von vwh gr gv vo lim off ci cn its nms ns ss) {W':World} {css:List (List Value)} (hcs:∀ L:List Nat,(∀ x ∈ L,Far w its nms x) → AllR NodR W L css ns) {b:Nat} {n:NT} (hn:∀ L:List Nat,(∀ x ∈ L,Far w its nms x) → NAt W L (PtrV b) n) {g cap k:Nat} (hk:ns.length=k)
  (hown:W'.ownsRow 0 41 1 (.slice (some ⟨g,0,none⟩) (k + 1) cap) (k + 1) (css.flatten ++ [PtrV b])) (hM:Mods its.ownBlock.toList W W') (hg:its.ownBlock=some g ∨ W.heap.size ≤ g):MakeK Md w W' rb lf rt von vwh gr gv vo lim off ci cn (.slice (some ⟨g,0,none⟩) (k + 1) cap) nms (ns ++ [n]) ss:=
 ⟨h.mods.trans hM (fun x hx => .inr (h.coll.apart x (by simpa using hx)).1),hM.heap h.st (fun hm => Nat.lt_irrefl _ (Nat.lt_of_lt_of_le h.rbl (h.coll.apart rb (by simpa using hm)).1)),h.coll.node hcs hn hk hown hM hg,h.rbl,h.rbm⟩
theorem MakeK.name (h:MakeK Md w W rb lf rt von vwh gr gv vo lim off ci cn its nms ns ss) {W':World} {s:Bs} {g cap k:Nat} (hk:ss.length=k)
  (hown:W'.ownsRow 0 9 1 (.slice (some ⟨g,0,none⟩) (k + 1) cap) (k + 1) ((ss.map fun s => Value.string ⟨s.toArray⟩) ++ [.string ⟨s.toArray⟩])) (hM:Mods nms.ownBlock.toList W W') (hg:nms.ownBlock=some g ∨ W.heap.size ≤ g):MakeK Md w W' rb lf rt von vwh gr gv vo lim off ci cn its (.slice (some ⟨g,0,none⟩) (k + 1) cap) ns (ss ++ [s]):=
 ⟨h.mods.trans hM (fun x hx => .inr (h.coll.later x (by simpa using hx))),hM.heap h.st (fun hm => Nat.lt_irrefl _ (Nat.lt_of_lt_of_le h.rbl (h.coll.later rb (by simpa using hm)))),h.coll.name hk hown hM hg,h.rbl,h.rbm⟩
theorem MakeK.lay (h:MakeK Md w W rb lf rt von vwh gr gv vo lim off ci cn its nms ns ss):MakeK Md w ((W.setCell ⟨rb,6,none⟩ its).setCell ⟨rb,7,none⟩ nms) rb lf rt von vwh gr gv vo lim off its nms its nms ns ss:=by
 have hM:Mods [rb] W ((W.setCell ⟨rb,6,none⟩ its).setCell ⟨rb,7,none⟩ nms):=((Mods.refl _ _).setCell (.inl (by simp)) _).setCell (.inl (by simp)) _
 exact ⟨h.mods.trans hM (fun x hx => .inl (by simp at hx; rw [hx]; exact h.rbm)),zb (zb h.st 6 its) 7 nms,h.coll.go hM (by simpa using h.rbl),h.rbl,h.rbm⟩
theorem MakeK.group (h:MakeK Md w W rb lf rt von vwh gr gv vo lim off ci cn its nms ns ss) (g2:Bool):MakeK Md w (W.setCell ⟨rb,4,none⟩ (.bool g2)) rb lf rt von vwh g2 gv vo lim off ci cn its nms ns ss:=by
 have hM:Mods [rb] W (W.setCell ⟨rb,4,none⟩ (.bool g2)):=(Mods.refl _ _).setCell (.inl (by simp)) _
 exact ⟨h.mods.trans hM (fun x hx => .inl (by simp at hx; rw [hx]; exact h.rbm)),zb h.st 4 _,h.coll.go hM (by simpa using h.rbl),h.rbl,h.rbm⟩
end
theorem ListAt.readL {α:Type} {R:RepR α} {w:World} {L:List Nat} {k:Nat} {v:Value} {l:List α} (hk:∀ c x,R w L c x → c.length=k) (h:ListAt R w L v l) :
  ∃ ao cap,v = .slice ao l.length cap ∧ (0 < l.length → ∃ g,ao=some ⟨g,0,none⟩ ∧ g ∉ L ∧ l.length ≤ cap ∧ ∀ j (hj:j < l.length),∃ c,R w L c l[j] ∧ ∀ i u,c[i]? = some u → w.cell? ⟨g,j * k + i,none⟩ = some u):=by
 rcases h with ⟨rfl,rfl⟩ | ⟨g,cap,css,rfl,hg,hcap,hc,hA⟩
 ·exact ⟨none,0,rfl,fun h => by simp at h⟩
 ·refine ⟨_,_,rfl,fun _ => ⟨g,rfl,hg,hcap,fun j hj => ?_⟩⟩
  obtain ⟨c,h1,h2⟩:=AllR.at hk hA j hj
  exact ⟨c,h1,fun i u hi => hc _ u (h2 i u hi)⟩
open Go.RowKit
set_option linter.unusedVariables false
theorem zfx {q:QueryT} {env:List EC} {group:List Nat} {p k:Nat} (h:itemsQ env 0 q.items = .bad p k):allQ q env group = .bad p k:=by
 unfold allQ; rw [h]; rfl
theorem zhA {q:QueryT} {env:List EC} {group:List Nat} {r:List (NT × Bs)} (h:itemsQ env 0 q.items = .ok r) (hg:(decide (0 < q.group.length) || r.any (fun x => hasN x.1))=false):allQ q env group = .ok ((if q.star=true then starN env else []) ++ r,false):=by
 unfold allQ; rw [h]
 show (if (decide (0 < q.group.length) || r.any (fun x => hasN x.1))=true then _ else _)=_
 rw [hg,if_neg (by decide)]
theorem ziJ {q:QueryT} {env:List EC} {group:List Nat} {r:List (NT × Bs)} (h:itemsQ env 0 q.items = .ok r) (hg:(decide (0 < q.group.length) || r.any (fun x => hasN x.1))=true) (hs:q.star=true):allQ q env group = .bad 0 4:=by
 unfold allQ; rw [h]
 show (if (decide (0 < q.group.length) || r.any (fun x => hasN x.1))=true then _ else _)=_
 rw [hg,if_pos rfl,if_pos hs]
theorem zhB {q:QueryT} {env:List EC} {group:List Nat} {r:List (NT × Bs)} (h:itemsQ env 0 q.items = .ok r) (hg:(decide (0 < q.group.length) || r.any (fun x => hasN x.1))=true) (hs:q.star=false):allQ q env group=(fitsQ group q.items (r.map (·.1))).bind fun _ => .ok (r,true):=by
 unfold allQ; rw [h]
 show (if (decide (0 < q.group.length) || r.any (fun x => hasN x.1))=true then _ else _)=_
 rw [hg,if_pos rfl,if_neg (by rw [hs]; decide)]
theorem zgg {q:QueryT} {env:List EC} {group:List Nat} {i:Nat} {r:List (NT × Bs)} {it:ItemT} {pos p1 e1:Nat} (h:ItemsGo env q.items i r) (hi:q.items[i]? = some it)
  (hc:chkE (exprQ env it.e 0) (failE (decide (i=64)) 4 it.e.hd.pos pos 0).1 (failE (decide (i=64)) 4 it.e.hd.pos pos 0).2=(p1,e1)) (h1:e1 ≠ 0):chkE (allQ q env group) pos 0=(p1,e1):=by
 by_cases h64:i=64
 ·rw [zfx (h.full hi h64)]
  rw [decide_eq_true h64,show failE true 4 it.e.hd.pos pos 0=(it.e.hd.pos,4) from rfl,zao _ (by simp)] at hc
  exact hc
 ·rw [decide_eq_false h64,zU] at hc
  cases hx:exprQ env it.e 0 with
  | ok n => rw [hx,z9] at hc; cases hc; exact absurd rfl h1
  | bad p k => rw [zfx (h.bad hi h64 hx)]; rw [hx] at hc; exact hc
theorem zgh {env:List EC} {i:Nat} {it:ItemT} {pos p1:Nat}
  (hc:chkE (exprQ env it.e 0) (failE (decide (i=64)) 4 it.e.hd.pos pos 0).1 (failE (decide (i=64)) 4 it.e.hd.pos pos 0).2=(p1,0)):i ≠ 64 ∧ (p1=pos ∧ failE (decide (i=64)) 4 it.e.hd.pos pos 0=(pos,0)) ∧ ∃ n,exprQ env it.e 0 = .ok n:=by
 by_cases h64:i=64
 ·rw [decide_eq_true h64,show failE true 4 it.e.hd.pos pos 0=(it.e.hd.pos,4) from rfl,zao _ (by simp)] at hc
  cases hc
 ·rw [decide_eq_false h64,zU] at hc
  obtain ⟨-,hp,hn⟩:=zab (zbF env it.e 0) hc
  exact ⟨h64,⟨hp,by rw [decide_eq_false h64,zU]⟩,hn⟩
theorem ziK {q:QueryT} {env:List EC} {group:List Nat} {r:List (NT × Bs)} {n0 ns:List NT} {s0 ss:List Bs} {pos p e:Nat} (h:itemsQ env 0 q.items = .ok r) (hg:(decide (0 < q.group.length) || r.any (fun x => hasN x.1))=true)
  (h0:q.star=false → n0=[] ∧ s0=[]) (hns:ns=n0 ++ r.map (·.1)) (hss:ss=s0 ++ r.map (·.2)) (hr:r.length=q.items.length)
  (hc:chkE (fitsQ group (q.items.take q.items.length) (ns.take q.items.length)) (failE q.star 4 0 pos 0).1 (failE q.star 4 0 pos 0).2=(p,e)) :
  chkE (allQ q env group) pos 0=(p,e) ∧ ∀ l g,allQ q env group = .ok (l,g) → true=g ∧ ns=l.map (·.1) ∧ ss=l.map (·.2):=by
 cases hs:q.star with
 | true =>
  rw [hs,show failE true 4 0 pos 0=(0,4) from rfl,zao _ (by simp)] at hc
  rw [ziJ h hg hs]
  exact ⟨hc,fun l g hl => by cases hl⟩
 | false =>
  obtain ⟨rfl,rfl⟩:=h0 hs
  rw [List.nil_append] at hns hss
  rw [hs,zU,List.take_length,hns,List.take_of_length_le (by rw [List.length_map,hr]; exact Nat.le_refl _)] at hc
  rw [zhB h hg hs]
  refine ⟨(zbX (fitsQ group q.items (r.map (·.1))) (fun _ => (r,true)) pos 0).trans hc,fun l g hl => ?_⟩
  cases hf:fitsQ group q.items (r.map (·.1)) with
  | bad p k => rw [hf] at hl; cases hl
  | ok u => rw [hf] at hl; cases hl; exact ⟨rfl,hns,hss⟩
theorem zhC {d:Nat} {h:Hd} {a b:Ty} {mk:NHd → NT} {n:NT} (hm:∀ x,(mk x).hd=x) (hf:finQ d h a b mk = .ok n):n.hd.op=h.op:=by
 unfold finQ at hf
 cases ht:typedV h.op a b with
 | none => rw [ht] at hf; cases hf
 | some t =>
  rw [ht] at hf
  simp only at hf
  split at hf
  ·cases hf
  ·cases hf; rw [hm]
theorem ziL {h:Hd} {n:NHd} (hc:constQ h=some n):n.op=oValue:=by
 unfold constQ at hc
 split at hc
 ·cases hc; rfl
 ·split at hc
  ·cases hc; rfl
  ·split at hc
   ·cases hc; rfl
   ·split at hc
    ·cases hc; rfl
    ·cases hc
theorem zjK {env:List EC} {t:Tree} {d:Nat} {n:NT} (hf:formedT t=true) (hn:exprQ env t d = .ok n) (ho:n.hd.op=oColumn):n.hd.col < env.length:=by
 cases t with
 | leaf h =>
  unfold exprQ at hn
  cases hc:constQ h with
  | some x =>
   rw [hc] at hn; cases hn
   have:=ziL hc
   rw [show (NT.leaf x).hd=x from rfl,this] at ho
   exact absurd ho (by decide)
  | none =>
   rw [hc] at hn
   simp only at hn
   by_cases hop:h.op=oColumn
   ·rw [if_pos hop] at hn
    cases hq:colQ env h with
    | bad p k => rw [hq] at hn; cases hn
    | ok k => rw [hq] at hn; cases hn; exact zeK hq
   ·rw [if_neg hop] at hn
    rw [zhC (fun _ => rfl) hn] at ho
    exact absurd ho hop
 | un h a =>
  unfold exprQ at hn
  cases hx:exprQ env a (deeper d h) with
  | bad p k => rw [hx] at hn; cases hn
  | ok x =>
   rw [hx] at hn
   have h1:=zhC (fun _ => rfl) (show finQ d h x.hd.t tyNone (fun n => NT.un n x) = .ok n from hn)
   rw [h1] at ho
   have h2:formedH h 1=true:=(Bool.and_eq_true_iff.1 (show (formedH h 1 && formedT a)=true from hf)).1
   unfold formedH at h2
   rw [ho,if_pos (show ops0.contains oColumn=true by decide)] at h2
   simp at h2
 | bin h a b =>
  unfold exprQ at hn
  cases hx:exprQ env a (deeper d h) with
  | bad p k => rw [hx] at hn; cases hn
  | ok x =>
   rw [hx] at hn
   change ((exprQ env b (deeper d h)).bind fun y => finQ d h x.hd.t y.hd.t (fun n => NT.bin n x y)) = .ok n at hn
   cases hy:exprQ env b (deeper d h) with
   | bad p k => rw [hy] at hn; cases hn
   | ok y =>
    rw [hy] at hn
    have h1:=zhC (fun _ => rfl) (show finQ d h x.hd.t y.hd.t (fun n => NT.bin n x y) = .ok n from hn)
    rw [h1] at ho
    have h2:formedH h 2=true:=(Bool.and_eq_true_iff.1 (show (formedH h 2 && (formedT a && formedT b))=true from hf)).1
    unfold formedH at h2
    rw [ho,if_pos (show ops0.contains oColumn=true by decide)] at h2
    simp at h2
end Go.Proofs.YtgdpaieechgahaaGreatDoor
