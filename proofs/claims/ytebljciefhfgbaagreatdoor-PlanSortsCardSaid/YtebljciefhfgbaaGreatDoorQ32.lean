/-
  What check.items has put together so far: nodes and names, in rows of the call's own. No condition.
-/
import Derived.Test.YtebljciefhfgbaaGreatDoorQ31
set_option linter.unusedVariables false
namespace Go.Proofs.YtebljciefhfgbaaGreatDoor
open Go.RowKit
theorem ybs {p:Prop} (h:p:=by
  rcases hg with hg | hg
  ·exact a4.map fun c x hx => nodRep.weaken (fun y hy => by
    rcases MC hy with rfl | hy
    ·exact List.mem_append_left _ (by simp [hg])
    ·exact hy) hx
  ·exact a4.map fun c x hx => nodRep.fresh hg hx
 ):p:=h
theorem ycs {p:Prop} (h:p:=by
  unfold zT at h2;rw [ho,if_pos (show ops0.contains oColumn=true by decide)] at h2;simp at h2
 ):p:=h
def NodR:zel NT:=fun w L cs n => ∃ b,cs=[zh b] ∧ NAt w L (zh b) n
theorem nodRep:Rep NodR:=⟨fun ⟨b,h1,h2⟩ hM => ⟨b,h1,h2.mods hM⟩,fun hL ⟨b,h1,h2⟩ => ⟨b,h1,h2.weaken hL⟩,fun hg ⟨b,h1,h2⟩ => ⟨b,h1,h2.fresh hg⟩⟩
def Far (w1:World) (its nms:Value) (x:Nat):Prop:=x < w1.heap.size ∨ its.ownBlock=some x ∨ nms.ownBlock=some x
structure Coll (w1 wr:World) (its nms:Value) (ns:List NT) (ss:List Bs):Prop where
 size:w1.heap.size ≤ wr.heap.size
 rowI:∃ css,wr.ownsRow 0 55 1 its ns.length css.flatten ∧ ∀ L:List Nat,(∀ x ∈ L,Far w1 its nms x) → AllR NodR wr L css ns
 rowN:wr.ownsRow 0 9 1 nms ss.length (ss.map fun s => Value.string ⟨s.toArray⟩)
 apart:∀ g,its.ownBlock=some g → w1.heap.size ≤ g ∧ nms.ownBlock ≠ some g
 later:∀ g,nms.ownBlock=some g → w1.heap.size ≤ g
theorem Coll.start (w1:World):Coll w1 w1 (.slice none 0 0) (.slice none 0 0) [] []:=
 ⟨LR _,⟨[],World.ownsRow_nil _ _ _ _,fun L _ => trivial⟩,World.ownsRow_nil _ _ _ _,(fun g hg => nomatch (show (none:Option Nat)=some g from hg)),(fun g hg => nomatch (show (none:Option Nat)=some g from hg))⟩
theorem Coll.go {w1 wr w2:World} {its nms:Value} {ns:List NT} {ss:List Bs} {P:List Nat} (h:Coll w1 wr its nms ns ss) (hM:Mods P wr w2) (hP:∀ x ∈ P,x < w1.heap.size):Coll w1 w2 its nms ns ss:=by
 obtain ⟨css,h1,h2⟩:=h.rowI;have hs:=hM.size;have h0:=h.size;refine ⟨by omega,⟨css,zm h1 hM (fun g hg hm => by have:=(h.apart g hg).1; have:=hP g hm; omega),fun L hL => ?_⟩,zm h.rowN hM (fun g hg hm => by have:=h.later g hg; have:=hP g hm; omega),h.apart,h.later⟩
 have a:=h2 (P ++ L) (fun x hx => by
  rcases List.mem_append.1 hx with hx | hx
  ·exact .inl (hP x hx)
  ·exact hL x hx)
 exact (a.map fun c x hx => nodRep.mods hx (hM.mono (fun y hy => .inl (by simp [hy])))).map fun c x hx => nodRep.weaken (fun y hy => List.mem_append_right _ hy) hx
theorem Coll.node {w1 wr w3:World} {its nms:Value} {ns:List NT} {ss:List Bs} (h:Coll w1 wr its nms ns ss) {css:List (List Value)} (hcs:∀ L:List Nat,(∀ x ∈ L,Far w1 its nms x) → AllR NodR wr L css ns) {b:Nat} {n:NT} (hn:∀ L:List Nat,(∀ x ∈ L,Far w1 its nms x) → NAt wr L (zh b) n) {g cap k:Nat} (hk:ns.length=k)
  (hown:w3.ownsRow 0 55 1 (.slice (some ⟨g,0,none⟩) (k + 1) cap) (k + 1) (css.flatten ++ [zh b])) (hM:Mods its.ownBlock.toList wr w3) (hg:its.ownBlock=some g ∨ wr.heap.size ≤ g):Coll w1 w3 (.slice (some ⟨g,0,none⟩) (k + 1) cap) nms (ns ++ [n]) ss:=by
 have hs:=hM.size;have h0:=h.size;have hgs:w1.heap.size ≤ g ∧ nms.ownBlock ≠ some g:=by
  rcases hg with hg | hg
  ·exact h.apart g hg
  ·refine ⟨by omega,fun he => ?_⟩;have:=(h.rowN.lt g he).2;omega
 refine ⟨by omega,⟨css ++ [[zh b]],by rw [List.length_append,List.flatten_append,List.length_singleton,hk]; simpa using hown,fun L hL => ?_⟩,zm h.rowN hM (fun x hx hm => ?_),fun x hx => ?_,h.later⟩
 ·have hL':∀ x ∈ its.ownBlock.toList ++ L.filter (fun x => decide (x ≠ g)),Far w1 its nms x:=fun x hx => by
   rcases List.mem_append.1 hx with hx | hx
   ·exact .inr (.inl AJ)
   ·rw [List.mem_filter] at hx;rcases hL x hx.1 with q | q | q
    ·exact .inl q
    ·have q:some g=some x:=q;cases q;simp at hx
    ·exact .inr (.inr q)
  have a4:=AllR.snoc (R:=NodR) (c:=[zh b]) ⟨b,rfl,hn _ hL'⟩ (hcs _ hL');have a6:AllR NodR wr (g :: (its.ownBlock.toList ++ L.filter (fun x => decide (x ≠ g)))) (css ++ [[zh b]]) (ns ++ [n]):=by exact ybs
  exact (a6.map (R:=NodR) (w':=w3) (L':=g :: (its.ownBlock.toList ++ L.filter (fun x => decide (x ≠ g)))) fun c x hx => nodRep.mods hx (hM.mono (fun y hy => .inl (CM _ (List.mem_append_left _ hy))))).map fun c x hx => nodRep.weaken (fun y hy => by
   by_cases hyg:y=g
   ·rw [hyg]; exact List.mem_cons_self
   ·exact CM _ (List.mem_append_right _ (List.mem_filter.2 ⟨hy,by simpa using hyg⟩))) hx
 ·exact (h.apart x AG).2 hx
 ·have hx:some g=some x:=hx;cases hx;exact hgs
theorem Coll.name {w1 wr w3:World} {its nms:Value} {ns:List NT} {ss:List Bs} (h:Coll w1 wr its nms ns ss) {s:Bs} {g cap k:Nat} (hk:ss.length=k)
  (hown:w3.ownsRow 0 9 1 (.slice (some ⟨g,0,none⟩) (k + 1) cap) (k + 1) ((ss.map fun s => Value.string ⟨s.toArray⟩) ++ [.string ⟨s.toArray⟩])) (hM:Mods nms.ownBlock.toList wr w3) (hg:nms.ownBlock=some g ∨ wr.heap.size ≤ g):Coll w1 w3 its (.slice (some ⟨g,0,none⟩) (k + 1) cap) ns (ss ++ [s]):=by
 have hs:=hM.size;have h0:=h.size;obtain ⟨css,h1,h2⟩:=h.rowI;have hgs:w1.heap.size ≤ g ∧ its.ownBlock ≠ some g:=by
  rcases hg with hg | hg
  ·exact ⟨h.later g hg,fun he => (h.apart g he).2 hg⟩
  ·refine ⟨by omega,fun he => ?_⟩;have:=(h1.lt g he).2;omega
 refine ⟨by omega,⟨css,zm h1 hM (fun x hx hm => ?_),fun L hL => ?_⟩,by rw [List.length_append,List.map_append,List.length_singleton,hk]; exact hown,fun x hx => ⟨(h.apart x hx).1,fun he => ?_⟩,fun x hx => ?_⟩
 ·exact (h.apart x hx).2 AG
 ·have hL':∀ x ∈ nms.ownBlock.toList ++ L.filter (fun x => decide (x ≠ g)),Far w1 its nms x:=fun x hx => by
   rcases List.mem_append.1 hx with hx | hx
   ·exact .inr (.inr AJ)
   ·rw [List.mem_filter] at hx;rcases hL x hx.1 with q | q | q
    ·exact .inl q
    ·exact .inr (.inl q)
    ·have q:some g=some x:=q;cases q;simp at hx
  have a4:=h2 _ hL';have a6:AllR NodR wr (g :: (nms.ownBlock.toList ++ L.filter (fun x => decide (x ≠ g)))) css ns:=by exact ybs
  exact (a6.map (R:=NodR) (w':=w3) (L':=g :: (nms.ownBlock.toList ++ L.filter (fun x => decide (x ≠ g)))) fun c x hx => nodRep.mods hx (hM.mono (fun y hy => .inl (CM _ (List.mem_append_left _ hy))))).map fun c x hx => nodRep.weaken (fun y hy => by
   by_cases hyg:y=g
   ·rw [hyg]; exact List.mem_cons_self
   ·exact CM _ (List.mem_append_right _ (List.mem_filter.2 ⟨hy,by simpa using hyg⟩))) hx
 ·have he:some g=some x:=he;cases he;exact hgs.2 hx
 ·have hx:some g=some x:=hx;cases hx;exact hgs.1
def CSt (w:World) (rb:Nat) (lf rt:Int) (von vwh:Value) (gr:Bool) (vg its nms vo:Value) (lim off:Int):Prop:=
 w.heap[rb]? = some (.cells #[.int .i64 lf,.int .i64 rt,von,vwh,.bool gr,vg,its,nms,vo,.int .i64 lim,.int .i64 off] 59 (0,0))
theorem zbr {α:Type} (r:Chk α) {p e:Nat} (h:e ≠ 0):zai r p e=(p,e):=by unfold zai;rw [if_pos h]
theorem zli {α:Type} {c:Prop} [Decidable c] (a:α) (k p pos e:Nat):zai (if c then Chk.bad p k else Chk.ok a) pos e=zaa (decide c) k p pos e:=by
 by_cases he:e=0
 ·subst he;unfold zaa zai;by_cases h:c
  ·rw [if_neg AB,if_pos h,if_pos ⟨decide_eq_true h,rfl⟩]
  ·rw [if_neg AB,if_neg h,if_neg AQ]
 ·rw [zbr _ he];unfold zaa;rw [if_neg (fun h => he h.2)]
theorem zfi (env:List EC) (a:Tree):∀ (l:List Tree),zbe env (l ++ [a])=(zbe env l).bind fun ks => (zbF env a.hd).bind fun k => .ok (ks ++ [k]):=by
 intro l
 induction l with
 | nil =>show (zbF env a.hd).bind _=(zbF env a.hd).bind _;cases zbF env a.hd <;> rfl
 | cons b l ih =>
  show (zbF env b.hd).bind _=((zbF env b.hd).bind _).bind _
  cases zbF env b.hd with
  | bad p k => rfl
  | ok x =>
   show (zbe env (l ++ [a])).bind _=((zbe env l).bind _).bind _;rw [ih]
   cases zbe env l with
   | bad p k => rfl
   | ok xs =>show ((zbF env a.hd).bind _).bind _=(zbF env a.hd).bind _;cases zbF env a.hd <;> rfl
theorem zez (env:List EC):∀ (l:List Tree),NZ (zbe env l):=by
 intro l
 induction l with
 | nil => exact NZ.ok _
 | cons a l ih => exact NZ.bind (fun p k hk => zgD hk) fun x _ => NZ.bind ih fun xs _ => NZ.ok _
theorem zi2 {env:List EC} {gs:List Tree} {i:Nat} {a:Tree} {pos e p1 e1:Nat} (h:zai (zbe env (gs.take i)) pos e=(p1,e1)) (ha:gs[i]? = some a):zai (zbe env (gs.take (i + 1))) pos e=zai (zbF env a.hd) p1 e1:=by rw [List.take_add_one,ha];show zai (zbe env (gs.take i ++ [a])) pos e=_;rw [zfi];exact zdB (zez env _) h fun xs _ => zey _ _ _ _
theorem zfj (items:List NT) (names:List Bs) (a:zfI):∀ (l:List zfI),za6 items names (l ++ [a])=(za6 items names l).bind fun ks => (keyQ items names a).bind fun k => .ok (ks ++ [k]):=by
 intro l
 induction l with
 | nil =>show (keyQ items names a).bind _=(keyQ items names a).bind _;cases keyQ items names a <;> rfl
 | cons b l ih =>
  show (keyQ items names b).bind _=((keyQ items names b).bind _).bind _
  cases keyQ items names b with
  | bad p k => rfl
  | ok x =>
   show (za6 items names (l ++ [a])).bind _=((za6 items names l).bind _).bind _;rw [ih]
   cases za6 items names l with
   | bad p k => rfl
   | ok xs =>show ((keyQ items names a).bind _).bind _=(keyQ items names a).bind _;cases keyQ items names a <;> rfl
def zfx (names:List Bs) (k:zfI):Int:=if k.name ≠ [] then (match names.findIdx? (· == k.name) with | some j => (j:Int) | none => -1) else k.item - 1
theorem zik (items:List NT) (names:List Bs) (k:zfI):keyQ items names k=if zfx names k < 0 ∨ (items.length:Int) ≤ zfx names k then .bad k.pos 13 else .ok ⟨(zfx names k).toNat,k.desc⟩:=rfl
theorem zoO (items:List NT) (names:List Bs) (k:zfI):NZ (keyQ items names k):=by
 rw [zik];split
 ·intro p e h; cases h; decide
 ·exact NZ.ok _
theorem zgP (items:List NT) (names:List Bs):∀ (l:List zfI),NZ (za6 items names l):=by
 intro l
 induction l with
 | nil => exact NZ.ok _
 | cons a l ih => exact NZ.bind (zoO _ _ _) fun x _ => NZ.bind ih fun xs _ => NZ.ok _
theorem zmV {items:List NT} {names:List Bs} {ks:List zfI} {i:Nat} {a:zfI} {pos e p1 e1:Nat} (h:zai (za6 items names (ks.take i)) pos e=(p1,e1)) (ha:ks[i]? = some a) :
  zai (za6 items names (ks.take (i + 1))) pos e=zaa (decide (zfx names a < 0 ∨ (items.length:Int) ≤ zfx names a)) 13 a.pos p1 e1:=by
 rw [List.take_add_one,ha];show zai (za6 items names (ks.take i ++ [a])) pos e=_;rw [zfj,zdB (r2:=keyQ items names a) (zgP _ _ _) h fun xs _ => zey _ _ _ _,zik];exact zli _ _ _ _ _
def offB (group:List Nat) (n:NT):Bool:=decide (aggOpB n.hd.op=false ∧ (n.hd.op ≠ oColumn ∨ n.hd.col ∉ group))
theorem zjR (group:List Nat) (i:za2) (n:NT):∀ (l:List za2) (ns:List NT),l.length=ns.length → fitsQ group (l ++ [i]) (ns ++ [n])=(fitsQ group l ns).bind fun _ => if aggOpB n.hd.op=false ∧ (n.hd.op ≠ oColumn ∨ n.hd.col ∉ group) then .bad i.e.hd.pos 4 else .ok ():=by
 intro l
 induction l with
 | nil =>
  intro ns h
  cases ns with
  | nil => rfl
  | cons x ns => cases h
 | cons b l ih =>
  intro ns h
  cases ns with
  | nil => cases h
  | cons x ns =>show (if _ then _ else fitsQ group (l ++ [i]) (ns ++ [n]))=(if _ then _ else fitsQ group l ns:Chk Unit).bind _;rw [ih ns AX];split <;> rfl
theorem zlj (group:List Nat):∀ (l:List za2) (ns:List NT),NZ (fitsQ group l ns):=by
 intro l
 induction l with
 | nil => intro ns; exact NZ.ok _
 | cons b l ih =>
  intro ns
  cases ns with
  | nil => exact NZ.ok _
  | cons x ns =>
   show NZ (if _ then _ else fitsQ group l ns);split
   ·exact NZ.four _
   ·exact ih ns
theorem zoe {group:List Nat} {its:List za2} {ns:List NT} {k:Nat} {i:za2} {n:NT} {pos e p1 e1:Nat} (h:zai (fitsQ group (its.take k) (ns.take k)) pos e=(p1,e1)) (hi:its[k]? = some i) (hn:ns[k]? = some n) :
  zai (fitsQ group (its.take (k + 1)) (ns.take (k + 1))) pos e=zaa (offB group n) 4 i.e.hd.pos p1 e1:=by
 have h1:k < its.length:=(List.getElem?_eq_some_iff.1 hi).1;have h2:k < ns.length:=(List.getElem?_eq_some_iff.1 hn).1;rw [List.take_add_one,List.take_add_one,hi,hn];show zai (fitsQ group (its.take k ++ [i]) (ns.take k ++ [n])) pos e=_;rw [zjR _ _ _ _ _ (by simp only [List.length_take]; omega)];exact (zdB (zlj _ _ _) h fun _ _ => rfl).trans (zli _ _ _ _ _)
def ItemsGo (env:List EC) (its:List za2) (i:Nat) (r:List (NT × Bs)):Prop:=za5 env 0 its=(za5 env i (its.drop i)).bind fun r' => .ok (r ++ r')
theorem ItemsGo.start (env:List EC) (its:List za2):ItemsGo env its 0 []:=by show za5 env 0 its=(za5 env 0 its).bind _;cases za5 env 0 its <;> rfl
theorem ItemsGo.drop {env:List EC} {its:List za2} {i:Nat} {it:za2} (hi:its[i]? = some it):its.drop i=it :: its.drop (i + 1):=by obtain ⟨h,rfl⟩:=List.getElem?_eq_some_iff.1 hi;exact List.drop_eq_getElem_cons h
theorem ItemsGo.step {env:List EC} {its:List za2} {i:Nat} {r:List (NT × Bs)} {it:za2} {n:NT} (h:ItemsGo env its i r) (hi:its[i]? = some it) (h64:i ≠ 64) (he:zq env it.e 0 = .ok n):ItemsGo env its (i + 1) (r ++ [(n,nameQ env i it n)]):=by
 unfold ItemsGo at h ⊢;rw [h,ItemsGo.drop (env:=env) hi];show (if i=64 then _ else (zq env it.e 0).bind _:Chk _).bind _=_;rw [if_neg h64,he];show ((za5 env (i + 1) (its.drop (i + 1))).bind _).bind _=_
 cases za5 env (i + 1) (its.drop (i + 1)) with
 | bad p k => rfl
 | ok r' =>show Chk.ok (r ++ ((n,nameQ env i it n) :: r'))=Chk.ok (r ++ [(n,nameQ env i it n)] ++ r');rw [List.append_assoc]; rfl
theorem ItemsGo.full {env:List EC} {its:List za2} {i:Nat} {r:List (NT × Bs)} {it:za2} (h:ItemsGo env its i r) (hi:its[i]? = some it) (h64:i=64):za5 env 0 its = .bad it.e.hd.pos 4:=by unfold ItemsGo at h;rw [h,ItemsGo.drop (env:=env) hi];show (if i=64 then _ else (zq env it.e 0).bind _:Chk _).bind _=_;rw [if_pos h64]; rfl
theorem ItemsGo.bad {env:List EC} {its:List za2} {i:Nat} {r:List (NT × Bs)} {it:za2} {p k:Nat} (h:ItemsGo env its i r) (hi:its[i]? = some it) (h64:i ≠ 64) (he:zq env it.e 0 = .bad p k):za5 env 0 its = .bad p k:=by unfold ItemsGo at h;rw [h,ItemsGo.drop (env:=env) hi];show (if i=64 then _ else (zq env it.e 0).bind _:Chk _).bind _=_;rw [if_neg h64,he]; rfl
theorem ItemsGo.fin {env:List EC} {its:List za2} {i:Nat} {r:List (NT × Bs)} (h:ItemsGo env its i r) (hi:its.length ≤ i):za5 env 0 its = .ok r:=by unfold ItemsGo at h;rw [h,List.drop_eq_nil_of_le hi];show Chk.ok (r ++ [])=_;rw [List.append_nil]
theorem zmW (env:List EC):∀ (l:List za2) (k:Nat),NZ (za5 env k l):=by
 intro l
 induction l with
 | nil => intro k; exact NZ.ok _
 | cons a l ih =>
  intro k;show NZ (if k=64 then _ else (zq env a.e 0).bind _);split
  ·exact NZ.four _
  ·exact NZ.bind (zdZ env _ _) fun x _ => NZ.bind (ih _) fun xs _ => NZ.ok _
theorem zaW {w:World} {b:Nat} {v:Value} (h:w.cell? ⟨b,0,none⟩ = some v):∀ (j:Nat) (u:Value),[v][j]? = some u → w.cell? ((⟨b,0,none⟩ : Addr).add j)=some u:=by
 intro j u hj
 cases j with
 | zero => cases hj; exact h
 | succ j => simp at hj
structure MakeK (Md:List Nat) (w W:World) (rb:Nat) (lf rt:Int) (von vwh:Value) (gr:Bool) (gv vo:Value) (lim off:Int) (ci cn its nms:Value) (ns:List NT) (ss:List Bs):Prop where
 mods:Mods Md w W
 st:CSt W rb lf rt von vwh gr gv ci cn vo lim off
 coll:Coll w W its nms ns ss
 rbl:rb < w.heap.size
 rbm:rb ∈ Md
section
variable {Md:List Nat} {w W:World} {rb:Nat} {lf rt:Int} {von vwh:Value} {gr:Bool} {gv vo:Value} {lim off:Int} {ci cn its nms:Value} {ns:List NT} {ss:List Bs}
theorem MakeK.later (h:MakeK Md w W rb lf rt von vwh gr gv vo lim off ci cn its nms ns ss) {W':World} (hM:Mods [] W W'):MakeK Md w W' rb lf rt von vwh gr gv vo lim off ci cn its nms ns ss:=
 ⟨h.mods.trans hM,hM.heap h.st,h.coll.go hM AB,h.rbl,h.rbm⟩
theorem MakeK.past (h:MakeK Md w W rb lf rt von vwh gr gv vo lim off ci cn its nms ns ss) {W':World} {sb:Nat} (hM:Mods [sb] W W') (hs:sb ∈ Md) (hl:sb < w.heap.size) (hne:sb ≠ rb):MakeK Md w W' rb lf rt von vwh gr gv vo lim off ci cn its nms ns ss:=
 ⟨h.mods.trans hM (fun x hx => .inl (by simp at hx; rw [hx]; exact hs)),hM.heap h.st (by simpa using Ne.symm hne),h.coll.go hM (by simpa using hl),h.rbl,h.rbm⟩
theorem MakeK.node (h:MakeK Md w W rb lf rt von vwh gr gv vo lim off ci cn its nms ns ss) {W':World} {css:List (List Value)} (hcs:∀ L:List Nat,(∀ x ∈ L,Far w its nms x) → AllR NodR W L css ns) {b:Nat} {n:NT} (hn:∀ L:List Nat,(∀ x ∈ L,Far w its nms x) → NAt W L (zh b) n) {g cap k:Nat} (hk:ns.length=k)
  (hown:W'.ownsRow 0 55 1 (.slice (some ⟨g,0,none⟩) (k + 1) cap) (k + 1) (css.flatten ++ [zh b])) (hM:Mods its.ownBlock.toList W W') (hg:its.ownBlock=some g ∨ W.heap.size ≤ g):MakeK Md w W' rb lf rt von vwh gr gv vo lim off ci cn (.slice (some ⟨g,0,none⟩) (k + 1) cap) nms (ns ++ [n]) ss:=
 ⟨h.mods.trans hM (fun x hx => .inr (h.coll.apart x AJ).1),hM.heap h.st (fun hm => Nat.lt_irrefl _ (LL h.rbl (h.coll.apart rb AG).1)),h.coll.node hcs hn hk hown hM hg,h.rbl,h.rbm⟩
theorem MakeK.name (h:MakeK Md w W rb lf rt von vwh gr gv vo lim off ci cn its nms ns ss) {W':World} {s:Bs} {g cap k:Nat} (hk:ss.length=k)
  (hown:W'.ownsRow 0 9 1 (.slice (some ⟨g,0,none⟩) (k + 1) cap) (k + 1) ((ss.map fun s => Value.string ⟨s.toArray⟩) ++ [.string ⟨s.toArray⟩])) (hM:Mods nms.ownBlock.toList W W') (hg:nms.ownBlock=some g ∨ W.heap.size ≤ g):MakeK Md w W' rb lf rt von vwh gr gv vo lim off ci cn its (.slice (some ⟨g,0,none⟩) (k + 1) cap) ns (ss ++ [s]):=
 ⟨h.mods.trans hM (fun x hx => .inr (h.coll.later x AJ)),hM.heap h.st (fun hm => Nat.lt_irrefl _ (LL h.rbl (h.coll.later rb AG))),h.coll.name hk hown hM hg,h.rbl,h.rbm⟩
theorem MakeK.lay (h:MakeK Md w W rb lf rt von vwh gr gv vo lim off ci cn its nms ns ss):MakeK Md w ((W.setCell ⟨rb,6,none⟩ its).setCell ⟨rb,7,none⟩ nms) rb lf rt von vwh gr gv vo lim off its nms its nms ns ss:=by have hM:Mods [rb] W ((W.setCell ⟨rb,6,none⟩ its).setCell ⟨rb,7,none⟩ nms):=((QM _ _).setCell (.inl AB) _).setCell (.inl AB) _;exact ⟨h.mods.trans hM (fun x hx => .inl (by simp at hx; rw [hx]; exact h.rbm)),zb (zb h.st 6 its) 7 nms,h.coll.go hM (by simpa using h.rbl),h.rbl,h.rbm⟩
theorem MakeK.group (h:MakeK Md w W rb lf rt von vwh gr gv vo lim off ci cn its nms ns ss) (g2:Bool):MakeK Md w (W.setCell ⟨rb,4,none⟩ (.bool g2)) rb lf rt von vwh g2 gv vo lim off ci cn its nms ns ss:=by have hM:Mods [rb] W (W.setCell ⟨rb,4,none⟩ (.bool g2)):=(QM _ _).setCell (.inl AB) _;exact ⟨h.mods.trans hM (fun x hx => .inl (by simp at hx; rw [hx]; exact h.rbm)),zb h.st 4 _,h.coll.go hM (by simpa using h.rbl),h.rbl,h.rbm⟩
end
theorem ListAt.readL {α:Type} {R:zel α} {w:World} {L:List Nat} {k:Nat} {v:Value} {l:List α} (hk:∀ c x,R w L c x → c.length=k) (h:ListAt R w L v l) :
  ∃ ao cap,v = .slice ao l.length cap ∧ (0 < l.length → ∃ g,ao=some ⟨g,0,none⟩ ∧ g ∉ L ∧ l.length ≤ cap ∧ ∀ j (hj:j < l.length),∃ c,R w L c l[j] ∧ ∀ i u,c[i]? = some u → w.cell? ⟨g,j * k + i,none⟩ = some u):=by
 rcases h with ⟨rfl,rfl⟩ | ⟨g,cap,css,rfl,hg,hcap,hc,hA⟩
 ·exact ⟨none,0,rfl,fun h => by simp at h⟩
 ·refine ⟨_,_,rfl,fun _ => ⟨g,rfl,hg,hcap,fun j hj => ?_⟩⟩;obtain ⟨c,h1,h2⟩:=AllR.at hk hA j hj;exact ⟨c,h1,fun i u hi => hc _ u (h2 i u hi)⟩
theorem zi3 {q:zt} {env:List EC} {group:List Nat} {p k:Nat} (h:za5 env 0 q.items = .bad p k):zem q env group = .bad p k:=by unfold zem; rw [h]; rfl
theorem zlk {q:zt} {env:List EC} {group:List Nat} {r:List (NT × Bs)} (h:za5 env 0 q.items = .ok r) (hg:(decide (0 < q.group.length) || r.any (fun x => hasN x.1))=false):zem q env group = .ok ((if q.star=true then zbi env else []) ++ r,false):=by unfold zem; rw [h];show (if (decide (0 < q.group.length) || r.any (fun x => hasN x.1))=true then _ else _)=_;rw [hg,if_neg AD]
theorem zmX {q:zt} {env:List EC} {group:List Nat} {r:List (NT × Bs)} (h:za5 env 0 q.items = .ok r) (hg:(decide (0 < q.group.length) || r.any (fun x => hasN x.1))=true) (hs:q.star=true):zem q env group = .bad 0 4:=by unfold zem; rw [h];show (if (decide (0 < q.group.length) || r.any (fun x => hasN x.1))=true then _ else _)=_;rw [hg,if_pos rfl,if_pos hs]
theorem zll {q:zt} {env:List EC} {group:List Nat} {r:List (NT × Bs)} (h:za5 env 0 q.items = .ok r) (hg:(decide (0 < q.group.length) || r.any (fun x => hasN x.1))=true) (hs:q.star=false):zem q env group=(fitsQ group q.items (r.map (·.1))).bind fun _ => .ok (r,true):=by unfold zem; rw [h];show (if (decide (0 < q.group.length) || r.any (fun x => hasN x.1))=true then _ else _)=_;rw [hg,if_pos rfl,if_neg (by rw [hs]; decide)]
theorem zjS {q:zt} {env:List EC} {group:List Nat} {i:Nat} {r:List (NT × Bs)} {it:za2} {pos p1 e1:Nat} (h:ItemsGo env q.items i r) (hi:q.items[i]? = some it)
  (hc:zai (zq env it.e 0) (zaa (decide (i=64)) 4 it.e.hd.pos pos 0).1 (zaa (decide (i=64)) 4 it.e.hd.pos pos 0).2=(p1,e1)) (h1:e1 ≠ 0):zai (zem q env group) pos 0=(p1,e1):=by
 by_cases h64:i=64
 ·rw [zi3 (h.full hi h64)];rw [decide_eq_true h64,show zaa true 4 it.e.hd.pos pos 0=(it.e.hd.pos,4) from rfl,zbr _ AB] at hc;exact hc
 ·rw [decide_eq_false h64,zaw] at hc
  cases hx:zq env it.e 0 with
  | ok n => rw [hx,zaP] at hc; cases hc; exact absurd rfl h1
  | bad p k => rw [zi3 (h.bad hi h64 hx)]; rw [hx] at hc; exact hc
theorem zjT {env:List EC} {i:Nat} {it:za2} {pos p1:Nat}
  (hc:zai (zq env it.e 0) (zaa (decide (i=64)) 4 it.e.hd.pos pos 0).1 (zaa (decide (i=64)) 4 it.e.hd.pos pos 0).2=(p1,0)):i ≠ 64 ∧ (p1=pos ∧ zaa (decide (i=64)) 4 it.e.hd.pos pos 0=(pos,0)) ∧ ∃ n,zq env it.e 0 = .ok n:=by
 by_cases h64:i=64
 ·rw [decide_eq_true h64,show zaa true 4 it.e.hd.pos pos 0=(it.e.hd.pos,4) from rfl,zbr _ AB] at hc;cases hc
 ·rw [decide_eq_false h64,zaw] at hc;obtain ⟨-,hp,hn⟩:=zaU (zdZ env it.e 0) hc;exact ⟨h64,⟨hp,by rw [decide_eq_false h64,zaw]⟩,hn⟩
theorem zmY {q:zt} {env:List EC} {group:List Nat} {r:List (NT × Bs)} {n0 ns:List NT} {s0 ss:List Bs} {pos p e:Nat} (h:za5 env 0 q.items = .ok r) (hg:(decide (0 < q.group.length) || r.any (fun x => hasN x.1))=true)
  (h0:q.star=false → n0=[] ∧ s0=[]) (hns:ns=n0 ++ r.map (·.1)) (hss:ss=s0 ++ r.map (·.2)) (hr:r.length=q.items.length)
  (hc:zai (fitsQ group (q.items.take q.items.length) (ns.take q.items.length)) (zaa q.star 4 0 pos 0).1 (zaa q.star 4 0 pos 0).2=(p,e)) :
  zai (zem q env group) pos 0=(p,e) ∧ ∀ l g,zem q env group = .ok (l,g) → true=g ∧ ns=l.map (·.1) ∧ ss=l.map (·.2):=by
 cases hs:q.star with
 | true =>rw [hs,show zaa true 4 0 pos 0=(0,4) from rfl,zbr _ AB] at hc;rw [zmX h hg hs];exact ⟨hc,fun l g hl => by cases hl⟩
 | false =>
  obtain ⟨rfl,rfl⟩:=h0 hs;rw [List.nil_append] at hns hss;rw [hs,zaw,List.take_length,hns,List.take_of_length_le (by rw [List.length_map,hr]; exact LR _)] at hc;rw [zll h hg hs];refine ⟨(zey (fitsQ group q.items (r.map (·.1))) (fun _ => (r,true)) pos 0).trans hc,fun l g hl => ?_⟩
  cases hf:fitsQ group q.items (r.map (·.1)) with
  | bad p k => rw [hf] at hl; cases hl
  | ok u => rw [hf] at hl; cases hl; exact ⟨rfl,hns,hss⟩
theorem zlm {d:Nat} {h:Hd} {a b:Ty} {mk:NHd → NT} {n:NT} (hm:∀ x,(mk x).hd=x) (hf:zcX d h a b mk = .ok n):n.hd.op=h.op:=by
 unfold zcX at hf
 cases ht:zx h.op a b with
 | none => rw [ht] at hf; cases hf
 | some t =>
  rw [ht] at hf;simp only at hf;split at hf
  ·cases hf
  ·cases hf; rw [hm]
theorem zmZ {h:Hd} {n:NHd} (hc:zS h=some n):n.op=oValue:=by
 unfold zS at hc;split at hc
 ·cases hc; rfl
 ·split at hc
  ·cases hc; rfl
  ·split at hc
   ·cases hc; rfl
   ·split at hc
    ·cases hc; rfl
    ·cases hc
theorem zoP {env:List EC} {t:Tree} {d:Nat} {n:NT} (hf:formedT t=true) (hn:zq env t d = .ok n) (ho:n.hd.op=oColumn):n.hd.col < env.length:=by
 cases t with
 | leaf h =>
  unfold zq at hn
  cases hc:zS h with
  | some x =>rw [hc] at hn; cases hn;have:=zmZ hc;rw [show (NT.leaf x).hd=x from rfl,this] at ho;exact absurd ho AD
  | none =>
   rw [hc] at hn;simp only at hn;by_cases hop:h.op=oColumn
   ·rw [if_pos hop] at hn
    cases hq:zbF env h with
    | bad p k => rw [hq] at hn; cases hn
    | ok k => rw [hq] at hn; cases hn; exact zh5 hq
   ·rw [if_neg hop] at hn;rw [zlm (fun _ => rfl) hn] at ho;exact absurd ho hop
 | un h a =>
  unfold zq at hn
  cases hx:zq env a (zy d h) with
  | bad p k => rw [hx] at hn; cases hn
  | ok x =>rw [hx] at hn;have h1:=zlm (fun _ => rfl) (show zcX d h x.hd.t tyNone (fun n => NT.un n x) = .ok n from hn);rw [h1] at ho;have h2:zT h 1=true:=(Bool.and_eq_true_iff.1 (show (zT h 1 && formedT a)=true from hf)).1;exact ycs
 | bin h a b =>
  unfold zq at hn
  cases hx:zq env a (zy d h) with
  | bad p k => rw [hx] at hn; cases hn
  | ok x =>
   rw [hx] at hn;change ((zq env b (zy d h)).bind fun y => zcX d h x.hd.t y.hd.t (fun n => NT.bin n x y)) = .ok n at hn
   cases hy:zq env b (zy d h) with
   | bad p k => rw [hy] at hn; cases hn
   | ok y =>rw [hy] at hn;have h1:=zlm (fun _ => rfl) (show zcX d h x.hd.t y.hd.t (fun n => NT.bin n x y) = .ok n from hn);rw [h1] at ho;have h2:zT h 2=true:=(Bool.and_eq_true_iff.1 (show (zT h 2 && (formedT a && formedT b))=true from hf)).1;exact ycs
def GroupAt (w:World) (L:List Nat) (v:Value) (l:List Nat):Prop:=
 ∃ ao cap,v = .slice ao l.length cap ∧ (0 < l.length → ∃ g,ao=some ⟨g,0,none⟩ ∧ g ∉ L ∧ ∀ i (hi:i < l.length),w.cell? ⟨g,i,none⟩ = some (.int .i64 (l[i]:Nat)))
theorem GroupAt.mods {w w':World} {L:List Nat} {v:Value} {l:List Nat} (h:GroupAt w L v l) (hM:Mods L w w'):GroupAt w' L v l:=by
 obtain ⟨ao,cap,rfl,h⟩:=h
 exact ⟨ao,cap,rfl,fun h0 => by
  obtain ⟨g,h1,h2,h3⟩:=h h0
  exact ⟨g,h1,h2,fun i hi => hM.cell (h3 i hi) h2⟩⟩
theorem zed (c:Nat):∀ (l:List Nat),(l.map fun x:Nat => (x:Int)).contains (c:Int)=decide (c ∈ l)
 | [] => by simp
 | x :: l => by
  rw [List.map_cons,List.contains_cons,zed c l];by_cases h:c=x
  ·simp [h]
  ·have:((c:Int) == (x:Int))=false:=beq_eq_false_iff_ne.2 AA;rw [this];simp [h]
theorem zc2 (w:World) {L:List Nat} {v:Value} {l:List Nat} (h:GroupAt w L v l) (hl:l.length ≤ 1000000) (c:Nat) :
  Calls Tryz.prog 73 #[v,.int .i64 (c:Nat)] w fun e w' => e = .returned (.bool (decide (c ∈ l))) ∧ Mods [] w w':=by
 obtain ⟨ao,cap,rfl,h⟩:=h;rcases Nat.eq_zero_or_pos l.length with h0 | h0
 ·have hl:l=[]:=List.length_eq_zero_iff.1 h0;subst hl;exact (Tryz.slices_Contains_int_empty ao cap c w).mono fun e w' ⟨h1,h2⟩ => ⟨by rw [h1]; simp,by rw [h2]; exact QM _ _⟩
 ·obtain ⟨g,rfl,-,hc⟩:=h h0;refine (Tryz.slices_Contains_int g 0 l.length cap (l.map fun x:Nat => (x:Int)) c w AB AA (fun j hj => ?_)).mono fun e w' ⟨h1,h2⟩ => ⟨?_,by rw [h2]; exact QM _ _⟩
  ·have hj':j < l.length:=by simpa using hj
   rw [Nat.zero_add,hc j hj'];simp [List.getD_eq_getElem?_getD,List.getElem?_eq_getElem hj']
  ·rw [h1,List.take_of_length_le AB,zed]
theorem Coll.nodeAt {w W:World} {its nms:Value} {ns:List NT} {ss:List Bs} (h:Coll w W its nms ns ss) {k:Nat} {n:NT} (hk:ns[k]? = some n) :
  ∃ g cap b,its = .slice (some ⟨g,0,none⟩) ns.length cap ∧ w.heap.size ≤ g ∧ W.cell? ⟨g,k,none⟩ = some (zh b) ∧ NAt W [] (zh b) n ∧ ∀ L:List Nat,(∀ x ∈ L,x < w.heap.size) → NAt W L (zh b) n:=by
 have hkl:k < ns.length:=(List.getElem?_eq_some_iff.1 hk).1;have hkn:ns[k]=n:=(List.getElem?_eq_some_iff.1 hk).2;obtain ⟨css,h1,h2⟩:=h.rowI;have hlen:∀ (L:List Nat) (c:List Value) (x:NT),NodR W L c x → c.length=1:=fun L c x ⟨b,h,_⟩ => by rw [h]; rfl
 have hr:=fun L (hL:∀ x ∈ L,Far w its nms x) => AllR.at (k:=1) (hlen L) (h2 L hL) k hkl;obtain ⟨c,⟨b,rfl,-⟩,h4⟩:=hr [] AB;have h5:=h4 0 (zh b) rfl;rw [hkn] at hr;rcases h1.2 with ⟨hv,h0⟩ | hx
 ·omega
 ·obtain ⟨g,cap,cur,rfl,hx⟩:=hx;have hb:=(h.apart g rfl).1;have hall:∀ L:List Nat,(∀ x ∈ L,x < w.heap.size) → NAt W L (zh b) n:=fun L hL => by
   obtain ⟨c,⟨b',rfl,h6⟩,h7⟩:=hr L (fun x hx => .inl (hL x hx));have h8:=h7 0 (zh b') rfl;rw [h5] at h8;cases h8;exact h6
  refine ⟨g,cap,b,rfl,hb,?_,hall [] AB,hall⟩;have:=(zar h1).2.2 _ _ h5;simpa using this
end Go.Proofs.YtebljciefhfgbaaGreatDoor
