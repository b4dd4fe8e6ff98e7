/-
  check's plain lists, one by one from the left. No condition.
-/
import Derived.Test.YtcabeljiobiojaaGreatDoorQ31
set_option linter.unusedVariables false
set_option maxRecDepth 100000
set_option maxHeartbeats 8000000
namespace Go.Proofs.YtcabeljiobiojaaGreatDoor
open Go.RowKit
theorem yaZ {p:Prop} (h:p:=by
  have HR:=QH hr;clear hb hr;go_wp2_with fail;(with_reducible refine hc.mono ?_);rintro e w5 ⟨rfl,rfl⟩;clear hc;go_wp2_with fail;go_ret;exact ⟨zdQ (by rw [← HAK.out,HR.out]),hM⟩
 ):p:=h
theorem ybI {p:Prop} (h:p:=by
  refine zcK AC AC ?_;(repeat go_big_quiet_step (exact HK.out _));refine QW ?_;rintro _ ⟨kk,rfl⟩;go_wp2_with fail
  go_meet
  exact ⟨rfl,kk.mods⟩
 ):p:=h
theorem ycs {p:Prop} (h:p:=by
  unfold zT at h2;rw [ho,if_pos (show ops0.contains oColumn=true by decide)] at h2;simp at h2
 ):p:=h
theorem zbr {α:Type} (r:Chk α) {p e:Nat} (h:e ≠ 0):zai r p e=(p,e):=by unfold zai;rw [if_pos h]
theorem zli {α:Type} {c:Prop} [Decidable c] (a:α) (k p pos e:Nat):zai (if c then Chk.bad p k else Chk.ok a) pos e=zaa (decide c) k p pos e:=by
 by_cases he:e=0
 ·subst he;unfold zaa zai;by_cases h:c
  ·rw [if_neg AB,if_pos h,if_pos ⟨decide_eq_true h,rfl⟩]
  ·rw [if_neg AB,if_neg h,if_neg AR]
 ·rw [zbr _ he];unfold zaa;rw [if_neg (fun h => he h.2)]
theorem zfi (env:List EC) (a:Tree):∀ (l:List Tree),zbe env (l ++ [a])=(zbe env l).bind fun ks => (zbF env a.hd).bind fun k => .ok (ks ++ [k]):=by
 intro l
 induction l with
 | nil =>show (zbF env a.hd).bind _=(zbF env a.hd).bind _;cases zbF env a.hd <;> rfl
 | cons b l ih =>
  show (zbF env b.hd).bind _=((zbF env b.hd).bind _).bind _
  cases zbF env b.hd with
  | bad p k => rfl
  | ok x =>
   show (zbe env (l ++ [a])).bind _=((zbe env l).bind _).bind _;rw [ih]
   cases zbe env l with
   | bad p k => rfl
   | ok xs =>show ((zbF env a.hd).bind _).bind _=(zbF env a.hd).bind _;cases zbF env a.hd <;> rfl
theorem zez (env:List EC):∀ (l:List Tree),NZ (zbe env l):=by
 intro l
 induction l with
 | nil => exact NZ.ok _
 | cons a l ih => exact NZ.bind (fun p k hk => zgD hk) fun x _ => NZ.bind ih fun xs _ => NZ.ok _
theorem zi2 {env:List EC} {gs:List Tree} {i:Nat} {a:Tree} {pos e p1 e1:Nat} (h:zai (zbe env (gs.take i)) pos e=(p1,e1)) (ha:gs[i]? = some a):zai (zbe env (gs.take (i + 1))) pos e=zai (zbF env a.hd) p1 e1:=by rw [List.take_add_one,ha];show zai (zbe env (gs.take i ++ [a])) pos e=_;rw [zfi];exact zdB (zez env _) h fun xs _ => zey _ _ _ _
theorem zfj (items:List NT) (names:List Bs) (a:zfI):∀ (l:List zfI),za6 items names (l ++ [a])=(za6 items names l).bind fun ks => (keyQ items names a).bind fun k => .ok (ks ++ [k]):=by
 intro l
 induction l with
 | nil =>show (keyQ items names a).bind _=(keyQ items names a).bind _;cases keyQ items names a <;> rfl
 | cons b l ih =>
  show (keyQ items names b).bind _=((keyQ items names b).bind _).bind _
  cases keyQ items names b with
  | bad p k => rfl
  | ok x =>
   show (za6 items names (l ++ [a])).bind _=((za6 items names l).bind _).bind _;rw [ih]
   cases za6 items names l with
   | bad p k => rfl
   | ok xs =>show ((keyQ items names a).bind _).bind _=(keyQ items names a).bind _;cases keyQ items names a <;> rfl
def zfx (names:List Bs) (k:zfI):Int:=if k.name ≠ [] then (match names.findIdx? (· == k.name) with | some j => (j:Int) | none => -1) else k.item - 1
theorem zik (items:List NT) (names:List Bs) (k:zfI):keyQ items names k=if zfx names k < 0 ∨ (items.length:Int) ≤ zfx names k then .bad k.pos 13 else .ok ⟨(zfx names k).toNat,k.desc⟩:=rfl
theorem zoO (items:List NT) (names:List Bs) (k:zfI):NZ (keyQ items names k):=by
 rw [zik];split
 ·intro p e h; cases h; decide
 ·exact NZ.ok _
theorem zgP (items:List NT) (names:List Bs):∀ (l:List zfI),NZ (za6 items names l):=by
 intro l
 induction l with
 | nil => exact NZ.ok _
 | cons a l ih => exact NZ.bind (zoO _ _ _) fun x _ => NZ.bind ih fun xs _ => NZ.ok _
theorem zmV {items:List NT} {names:List Bs} {ks:List zfI} {i:Nat} {a:zfI} {pos e p1 e1:Nat} (h:zai (za6 items names (ks.take i)) pos e=(p1,e1)) (ha:ks[i]? = some a) :
  zai (za6 items names (ks.take (i + 1))) pos e=zaa (decide (zfx names a < 0 ∨ (items.length:Int) ≤ zfx names a)) 13 a.pos p1 e1:=by
 rw [List.take_add_one,ha];show zai (za6 items names (ks.take i ++ [a])) pos e=_;rw [zfj,zdB (r2:=keyQ items names a) (zgP _ _ _) h fun xs _ => zey _ _ _ _,zik];exact zli _ _ _ _ _
def offB (group:List Nat) (n:NT):Bool:=decide (aggOpB n.hd.op=false ∧ (n.hd.op ≠ oColumn ∨ n.hd.col ∉ group))
theorem zjR (group:List Nat) (i:za2) (n:NT):∀ (l:List za2) (ns:List NT),l.length=ns.length → fitsQ group (l ++ [i]) (ns ++ [n])=(fitsQ group l ns).bind fun _ => if aggOpB n.hd.op=false ∧ (n.hd.op ≠ oColumn ∨ n.hd.col ∉ group) then .bad i.e.hd.pos 4 else .ok ():=by
 intro l
 induction l with
 | nil =>
  intro ns h
  cases ns with
  | nil => rfl
  | cons x ns => cases h
 | cons b l ih =>
  intro ns h
  cases ns with
  | nil => cases h
  | cons x ns =>show (if _ then _ else fitsQ group (l ++ [i]) (ns ++ [n]))=(if _ then _ else fitsQ group l ns:Chk Unit).bind _;rw [ih ns AN];split <;> rfl
theorem zlj (group:List Nat):∀ (l:List za2) (ns:List NT),NZ (fitsQ group l ns):=by
 intro l
 induction l with
 | nil => intro ns; exact NZ.ok _
 | cons b l ih =>
  intro ns
  cases ns with
  | nil => exact NZ.ok _
  | cons x ns =>
   show NZ (if _ then _ else fitsQ group l ns);split
   ·exact NZ.four _
   ·exact ih ns
theorem zoe {group:List Nat} {its:List za2} {ns:List NT} {k:Nat} {i:za2} {n:NT} {pos e p1 e1:Nat} (h:zai (fitsQ group (its.take k) (ns.take k)) pos e=(p1,e1)) (hi:its[k]? = some i) (hn:ns[k]? = some n) :
  zai (fitsQ group (its.take (k + 1)) (ns.take (k + 1))) pos e=zaa (offB group n) 4 i.e.hd.pos p1 e1:=by
 have h1:k < its.length:=(List.getElem?_eq_some_iff.1 hi).1;have h2:k < ns.length:=(List.getElem?_eq_some_iff.1 hn).1;rw [List.take_add_one,List.take_add_one,hi,hn];show zai (fitsQ group (its.take k ++ [i]) (ns.take k ++ [n])) pos e=_;rw [zjR _ _ _ _ _ (by simp only [List.length_take]; omega)];exact (zdB (zlj _ _ _) h fun _ _ => rfl).trans (zli _ _ _ _ _)
def ItemsGo (env:List EC) (its:List za2) (i:Nat) (r:List (NT × Bs)):Prop:=za5 env 0 its=(za5 env i (its.drop i)).bind fun r' => .ok (r ++ r')
theorem ItemsGo.start (env:List EC) (its:List za2):ItemsGo env its 0 []:=by show za5 env 0 its=(za5 env 0 its).bind _;cases za5 env 0 its <;> rfl
theorem ItemsGo.drop {env:List EC} {its:List za2} {i:Nat} {it:za2} (hi:its[i]? = some it):its.drop i=it :: its.drop (i + 1):=by obtain ⟨h,rfl⟩:=List.getElem?_eq_some_iff.1 hi;exact List.drop_eq_getElem_cons h
theorem ItemsGo.step {env:List EC} {its:List za2} {i:Nat} {r:List (NT × Bs)} {it:za2} {n:NT} (h:ItemsGo env its i r) (hi:its[i]? = some it) (h64:i ≠ 64) (he:zq env it.e 0 = .ok n):ItemsGo env its (i + 1) (r ++ [(n,nameQ env i it n)]):=by
 unfold ItemsGo at h ⊢;rw [h,ItemsGo.drop (env:=env) hi];show (if i=64 then _ else (zq env it.e 0).bind _:Chk _).bind _=_;rw [if_neg h64,he];show ((za5 env (i + 1) (its.drop (i + 1))).bind _).bind _=_
 cases za5 env (i + 1) (its.drop (i + 1)) with
 | bad p k => rfl
 | ok r' =>show Chk.ok (r ++ ((n,nameQ env i it n) :: r'))=Chk.ok (r ++ [(n,nameQ env i it n)] ++ r');rw [List.append_assoc]; rfl
theorem ItemsGo.full {env:List EC} {its:List za2} {i:Nat} {r:List (NT × Bs)} {it:za2} (h:ItemsGo env its i r) (hi:its[i]? = some it) (h64:i=64):za5 env 0 its = .bad it.e.hd.pos 4:=by unfold ItemsGo at h;rw [h,ItemsGo.drop (env:=env) hi];show (if i=64 then _ else (zq env it.e 0).bind _:Chk _).bind _=_;rw [if_pos h64]; rfl
theorem ItemsGo.bad {env:List EC} {its:List za2} {i:Nat} {r:List (NT × Bs)} {it:za2} {p k:Nat} (h:ItemsGo env its i r) (hi:its[i]? = some it) (h64:i ≠ 64) (he:zq env it.e 0 = .bad p k):za5 env 0 its = .bad p k:=by unfold ItemsGo at h;rw [h,ItemsGo.drop (env:=env) hi];show (if i=64 then _ else (zq env it.e 0).bind _:Chk _).bind _=_;rw [if_neg h64,he]; rfl
theorem ItemsGo.fin {env:List EC} {its:List za2} {i:Nat} {r:List (NT × Bs)} (h:ItemsGo env its i r) (hi:its.length ≤ i):za5 env 0 its = .ok r:=by unfold ItemsGo at h;rw [h,List.drop_eq_nil_of_le hi];show Chk.ok (r ++ [])=_;rw [List.append_nil]
theorem zmW (env:List EC):∀ (l:List za2) (k:Nat),NZ (za5 env k l):=by
 intro l
 induction l with
 | nil => intro k; exact NZ.ok _
 | cons a l ih =>
  intro k;show NZ (if k=64 then _ else (zq env a.e 0).bind _);split
  ·exact NZ.four _
  ·exact NZ.bind (zdZ env _ _) fun x _ => NZ.bind (ih _) fun xs _ => NZ.ok _
theorem zaW {w:World} {b:Nat} {v:Value} (h:w.cell? ⟨b,0,none⟩ = some v):∀ (j:Nat) (u:Value),[v][j]? = some u → w.cell? ((⟨b,0,none⟩ : Addr).add j)=some u:=by
 intro j u hj
 cases j with
 | zero => cases hj; exact h
 | succ j => simp at hj
structure MakeK (Md:List Nat) (w W:World) (rb:Nat) (lf rt:Int) (von vwh:Value) (gr:Bool) (gv vo:Value) (lim off:Int) (ci cn its nms:Value) (ns:List NT) (ss:List Bs):Prop where
 mods:Mods Md w W
 st:CSt W rb lf rt von vwh gr gv ci cn vo lim off
 coll:Coll w W its nms ns ss
 rbl:rb < w.heap.size
 rbm:rb ∈ Md
section
variable {Md:List Nat} {w W:World} {rb:Nat} {lf rt:Int} {von vwh:Value} {gr:Bool} {gv vo:Value} {lim off:Int} {ci cn its nms:Value} {ns:List NT} {ss:List Bs}
theorem MakeK.later (h:MakeK Md w W rb lf rt von vwh gr gv vo lim off ci cn its nms ns ss) {W':World} (hM:Mods [] W W'):MakeK Md w W' rb lf rt von vwh gr gv vo lim off ci cn its nms ns ss:=
 ⟨h.mods.trans hM,hM.heap h.st,h.coll.go hM AB,h.rbl,h.rbm⟩
theorem MakeK.past (h:MakeK Md w W rb lf rt von vwh gr gv vo lim off ci cn its nms ns ss) {W':World} {sb:Nat} (hM:Mods [sb] W W') (hs:sb ∈ Md) (hl:sb < w.heap.size) (hne:sb ≠ rb):MakeK Md w W' rb lf rt von vwh gr gv vo lim off ci cn its nms ns ss:=
 ⟨h.mods.trans hM (fun x hx => .inl (by simp at hx; rw [hx]; exact hs)),hM.heap h.st (by simpa using Ne.symm hne),h.coll.go hM (by simpa using hl),h.rbl,h.rbm⟩
theorem MakeK.node (h:MakeK Md w W rb lf rt von vwh gr gv vo lim off ci cn its nms ns ss) {W':World} {css:List (List Value)} (hcs:∀ L:List Nat,(∀ x ∈ L,Far w its nms x) → AllR NodR W L css ns) {b:Nat} {n:NT} (hn:∀ L:List Nat,(∀ x ∈ L,Far w its nms x) → NAt W L (zh b) n) {g cap k:Nat} (hk:ns.length=k)
  (hown:W'.ownsRow 0 51 1 (.slice (some ⟨g,0,none⟩) (k + 1) cap) (k + 1) (css.flatten ++ [zh b])) (hM:Mods its.ownBlock.toList W W') (hg:its.ownBlock=some g ∨ W.heap.size ≤ g):MakeK Md w W' rb lf rt von vwh gr gv vo lim off ci cn (.slice (some ⟨g,0,none⟩) (k + 1) cap) nms (ns ++ [n]) ss:=
 ⟨h.mods.trans hM (fun x hx => .inr (h.coll.apart x AJ).1),hM.heap h.st (fun hm => Nat.lt_irrefl _ (LL h.rbl (h.coll.apart rb AH).1)),h.coll.node hcs hn hk hown hM hg,h.rbl,h.rbm⟩
theorem MakeK.name (h:MakeK Md w W rb lf rt von vwh gr gv vo lim off ci cn its nms ns ss) {W':World} {s:Bs} {g cap k:Nat} (hk:ss.length=k)
  (hown:W'.ownsRow 0 9 1 (.slice (some ⟨g,0,none⟩) (k + 1) cap) (k + 1) ((ss.map fun s => Value.string ⟨s.toArray⟩) ++ [.string ⟨s.toArray⟩])) (hM:Mods nms.ownBlock.toList W W') (hg:nms.ownBlock=some g ∨ W.heap.size ≤ g):MakeK Md w W' rb lf rt von vwh gr gv vo lim off ci cn its (.slice (some ⟨g,0,none⟩) (k + 1) cap) ns (ss ++ [s]):=
 ⟨h.mods.trans hM (fun x hx => .inr (h.coll.later x AJ)),hM.heap h.st (fun hm => Nat.lt_irrefl _ (LL h.rbl (h.coll.later rb AH))),h.coll.name hk hown hM hg,h.rbl,h.rbm⟩
theorem MakeK.lay (h:MakeK Md w W rb lf rt von vwh gr gv vo lim off ci cn its nms ns ss):MakeK Md w ((W.setCell ⟨rb,6,none⟩ its).setCell ⟨rb,7,none⟩ nms) rb lf rt von vwh gr gv vo lim off its nms its nms ns ss:=by have hM:Mods [rb] W ((W.setCell ⟨rb,6,none⟩ its).setCell ⟨rb,7,none⟩ nms):=((QM _ _).setCell (.inl AB) _).setCell (.inl AB) _;exact ⟨h.mods.trans hM (fun x hx => .inl (by simp at hx; rw [hx]; exact h.rbm)),zb (zb h.st 6 its) 7 nms,h.coll.go hM (by simpa using h.rbl),h.rbl,h.rbm⟩
theorem MakeK.group (h:MakeK Md w W rb lf rt von vwh gr gv vo lim off ci cn its nms ns ss) (g2:Bool):MakeK Md w (W.setCell ⟨rb,4,none⟩ (.bool g2)) rb lf rt von vwh g2 gv vo lim off ci cn its nms ns ss:=by have hM:Mods [rb] W (W.setCell ⟨rb,4,none⟩ (.bool g2)):=(QM _ _).setCell (.inl AB) _;exact ⟨h.mods.trans hM (fun x hx => .inl (by simp at hx; rw [hx]; exact h.rbm)),zb h.st 4 _,h.coll.go hM (by simpa using h.rbl),h.rbl,h.rbm⟩
end
theorem ListAt.readL {α:Type} {R:zel α} {w:World} {L:List Nat} {k:Nat} {v:Value} {l:List α} (hk:∀ c x,R w L c x → c.length=k) (h:ListAt R w L v l) :
  ∃ ao cap,v = .slice ao l.length cap ∧ (0 < l.length → ∃ g,ao=some ⟨g,0,none⟩ ∧ g ∉ L ∧ l.length ≤ cap ∧ ∀ j (hj:j < l.length),∃ c,R w L c l[j] ∧ ∀ i u,c[i]? = some u → w.cell? ⟨g,j * k + i,none⟩ = some u):=by
 rcases h with ⟨rfl,rfl⟩ | ⟨g,cap,css,rfl,hg,hcap,hc,hA⟩
 ·exact ⟨none,0,rfl,fun h => by simp at h⟩
 ·refine ⟨_,_,rfl,fun _ => ⟨g,rfl,hg,hcap,fun j hj => ?_⟩⟩;obtain ⟨c,h1,h2⟩:=AllR.at hk hA j hj;exact ⟨c,h1,fun i u hi => hc _ u (h2 i u hi)⟩
theorem zi3 {q:zt} {env:List EC} {group:List Nat} {p k:Nat} (h:za5 env 0 q.items = .bad p k):zem q env group = .bad p k:=by unfold zem; rw [h]; rfl
theorem zlk {q:zt} {env:List EC} {group:List Nat} {r:List (NT × Bs)} (h:za5 env 0 q.items = .ok r) (hg:(decide (0 < q.group.length) || r.any (fun x => hasN x.1))=false):zem q env group = .ok ((if q.star=true then zbi env else []) ++ r,false):=by unfold zem; rw [h];show (if (decide (0 < q.group.length) || r.any (fun x => hasN x.1))=true then _ else _)=_;rw [hg,if_neg AD]
theorem zmX {q:zt} {env:List EC} {group:List Nat} {r:List (NT × Bs)} (h:za5 env 0 q.items = .ok r) (hg:(decide (0 < q.group.length) || r.any (fun x => hasN x.1))=true) (hs:q.star=true):zem q env group = .bad 0 4:=by unfold zem; rw [h];show (if (decide (0 < q.group.length) || r.any (fun x => hasN x.1))=true then _ else _)=_;rw [hg,if_pos rfl,if_pos hs]
theorem zll {q:zt} {env:List EC} {group:List Nat} {r:List (NT × Bs)} (h:za5 env 0 q.items = .ok r) (hg:(decide (0 < q.group.length) || r.any (fun x => hasN x.1))=true) (hs:q.star=false):zem q env group=(fitsQ group q.items (r.map (·.1))).bind fun _ => .ok (r,true):=by unfold zem; rw [h];show (if (decide (0 < q.group.length) || r.any (fun x => hasN x.1))=true then _ else _)=_;rw [hg,if_pos rfl,if_neg (by rw [hs]; decide)]
theorem zjS {q:zt} {env:List EC} {group:List Nat} {i:Nat} {r:List (NT × Bs)} {it:za2} {pos p1 e1:Nat} (h:ItemsGo env q.items i r) (hi:q.items[i]? = some it)
  (hc:zai (zq env it.e 0) (zaa (decide (i=64)) 4 it.e.hd.pos pos 0).1 (zaa (decide (i=64)) 4 it.e.hd.pos pos 0).2=(p1,e1)) (h1:e1 ≠ 0):zai (zem q env group) pos 0=(p1,e1):=by
 by_cases h64:i=64
 ·rw [zi3 (h.full hi h64)];rw [decide_eq_true h64,show zaa true 4 it.e.hd.pos pos 0=(it.e.hd.pos,4) from rfl,zbr _ AB] at hc;exact hc
 ·rw [decide_eq_false h64,zaw] at hc
  cases hx:zq env it.e 0 with
  | ok n => rw [hx,zaP] at hc; cases hc; exact absurd rfl h1
  | bad p k => rw [zi3 (h.bad hi h64 hx)]; rw [hx] at hc; exact hc
theorem zjT {env:List EC} {i:Nat} {it:za2} {pos p1:Nat}
  (hc:zai (zq env it.e 0) (zaa (decide (i=64)) 4 it.e.hd.pos pos 0).1 (zaa (decide (i=64)) 4 it.e.hd.pos pos 0).2=(p1,0)):i ≠ 64 ∧ (p1=pos ∧ zaa (decide (i=64)) 4 it.e.hd.pos pos 0=(pos,0)) ∧ ∃ n,zq env it.e 0 = .ok n:=by
 by_cases h64:i=64
 ·rw [decide_eq_true h64,show zaa true 4 it.e.hd.pos pos 0=(it.e.hd.pos,4) from rfl,zbr _ AB] at hc;cases hc
 ·rw [decide_eq_false h64,zaw] at hc;obtain ⟨-,hp,hn⟩:=zaU (zdZ env it.e 0) hc;exact ⟨h64,⟨hp,by rw [decide_eq_false h64,zaw]⟩,hn⟩
theorem zmY {q:zt} {env:List EC} {group:List Nat} {r:List (NT × Bs)} {n0 ns:List NT} {s0 ss:List Bs} {pos p e:Nat} (h:za5 env 0 q.items = .ok r) (hg:(decide (0 < q.group.length) || r.any (fun x => hasN x.1))=true)
  (h0:q.star=false → n0=[] ∧ s0=[]) (hns:ns=n0 ++ r.map (·.1)) (hss:ss=s0 ++ r.map (·.2)) (hr:r.length=q.items.length)
  (hc:zai (fitsQ group (q.items.take q.items.length) (ns.take q.items.length)) (zaa q.star 4 0 pos 0).1 (zaa q.star 4 0 pos 0).2=(p,e)) :
  zai (zem q env group) pos 0=(p,e) ∧ ∀ l g,zem q env group = .ok (l,g) → true=g ∧ ns=l.map (·.1) ∧ ss=l.map (·.2):=by
 cases hs:q.star with
 | true =>rw [hs,show zaa true 4 0 pos 0=(0,4) from rfl,zbr _ AB] at hc;rw [zmX h hg hs];exact ⟨hc,fun l g hl => by cases hl⟩
 | false =>
  obtain ⟨rfl,rfl⟩:=h0 hs;rw [List.nil_append] at hns hss;rw [hs,zaw,List.take_length,hns,List.take_of_length_le (by rw [List.length_map,hr]; exact LR _)] at hc;rw [zll h hg hs];refine ⟨(zey (fitsQ group q.items (r.map (·.1))) (fun _ => (r,true)) pos 0).trans hc,fun l g hl => ?_⟩
  cases hf:fitsQ group q.items (r.map (·.1)) with
  | bad p k => rw [hf] at hl; cases hl
  | ok u => rw [hf] at hl; cases hl; exact ⟨rfl,hns,hss⟩
theorem zlm {d:Nat} {h:Hd} {a b:Ty} {mk:NHd → NT} {n:NT} (hm:∀ x,(mk x).hd=x) (hf:zcX d h a b mk = .ok n):n.hd.op=h.op:=by
 unfold zcX at hf
 cases ht:zx h.op a b with
 | none => rw [ht] at hf; cases hf
 | some t =>
  rw [ht] at hf;simp only at hf;split at hf
  ·cases hf
  ·cases hf; rw [hm]
theorem zmZ {h:Hd} {n:NHd} (hc:zS h=some n):n.op=oValue:=by
 unfold zS at hc;split at hc
 ·cases hc; rfl
 ·split at hc
  ·cases hc; rfl
  ·split at hc
   ·cases hc; rfl
   ·split at hc
    ·cases hc; rfl
    ·cases hc
theorem zoP {env:List EC} {t:Tree} {d:Nat} {n:NT} (hf:formedT t=true) (hn:zq env t d = .ok n) (ho:n.hd.op=oColumn):n.hd.col < env.length:=by
 cases t with
 | leaf h =>
  unfold zq at hn
  cases hc:zS h with
  | some x =>rw [hc] at hn; cases hn;have:=zmZ hc;rw [show (NT.leaf x).hd=x from rfl,this] at ho;exact absurd ho AD
  | none =>
   rw [hc] at hn;simp only at hn;by_cases hop:h.op=oColumn
   ·rw [if_pos hop] at hn
    cases hq:zbF env h with
    | bad p k => rw [hq] at hn; cases hn
    | ok k => rw [hq] at hn; cases hn; exact zh5 hq
   ·rw [if_neg hop] at hn;rw [zlm (fun _ => rfl) hn] at ho;exact absurd ho hop
 | un h a =>
  unfold zq at hn
  cases hx:zq env a (zy d h) with
  | bad p k => rw [hx] at hn; cases hn
  | ok x =>rw [hx] at hn;have h1:=zlm (fun _ => rfl) (show zcX d h x.hd.t tyNone (fun n => NT.un n x) = .ok n from hn);rw [h1] at ho;have h2:zT h 1=true:=(Bool.and_eq_true_iff.1 (show (zT h 1 && formedT a)=true from hf)).1;exact ycs
 | bin h a b =>
  unfold zq at hn
  cases hx:zq env a (zy d h) with
  | bad p k => rw [hx] at hn; cases hn
  | ok x =>
   rw [hx] at hn;change ((zq env b (zy d h)).bind fun y => zcX d h x.hd.t y.hd.t (fun n => NT.bin n x y)) = .ok n at hn
   cases hy:zq env b (zy d h) with
   | bad p k => rw [hy] at hn; cases hn
   | ok y =>rw [hy] at hn;have h1:=zlm (fun _ => rfl) (show zcX d h x.hd.t y.hd.t (fun n => NT.bin n x y) = .ok n from hn);rw [h1] at ho;have h2:zT h 2=true:=(Bool.and_eq_true_iff.1 (show (zT h 2 && (formedT a && formedT b))=true from hf)).1;exact ycs
def GroupAt (w:World) (L:List Nat) (v:Value) (l:List Nat):Prop:=
 ∃ ao cap,v = .slice ao l.length cap ∧ (0 < l.length → ∃ g,ao=some ⟨g,0,none⟩ ∧ g ∉ L ∧ ∀ i (hi:i < l.length),w.cell? ⟨g,i,none⟩ = some (.int .i64 (l[i]:Nat)))
theorem GroupAt.mods {w w':World} {L:List Nat} {v:Value} {l:List Nat} (h:GroupAt w L v l) (hM:Mods L w w'):GroupAt w' L v l:=by
 obtain ⟨ao,cap,rfl,h⟩:=h
 exact ⟨ao,cap,rfl,fun h0 => by
  obtain ⟨g,h1,h2,h3⟩:=h h0
  exact ⟨g,h1,h2,fun i hi => hM.cell (h3 i hi) h2⟩⟩
theorem zed (c:Nat):∀ (l:List Nat),(l.map fun x:Nat => (x:Int)).contains (c:Int)=decide (c ∈ l)
 | [] => by simp
 | x :: l => by
  rw [List.map_cons,List.contains_cons,zed c l];by_cases h:c=x
  ·simp [h]
  ·have:((c:Int) == (x:Int))=false:=beq_eq_false_iff_ne.2 AA;rw [this];simp [h]
theorem zc2 (w:World) {L:List Nat} {v:Value} {l:List Nat} (h:GroupAt w L v l) (hl:l.length ≤ 1000000) (c:Nat) :
  Calls Tryz.prog 71 #[v,.int .i64 (c:Nat)] w fun e w' => e = .returned (.bool (decide (c ∈ l))) ∧ Mods [] w w':=by
 obtain ⟨ao,cap,rfl,h⟩:=h;rcases Nat.eq_zero_or_pos l.length with h0 | h0
 ·have hl:l=[]:=List.length_eq_zero_iff.1 h0;subst hl;exact (Tryz.slices_Contains_int_empty ao cap c w).mono fun e w' ⟨h1,h2⟩ => ⟨by rw [h1]; simp,by rw [h2]; exact QM _ _⟩
 ·obtain ⟨g,rfl,-,hc⟩:=h h0;refine (Tryz.slices_Contains_int g 0 l.length cap (l.map fun x:Nat => (x:Int)) c w AB AA (fun j hj => ?_)).mono fun e w' ⟨h1,h2⟩ => ⟨?_,by rw [h2]; exact QM _ _⟩
  ·have hj':j < l.length:=by simpa using hj
   rw [Nat.zero_add,hc j hj'];simp [List.getD_eq_getElem?_getD,List.getElem?_eq_getElem hj']
  ·rw [h1,List.take_of_length_le AB,zed]
theorem Coll.nodeAt {w W:World} {its nms:Value} {ns:List NT} {ss:List Bs} (h:Coll w W its nms ns ss) {k:Nat} {n:NT} (hk:ns[k]? = some n) :
  ∃ g cap b,its = .slice (some ⟨g,0,none⟩) ns.length cap ∧ w.heap.size ≤ g ∧ W.cell? ⟨g,k,none⟩ = some (zh b) ∧ NAt W [] (zh b) n ∧ ∀ L:List Nat,(∀ x ∈ L,x < w.heap.size) → NAt W L (zh b) n:=by
 have hkl:k < ns.length:=(List.getElem?_eq_some_iff.1 hk).1;have hkn:ns[k]=n:=(List.getElem?_eq_some_iff.1 hk).2;obtain ⟨css,h1,h2⟩:=h.rowI;have hlen:∀ (L:List Nat) (c:List Value) (x:NT),NodR W L c x → c.length=1:=fun L c x ⟨b,h,_⟩ => by rw [h]; rfl
 have hr:=fun L (hL:∀ x ∈ L,Far w its nms x) => AllR.at (k:=1) (hlen L) (h2 L hL) k hkl;obtain ⟨c,⟨b,rfl,-⟩,h4⟩:=hr [] AB;have h5:=h4 0 (zh b) rfl;rw [hkn] at hr;rcases h1.2 with ⟨hv,h0⟩ | hx
 ·omega
 ·obtain ⟨g,cap,cur,rfl,hx⟩:=hx;have hb:=(h.apart g rfl).1;have hall:∀ L:List Nat,(∀ x ∈ L,x < w.heap.size) → NAt W L (zh b) n:=fun L hL => by
   obtain ⟨c,⟨b',rfl,h6⟩,h7⟩:=hr L (fun x hx => .inl (hL x hx));have h8:=h7 0 (zh b') rfl;rw [h5] at h8;cases h8;exact h6
  refine ⟨g,cap,b,rfl,hb,?_,hall [] AB,hall⟩;have:=(zar h1).2.2 _ _ h5;simpa using this
def za7 (l:List Bs):List ByteArray:=l.map fun x => ⟨x.toArray⟩
theorem zgQ (l:List Bs) (op:Bs):Lib.containsS (za7 l) ⟨op.toArray⟩ = l.contains op:=by
 rw [Bool.eq_iff_iff,Lib.containsS_iff];unfold za7;rw [List.contains_iff_mem,List.mem_map];constructor
 ·rintro ⟨x,hx,he⟩;obtain rfl:x=op:=by simpa using he
  exact hx
 ·intro hm;exact ⟨op,hm,rfl⟩
def zcs (op:Bs):Int:=if ops0.contains op=true then 0 else if ops1.contains op=true then 1 else if ops2.contains op=true then 2 else -1
def notIn (op:Bs) (i:Nat):Prop:=(0 < i → ops0.contains op=false) ∧ (1 < i → ops1.contains op=false) ∧ (2 < i → ops2.contains op=false)
theorem zln (w:World) (op:Bs):Calls Tryz.prog 93 #[.string ⟨op.toArray⟩] w fun e w' => e = .returned (.int .i64 (zcs op)) ∧ Mods [] w w':=by
 have hM:=((((QM [] w).alloc (.cells #[.string ⟨#[110,117,109,98,101,114]⟩,.string ⟨#[116,101,120,116]⟩,.string ⟨#[98,111,111,108]⟩,.string ⟨#[110,117,108,108]⟩,.string ⟨#[99,111,108,117,109,110]⟩,.string ⟨#[99,111,117,110,116,97,108,108]⟩] 9)).alloc (.cells #[.string ⟨#[110,101,103]⟩,.string ⟨#[110,111,116]⟩,.string ⟨#[105,115,110,117,108,108]⟩,.string ⟨#[110,111,116,110,117,108,108]⟩,.string ⟨#[99,111,117,110,116]⟩,.string ⟨#[115,117,109]⟩,.string ⟨#[109,105,110]⟩,.string ⟨#[109,97,120]⟩] 9)).alloc (.cells #[.string ⟨#[111,114]⟩,.string ⟨#[97,110,100]⟩,.string ⟨#[61]⟩,.string ⟨#[60,62]⟩,.string ⟨#[60]⟩,.string ⟨#[60,61]⟩,.string ⟨#[62]⟩,.string ⟨#[62,61]⟩,.string ⟨#[43]⟩,.string ⟨#[45]⟩,.string ⟨#[42]⟩,.string ⟨#[47]⟩] 9)).alloc (.cells #[.slice (some ⟨w.heap.size,0,none⟩) 6 6,.slice (some ⟨w.heap.size + 1,0,none⟩) 8 8,.slice (some ⟨w.heap.size + 1 + 1,0,none⟩) 12 12] 53);have b0:=((((QM [] (w.alloc (.cells #[.string ⟨#[110,117,109,98,101,114]⟩,.string ⟨#[116,101,120,116]⟩,.string ⟨#[98,111,111,108]⟩,.string ⟨#[110,117,108,108]⟩,.string ⟨#[99,111,108,117,109,110]⟩,.string ⟨#[99,111,117,110,116,97,108,108]⟩] 9))).alloc (.cells #[.string ⟨#[110,101,103]⟩,.string ⟨#[110,111,116]⟩,.string ⟨#[105,115,110,117,108,108]⟩,.string ⟨#[110,111,116,110,117,108,108]⟩,.string ⟨#[99,111,117,110,116]⟩,.string ⟨#[115,117,109]⟩,.string ⟨#[109,105,110]⟩,.string ⟨#[109,97,120]⟩] 9)).alloc (.cells #[.string ⟨#[111,114]⟩,.string ⟨#[97,110,100]⟩,.string ⟨#[61]⟩,.string ⟨#[60,62]⟩,.string ⟨#[60]⟩,.string ⟨#[60,61]⟩,.string ⟨#[62]⟩,.string ⟨#[62,61]⟩,.string ⟨#[43]⟩,.string ⟨#[45]⟩,.string ⟨#[42]⟩,.string ⟨#[47]⟩] 9)).alloc (.cells #[.slice (some ⟨w.heap.size,0,none⟩) 6 6,.slice (some ⟨w.heap.size + 1,0,none⟩) 8 8,.slice (some ⟨w.heap.size + 1 + 1,0,none⟩) 12 12] 53)).heap (QN w _);have b1:=(((QM [] ((w.alloc (.cells #[.string ⟨#[110,117,109,98,101,114]⟩,.string ⟨#[116,101,120,116]⟩,.string ⟨#[98,111,111,108]⟩,.string ⟨#[110,117,108,108]⟩,.string ⟨#[99,111,108,117,109,110]⟩,.string ⟨#[99,111,117,110,116,97,108,108]⟩] 9)).alloc (.cells #[.string ⟨#[110,101,103]⟩,.string ⟨#[110,111,116]⟩,.string ⟨#[105,115,110,117,108,108]⟩,.string ⟨#[110,111,116,110,117,108,108]⟩,.string ⟨#[99,111,117,110,116]⟩,.string ⟨#[115,117,109]⟩,.string ⟨#[109,105,110]⟩,.string ⟨#[109,97,120]⟩] 9))).alloc (.cells #[.string ⟨#[111,114]⟩,.string ⟨#[97,110,100]⟩,.string ⟨#[61]⟩,.string ⟨#[60,62]⟩,.string ⟨#[60]⟩,.string ⟨#[60,61]⟩,.string ⟨#[62]⟩,.string ⟨#[62,61]⟩,.string ⟨#[43]⟩,.string ⟨#[45]⟩,.string ⟨#[42]⟩,.string ⟨#[47]⟩] 9)).alloc (.cells #[.slice (some ⟨w.heap.size,0,none⟩) 6 6,.slice (some ⟨w.heap.size + 1,0,none⟩) 8 8,.slice (some ⟨w.heap.size + 1 + 1,0,none⟩) 12 12] 53)).heap (QN (w.alloc (.cells #[.string ⟨#[110,117,109,98,101,114]⟩,.string ⟨#[116,101,120,116]⟩,.string ⟨#[98,111,111,108]⟩,.string ⟨#[110,117,108,108]⟩,.string ⟨#[99,111,108,117,109,110]⟩,.string ⟨#[99,111,117,110,116,97,108,108]⟩] 9)) _) AB;have b2:=((QM [] (((w.alloc (.cells #[.string ⟨#[110,117,109,98,101,114]⟩,.string ⟨#[116,101,120,116]⟩,.string ⟨#[98,111,111,108]⟩,.string ⟨#[110,117,108,108]⟩,.string ⟨#[99,111,108,117,109,110]⟩,.string ⟨#[99,111,117,110,116,97,108,108]⟩] 9)).alloc (.cells #[.string ⟨#[110,101,103]⟩,.string ⟨#[110,111,116]⟩,.string ⟨#[105,115,110,117,108,108]⟩,.string ⟨#[110,111,116,110,117,108,108]⟩,.string ⟨#[99,111,117,110,116]⟩,.string ⟨#[115,117,109]⟩,.string ⟨#[109,105,110]⟩,.string ⟨#[109,97,120]⟩] 9)).alloc (.cells #[.string ⟨#[111,114]⟩,.string ⟨#[97,110,100]⟩,.string ⟨#[61]⟩,.string ⟨#[60,62]⟩,.string ⟨#[60]⟩,.string ⟨#[60,61]⟩,.string ⟨#[62]⟩,.string ⟨#[62,61]⟩,.string ⟨#[43]⟩,.string ⟨#[45]⟩,.string ⟨#[42]⟩,.string ⟨#[47]⟩] 9))).alloc (.cells #[.slice (some ⟨w.heap.size,0,none⟩) 6 6,.slice (some ⟨w.heap.size + 1,0,none⟩) 8 8,.slice (some ⟨w.heap.size + 1 + 1,0,none⟩) 12 12] 53)).heap (QN ((w.alloc (.cells #[.string ⟨#[110,117,109,98,101,114]⟩,.string ⟨#[116,101,120,116]⟩,.string ⟨#[98,111,111,108]⟩,.string ⟨#[110,117,108,108]⟩,.string ⟨#[99,111,108,117,109,110]⟩,.string ⟨#[99,111,117,110,116,97,108,108]⟩] 9)).alloc (.cells #[.string ⟨#[110,101,103]⟩,.string ⟨#[110,111,116]⟩,.string ⟨#[105,115,110,117,108,108]⟩,.string ⟨#[110,111,116,110,117,108,108]⟩,.string ⟨#[99,111,117,110,116]⟩,.string ⟨#[115,117,109]⟩,.string ⟨#[109,105,110]⟩,.string ⟨#[109,97,120]⟩] 9)) _) AB;have b3:=QN (((w.alloc (.cells #[.string ⟨#[110,117,109,98,101,114]⟩,.string ⟨#[116,101,120,116]⟩,.string ⟨#[98,111,111,108]⟩,.string ⟨#[110,117,108,108]⟩,.string ⟨#[99,111,108,117,109,110]⟩,.string ⟨#[99,111,117,110,116,97,108,108]⟩] 9)).alloc (.cells #[.string ⟨#[110,101,103]⟩,.string ⟨#[110,111,116]⟩,.string ⟨#[105,115,110,117,108,108]⟩,.string ⟨#[110,111,116,110,117,108,108]⟩,.string ⟨#[99,111,117,110,116]⟩,.string ⟨#[115,117,109]⟩,.string ⟨#[109,105,110]⟩,.string ⟨#[109,97,120]⟩] 9)).alloc (.cells #[.string ⟨#[111,114]⟩,.string ⟨#[97,110,100]⟩,.string ⟨#[61]⟩,.string ⟨#[60,62]⟩,.string ⟨#[60]⟩,.string ⟨#[60,61]⟩,.string ⟨#[62]⟩,.string ⟨#[62,61]⟩,.string ⟨#[43]⟩,.string ⟨#[45]⟩,.string ⟨#[42]⟩,.string ⟨#[47]⟩] 9)) (.cells #[.slice (some ⟨w.heap.size,0,none⟩) 6 6,.slice (some ⟨w.heap.size + 1,0,none⟩) 8 8,.slice (some ⟨w.heap.size + 1 + 1,0,none⟩) 12 12] 53);simp only [zl] at b1 b2 b3;obtain ⟨S,hS⟩:=EX ((⟨op.toArray⟩ : ByteArray):ByteArray);have HS:=QH hS;rw [hS];clear hS;obtain ⟨ak,hak⟩:=EX (zcs op);rw [hak];have HAK:=QH hak;clear hak;have HB:=QH (AI hM (AI b0 (AI b1 (AI b2 b3))));clear hM b0 b1 b2 b3;go_enter Tryz.func93, Tryz.ntmps93;go_wp2_with fail;obtain ⟨hM,b0,b1,b2,b3⟩:=HB.out;clear HB;generalize (((w.alloc (.cells #[.string ⟨#[110,117,109,98,101,114]⟩,.string ⟨#[116,101,120,116]⟩,.string ⟨#[98,111,111,108]⟩,.string ⟨#[110,117,108,108]⟩,.string ⟨#[99,111,108,117,109,110]⟩,.string ⟨#[99,111,117,110,116,97,108,108]⟩] 9)).alloc (.cells #[.string ⟨#[110,101,103]⟩,.string ⟨#[110,111,116]⟩,.string ⟨#[105,115,110,117,108,108]⟩,.string ⟨#[110,111,116,110,117,108,108]⟩,.string ⟨#[99,111,117,110,116]⟩,.string ⟨#[115,117,109]⟩,.string ⟨#[109,105,110]⟩,.string ⟨#[109,97,120]⟩] 9)).alloc (.cells #[.string ⟨#[111,114]⟩,.string ⟨#[97,110,100]⟩,.string ⟨#[61]⟩,.string ⟨#[60,62]⟩,.string ⟨#[60]⟩,.string ⟨#[60,61]⟩,.string ⟨#[62]⟩,.string ⟨#[62,61]⟩,.string ⟨#[43]⟩,.string ⟨#[45]⟩,.string ⟨#[42]⟩,.string ⟨#[47]⟩] 9)).alloc (.cells #[.slice (some ⟨w.heap.size,0,none⟩) 6 6,.slice (some ⟨w.heap.size + 1,0,none⟩) 8 8,.slice (some ⟨w.heap.size + 1 + 1,0,none⟩) 12 12] 53)=w4 at *;have k0:=za b3 0;have k1:=za b3 1;have k2:=za b3 2;change w4.cell? _=some (.slice (some ⟨w.heap.size,0,none⟩) 6 6) at k0;change w4.cell? _=some (.slice (some ⟨w.heap.size + 1,0,none⟩) 8 8) at k1;change w4.cell? _=some (.slice (some ⟨w.heap.size + 1 + 1,0,none⟩) 12 12) at k2
 have c0:= Tryz.slices_Contains_string w.heap.size 0 6 6 (za7 ops0) S w4 AD AD (fun j hj => by
  rw [Nat.zero_add,za b0 j];have h5:j=0 ∨ j=1 ∨ j=2 ∨ j=3 ∨ j=4 ∨ j=5:=by simp [za7,ops0] at hj; omega
  rcases h5 with rfl | rfl | rfl | rfl | rfl | rfl <;> rfl)
 have c1:= Tryz.slices_Contains_string (w.heap.size + 1) 0 8 8 (za7 ops1) S w4 AD AD (fun j hj => by
  rw [Nat.zero_add,za b1 j];have h5:j=0 ∨ j=1 ∨ j=2 ∨ j=3 ∨ j=4 ∨ j=5 ∨ j=6 ∨ j=7:=by simp [za7,ops1] at hj; omega
  rcases h5 with rfl | rfl | rfl | rfl | rfl | rfl | rfl | rfl <;> rfl)
 have c2:= Tryz.slices_Contains_string (w.heap.size + 1 + 1) 0 12 12 (za7 ops2) S w4 AD AD (fun j hj => by
  rw [Nat.zero_add,za b2 j];have h5:j=0 ∨ j=1 ∨ j=2 ∨ j=3 ∨ j=4 ∨ j=5 ∨ j=6 ∨ j=7 ∨ j=8 ∨ j=9 ∨ j=10 ∨ j=11:=by simp [za7,ops2] at hj; omega
  rcases h5 with rfl | rfl | rfl | rfl | rfl | rfl | rfl | rfl | rfl | rfl | rfl | rfl <;> rfl)
 rw [show (za7 ops0).take 6=za7 ops0 from rfl,← HS.out,zgQ] at c0;rw [show (za7 ops1).take 8=za7 ops1 from rfl,← HS.out,zgQ] at c1;rw [show (za7 ops2).take 12=za7 ops2 from rfl,← HS.out,zgQ] at c2;rw [HS.out] at c0 c1 c2;have HC:=QH (AI c0 (AI c1 c2));clear c0 c1 c2 b0 b1 b2 b3;generalize w.heap.size=sz at *;go_loopg [10] 3 (fun gk t10 wr => ∃ i:Nat,i + gk=3 ∧ t10 = .int .i64 i ∧ notIn op i ∧ w4=wr)
 case atStart => exact ⟨0,by omega,rfl,⟨fun h => by omega,fun h => by omega,fun h => by omega⟩,rfl⟩
 obtain ⟨i,hi,rfl,hN,rfl⟩:=hrel;have hi4:i=0 ∨ i=1 ∨ i=2 ∨ i=3:=by omega
 have HN:=QH hN;clear hN;rcases hi4 with rfl | rfl | rfl | rfl
 ·have hc:=HC.out.1
  cases hb:ops0.contains op with
  | true =>
   rw [hb] at hc;have hr:zcs op=0:=by unfold zcs; rw [hb]; rfl
   exact yaZ
  | false =>
   rw [hb] at hc;have HNN:Hid (notIn op 1):=QH ⟨fun _ => hb,fun h => by omega,fun h => by omega⟩;clear hb;go_wp2_with fail;(with_reducible refine hc.mono ?_);rintro e w5 ⟨rfl,rfl⟩;clear hc;go_wp2_with fail;go_roundg (3 - (0 + 1))
   case measure => omega
   case rel => exact ⟨1,by omega,by go_num,HNN.out,rfl⟩
 ·have hc:=HC.out.2.1
  cases hb:ops1.contains op with
  | true =>
   rw [hb] at hc;have hr:zcs op=1:=by unfold zcs; rw [HN.out.1 AA]; rw [hb]; rfl
   exact yaZ
  | false =>
   rw [hb] at hc;have HNN:Hid (notIn op 2):=QH ⟨fun _ => HN.out.1 AA,fun _ => hb,fun h => by omega⟩;clear hb;go_wp2_with fail;(with_reducible refine hc.mono ?_);rintro e w5 ⟨rfl,rfl⟩;clear hc;go_wp2_with fail;go_roundg (3 - (1 + 1))
   case measure => omega
   case rel => exact ⟨2,by omega,by go_num,HNN.out,rfl⟩
 ·have hc:=HC.out.2.2
  cases hb:ops2.contains op with
  | true =>
   rw [hb] at hc;have hr:zcs op=2:=by unfold zcs; rw [HN.out.1 AA,HN.out.2.1 AA]; rw [hb]; rfl
   exact yaZ
  | false =>
   rw [hb] at hc;have HNN:Hid (notIn op 3):=QH ⟨fun _ => HN.out.1 AA,fun _ => HN.out.2.1 AA,fun _ => hb⟩;clear hb;go_wp2_with fail;(with_reducible refine hc.mono ?_);rintro e w5 ⟨rfl,rfl⟩;clear hc;go_wp2_with fail;go_roundg (3 - (2 + 1))
   case measure => omega
   case rel => exact ⟨3,by omega,by go_num,HNN.out,rfl⟩
 ·have hr:zcs op = -1:=by unfold zcs; rw [HN.out.1 AA,HN.out.2.1 AA,HN.out.2.2 AA]; rfl
  have HR:=QH hr;clear hr;go_wp2_with fail;go_ret;exact ⟨zdQ (by rw [← HAK.out,HR.out]),hM⟩
theorem zm0 {h:Hd} {k:Nat} (hf:zT h k=true):zcs h.op=(k:Int) ∧ (h.op ≠ oBool ∨ h.n ≤ 1) ∧ h.scale ≤ 9 ∧ h.s.length ≤ 200:=by
 unfold zT at hf;simp only [Bool.and_eq_true,decide_eq_true_eq,Bool.not_eq_true',Bool.and_eq_false_iff,decide_eq_false_iff_not] at hf;obtain ⟨⟨⟨h1,h2⟩,h3⟩,h4⟩:=hf;refine ⟨?_,by rcases h2 with h2 | h2; exact .inl h2; exact .inr AA,h3,h4⟩;unfold zcs;split at h1
 ·rename_i hc; rw [if_pos hc]; have:k=0:=by simpa using h1
  rw [this]; rfl
 ·rename_i hc
  rw [if_neg hc];split at h1
  ·rename_i hc2; rw [if_pos hc2]; have:k=1:=by simpa using h1
   rw [this]; rfl
  ·rename_i hc2
   rw [if_neg hc2];split at h1
   ·rename_i hc3; rw [if_pos hc3]; have:k=2:=by simpa using h1
    rw [this]; rfl
   ·cases h1
def FormOk (t:Tree):Prop:=∀ (w:World) (L:List Nat) (v:Value),ExprAt 171 103 w L v t → Calls Tryz.prog 64 #[v] w fun e w' => e = .returned (.bool true) ∧ Mods [] w w'
theorem zdi (w:World) (xb:Nat) (h:Hd) (n:Nat) (us:List Value) (hun:us.length=n) (hn2:n ≤ 2) (ao:Option Addr) (hx:w.heap[xb]? = some (.cells (hdC h (.slice ao n n)).toArray 171 (0,0))) (hf:zT h n=true)
  (hao:0 < n → ∃ c,ao=some ⟨c,0,none⟩ ∧ ∀ i (hi:i < us.length),w.cell? ⟨c,i,none⟩ = some us[i])
  (hsub:∀ i (hi:i < us.length) W,Mods [] w W → Calls Tryz.prog 64 #[us[i]] W fun e w' => e = .returned (.bool true) ∧ Mods [] W w') :
  Calls Tryz.prog 64 #[zh xb] w fun e w' => e = .returned (.bool true) ∧ Mods [] w w':=by
 obtain ⟨har,hbn,hsc,hsl⟩:=zm0 hf;have x0:=za hx 0;have x4:=za hx 4;have x5:=za hx 5;have x6:=za hx 6;have x7:=za hx 7;change w.cell? _=some (.string ⟨h.op.toArray⟩) at x0;change w.cell? _=some (.int .i64 h.n) at x4;change w.cell? _=some (.int .i64 h.scale) at x5;change w.cell? _=some (.string ⟨h.s.toArray⟩) at x6;change w.cell? _=some (.slice ao n n) at x7;have hka:=fun (k:zay w) => (zln k.val h.op).mono fun e w' hh => (show e = .returned (.int .i64 n) ∧ ∃ k':zay w,w'=k'.val from ⟨by rw [hh.1,har],⟨w',k.mods.trans hh.2⟩,rfl⟩);obtain ⟨S,hS⟩:=EX ((⟨h.op.toArray⟩ : ByteArray):ByteArray);obtain ⟨V,hVs⟩:=EX ((⟨h.s.toArray⟩ : ByteArray):ByteArray);have hVl:V.size ≤ 200:=by rw [← hVs]; show h.s.toArray.size ≤ 200; simpa using hsl
 have hSb:S = ⟨#[98,111,111,108]⟩ ∨ S ≠ ⟨#[98,111,111,108]⟩:=Classical.em _;have hSn:S = ⟨#[98,111,111,108]⟩ → h.n ≤ 1:=fun hs => hbn.resolve_left (fun hb => hb (show h.op=([98,111,111,108]:List UInt8) from by have:=congrArg (fun b:ByteArray => b.data.toList) (hS.trans hs); simpa using this));rw [hS] at hka x0;rw [hVs] at x6;have F0:∀ k:zay w,k.val.cell? ⟨xb,0,none⟩ = some (.string S):=fun k => k.mods.cell x0;have F4:∀ k:zay w,k.val.cell? ⟨xb,4,none⟩ = some (.int .i64 h.n):=fun k => k.mods.cell x4;have F5:∀ k:zay w,k.val.cell? ⟨xb,5,none⟩ = some (.int .i64 h.scale):=fun k => k.mods.cell x5;have F6:∀ k:zay w,k.val.cell? ⟨xb,6,none⟩ = some (.string V):=fun k => k.mods.cell x6;have F7:∀ k:zay w,k.val.cell? ⟨xb,7,none⟩ = some (.slice ao n n):=fun k => k.mods.cell x7;have d1:decide (9 < h.scale)=false:=decide_eq_false AA;have d2:decide (200 < V.size)=false:=decide_eq_false AA;have d3:¬ 9 < h.scale:=by omega
 have d4:¬ 200 < V.size:=by omega
 have d5:decide ((9:Int) < (h.scale:Int))=false:=decide_eq_false AA;have d6:decide ((200:Int) < (V.size:Int))=false:=decide_eq_false AA;have d7:decide ((h.n:Int) < 0)=false:=decide_eq_false AA;have d8:decide ((h.scale:Int) < 0)=false:=decide_eq_false AA;have HH:=QH (AI hao (AI hsub hun));have HK:=QH hka;have HX:=QH x7;clear hao hsub hun hka hx hf har hbn hsc hsl x0 x4 x5 x6 x7 hS hVs;unfold zh;go_enter Tryz.func64, Tryz.ntmps64;go_upto_region 1 with fail;go_cut [62] from 5 to 61 (fun s62 wx => s62 = .bool false ∧ Mods [] w wx)
 case first =>
  rcases hSb with hs | hs
  ·have hn1:=hSn hs;clear hSn;subst hs;have e1:decide (1 < h.n)=false:=decide_eq_false AA;have e2:¬ 1 < h.n:=by omega
   have e3:decide ((1:Int) < (h.n:Int))=false:=decide_eq_false AA;exact ybI
  ·clear hSn;have e1:¬ S.toList=[98,111,111,108]:=fun hh => hs (by rw [ByteArray.toList_eq] at hh; exact ByteArray.ext (Array.toList_inj.1 hh));have e2:(S.toList == [98,111,111,108])=false:=by rw [beq_eq_false_iff_ne]; exact e1
   exact ybI
 case rest =>
 obtain ⟨rfl,hM⟩:=hcut;have x7:=hM.cell HX.out;clear F0 F4 F5 F6 F7 HK d1 d2 d3 d4 d5 d6 d7 d8 hSb hSn;go_wp2_with fail;go_loopg [68] n (fun gk t68 wr => ∃ i:Nat,i + gk=n ∧ t68 = .int .i64 i ∧ Mods [] w wr)
 case atStart => exact ⟨0,by omega,rfl,hM⟩
 obtain ⟨i,hi,rfl,hMr⟩:=hrel;by_cases hlt:i < n
 ·obtain ⟨c,rfl,hcells⟩:=HH.out.1 AA;have hiu:i < us.length:=by rw [HH.out.2.2]; exact hlt
  have k0:=hMr.cell (hcells i hiu);have hc:=HH.out.2.1 i hiu wr hMr;obtain ⟨u,hu⟩:=EX (us[i]);rw [hu] at k0 hc;clear hcells hu;go_wp2_with fail;(with_reducible refine hc.mono ?_);rintro e w5 ⟨rfl,hM5⟩;clear hc;go_wp2_with fail;go_roundg (n - (i + 1))
  case measure => omega
  case rel => exact ⟨i + 1,by omega,by go_num,hMr.trans hM5⟩
 ·obtain rfl:i=n:=by omega
  go_wp2_with fail;go_ret;exact ⟨rfl,hMr⟩
theorem zd1:∀ (t:Tree),formedT t=true → FormOk t:=by
 intro t
 induction t with
 | leaf h =>rintro hf w L v ⟨b,rfl,-,hb⟩;exact zdi w b h 0 [] rfl AA none hb hf (fun h0 => by omega) (fun i hi => by simp at hi)
 | un h a ih =>
  rintro hf w L v ⟨b,c,u,rfl,hbL,hcL,hb,hc,ha⟩;have hf:(zT h 1 && formedT a)=true:=hf;simp only [Bool.and_eq_true] at hf
  exact zdi w b h 1 [u] rfl AA _ hb hf.1 (fun _ => ⟨c,rfl,fun i hi => by
   obtain rfl:i=0:=by simp at hi; omega
   exact za hc 0⟩) (fun i hi W hM => by
   obtain rfl:i=0:=by simp at hi; omega
   exact ih hf.2 W L u (ha.mods (hM.mono)))
 | bin h a d iha ihd =>
  rintro hf w L v ⟨b,c,u,x,rfl,hbL,hcL,hb,hc,ha,hd⟩;have hf:(zT h 2 && (formedT a && formedT d))=true:=hf;simp only [Bool.and_eq_true] at hf
  exact zdi w b h 2 [u,x] rfl AA _ hb hf.1 (fun _ => ⟨c,rfl,fun i hi => by
   have hi2:i=0 ∨ i=1:=by simp at hi; omega
   rcases hi2 with rfl | rfl
   ·exact za hc 0
   ·exact za hc 1⟩) (fun i hi W hM => by
   have hi2:i=0 ∨ i=1:=by simp at hi; omega
   rcases hi2 with rfl | rfl
   ·exact iha hf.2.1 W L u (ha.mods (hM.mono))
   ·exact ihd hf.2.2 W L x (hd.mods (hM.mono)))
end Go.Proofs.YtcabeljiobiojaaGreatDoor
