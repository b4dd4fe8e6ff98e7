/-
  law15.query, walked, of a text that is a query. No condition but that Go's own variables hold what they were laid with.
-/
import Derived.Test.YtcabeljiobiojaaGreatDoorChB
set_option linter.unusedVariables false
set_option maxRecDepth 100000
set_option maxHeartbeats 4000000
namespace Go.Proofs.YtcabeljiobiojaaGreatDoor
open Go.RowKit
theorem ybM {p:Prop} (h:p:=by
  dsimp only [nop,List.set];(repeat go_big_quiet_step (first | with_reducible exact HKA.out _ | with_reducible exact HKD.out _));refine QW ?_;exact rfl
 ):p:=h
def Tabs3 (w:World):Prop:=Tabs2 w ∧ CkVars w
theorem Tabs3.later {w w':World} (h:Tabs3 w) (hM:Mods [] w w'):Tabs3 w':=⟨h.1.later hM,h.2.later hM⟩
theorem zop {l:Bs} {q:zt} (h:zaj l = .good q):FormQ q:=by
 unfold zaj at h;split at h
 ·cases h
 ·exact zjW h
theorem zbJ (w:World) (hT:Tabs3 w) {tb:Nat} (hI:TblsIn w (some ⟨tb,0,none⟩) tabsV []) {l:Bs} {q:zt} (h:zaj l = .good q) {qb:Nat} (hQ:QueryAt w [] qb q) (hok:zcA q) :
  Calls Tryz.prog 16 #[.slice (some ⟨tb,0,none⟩) 2 2,zh qb] w (zeo w tblsL q):=by
 rw [← zjY];exact zkd w hT.1.1 hT.1.2 hT.2 tabsV tabs_right 2 rfl _ 2 hI qb q hQ hok (zop h)
def QueryRes (w:World) (c:CQ) (e:Ending) (w':World):Prop:=∃ cb,e = .returned (zh cb) ∧ Mods [] w w' ∧ CheckedAt w' [] cb c
theorem query15 (w:World) (hT:Tabs3 w) (l:Bs) (hl:l.length ≤ 1000) (c:CQ) (hc:zaI l=some (.ok c)) :
  Calls Tryz.prog 10 #[.string ⟨l.toArray⟩] w (QueryRes w c):=by
 unfold zaI at hc
 cases hq:zaj l with
 | bad p k => rw [hq] at hc; cases hc
 | good q =>rw [hq] at hc;have hc:zao tblsL q = .ok c:=Option.some.inj hc;have hp1:=zcb w hT.1.1 l q hq AA;obtain ⟨S,hS⟩:=EX ((⟨l.toArray⟩ : ByteArray):ByteArray);rw [hS] at hp1 ⊢;have HT:=QH (AI hT (AI hq hc));clear hT hq hc hS hl;go_enter Tryz.func10, Tryz.ntmps10;go_wp2_with fail;(with_reducible refine hp1.mono ?_);rintro e w2 ⟨qb,rfl,hM2,hQ,hok⟩;unfold zh;clear hp1;have htb:=tables15 w2;have HQ:=QH (AI hM2 (AI hQ hok));clear hM2 hQ hok;go_wp2_with fail;(with_reducible refine htb.mono ?_);rintro e w3 ⟨tb,rfl,hM3,hI,-⟩;clear htb;have hck:=zbJ w3 (HT.out.1.later (HQ.out.1.trans hM3)) hI HT.out.2.1 (HQ.out.2.1.later hM3) HQ.out.2.2;have HM3:=QH (HQ.out.1.trans hM3);unfold zh at hck;clear hM3 hI;go_wp2_with fail;(with_reducible refine hck.mono ?_);rintro e w4 ⟨hM4,hres⟩;rw [HT.out.2.2] at hres;obtain ⟨cb,rfl,-,-,hCA⟩:=hres;unfold zh;clear hck;have HF:=QH (AI (HM3.out.trans hM4) (hCA [] AB));clear hM4 hCA;go_wp2_with fail;go_ret;exact ⟨cb,rfl,HF.out⟩
theorem zpB {w wd:World} {g:Nat} {cells:Array Value} (h:Mods [] w wd) (hg:w.heap.size ≤ g) (b:Bool):Mods [] w (zdL wd g cells b):=by
 cases b
 ·exact h.drew
 ·exact h.drew.setRow (.inr hg) _
theorem zrJ {sp:Nat} {a d:NT} (h:usesN sp a=(false,true)):turnN sp a d=(d,a):=if_pos h
theorem zrK {sp:Nat} {a d:NT} (h:usesN sp a ≠ (false,true)):turnN sp a d=(a,d):=if_neg h
theorem zpC {W0:World} {f:Nat} {args:Array Value} {v:Value} {k:zay W0} (h:Calls Tryz.prog f args k.val fun e w' => e = .returned v ∧ Mods [] k.val w'):Calls Tryz.prog f args k.val fun e w' => e = .returned v ∧ ∃ k':zay W0,w'=k'.val:=
 h.mono fun e w' h => ⟨h.1,⟨w',k.mods.trans h.2⟩,rfl⟩
theorem zqb {R:Option (NT × NT)} {w0:World} {L:List Nat} {x y:NT} {v1 v2:Value} (ok:Bool) (hR:R=if ok=true then some (x,y) else none) (h1:NAt w0 L v1 x) (h2:NAt w0 L v2 y) :
  (R=none → ok=false) ∧ ∀ k,R=some k → ok=true ∧ NAt w0 L v1 k.1 ∧ NAt w0 L v2 k.2:=by
 cases ok
 ·exact ⟨fun _ => rfl,fun k hk => by rw [hR] at hk; cases hk⟩
 ·exact ⟨fun h => (by rw [hR] at h; cases h),fun k hk => by rw [hR] at hk; cases hk; exact ⟨rfl,h1,h2⟩⟩
theorem zq9 (w0 w:World) (L:List Nat) (v:Value) (h:NHd) (a d:NT) (sp:Nat) (hN:NAt w0 L v (.bin h a d)) (hM:Mods [] w0 w) (hop:h.op=[61]) :
  Calls Tryz.prog 19 #[v,.int .i64 sp] w (zpz w0 w L sp (.bin h a d)):=by
 obtain ⟨b,c,cap,u,x,rfl,-,-,hcap,hb,k0,k1,hA,hD⟩:=hN;obtain ⟨pa,aa,rfl,-,ha⟩:=hA.head;obtain ⟨pd,ad,rfl,-,hdd⟩:=hD.head;have hM0:=(QM [] w).alloc (.cells #[.pointer none,.pointer none] 76);have hr:=QN w (.cells #[.pointer none,.pointer none] 76);have hMM:=hM.trans hM0;have c0:=hMM.cell (za hb 0);have c7:=hMM.cell (za hb 7);have a1:=hMM.cell (za ha 1);have a2:=hMM.cell (za ha 2);have d1:=hMM.cell (za hdd 1);have d2:=hMM.cell (za hdd 2);replace k0:=hMM.cell k0;replace k1:=hMM.cell k1;change World.cell? _ _=some (.string ⟨h.op.toArray⟩) at c0;rw [hop] at c0;change World.cell? _ _=some (.string ⟨#[61]⟩) at c0;change World.cell? _ _=some (.slice (some ⟨c,0,none⟩) 2 cap) at c7;change World.cell? _ _=some (.int .i64 (a.hd.t.k:Nat)) at a1;change World.cell? _ _=some (.int .i64 (a.hd.t.s:Nat)) at a2;change World.cell? _ _=some (.int .i64 (d.hd.t.k:Nat)) at d1;change World.cell? _ _=some (.int .i64 (d.hd.t.s:Nat)) at d2;have hpn:∀ r,zps sp (.bin h a d)=r → r=(if a.hd.t=d.hd.t ∧ zpO sp (turnN sp a d)=true then some (turnN sp a d) else none):=by intro r hr;rw [← hr];simp only [zps,hop,true_and]
 obtain ⟨R,hR⟩:=EX (zps sp (.bin h a d))
 have hfin:∀ v1 v2 ok w',v1.oneCell'=true → v2.oneCell'=true → Mods [] w w' → (R=none → ok=false) → (∀ k,R=some k → ok=true ∧ NAt w0 L v1 k.1 ∧ NAt w0 L v2 k.2) → zpz w0 w L sp (.bin h a d) (.returned (.tuple #[.agg #[v1,v2],.bool ok])) w':=
  fun v1 v2 ok w' p1 p2 h1 h2 h3 => ⟨v1,v2,ok,rfl,h1,⟨p1,p2⟩,by rw [hR]; exact h2,by rw [hR]; exact h3⟩
 have hR:=hpn R hR;obtain ⟨PP,hPP⟩:=EX (zpz w0 w L sp (.bin h a d));rw [hPP] at hfin ⊢;have ofA:∀ W,Mods [] w W → Calls Tryz.prog 18 #[.pointer (some ⟨pa,0,none⟩),.int .i64 sp] W fun e w' => e = .returned (sideV (usesN sp a)) ∧ Mods [] W w':=fun W hW => zp5 W [] _ a sp ((hA.weaken AB).mods (hM.trans hW));have ofD:∀ W,Mods [] w W → Calls Tryz.prog 18 #[.pointer (some ⟨pd,0,none⟩),.int .i64 sp] W fun e w' => e = .returned (sideV (usesN sp d)) ∧ Mods [] W w':=fun W hW => zp5 W [] _ d sp ((hD.weaken AB).mods (hM.trans hW));obtain ⟨ak,hak⟩:=EX (a.hd.t.k);obtain ⟨asc,has⟩:=EX (a.hd.t.s);obtain ⟨dk,hdk⟩:=EX (d.hd.t.k);obtain ⟨ds,hds⟩:=EX (d.hd.t.s);have hat:a.hd.t = ⟨ak,asc⟩:=by rw [← hak,← has]
 have hdt:d.hd.t = ⟨dk,ds⟩:=by rw [← hdk,← hds]
 rw [hak] at a1;rw [has] at a2;rw [hdk] at d1;rw [hds] at d2;have HH:=QH (AI hM0 (AI hr (AI hR (AI hat (AI hdt (AI hA (AI hD hM)))))));have FIN:=QH hfin;have HO:=QH (AI ofA ofD);clear hb ha hdd hA hD hM hM0 hr hMM hpn hR hfin hak has hdk hds hat hdt ofA ofD hcap hPP;unfold zh at *;have htri:(ak=dk ∧ asc=ds) ∨ (ak=dk ∧ ¬ asc=ds) ∨ ¬ ak=dk:=by omega
 rcases htri with ⟨rfl,rfl⟩ | ⟨rfl,h2⟩ | h2
 ·have gA3:=QH trivial;exact ydj
 all_goals
  have hRn:R=none:=by rw [HH.out.2.2.1,HH.out.2.2.2.1,HH.out.2.2.2.2.1];exact if_neg (fun hx => h2 (by have:=hx.1; simp only [Ty.mk.injEq] at this; omega))
  have HRN:=QH hRn;clear hRn;go_enter Tryz.func19, Tryz.ntmps19;go_upto_region 1 with fail;go_quiet (fail);have hd:Mods [] w ((w.alloc (.cells #[.pointer none,.pointer none] 76)).drewN nq):=HH.out.1.drewN _;have hr:((w.alloc (.cells #[.pointer none,.pointer none] 76)).drewN nq).heap[w.heap.size]? = _:=HH.out.2.1;generalize (w.alloc (.cells #[.pointer none,.pointer none] 76)).drewN nq=wd at *;go_wp2_with (refine wpList_store_row rfl 76 (.tmp 4) (.tmp 42) rfl w.heap.size #[.pointer none,.pointer none] rfl rfl 76 _ hr AC rfl AP ?_);refine bodyPost_ret (zg rfl _ _ w.heap.size 76 #[.pointer none,.pointer none] (0,0) _ rfl (zi _ hr) Tryz.underlying76 rfl AC _ rfl) rfl ?_;exact FIN.out _ _ false _ rfl rfl (hd.setRow (.inr (LR _)) _) (fun _ => rfl) (fun k hk => by rw [HRN.out] at hk; cases hk)
structure RowP (B pb:Nat) (w:World) (T:TypeId) (k:Nat) (v:Value) (n:Nat) (xs:List Value) (oth:List Value):Prop where
 own:w.ownsRow 0 T k v n xs
 blk:∀ g,v.ownBlock=some g → B ≤ g ∧ g ≠ pb ∧ ∀ u ∈ oth,u.ownBlock ≠ some g
theorem RowP.nil (B pb:Nat) (w:World) (T:TypeId) (k:Nat) (oth:List Value):RowP B pb w T k (.slice none 0 0) 0 [] oth:=
 ⟨World.ownsRow_nil _ _ _ _,fun g hg => nomatch (show (none:Option Nat)=some g from hg)⟩
theorem RowP.later {B pb:Nat} {w w':World} {T:TypeId} {k:Nat} {v:Value} {n:Nat} {xs:List Value} {oth:List Value} (h:RowP B pb w T k v n xs oth) (hM:Mods [] w w'):RowP B pb w' T k v n xs oth:=
 ⟨zm h.own hM AB,h.blk⟩
theorem RowP.put {B pb:Nat} {w w':World} {T:TypeId} {k:Nat} {v:Value} {n:Nat} {xs:List Value} {oth:List Value} (h:RowP B pb w T k v n xs oth) (hM:Mods [pb] w w'):RowP B pb w' T k v n xs oth:=
 ⟨zm h.own hM (fun g hg => by simpa using (h.blk g hg).2.1),h.blk⟩
theorem RowP.past {B pb:Nat} {w w':World} {T:TypeId} {k:Nat} {v:Value} {n:Nat} {xs:List Value} {o1 o2:List Value} {u u':Value} (h:RowP B pb w T k v n xs (o1 ++ u :: o2)) (hM:Mods u.ownBlock.toList w w')
  {g:Nat} (hg':u'.ownBlock=some g) (hg:u.ownBlock=some g ∨ w.heap.size ≤ g):RowP B pb w' T k v n xs (o1 ++ u' :: o2):=by
 refine ⟨zm h.own hM (fun x hx hm => (h.blk x hx).2.2 u AB AH),fun x hx => ?_⟩;obtain ⟨h1,h2,h3⟩:=h.blk x hx;refine ⟨h1,h2,fun z hz => ?_⟩;simp only [List.mem_append,List.mem_cons] at hz;rcases hz with hz | rfl | hz
 ·exact h3 z (by simp [hz])
 ·rw [hg'];intro he;obtain rfl:g=x:=by simpa using he
  rcases hg with hg | hg
  ·exact h3 u AB hg
  ·have:=(h.own.lt g hx).2;omega
 ·exact h3 z (by simp [hz])
theorem RowP.grow {B pb:Nat} {w w':World} {T:TypeId} {k:Nat} {v:Value} {n:Nat} {xs:List Value} {oth:List Value} (h:RowP B pb w T k v n xs oth) (hB:B ≤ w.heap.size) (hpb:pb < w.heap.size) (ho:∀ u ∈ oth,∀ g,u.ownBlock=some g → g < w.heap.size)
  {g m cap:Nat} {ys:List Value} (hown:w'.ownsRow 0 T k (.slice (some ⟨g,0,none⟩) m cap) m ys) (hg:v.ownBlock=some g ∨ w.heap.size ≤ g):RowP B pb w' T k (.slice (some ⟨g,0,none⟩) m cap) m ys oth:=by
 refine ⟨hown,fun x hx => ?_⟩;obtain rfl:g=x:=by simpa [Value.ownBlock] using hx
 rcases hg with hg | hg
 ·exact h.blk g hg
 ·exact ⟨by omega,by omega,fun u hu he => by have:=ho u hu g he; omega⟩
theorem RowP.lt {B pb:Nat} {w:World} {T:TypeId} {k:Nat} {v:Value} {n:Nat} {xs:List Value} {oth:List Value} (h:RowP B pb w T k v n xs oth):∀ g,v.ownBlock=some g → g < w.heap.size:=fun g hg => (h.own.lt g hg).2
def PairsAt (w:World) (L:List Nat):List (Value × Value) → List (NT × NT) → Prop
 | [],[] => True
 | p :: ps,k :: ks => (NAt w L p.1 k.1 ∧ NAt w L p.2 k.2) ∧ PairsAt w L ps ks
 | _,_ => False
theorem PairsAt.len {w:World} {L:List Nat}:∀ {ps:List (Value × Value)} {ks:List (NT × NT)},PairsAt w L ps ks → ps.length=ks.length:=by
 intro ps
 induction ps with
 | nil => intro ks h; cases ks with
  | nil => rfl
  | cons k ks => exact h.elim
 | cons p ps ih => intro ks h; cases ks with
  | nil => exact h.elim
  | cons k ks => simp [ih h.2]
theorem PairsAt.snoc {w:World} {L:List Nat} {p:Value × Value} {k:NT × NT} (hp:NAt w L p.1 k.1 ∧ NAt w L p.2 k.2):∀ {ps:List (Value × Value)} {ks:List (NT × NT)},PairsAt w L ps ks → PairsAt w L (ps ++ [p]) (ks ++ [k]):=by
 intro ps
 induction ps with
 | nil => intro ks h; cases ks with
  | nil => exact ⟨hp,trivial⟩
  | cons k ks => exact h.elim
 | cons q ps ih => intro ks h; cases ks with
  | nil => exact h.elim
  | cons k ks => exact ⟨h.1,ih h.2⟩
theorem NodesAt.snoc {w:World} {L:List Nat} {b:Nat} {n:NT} (h:NAt w L (zh b) n) {bs:List Nat} {ns:List NT} (hn:NodesAt w L bs ns):NodesAt w L (bs ++ [b]) (ns ++ [n]):=NodesAt.append (cs:=[b]) (ms:=[n]) ⟨h,trivial⟩ hn
structure PlanM (B:Nat) (w0 w:World) (L:List Nat) (cb pb:Nat) (cols:Nat) (p:PlT) (vl vr vt vk:Value) (bl br bt:List Nat) (ps:List (Value × Value)):Prop where
 blk:w.heap[pb]? = some (.cells #[zh cb,.int .i64 cols,vl,vr,vt,vk] 49 (0,0))
 l:RowP B pb w 51 1 vl bl.length (bl.map zh) [vr,vt,vk]
 r:RowP B pb w 51 1 vr br.length (br.map zh) [vl,vt,vk]
 t:RowP B pb w 51 1 vt bt.length (bt.map zh) [vl,vr,vk]
 k:RowP B pb w 76 2 vk ps.length (ps.flatMap fun p => [p.1,p.2]) [vl,vr,vt]
 nl:NodesAt w0 L bl p.left
 nr:NodesAt w0 L br p.right
 nt:NodesAt w0 L bt p.rest
 nk:PairsAt w0 L ps p.keys
theorem PlanM.later {B:Nat} {w0 w w':World} {L:List Nat} {cb pb cols:Nat} {p:PlT} {vl vr vt vk:Value} {bl br bt:List Nat} {ps:List (Value × Value)} (h:PlanM B w0 w L cb pb cols p vl vr vt vk bl br bt ps) (hM:Mods [] w w'):PlanM B w0 w' L cb pb cols p vl vr vt vk bl br bt ps:=
 ⟨hM.heap h.blk,h.l.later hM,h.r.later hM,h.t.later hM,h.k.later hM,h.nl,h.nr,h.nt,h.nk⟩
theorem PlanM.addl {B:Nat} {w0 w:World} {L:List Nat} {cb pb cols:Nat} {p:PlT} {vl vr vt vk:Value} {bl br bt:List Nat} {ps:List (Value × Value)} (h:PlanM B w0 w L cb pb cols p vl vr vt vk bl br bt ps) (hB:B ≤ w.heap.size) (hpb:pb < w.heap.size)
  {b:Nat} {n:NT} (hn:NAt w0 L (zh b) n) {w5:World} {g cap:Nat} (hown:w5.ownsRow 0 51 1 (.slice (some ⟨g,0,none⟩) (bl.length + 1) cap) (bl.length + 1) (bl.map zh ++ [zh b])) (hM:Mods vl.ownBlock.toList w w5) (hg:vl.ownBlock=some g ∨ w.heap.size ≤ g) :
  PlanM B w0 (w5.setCell ⟨pb,2,none⟩ (.slice (some ⟨g,0,none⟩) (bl.length + 1) cap)) L cb pb cols { p with left:=p.left ++ [n] } (.slice (some ⟨g,0,none⟩) (bl.length + 1) cap) vr vt vk (bl ++ [b]) br bt ps:=by
 have hb5:=hM.heap h.blk (fun hm => (h.l.blk pb AH).2.1 rfl);have hP:Mods [pb] w5 (w5.setCell ⟨pb,2,none⟩ (.slice (some ⟨g,0,none⟩) (bl.length + 1) cap)):=(QM _ _).setCell (.inl AB) _;have hlt:∀ u ∈ [vr,vt,vk],∀ g,u.ownBlock=some g → g < w.heap.size:=by
  intro u hu g hg;simp only [List.mem_cons,List.not_mem_nil,or_false] at hu;rcases hu with rfl | rfl | rfl
  ·exact h.r.lt g hg
  ·exact h.t.lt g hg
  ·exact h.k.lt g hg
 refine ⟨zb hb5 2 _,?_,(h.r.past (o1:=[]) hM rfl hg).put hP,(h.t.past (o1:=[]) hM rfl hg).put hP,(h.k.past (o1:=[]) hM rfl hg).put hP,?_,h.nr,h.nt,h.nk⟩
 ·have:=(h.l.grow hB hpb hlt hown hg).put hP;simpa using this
 ·exact NodesAt.snoc hn h.nl
theorem PlanM.addr {B:Nat} {w0 w:World} {L:List Nat} {cb pb cols:Nat} {p:PlT} {vl vr vt vk:Value} {bl br bt:List Nat} {ps:List (Value × Value)} (h:PlanM B w0 w L cb pb cols p vl vr vt vk bl br bt ps) (hB:B ≤ w.heap.size) (hpb:pb < w.heap.size)
  {b:Nat} {n:NT} (hn:NAt w0 L (zh b) n) {w5:World} {g cap:Nat} (hown:w5.ownsRow 0 51 1 (.slice (some ⟨g,0,none⟩) (br.length + 1) cap) (br.length + 1) (br.map zh ++ [zh b])) (hM:Mods vr.ownBlock.toList w w5) (hg:vr.ownBlock=some g ∨ w.heap.size ≤ g) :
  PlanM B w0 (w5.setCell ⟨pb,3,none⟩ (.slice (some ⟨g,0,none⟩) (br.length + 1) cap)) L cb pb cols { p with right:=p.right ++ [n] } vl (.slice (some ⟨g,0,none⟩) (br.length + 1) cap) vt vk bl (br ++ [b]) bt ps:=by
 have hb5:=hM.heap h.blk (fun hm => (h.r.blk pb AH).2.1 rfl);have hP:Mods [pb] w5 (w5.setCell ⟨pb,3,none⟩ (.slice (some ⟨g,0,none⟩) (br.length + 1) cap)):=(QM _ _).setCell (.inl AB) _;have hlt:∀ u ∈ [vl,vt,vk],∀ g,u.ownBlock=some g → g < w.heap.size:=by
  intro u hu g hg;simp only [List.mem_cons,List.not_mem_nil,or_false] at hu;rcases hu with rfl | rfl | rfl
  ·exact h.l.lt g hg
  ·exact h.t.lt g hg
  ·exact h.k.lt g hg
 refine ⟨zb hb5 3 _,(h.l.past (o1:=[]) hM rfl hg).put hP,?_,(h.t.past (o1:=[vl]) hM rfl hg).put hP,(h.k.past (o1:=[vl]) hM rfl hg).put hP,h.nl,?_,h.nt,h.nk⟩
 ·have:=(h.r.grow hB hpb hlt hown hg).put hP;simpa using this
 ·exact NodesAt.snoc hn h.nr
theorem PlanM.addt {B:Nat} {w0 w:World} {L:List Nat} {cb pb cols:Nat} {p:PlT} {vl vr vt vk:Value} {bl br bt:List Nat} {ps:List (Value × Value)} (h:PlanM B w0 w L cb pb cols p vl vr vt vk bl br bt ps) (hB:B ≤ w.heap.size) (hpb:pb < w.heap.size)
  {b:Nat} {n:NT} (hn:NAt w0 L (zh b) n) {w5:World} {g cap:Nat} (hown:w5.ownsRow 0 51 1 (.slice (some ⟨g,0,none⟩) (bt.length + 1) cap) (bt.length + 1) (bt.map zh ++ [zh b])) (hM:Mods vt.ownBlock.toList w w5) (hg:vt.ownBlock=some g ∨ w.heap.size ≤ g) :
  PlanM B w0 (w5.setCell ⟨pb,4,none⟩ (.slice (some ⟨g,0,none⟩) (bt.length + 1) cap)) L cb pb cols { p with rest:=p.rest ++ [n] } vl vr (.slice (some ⟨g,0,none⟩) (bt.length + 1) cap) vk bl br (bt ++ [b]) ps:=by
 have hb5:=hM.heap h.blk (fun hm => (h.t.blk pb AH).2.1 rfl);have hP:Mods [pb] w5 (w5.setCell ⟨pb,4,none⟩ (.slice (some ⟨g,0,none⟩) (bt.length + 1) cap)):=(QM _ _).setCell (.inl AB) _;have hlt:∀ u ∈ [vl,vr,vk],∀ g,u.ownBlock=some g → g < w.heap.size:=by
  intro u hu g hg;simp only [List.mem_cons,List.not_mem_nil,or_false] at hu;rcases hu with rfl | rfl | rfl
  ·exact h.l.lt g hg
  ·exact h.r.lt g hg
  ·exact h.k.lt g hg
 refine ⟨zb hb5 4 _,(h.l.past (o1:=[vr]) hM rfl hg).put hP,(h.r.past (o1:=[vl]) hM rfl hg).put hP,?_,(h.k.past (o1:=[vl,vr]) hM rfl hg).put hP,h.nl,h.nr,?_,h.nk⟩
 ·have:=(h.t.grow hB hpb hlt hown hg).put hP;simpa using this
 ·exact NodesAt.snoc hn h.nt
theorem PlanM.addk {B:Nat} {w0 w:World} {L:List Nat} {cb pb cols:Nat} {p:PlT} {vl vr vt vk:Value} {bl br bt:List Nat} {ps:List (Value × Value)} (h:PlanM B w0 w L cb pb cols p vl vr vt vk bl br bt ps) (hB:B ≤ w.heap.size) (hpb:pb < w.heap.size)
  {p1:Value × Value} {n:NT × NT} (hn:NAt w0 L p1.1 n.1 ∧ NAt w0 L p1.2 n.2) {w5:World} {g cap:Nat} (hown:w5.ownsRow 0 76 2 (.slice (some ⟨g,0,none⟩) (ps.length + 1) cap) (ps.length + 1) ((ps.flatMap fun p => [p.1,p.2]) ++ [p1.1,p1.2])) (hM:Mods vk.ownBlock.toList w w5) (hg:vk.ownBlock=some g ∨ w.heap.size ≤ g) :
  PlanM B w0 (w5.setCell ⟨pb,5,none⟩ (.slice (some ⟨g,0,none⟩) (ps.length + 1) cap)) L cb pb cols { p with keys:=p.keys ++ [n] } vl vr vt (.slice (some ⟨g,0,none⟩) (ps.length + 1) cap) bl br bt (ps ++ [p1]):=by
 have hb5:=hM.heap h.blk (fun hm => (h.k.blk pb AH).2.1 rfl);have hP:Mods [pb] w5 (w5.setCell ⟨pb,5,none⟩ (.slice (some ⟨g,0,none⟩) (ps.length + 1) cap)):=(QM _ _).setCell (.inl AB) _;have hlt:∀ u ∈ [vl,vr,vt],∀ g,u.ownBlock=some g → g < w.heap.size:=by
  intro u hu g hg;simp only [List.mem_cons,List.not_mem_nil,or_false] at hu;rcases hu with rfl | rfl | rfl
  ·exact h.l.lt g hg
  ·exact h.r.lt g hg
  ·exact h.t.lt g hg
 refine ⟨zb hb5 5 _,(h.l.past (o1:=[vr,vt]) hM rfl hg).put hP,(h.r.past (o1:=[vl,vt]) hM rfl hg).put hP,(h.t.past (o1:=[vl,vr]) hM rfl hg).put hP,?_,h.nl,h.nr,h.nt,?_⟩
 ·have:=(h.k.grow hB hpb hlt hown hg).put hP;simpa using this
 ·exact PairsAt.snoc hn h.nk
theorem zp6 {P:Program} (w:World) (t ty e:TypeId) (i:TypeInfo) (ht:P.underlying t=some (.slice e)) (hi:P.info? e=some i) (base:Option Addr) (n cap:Nat) (hn:n ≤ cap) :
  (Builtin.append_ #[t,t] ty #[.slice base n cap,.slice none 0 0]).run P w = .ok (.slice base n cap) w:=by
 cases base <;> simp [Builtin.append_,run_underlying ht,sizeOf,typeInfo,hi,Builtin.lenOf,hn,Builtin.firstCells,storeCells]
theorem zqc {w:World} {T:TypeId} {size n:Nat} {v:Value} {xs:List Value} (h:w.ownsRow 0 T size v n xs):∃ base cap,v = .slice base n cap ∧ n ≤ cap:=by
 rcases h.2 with ⟨hv,h0⟩ | ⟨g,cap,cur,hv,-,-,hc,-⟩
 ·exact ⟨none,0,by rw [hv,h0],by omega⟩
 ·exact ⟨_,cap,hv,hc⟩
theorem zp7 {P:Program} (w:World) {ops:Array Oper} {rest:List Oper} {o:Oper} {a:Act} {Q:Exit → Act → World → Prop}
  (hgd:o.guard=none) (s x:Operand) (t:TypeId) (ho:o.op = .call { callee:=.builtin .append,args:=#[s,x],argTypes:=#[t,t] })
  (e:TypeId) (i:TypeInfo) (z:Value) (size bytes:Nat) (ht:P.underlying t=some (.slice e)) (hi:P.info? e=some i) (hz:i.zero=some z)
  (hsize:i.size=size) (hby:i.bytes=bytes) (hzs:z.cells.size=size) (hsz:0 < size)
  (v:Value) (n:Nat) (xs:List Value) (hs:a.eval s=v) (hown:w.ownsRow 0 e size v n xs)
  (u:Value) (m:Nat) (news:List Value) (hx:a.eval x=u) (hown2:w.ownsRow 0 e size u m news) (hm0:m=0 → u = .slice none 0 0) (h1:∀ u ∈ news,u.oneCell'=true)
  (h63:n + m ≤ maxLen) (hbytes:(n + m) * bytes ≤ 140737488355328)
  (hK:∀ v' w',w'.ownsRow 0 e size v' (n + m) (xs ++ news) → Mods v.ownBlock.toList w w' → (∀ g,v'.ownBlock=some g → v.ownBlock=some g ∨ w.heap.size ≤ g) →
   wpList P ops Q rest (a.put o.dst v') w'):wpList P ops Q (o :: rest) a w:=by
 by_cases hm:m=0
 ·subst hm;obtain ⟨base,cap,rfl,hc⟩:=zqc hown;have hnews:news=[]:=List.eq_nil_of_length_eq_zero (by simpa using hown2.1);subst hnews;refine wpList_plain hgd fun _ hK' => ?_;unfold Oper.wp execOp;simp only [ho,resolve,invoke,builtin,Sem.run_bind,Sem.run_pure,Result.andThen_ok,List.map_toArray,List.map_cons,List.map_nil,hs,hx,hm0 rfl,zp6 w t _ e i ht hi base n cap hc];exact hK' _ _ (hK _ w (by simpa using hown) (QM _ _) (fun g hg => .inl hg))
 ·obtain ⟨g2,cap2,rfl⟩:=zpU hown2 AA;refine zw w hgd s x t ho e i z size bytes ht hi hz hsize hby hzs hsz v n xs hs hown ⟨g2,0,none⟩ m cap2 news hx hown2.1 (fun j u hj => by rw [zci,Nat.zero_add]; exact (zqw hown2).2.2 j u hj) h1 AA h63 hbytes ?_;intro g cap w' h2 h3 h4
  exact hK _ w' h2 h3 (fun g' hg' => by
   obtain rfl:g=g':=by simpa [Value.ownBlock] using hg'
   exact h4)
def MakeI (w w4:World) (cb pb:Nat) (l:List NT) (one:Bool) (i:Nat) (wr:World):Prop:=
 Mods [pb] w4 wr ∧ ∃ vl vr vt vk bl br bt ps,PlanM w4.heap.size w wr [] cb pb 4 (makeP 4 one (l.take i)) vl vr vt vk bl br bt ps
theorem zqC (one:Bool) (l:List NT) (i:Nat) (hi:i < l.length):makeP 4 one (l.take (i + 1))=zpm 4 one (makeP 4 one (l.take i)) l[i]:=by unfold makeP;rw [List.take_succ_eq_append_getElem hi,List.foldl_append];rfl
theorem zqD (one:Bool) (p:PlT) (n:NT):(zpm 4 one p n).left.length + (zpm 4 one p n).right.length + (zpm 4 one p n).rest.length + (zpm 4 one p n).keys.length=p.left.length + p.right.length + p.rest.length + p.keys.length + 1:=by
 unfold zpm;split
 ·simp; omega
 ·split
  ·simp; omega
  ·split <;> simp <;> omega
theorem zqE (one:Bool) (l:List NT):(makeP 4 one l).left.length + (makeP 4 one l).right.length + (makeP 4 one l).rest.length + (makeP 4 one l).keys.length=l.length:=by
 have h:∀ (l:List NT) (p:PlT),(l.foldl (zpm 4 one) p).left.length + (l.foldl (zpm 4 one) p).right.length + (l.foldl (zpm 4 one) p).rest.length + (l.foldl (zpm 4 one) p).keys.length=p.left.length + p.right.length + p.rest.length + p.keys.length + l.length:=by
  intro l
  induction l with
  | nil => intro p; rfl
  | cons n l ih => intro p; rw [List.foldl_cons,ih,zqD]; simp; omega
 have:=h l {};unfold makeP;rw [this];simp
theorem zra (w0 w:World) (L:List Nat) (v:Value) (n:NT) (sp:Nat) (hN:NAt w0 L v n) (hM:Mods [] w0 w):Calls Tryz.prog 19 #[v,.int .i64 sp] w (zpz w0 w L sp n):=by
 cases n with
 | leaf h => exact zpV w0 w L v _ sp hN hM (.inl (by simp [kidsN]))
 | un h a => exact zpV w0 w L v _ sp hN hM (.inl (by simp [kidsN]))
 | bin h a b =>
  by_cases hop:h.op=[61]
  ·exact zq9 w0 w L v h a b sp hN hM hop
  ·exact zpV w0 w L v _ sp hN hM (.inr hop)
theorem zru {one:Bool} {p:PlT} {n:NT} (h:one=true ∨ (usesN 4 n).2=false):zpm 4 one p n = { p with left:=p.left ++ [n] }:=if_pos h
theorem zrL {p:PlT} {n:NT} (h:(usesN 4 n).2=true) (h1:(usesN 4 n).1=false):zpm 4 false p n = { p with right:=p.right ++ [n] }:=by unfold zpm;rw [if_neg (by rw [h]; decide),if_pos h1]
theorem zrM {p:PlT} {n:NT} {k:NT × NT} (h:(usesN 4 n).2=true) (h1:(usesN 4 n).1=true) (hk:zps 4 n=some k):zpm 4 false p n = { p with keys:=p.keys ++ [k] }:=by unfold zpm;rw [if_neg (by rw [h]; decide),if_neg AM,hk]
theorem zrN {p:PlT} {n:NT} (h:(usesN 4 n).2=true) (h1:(usesN 4 n).1=true) (hk:zps 4 n=none):zpm 4 false p n = { p with rest:=p.rest ++ [n] }:=by unfold zpm;rw [if_neg (by rw [h]; decide),if_neg AM,hk]
def SplitO (w0 w:World) (L:List Nat) (ns:List NT) (e:Ending) (w':World):Prop:=
 ∃ v bs,e = .returned v ∧ PtrsOwn w w' v bs ∧ NodesAt w0 L bs ns ∧ (bs.length=0 → v = .slice none 0 0)
theorem zpG (w0 w:World) (L:List Nat) (v:Value) (o:Option NT) (h:OptN w0 L v o) (hM:Mods [] w0 w) (hl:(splitO o).length ≤ 100000) :
  Calls Tryz.prog 12 #[v] w (SplitO w0 w L (splitO o)):=by
 cases o with
 | none =>obtain rfl:v = .pointer none:=h;exact (zqy w).mono fun e w' h => ⟨_,[],h.1,by rw [h.2]; exact ⟨QM _ _,World.ownsRow_nil _ _ _ _,fun g hg => nomatch (show (none:Option Nat)=some g from hg)⟩,trivial,fun _ => rfl⟩
 | some n =>have h:NAt w0 L v n:=h;obtain ⟨b,a,rfl,-,-⟩:=h.head;exact (zqz n w0 w L b h hM hl).mono fun e w' ⟨v,bs,h1,h2,h3⟩ => ⟨v,bs,h1,h2,h3,fun h0 => by have:=h3.len; have:=zpQ n; omega⟩
theorem NodesAt.at {w:World} {L:List Nat}:∀ {bs:List Nat} {ns:List NT},NodesAt w L bs ns → ∀ i (hb:i < bs.length) (hn:i < ns.length),NAt w L (zh bs[i]) ns[i]:=by
 intro bs
 induction bs with
 | nil => intro ns h i hb; simp at hb
 | cons b bs ih => intro ns h i hb hn; cases ns with
  | nil => exact h.elim
  | cons n ns => cases i with
   | zero => exact h.1
   | succ i => exact ih h.2 i (by simpa using hb) (by simpa using hn)
theorem PlanM.start (w0 w:World) (L:List Nat) (cb pb:Nat) (B:Nat) (h:w.heap[pb]? = some (.cells #[zh cb,.int .i64 4,.slice none 0 0,.slice none 0 0,.slice none 0 0,.slice none 0 0] 49 (0,0))) :
  PlanM B w0 w L cb pb 4 {} (.slice none 0 0) (.slice none 0 0) (.slice none 0 0) (.slice none 0 0) [] [] [] []:=
 ⟨h,RowP.nil _ _ _ _ _ _,RowP.nil _ _ _ _ _ _,RowP.nil _ _ _ _ _ _,RowP.nil _ _ _ _ _ _,trivial,trivial,trivial,trivial⟩
end Go.Proofs.YtcabeljiobiojaaGreatDoor
