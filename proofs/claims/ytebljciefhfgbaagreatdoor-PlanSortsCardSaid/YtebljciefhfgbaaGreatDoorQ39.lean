/-
  law15.query, walked, of a text that is a query. No condition but that Go's own variables hold what they were laid with.
-/
import Derived.Test.YtebljciefhfgbaaGreatDoorChB
set_option linter.unusedVariables false
set_option maxRecDepth 100000
set_option maxHeartbeats 4000000
namespace Go.Proofs.YtebljciefhfgbaaGreatDoor
open Go.RowKit
theorem ydj {p:Prop} (h:p:=by
  go_enter Tryz.func21, Tryz.ntmps21;go_upto_region 1 with fail;go_quiet (fail);have hd:Mods [] w ((w.alloc (.cells #[.pointer none,.pointer none] 80)).drewN nq):=HH.out.1.drewN _;have hr:((w.alloc (.cells #[.pointer none,.pointer none] 80)).drewN nq).heap[w.heap.size]? = _:=HH.out.2.1
  first
  |guard_hyp gA2
   generalize (w.alloc (.cells #[.pointer none,.pointer none] 80)).drewN nq=wd at *;go_wp2_with (refine wpList_store_row rfl 80 (.tmp 4) (.tmp 42) rfl w.heap.size #[.pointer none,.pointer none] rfl rfl 80 _ hr AC rfl AN ?_);refine bodyPost_ret (zg rfl _ _ w.heap.size 80 #[.pointer none,.pointer none] (0,0) _ rfl (zi _ hr) Tryz.underlying80 rfl AC _ rfl) rfl ?_;exact HH.out.2.2 _ (hd.setRow (.inr (LR _)) _)
  |guard_hyp gA3
   have hk:=(QM [] (w.alloc (.cells #[.pointer none,.pointer none] 80))).drewN nq;replace c7:=hk.cell c7;replace k0:=hk.cell k0;replace k1:=hk.cell k1;clear c0 a1 a2 d1 d2 hk;generalize (w.alloc (.cells #[.pointer none,.pointer none] 80)).drewN nq=wd at *;go_upto_region 3 with fail;go_quiet (fail);have hd2:=hd.drewN nq;have hr2:(wd.drewN nq).heap[w.heap.size]? = _:=hr;clear c7 k0 k1 hr hd;generalize wd.drewN nq=w2 at *;have hca:=HO.out.1 w2 hd2;have hA3:=HO.out.1;have hD3:=HO.out.2;have hRR:R=_:=(HH.out.2.2.1).trans (by rw [HH.out.2.2.2.1,HH.out.2.2.2.2.1]);unfold sideV at hca hA3 hD3;clear HO;by_cases ht:usesN sp a=(false,true)
   ·have hR2:R=if zpO sp (d,a)=true then some (d,a) else none:=by rw [hRR,zrJ ht]; simp
    unfold zpO at hR2;simp only [ht] at hR2 hca hA3;generalize usesN sp d=rd at *;have HR:=QH hR2;clear hRR hR2;go_wp2_with fail;(with_reducible refine hca.mono ?_);rintro e w3 ⟨rfl,hM3⟩;have hd3:=hd2.trans hM3;have hr3:=hM3.heap hr2;have HA3:=QH hA3;have HD3:=QH hD3;clear hca hM3 hd2 hr2 hA3 hD3;go_upto_region 6 with fail;obtain ⟨r1,r2⟩:=rd;cases r1 <;> cases r2
    all_goals
     apply zz AC 15 _ rfl 80 (.tmp 4) (.tmp 64) rfl rfl rfl AC AC w.heap.size #[.pointer (some ⟨pd,0,none⟩),.pointer (some ⟨pa,0,none⟩)] _ _ hr3 AC rfl AN
     case hwalk =>intro bb;have HKA:=QH (fun (k:zay (zdL w3 w.heap.size #[.pointer (some ⟨pd,0,none⟩),.pointer (some ⟨pa,0,none⟩)] bb)) => zpC (HA3.out k.val ((zpB hd3 (LR _) bb).trans k.mods)));have HKD:=QH (fun (k:zay (zdL w3 w.heap.size #[.pointer (some ⟨pd,0,none⟩),.pointer (some ⟨pa,0,none⟩)] bb)) => zpC (HD3.out k.val ((zpB hd3 (LR _) bb).trans k.mods)));exact ybM
     case hxa => rfl
     case hya => rfl
     case hend =>intro wz hMz;have hrz:=hMz.heap (zi (w:=w3.drew) #[.pointer (some ⟨pd,0,none⟩),.pointer (some ⟨pa,0,none⟩)] hr3);have hfz:=(hd3.drew.setRow (.inr (LR _)) #[.pointer (some ⟨pd,0,none⟩),.pointer (some ⟨pa,0,none⟩)]).trans hMz;have HZ:=QH hfz;clear hMz hfz;go_wp2_with fail;refine bodyPost_ret (zg rfl _ _ w.heap.size 80 #[.pointer (some ⟨pd,0,none⟩),.pointer (some ⟨pa,0,none⟩)] (0,0) _ rfl hrz Tryz.underlying80 rfl AC _ rfl) rfl ?_;have hf:=zqb _ HR.out HH.out.2.2.2.2.2.2.1 HH.out.2.2.2.2.2.1;exact FIN.out _ _ _ _ rfl rfl HZ.out hf.1 hf.2
   ·have hR2:R=if zpO sp (a,d)=true then some (a,d) else none:=by rw [hRR,zrK ht]; simp
    unfold zpO at hR2;generalize usesN sp a=ra at *;generalize usesN sp d=rd at *;have HR:=QH hR2;clear hRR hR2;obtain ⟨q1,q2⟩:=ra;have hq:(q1=true ∧ q2=true) ∨ (q1=true ∧ q2=false) ∨ (q1=false ∧ q2=false):=by cases q1 <;> cases q2 <;> simp at ht ⊢
    clear ht;rcases hq with ⟨rfl,rfl⟩ | ⟨rfl,rfl⟩ | ⟨rfl,rfl⟩
    all_goals
     go_wp2_with fail;(with_reducible refine hca.mono ?_);rintro e w3 ⟨rfl,hM3⟩;have hd3:=hd2.trans hM3;have hr3:=hM3.heap hr2;have HA3:=QH hA3;have HD3:=QH hD3;clear hca hM3 hd2 hr2 hA3 hD3;go_upto_region 6 with fail;obtain ⟨r1,r2⟩:=rd;cases r1 <;> cases r2
     all_goals
      apply zz AC 15 _ rfl 80 (.tmp 4) (.tmp 64) rfl rfl rfl AC AC w.heap.size #[.pointer (some ⟨pa,0,none⟩),.pointer (some ⟨pd,0,none⟩)] _ _ hr3 AC rfl AN
      case hwalk =>intro bb;have HKA:=QH (fun (k:zay (zdL w3 w.heap.size #[.pointer (some ⟨pa,0,none⟩),.pointer (some ⟨pd,0,none⟩)] bb)) => zpC (HA3.out k.val ((zpB hd3 (LR _) bb).trans k.mods)));have HKD:=QH (fun (k:zay (zdL w3 w.heap.size #[.pointer (some ⟨pa,0,none⟩),.pointer (some ⟨pd,0,none⟩)] bb)) => zpC (HD3.out k.val ((zpB hd3 (LR _) bb).trans k.mods)));exact ybM
      case hxa => rfl
      case hya => rfl
      case hend =>intro wz hMz;have hrz:=hMz.heap (zi (w:=w3.drew) #[.pointer (some ⟨pa,0,none⟩),.pointer (some ⟨pd,0,none⟩)] hr3);have hfz:=(hd3.drew.setRow (.inr (LR _)) #[.pointer (some ⟨pa,0,none⟩),.pointer (some ⟨pd,0,none⟩)]).trans hMz;have HZ:=QH hfz;clear hMz hfz;go_wp2_with fail;refine bodyPost_ret (zg rfl _ _ w.heap.size 80 #[.pointer (some ⟨pa,0,none⟩),.pointer (some ⟨pd,0,none⟩)] (0,0) _ rfl hrz Tryz.underlying80 rfl AC _ rfl) rfl ?_;have hf:=zqb _ HR.out HH.out.2.2.2.2.2.1 HH.out.2.2.2.2.2.2.1;exact FIN.out _ _ _ _ rfl rfl HZ.out hf.1 hf.2
 ):p:=h
theorem ycB {p:Prop} (h:p:=by
  go_enter Tryz.func14, Tryz.ntmps14;go_wp2_with fail;go_ret;exact HFIN.out
 ):p:=h
theorem yav {p:Prop} (h:p:=by
  have gA2:=QH trivial;exact ydj
 ):p:=h
theorem yaQ {p:Prop} (h:p:=by
  obtain ⟨S,hS⟩:=EX ((⟨h.op.toArray⟩ : ByteArray):ByteArray);rw [hS] at c0;have HFIN:=QH hfin;clear hfin hb hS;unfold zh at *;by_cases h1:S = ⟨#[97,110,100]⟩
  ·subst h1;exact ycB
  ·have h2:=zqx h1;exact ycB
 ):p:=h
theorem ybM {p:Prop} (h:p:=by
  dsimp only [nop,List.set];(repeat go_big_quiet_step (first | with_reducible exact HKA.out _ | with_reducible exact HKD.out _));refine QW ?_;exact rfl
 ):p:=h
def Tabs3 (w:World):Prop:=Tabs2 w ∧ CkVars w
theorem Tabs3.later {w w':World} (h:Tabs3 w) (hM:Mods [] w w'):Tabs3 w':=⟨h.1.later hM,h.2.later hM⟩
theorem zop {l:Bs} {q:zt} (h:zaj l = .good q):FormQ q:=by
 unfold zaj at h;split at h
 ·cases h
 ·exact zjW h
theorem zbJ (w:World) (hT:Tabs3 w) {tb:Nat} (hI:TblsIn w (some ⟨tb,0,none⟩) tabsV []) {l:Bs} {q:zt} (h:zaj l = .good q) {qb:Nat} (hQ:QueryAt w [] qb q) (hok:zcA q) :
  Calls Tryz.prog 18 #[.slice (some ⟨tb,0,none⟩) 2 2,zh qb] w (zeo w tblsL q):=by
 rw [← zjY];exact zkd w hT.1.1 hT.1.2 hT.2 tabsV tabs_right 2 rfl _ 2 hI qb q hQ hok (zop h)
def QueryRes (w:World) (c:CQ) (e:Ending) (w':World):Prop:=∃ cb,e = .returned (zh cb) ∧ Mods [] w w' ∧ CheckedAt w' [] cb c
theorem query15 (w:World) (hT:Tabs3 w) (l:Bs) (hl:l.length ≤ 1000) (c:CQ) (hc:zaI l=some (.ok c)) :
  Calls Tryz.prog 12 #[.string ⟨l.toArray⟩] w (QueryRes w c):=by
 unfold zaI at hc
 cases hq:zaj l with
 | bad p k => rw [hq] at hc; cases hc
 | good q =>rw [hq] at hc;have hc:zao tblsL q = .ok c:=Option.some.inj hc;have hp1:=zcb w hT.1.1 l q hq AA;obtain ⟨S,hS⟩:=EX ((⟨l.toArray⟩ : ByteArray):ByteArray);rw [hS] at hp1 ⊢;have HT:=QH (AI hT (AI hq hc));clear hT hq hc hS hl;go_enter Tryz.func12, Tryz.ntmps12;go_wp2_with fail;(with_reducible refine hp1.mono ?_);rintro e w2 ⟨qb,rfl,hM2,hQ,hok⟩;unfold zh;clear hp1;have htb:=tables15 w2;have HQ:=QH (AI hM2 (AI hQ hok));clear hM2 hQ hok;go_wp2_with fail;(with_reducible refine htb.mono ?_);rintro e w3 ⟨tb,rfl,hM3,hI,-⟩;clear htb;have hck:=zbJ w3 (HT.out.1.later (HQ.out.1.trans hM3)) hI HT.out.2.1 (HQ.out.2.1.later hM3) HQ.out.2.2;have HM3:=QH (HQ.out.1.trans hM3);unfold zh at hck;clear hM3 hI;go_wp2_with fail;(with_reducible refine hck.mono ?_);rintro e w4 ⟨hM4,hres⟩;rw [HT.out.2.2] at hres;obtain ⟨cb,rfl,-,-,hCA⟩:=hres;unfold zh;clear hck;have HF:=QH (AI (HM3.out.trans hM4) (hCA [] AB));clear hM4 hCA;go_wp2_with fail;go_ret;exact ⟨cb,rfl,HF.out⟩
def PtrsOwn (w0 w:World) (v:Value) (bs:List Nat):Prop:=
 Mods [] w0 w ∧ w.ownsRow 0 55 1 v bs.length (bs.map zh) ∧ ∀ g,v.ownBlock=some g → w0.heap.size ≤ g
def NodesAt (w:World) (L:List Nat):List Nat → List NT → Prop
 | [],[] => True
 | b :: bs,n :: ns => NAt w L (zh b) n ∧ NodesAt w L bs ns
 | _,_ => False
theorem NodesAt.len {w:World} {L:List Nat}:∀ {bs:List Nat} {ns:List NT},NodesAt w L bs ns → bs.length=ns.length:=by
 intro bs
 induction bs with
 | nil => intro ns h; cases ns with
  | nil => rfl
  | cons n ns => exact h.elim
 | cons b bs ih => intro ns h; cases ns with
  | nil => exact h.elim
  | cons n ns => simp [ih h.2]
theorem NodesAt.map {w w':World} {L L':List Nat} (hf:∀ b n,NAt w L (zh b) n → NAt w' L' (zh b) n):∀ {bs:List Nat} {ns:List NT},NodesAt w L bs ns → NodesAt w' L' bs ns:=by
 intro bs
 induction bs with
 | nil => intro ns h; cases ns with
  | nil => trivial
  | cons n ns => exact h.elim
 | cons b bs ih => intro ns h; cases ns with
  | nil => exact h.elim
  | cons n ns => exact ⟨hf _ _ h.1,ih h.2⟩
theorem NodesAt.append {w:World} {L:List Nat} {cs:List Nat} {ms:List NT} (hc:NodesAt w L cs ms):∀ {bs:List Nat} {ns:List NT},NodesAt w L bs ns → NodesAt w L (bs ++ cs) (ns ++ ms):=by
 intro bs
 induction bs with
 | nil => intro ns h; cases ns with
  | nil => exact hc
  | cons n ns => exact h.elim
 | cons b bs ih => intro ns h; cases ns with
  | nil => exact h.elim
  | cons n ns => exact ⟨h.1,ih h.2⟩
theorem zpQ (n:NT):0 < (splitN n).length:=by
 induction n with
 | leaf h => simp [splitN]
 | un h a _ => simp [splitN]
 | bin h a b iha ihb => unfold splitN; split <;> simp <;> omega
theorem zpU {w:World} {T:TypeId} {size n:Nat} {v:Value} {xs:List Value} (h:w.ownsRow 0 T size v n xs) (hn:0 < n):∃ g cap,v = .slice (some ⟨g,0,none⟩) n cap:=by
 rcases h.2 with ⟨-,h0⟩ | ⟨g,cap,cur,hv,-⟩
 ·omega
 ·exact ⟨g,cap,hv⟩
theorem zqw {w:World} {T:TypeId} {size g n cap:Nat} {xs:List Value} (h:w.ownsRow 0 T size (.slice (some ⟨g,0,none⟩) n cap) n xs):g < w.heap.size ∧ n ≤ cap ∧ ∀ j u,xs[j]? = some u → w.cell? ⟨g,j,none⟩ = some u:=by exact ybp
theorem zqx {S:ByteArray} (h:¬ S = ⟨#[97,110,100]⟩):(S.toList == [97,110,100])=false:=by rw [beq_eq_false_iff_ne];intro hx;rw [ByteArray.toList_eq] at hx;exact h (zgl hx)
def SplitRes (w0 w:World) (L:List Nat) (ns:List NT) (e:Ending) (w':World):Prop:=
 ∃ v bs,e = .returned v ∧ PtrsOwn w w' v bs ∧ NodesAt w0 L bs ns
theorem zpE {w0 w w':World} {L:List Nat} {b:Nat} {n:NT} (h:NAt w0 L (zh b) n) (hs:splitN n=[n]) (hw:w'=w.alloc (.cells #[zh b] 55)) :
  SplitRes w0 w L (splitN n) (.returned (.slice (some ⟨w.heap.size,0,none⟩) 1 1)) w':=by
 subst hw;refine ⟨_,[b],rfl,⟨(QM _ _).alloc _,⟨rfl,.inr ⟨_,1,_,rfl,Nat.zero_le _,QN w _,LR _,by unfold maxLen; omega,rfl,rfl⟩⟩,fun g hg => ?_⟩,?_⟩
 ·simp [Value.ownBlock] at hg; omega
 ·rw [hs]; exact ⟨h,trivial⟩
theorem zqy (w:World):Calls Tryz.prog 14 #[.pointer none] w fun e w' => e = .returned (.slice none 0 0) ∧ w'=w:=by go_enter Tryz.func14, Tryz.ntmps14;go_wp2_with fail;go_ret;exact ⟨rfl,rfl⟩
theorem zqz (n:NT):∀ (w0 w:World) (L:List Nat) (b:Nat),NAt w0 L (zh b) n → Mods [] w0 w → (splitN n).length ≤ 100000 →
  Calls Tryz.prog 14 #[zh b] w (SplitRes w0 w L (splitN n)):=by
 induction n with
 | leaf h =>intro w0 w L b hN hM0 _;have hfin:=zpE (w:=w) hN rfl rfl;replace hN:=hN.mods (hM0.mono);obtain ⟨b',hb',hL,hb⟩:=hN;cases hb';have c0:=za hb 0;have c7:=za hb 7;change w.cell? _=some (.string ⟨h.op.toArray⟩) at c0;change w.cell? _=some (.slice none 0 0) at c7;exact yaQ
 | un h a ih =>intro w0 w L b hN hM0 _;have hfin:=zpE (w:=w) hN rfl rfl;replace hN:=hN.mods (hM0.mono);obtain ⟨b',c,cap,u,hb',hL,hc,hcap,hb,-,-⟩:=hN;cases hb';have c0:=za hb 0;have c7:=za hb 7;change w.cell? _=some (.string ⟨h.op.toArray⟩) at c0;change w.cell? _=some (.slice (some ⟨c,0,none⟩) 1 cap) at c7;exact yaQ
 | bin h a d iha ihd =>
  intro w0 w L b hN hM0 hlen;have hN0:=hN;obtain ⟨b',c,cap,u,x,hb',hL,hc,hcap,hb,k0,k1,hA0,hD0⟩:=hN;cases hb';obtain ⟨pa,aa,rfl,-,-⟩:=hA0.head;obtain ⟨pd,ad,rfl,-,-⟩:=hD0.head;replace hb:=hM0.heap hb;replace k0:=hM0.cell k0;replace k1:=hM0.cell k1;have c0:=za hb 0;have c7:=za hb 7;change w.cell? _=some (.string ⟨h.op.toArray⟩) at c0;change w.cell? _=some (.slice (some ⟨c,0,none⟩) 2 cap) at c7;by_cases hop:h.op=oAnd
  ·have hs:splitN (.bin h a d)=splitN a ++ splitN d:=by rw [splitN,if_pos hop]
   rw [hs] at hlen ⊢;rw [List.length_append] at hlen;rw [hop] at c0;change w.cell? _=some (.string ⟨#[97,110,100]⟩) at c0;have h1:=iha w0 w.drew L pa hA0 hM0.drew AA;have h2:=fun W (hM:Mods [] w.drew W) => ihd w0 W L pd hD0 (hM0.drew.trans hM) AA;obtain ⟨PP,hPP⟩:=EX (SplitRes w0 w L (splitN a ++ splitN d));rw [hPP];have gDU:=QH trivial;exact yey
  ·have hs:splitN (.bin h a d)=[.bin h a d]:=by rw [splitN,if_neg hop]
   have hfin:=zpE (w:=w) hN0 hs rfl;obtain ⟨S,hS⟩:=EX ((⟨h.op.toArray⟩ : ByteArray):ByteArray);have h1:¬ S = ⟨#[97,110,100]⟩:=fun hx => hop (by rw [← hS] at hx; have:=congrArg (fun b:ByteArray => b.data.toList) hx; simpa [oAnd] using this);rw [hS] at c0;have HFIN:=QH hfin;clear hfin hb hS hN0 hA0 hD0 hM0 iha ihd hs hop hlen;have h2:=zqx h1;unfold zh at *;exact ycB
def kidsN:NT → List NT
 | .leaf _ => []
 | .un _ a => [a]
 | .bin _ a b => [a,b]
theorem NAt.parts {w:World} {L:List Nat} {n:NT} {v:Value} (h:NAt w L v n):∃ b ao cap,v=zh b ∧ b ∉ L ∧ w.heap[b]? = some (.cells (nhC n.hd (.slice ao (kidsN n).length cap)).toArray 84 (0,0)) ∧ (kidsN n).length ≤ 2 ∧
  (0 < (kidsN n).length → ∃ c,ao=some ⟨c,0,none⟩ ∧ c ∉ L ∧ ∀ i (hi:i < (kidsN n).length),∃ u,w.cell? ⟨c,i,none⟩ = some u ∧ NAt w L u (kidsN n)[i]):=by
 cases n with
 | leaf h0 =>obtain ⟨b,h1,h2,h3⟩:=h;exact ⟨b,none,0,h1,h2,h3,by simp [kidsN],fun h => by simp [kidsN] at h⟩
 | un h0 a =>
  obtain ⟨b,c,cap,u,h1,h2,h3,-,h5,h6,h7⟩:=h;refine ⟨b,_,cap,h1,h2,h5,by simp [kidsN],fun _ => ⟨c,rfl,h3,fun i hi => ?_⟩⟩;obtain rfl:i=0:=by simp [kidsN] at hi; omega
  exact ⟨u,h6,h7⟩
 | bin h0 a d =>
  obtain ⟨b,c,cap,u,x,h1,h2,h3,-,h5,h6,h7,h8,h9⟩:=h;refine ⟨b,_,cap,h1,h2,h5,by simp [kidsN],fun _ => ⟨c,rfl,h3,fun i hi => ?_⟩⟩;have hi2:i=0 ∨ i=1:=by simp [kidsN] at hi; omega
  rcases hi2 with rfl | rfl
  ·exact ⟨u,h6,h8⟩
  ·exact ⟨x,h7,h9⟩
def orU (a b:Bool × Bool):Bool × Bool:=(a.1 || b.1,a.2 || b.2)
def usesL (sp:Nat) (a:Bool × Bool) (l:List NT):Bool × Bool:=l.foldl (fun x n => orU x (usesN sp n)) a
theorem zql (sp:Nat) (n:NT):usesN sp n=usesL sp (colU sp n.hd) (kidsN n):=by cases n <;> rfl
theorem zqm (sp:Nat) (a:Bool × Bool) (l:List NT) (i:Nat) (hi:i < l.length):usesL sp a (l.take (i + 1))=orU (usesL sp a (l.take i)) (usesN sp l[i]):=by unfold usesL;rw [List.take_succ_eq_append_getElem hi];rw [List.foldl_append];rfl
def UsesRes (w:World) (r:Bool × Bool) (e:Ending) (w':World):Prop:=e = .returned (.tuple #[.bool r.1,.bool r.2]) ∧ Mods [] w w'
def UsesIH (sp:Nat) (n:NT):Prop:=∀ (w:World) (L:List Nat) (v:Value),NAt w L v n → Calls Tryz.prog 36 #[v,.int .i64 sp] w (UsesRes w (usesN sp n))
theorem zpF (sp:Nat) (n:NT) (ih:∀ a ∈ kidsN n,UsesIH sp a):UsesIH sp n:=by
 intro w L v hN;obtain ⟨b,ao,cap,rfl,-,hb,hk2,hcs⟩:=hN.parts;have c0:=za hb 0;have c3:=za hb 3;have c7:=za hb 7;change w.cell? _=some (.string ⟨n.hd.op.toArray⟩) at c0;change w.cell? _=some (.int .i64 (n.hd.col:Nat)) at c3;change w.cell? _=some (.slice ao (kidsN n).length cap) at c7;obtain ⟨PP,hPP⟩:=EX (UsesRes w (usesN sp n));rw [hPP];have HPP:=QH hPP;obtain ⟨l,hl⟩:=EX (kidsN n);obtain ⟨k,hk⟩:=EX (l.length);have hu:=zql sp n;rw [hl] at hu hcs c7 hk2 ih;rw [hk] at c7 hk2;obtain ⟨x0,hx0⟩:=EX (colU sp n.hd);rw [hx0] at hu;obtain ⟨S,hS⟩:=EX ((⟨n.hd.op.toArray⟩ : ByteArray):ByteArray);rw [hS] at c0;obtain ⟨q,hq⟩:=EX (n.hd.col);rw [hq] at c3;obtain ⟨B,hB⟩:=EX ((S.toList == [99,111,108,117,109,110]));have hxx:x0=if B=true then (decide (q < sp),decide (sp ≤ q)) else (false,false):=by
  rw [← hx0,← hB,← hS,← hq,ByteArray.toList_eq];unfold colU;by_cases h:n.hd.op=oColumn
  ·rw [if_pos h,if_pos (by rw [h]; rfl)]
  ·rw [if_neg h,if_neg (by simpa [oColumn] using h)]
 obtain ⟨a0,b0⟩:=x0;have HH:=QH (AI hcs (AI ih (AI hk (AI hu hxx))));clear hN hb hcs ih hl hk hu hx0 hS hq hPP hxx;unfold zh;have HC:=QH (AI c0 (AI c3 c7));go_enter Tryz.func36, Tryz.ntmps36;go_upto_if 16 with fail;clear hB;go_cut [4,5] from 17 to 28 (fun t4 t5 wx => t4 = .bool a0 ∧ t5 = .bool b0 ∧ Mods [] w wx)
 case first =>
  cases B with
  | true =>
   have hxx:(a0,b0)=(decide (q < sp),decide (sp ≤ q)):=by rw [HH.out.2.2.2.2,if_pos rfl]
   have HF:=QH (AI (show a0=decide (q < sp) from congrArg Prod.fst hxx) (show b0=decide (sp ≤ q) from congrArg Prod.snd hxx));clear hxx;go_wp2_with fail;go_quiet (fail);go_wp2_with fail
   go_meet
   exact ⟨by rw [HF.out.1],by rw [HF.out.2],(QM _ _).drewN _⟩
  | false =>
   have hxx:(a0,b0)=(false,false):=by rw [HH.out.2.2.2.2,if_neg AD]
   have HF:=QH hxx;clear hxx;go_wp2_with fail
   go_meet
   cases HF.out;exact ⟨rfl,rfl,QM _ _⟩
 case rest =>
  obtain ⟨rfl,rfl,hM⟩:=hcut;generalize wc=wx at *;have c7:=hM.cell HC.out.2.2;clear c0 c3;go_wp2_with fail;go_loopg [4,5,34] k (fun gk t4 t5 t34 wr => ∃ i:Nat,i + gk=k ∧ t34 = .int .i64 i ∧ t4 = .bool (usesL sp (a0,b0) (l.take i)).1 ∧ t5 = .bool (usesL sp (a0,b0) (l.take i)).2 ∧ Mods [] w wr)
  case atStart => exact ⟨0,by omega,rfl,rfl,rfl,hM⟩
  obtain ⟨i,hin,rfl,rfl,rfl,hMr⟩:=hrel;by_cases hlt:i < k
  ·obtain ⟨hcs,ih,hk,hu,hxx⟩:=HH.out;obtain ⟨c,rfl,-,hc⟩:=hcs AA;have hil:i < l.length:=by omega
   obtain ⟨u,hu0,hu1⟩:=hc i hil;have k0:=hMr.cell hu0;have hca:=ih l[i] (List.getElem_mem hil) wr L u (hu1.mods (hMr.mono));have hst:=zqm sp (a0,b0) l i hil;unfold UsesRes at hca;generalize usesL sp (a0,b0) (l.take i)=x at *;generalize usesN sp l[i]=z at *;have HS:=QH hst;clear hst hcs ih hk hu hxx hc hu0 hu1 c7;obtain ⟨x1,x2⟩:=x;obtain ⟨z1,z2⟩:=z;cases x1 <;> cases x2 <;> cases z1 <;> cases z2
   all_goals
    go_wp2_with fail;(with_reducible refine hca.mono ?_);rintro e w2 ⟨rfl,hM2⟩;have hM3:=hMr.trans hM2;clear hca;go_wp2_with fail;go_roundg (k - (i + 1))
    case measure => omega
    case rel => exact ⟨i + 1,by omega,by go_num,by rw [HS.out]; rfl,by rw [HS.out]; rfl,hM3⟩
  ·obtain rfl:k=i:=by omega
   have hfin:PP (.returned (.tuple #[.bool (usesL sp (a0,b0) (l.take k)).1,.bool (usesL sp (a0,b0) (l.take k)).2])) wr:=by rw [← HPP.out,HH.out.2.2.2.1,← HH.out.2.2.1,List.take_length];exact ⟨rfl,hMr⟩
   have HFIN:=QH hfin;clear hfin;go_wp2_with fail;exact HFIN.out
theorem zq8 (sp:Nat):∀ n:NT,UsesIH sp n:=by
 intro n
 induction n with
 | leaf h => exact zpF sp _ (fun a ha => by simp [kidsN] at ha)
 | un h a ih => exact zpF sp _ (fun x hx => by simp [kidsN] at hx; rw [hx]; exact ih)
 | bin h a b iha ihb => exact zpF sp _ (fun x hx => by
   simp [kidsN] at hx;rcases hx with rfl | rfl
   ·exact iha
   ·exact ihb)
theorem zqA {S:ByteArray} {l:List UInt8} (h:¬ S = ⟨l.toArray⟩):(S.toList == l)=false:=by rw [beq_eq_false_iff_ne,ByteArray.toList_eq];exact fun hx => h (zgl hx)
def sideV (r:Bool × Bool):Value:=.agg #[.bool r.1,.bool r.2]
theorem zp5 (w:World) (L:List Nat) (v:Value) (n:NT) (sp:Nat) (hN:NAt w L v n):Calls Tryz.prog 20 #[v,.int .i64 sp] w fun e w' => e = .returned (sideV (usesN sp n)) ∧ Mods [] w w':=by have hM0:=(QM [] w).alloc (.cells #[.bool false,.bool false] 77);have hb:=QN w (.cells #[.bool false,.bool false] 77);have hu:=zq8 sp n _ L v (hN.mods (hM0.mono));unfold UsesRes at hu;unfold sideV;generalize usesN sp n=r at *;obtain ⟨r1,r2⟩:=r;have HH:=QH (AI hM0 hb);clear hN hM0 hb;go_enter Tryz.func20, Tryz.ntmps20;go_wp2_with fail;(with_reducible refine hu.mono ?_);rintro e w2 ⟨rfl,hM2⟩;have hr:=hM2.heap HH.out.2;have hMw:=HH.out.1.trans hM2;clear hu;go_wp2_with (refine wpList_store_row rfl 77 (.tmp 4) (.tmp 15) rfl w.heap.size #[.bool r1,.bool r2] rfl rfl 77 _ hr AC rfl AN ?_);have h3:=zi #[.bool r1,.bool r2] hr;have e0:=za h3 0;have e1:=za h3 1;change World.cell? _ _=some (.bool r1) at e0;change World.cell? _ _=some (.bool r2) at e1;refine bodyPost_ret (by simp [results,Tryz.results20, go_sem,e0,e1,Result.andThen]; try rfl) rfl ?_;exact ⟨rfl,hMw.setRow (.inr (LR _)) _⟩
def zpz (w0 w:World) (L:List Nat) (sp:Nat) (n:NT) (e:Ending) (w':World):Prop:=
 ∃ v1 v2 ok,e = .returned (.tuple #[.agg #[v1,v2],.bool ok]) ∧ Mods [] w w' ∧ (v1.oneCell'=true ∧ v2.oneCell'=true) ∧ (zps sp n=none → ok=false) ∧ ∀ k,zps sp n=some k → ok=true ∧ NAt w0 L v1 k.1 ∧ NAt w0 L v2 k.2
theorem zqB {w0 w w':World} {L:List Nat} {sp:Nat} {n:NT} (h:zps sp n=none) (hM:Mods [] w w'):zpz w0 w L sp n (.returned (.tuple #[.agg #[.pointer none,.pointer none],.bool false])) w':=
 ⟨_,_,false,rfl,hM,⟨rfl,rfl⟩,fun _ => rfl,fun k hk => by rw [h] at hk; cases hk⟩
theorem zpV (w0 w:World) (L:List Nat) (v:Value) (n:NT) (sp:Nat) (hN:NAt w0 L v n) (hM:Mods [] w0 w) (hn:(kidsN n).length ≠ 2 ∨ n.hd.op ≠ [61]) :
  Calls Tryz.prog 21 #[v,.int .i64 sp] w (zpz w0 w L sp n):=by
 have hpn:zps sp n=none:=by
  cases n with
  | leaf h => rfl
  | un h a => rfl
  | bin h a b =>
   rcases hn with hn | hn
   ·simp [kidsN] at hn
   ·simp only [zps];exact if_neg (fun hx => hn hx.1)
 have hfin:=fun w' => zqB (w0:=w0) (w:=w) (w':=w') (L:=L) hpn;obtain ⟨b,ao,cap,rfl,-,hb,-,-⟩:=hN.parts;replace hb:=hM.heap hb;have hM0:=(QM [] w).alloc (.cells #[.pointer none,.pointer none] 80);have hr:=QN w (.cells #[.pointer none,.pointer none] 80);have c0:=hM0.cell (za hb 0);have c7:=hM0.cell (za hb 7);change World.cell? _ _=some (.string ⟨n.hd.op.toArray⟩) at c0;change World.cell? _ _=some (.slice ao (kidsN n).length cap) at c7;obtain ⟨S,hS⟩:=EX ((⟨n.hd.op.toArray⟩ : ByteArray):ByteArray);obtain ⟨k,hk⟩:=EX ((kidsN n).length);rw [hS] at c0;rw [hk] at c7 hn;have hS2:¬ S = ⟨#[61]⟩ ∨ (S = ⟨#[61]⟩ ∧ ¬ (k:Int)=2):=by
  by_cases h:S = ⟨#[61]⟩
  ·refine .inr ⟨h,?_⟩;rcases hn with hn | hn
   ·omega
   ·exact absurd (by rw [← hS] at h; have:=congrArg (fun b:ByteArray => b.data.toList) h; simpa using this) hn
  ·exact .inl h
 have HH:=QH (AI hM0 (AI hr hfin));clear hb hN hM0 hr hfin hS hk hn hpn;unfold zh;rcases hS2 with h1 | ⟨rfl,h1⟩
 ·have h2:=zqA (l:=[61]) h1;have h3:(S == ⟨#[61]⟩)=false:=zgp (l:=[61]) (fun hx => h1 (zgl hx));exact yav
 ·exact yav
theorem zpB {w wd:World} {g:Nat} {cells:Array Value} (h:Mods [] w wd) (hg:w.heap.size ≤ g) (b:Bool):Mods [] w (zdL wd g cells b):=by
 cases b
 ·exact h.drew
 ·exact h.drew.setRow (.inr hg) _
theorem zrJ {sp:Nat} {a d:NT} (h:usesN sp a=(false,true)):turnN sp a d=(d,a):=if_pos h
theorem zrK {sp:Nat} {a d:NT} (h:usesN sp a ≠ (false,true)):turnN sp a d=(a,d):=if_neg h
theorem zpC {W0:World} {f:Nat} {args:Array Value} {v:Value} {k:zay W0} (h:Calls Tryz.prog f args k.val fun e w' => e = .returned v ∧ Mods [] k.val w'):Calls Tryz.prog f args k.val fun e w' => e = .returned v ∧ ∃ k':zay W0,w'=k'.val:=
 h.mono fun e w' h => ⟨h.1,⟨w',k.mods.trans h.2⟩,rfl⟩
theorem zqb {R:Option (NT × NT)} {w0:World} {L:List Nat} {x y:NT} {v1 v2:Value} (ok:Bool) (hR:R=if ok=true then some (x,y) else none) (h1:NAt w0 L v1 x) (h2:NAt w0 L v2 y) :
  (R=none → ok=false) ∧ ∀ k,R=some k → ok=true ∧ NAt w0 L v1 k.1 ∧ NAt w0 L v2 k.2:=by
 cases ok
 ·exact ⟨fun _ => rfl,fun k hk => by rw [hR] at hk; cases hk⟩
 ·exact ⟨fun h => (by rw [hR] at h; cases h),fun k hk => by rw [hR] at hk; cases hk; exact ⟨rfl,h1,h2⟩⟩
theorem zq9 (w0 w:World) (L:List Nat) (v:Value) (h:NHd) (a d:NT) (sp:Nat) (hN:NAt w0 L v (.bin h a d)) (hM:Mods [] w0 w) (hop:h.op=[61]) :
  Calls Tryz.prog 21 #[v,.int .i64 sp] w (zpz w0 w L sp (.bin h a d)):=by
 obtain ⟨b,c,cap,u,x,rfl,-,-,hcap,hb,k0,k1,hA,hD⟩:=hN;obtain ⟨pa,aa,rfl,-,ha⟩:=hA.head;obtain ⟨pd,ad,rfl,-,hdd⟩:=hD.head;have hM0:=(QM [] w).alloc (.cells #[.pointer none,.pointer none] 80);have hr:=QN w (.cells #[.pointer none,.pointer none] 80);have hMM:=hM.trans hM0;have c0:=hMM.cell (za hb 0);have c7:=hMM.cell (za hb 7);have a1:=hMM.cell (za ha 1);have a2:=hMM.cell (za ha 2);have d1:=hMM.cell (za hdd 1);have d2:=hMM.cell (za hdd 2);replace k0:=hMM.cell k0;replace k1:=hMM.cell k1;change World.cell? _ _=some (.string ⟨h.op.toArray⟩) at c0;rw [hop] at c0;change World.cell? _ _=some (.string ⟨#[61]⟩) at c0;change World.cell? _ _=some (.slice (some ⟨c,0,none⟩) 2 cap) at c7;change World.cell? _ _=some (.int .i64 (a.hd.t.k:Nat)) at a1;change World.cell? _ _=some (.int .i64 (a.hd.t.s:Nat)) at a2;change World.cell? _ _=some (.int .i64 (d.hd.t.k:Nat)) at d1;change World.cell? _ _=some (.int .i64 (d.hd.t.s:Nat)) at d2;have hpn:∀ r,zps sp (.bin h a d)=r → r=(if a.hd.t=d.hd.t ∧ zpO sp (turnN sp a d)=true then some (turnN sp a d) else none):=by intro r hr;rw [← hr];simp only [zps,hop,true_and]
 obtain ⟨R,hR⟩:=EX (zps sp (.bin h a d))
 have hfin:∀ v1 v2 ok w',v1.oneCell'=true → v2.oneCell'=true → Mods [] w w' → (R=none → ok=false) → (∀ k,R=some k → ok=true ∧ NAt w0 L v1 k.1 ∧ NAt w0 L v2 k.2) → zpz w0 w L sp (.bin h a d) (.returned (.tuple #[.agg #[v1,v2],.bool ok])) w':=
  fun v1 v2 ok w' p1 p2 h1 h2 h3 => ⟨v1,v2,ok,rfl,h1,⟨p1,p2⟩,by rw [hR]; exact h2,by rw [hR]; exact h3⟩
 have hR:=hpn R hR;obtain ⟨PP,hPP⟩:=EX (zpz w0 w L sp (.bin h a d));rw [hPP] at hfin ⊢;have ofA:∀ W,Mods [] w W → Calls Tryz.prog 20 #[.pointer (some ⟨pa,0,none⟩),.int .i64 sp] W fun e w' => e = .returned (sideV (usesN sp a)) ∧ Mods [] W w':=fun W hW => zp5 W [] _ a sp ((hA.weaken AB).mods (hM.trans hW));have ofD:∀ W,Mods [] w W → Calls Tryz.prog 20 #[.pointer (some ⟨pd,0,none⟩),.int .i64 sp] W fun e w' => e = .returned (sideV (usesN sp d)) ∧ Mods [] W w':=fun W hW => zp5 W [] _ d sp ((hD.weaken AB).mods (hM.trans hW));obtain ⟨ak,hak⟩:=EX (a.hd.t.k);obtain ⟨asc,has⟩:=EX (a.hd.t.s);obtain ⟨dk,hdk⟩:=EX (d.hd.t.k);obtain ⟨ds,hds⟩:=EX (d.hd.t.s);have hat:a.hd.t = ⟨ak,asc⟩:=by rw [← hak,← has]
 have hdt:d.hd.t = ⟨dk,ds⟩:=by rw [← hdk,← hds]
 rw [hak] at a1;rw [has] at a2;rw [hdk] at d1;rw [hds] at d2;have HH:=QH (AI hM0 (AI hr (AI hR (AI hat (AI hdt (AI hA (AI hD hM)))))));have FIN:=QH hfin;have HO:=QH (AI ofA ofD);clear hb ha hdd hA hD hM hM0 hr hMM hpn hR hfin hak has hdk hds hat hdt ofA ofD hcap hPP;unfold zh at *;have htri:(ak=dk ∧ asc=ds) ∨ (ak=dk ∧ ¬ asc=ds) ∨ ¬ ak=dk:=by omega
 rcases htri with ⟨rfl,rfl⟩ | ⟨rfl,h2⟩ | h2
 ·have gA3:=QH trivial;exact ydj
 all_goals
  have hRn:R=none:=by rw [HH.out.2.2.1,HH.out.2.2.2.1,HH.out.2.2.2.2.1];exact if_neg (fun hx => h2 (by have:=hx.1; simp only [Ty.mk.injEq] at this; omega))
  have HRN:=QH hRn;clear hRn;go_enter Tryz.func21, Tryz.ntmps21;go_upto_region 1 with fail;go_quiet (fail);have hd:Mods [] w ((w.alloc (.cells #[.pointer none,.pointer none] 80)).drewN nq):=HH.out.1.drewN _;have hr:((w.alloc (.cells #[.pointer none,.pointer none] 80)).drewN nq).heap[w.heap.size]? = _:=HH.out.2.1;generalize (w.alloc (.cells #[.pointer none,.pointer none] 80)).drewN nq=wd at *;go_wp2_with (refine wpList_store_row rfl 80 (.tmp 4) (.tmp 42) rfl w.heap.size #[.pointer none,.pointer none] rfl rfl 80 _ hr AC rfl AN ?_);refine bodyPost_ret (zg rfl _ _ w.heap.size 80 #[.pointer none,.pointer none] (0,0) _ rfl (zi _ hr) Tryz.underlying80 rfl AC _ rfl) rfl ?_;exact FIN.out _ _ false _ rfl rfl (hd.setRow (.inr (LR _)) _) (fun _ => rfl) (fun k hk => by rw [HRN.out] at hk; cases hk)
end Go.Proofs.YtebljciefhfgbaaGreatDoor
