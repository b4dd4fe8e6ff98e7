/-
  A join by what is the same, in plain words: where its pairs stand. It speaks of no program; no condition.
-/
import Derived.Test.YtcabeljiobiojaaGreatDoorQ51
set_option linter.unusedVariables false
set_option maxRecDepth 100000
set_option maxHeartbeats 4000000
namespace Go.Proofs.YtcabeljiobiojaaGreatDoor
open Go.RowKit
theorem CC {p:Prop} (h:p:=by simpa using hkn):p:=h
theorem yga {p:Prop} (h:p:=by
  intro W' hM' hR' u r hr hu;exact (ztH W' rb pb kc ko (zh cb) _ _ _ u _ hR' (hM'.heap hb (by simpa using hQ.pne))).mono fun e w' h => ⟨h.1,h.2.mono,hR'.mods h.2 BU⟩
 ):p:=h
section
variable {α β γ:Type} (p:α → β → Bool) (F:α → β → γ)
def ztc (ys:List β) (a:α):List γ:=(ys.filter (p a)).map (F a)
def zs6 (xs:List α) (ys:List β):List γ:=xs.flatMap (ztc p F ys)
def atX (xs:List α) (ys:List β) (i:Nat):Nat:=(zs6 p F (xs.take i) ys).length
def atY (ys:List β) (a:α) (k:Nat):Nat:=((ys.take k).filter (p a)).length
theorem zuz (xs:List α) (ys:List β):atX p F xs ys xs.length=(zs6 p F xs ys).length:=by unfold atX; rw [List.take_length]
theorem zul (xs:List α) (ys:List β):atX p F xs ys 0=0:=by simp [atX,zs6]
theorem zum (ys:List β) (a:α):atY p ys a 0=0:=by simp [atY]
theorem zun (xs:List α) (ys:List β) {i:Nat} (hi:i < xs.length):atX p F xs ys (i + 1)=atX p F xs ys i + atY p ys xs[i] ys.length:=by unfold atX atY zs6;rw [List.take_succ_eq_append_getElem hi,List.flatMap_append,List.length_append,List.take_length];simp [ztc]
theorem zuo (ys:List β) (a:α) {k:Nat} (hk:k < ys.length):atY p ys a (k + 1)=atY p ys a k + (if p a ys[k]=true then 1 else 0):=by
 unfold atY;rw [List.take_succ_eq_append_getElem hk,List.filter_append,List.length_append];by_cases h:p a ys[k]=true
 ·simp [h]
 ·simp [h]
theorem zup (xs:List α) (ys:List β) {i k:Nat} (hi:i < xs.length) (hk:k < ys.length) (h:p xs[i] ys[k]=true) :
  (zs6 p F xs ys)[atX p F xs ys i + atY p ys xs[i] k]? = some (F xs[i] ys[k]):=by
 have e:zs6 p F xs ys=zs6 p F (xs.take i) ys ++ (ztc p F ys xs[i] ++ zs6 p F (xs.drop (i + 1)) ys):=by unfold zs6;rw [← List.flatMap_cons,← List.flatMap_append,List.getElem_cons_drop,List.take_append_drop]
 have e2:ztc p F ys xs[i]=((ys.take k).filter (p xs[i])).map (F xs[i]) ++ F xs[i] ys[k] :: ((ys.drop (k + 1)).filter (p xs[i])).map (F xs[i]):=by
  unfold ztc;have h3:ys=ys.take k ++ ys[k] :: ys.drop (k + 1):=by rw [List.getElem_cons_drop,List.take_append_drop]
  conv => lhs; rw [h3]
  rw [List.filter_append,List.filter_cons,if_pos h,List.map_append,List.map_cons]
 rw [e];unfold atX;rw [List.getElem?_append_right BS,Nat.add_sub_cancel_left,e2];have hl:atY p ys xs[i] k=(((ys.take k).filter (p xs[i])).map (F xs[i])).length:=by unfold atY; rw [List.length_map]
 rw [hl,List.append_assoc,List.getElem?_append_right (LR _),Nat.sub_self];rfl
end
def hd0 (r:List V):V:=r.getD 0 zeroV0
def kL0 (r:List V):V × Bool:=(r.getD 0 zeroV0,!(r.getD 0 zeroV0).z)
def kR0 (r:List V):V × Bool:=(r.getD 4 zeroV0,!(r.getD 4 zeroV0).z)
def fits2 (r u:List V):Bool:=!(hd0 u).z && decide ((hd0 u).n=(hd0 r).n)
def out2 (r u:List V):List V:=[hd0 r,hd0 u,u.getD 2 zeroV0]
theorem zt5 (u:List V) (k:Nat):(zs4 4 u).getD (4 + k) zeroV0=u.getD k zeroV0:=by unfold zs4;rw [List.getD_eq_getElem?_getD,List.getElem?_append_right BU,List.length_replicate,Nat.add_sub_cancel_left,← List.getD_eq_getElem?_getD]
theorem zt6 (r u:List V) (hr:r.length=4) (k:Nat):(r ++ u).getD (4 + k) zeroV0=u.getD k zeroV0:=by rw [List.getD_eq_getElem?_getD,List.getElem?_append_right BS,hr,Nat.add_sub_cancel_left,← List.getD_eq_getElem?_getD]
theorem zuq (r u:List V) (hr:r.length=4):(r ++ u).getD 0 zeroV0=r.getD 0 zeroV0:=by rw [List.getD_eq_getElem?_getD,List.getElem?_append_left BS,← List.getD_eq_getElem?_getD]
def ztv (v:V):Prop:=v.s = ⟨#[]⟩ ∧ (v.z=true → v.n=0)
theorem ztN (a:Nat) (r:List V):(zs4 a r).drop a=r:=by unfold zs4; rw [List.drop_append_of_le_length BU]; simp
theorem ztQ (ls us:List (List V)) (hl:∀ r ∈ ls,ztv (hd0 r) ∧ (hd0 r).z=false ∧ r.length=4) (hu:∀ u ∈ us,ztv (hd0 u)) (out:List V → List V) (hout:∀ r u,r.length=4 → out (r ++ u)=out2 r u) :
  (joinP kL0 kR0 (fun _ => true) ls (us.map (zs4 4))).map out=zs6 fits2 out2 ls us:=by
 unfold joinP zs6;rw [List.map_flatMap];have key:∀ r ∈ ls,(zs2 kL0 kR0 (fun _ => true) (us.map (zs4 4)) r).map out=ztc fits2 out2 us r:=by
  intro r hr;obtain ⟨⟨hs,-⟩,hz,h4⟩:=hl r hr;unfold zs2 ztc;have hz':(kL0 r).2=true:=by unfold kL0; unfold hd0 at hz; simp only [hz,Bool.not_false]
  rw [if_pos hz',List.filter_eq_self.2 (fun _ _ => rfl),List.filter_map,List.map_map,List.map_map];have hp:∀ u ∈ us,((fun u => (kR0 u).2 && decide ((kR0 u).1=(kL0 r).1)) ∘ zs4 4) u=fits2 r u:=by
   intro u huu;obtain ⟨hus,huz⟩:=hu u huu;have e0:(zs4 4 u).getD 4 zeroV0=hd0 u:=zt5 u 0;show ((!((zs4 4 u).getD 4 zeroV0).z) && decide ((zs4 4 u).getD 4 zeroV0=r.getD 0 zeroV0))=_;rw [e0];unfold fits2;change (!(hd0 u).z && decide (hd0 u=hd0 r))=_
   cases hc:(hd0 u).z with
   | true => rfl
   | false =>
    congr 1;apply decide_eq_decide.2;constructor
    ·intro h; rw [h]
    ·intro h
     cases hx:hd0 u with
     | mk uz un us' =>
      cases hy:hd0 r with
      | mk rz rn rs' =>rw [hx] at hc hus h;rw [hy] at hz hs h;simp only at hc hus h hz hs;subst hc hus h hz hs;rfl
  rw [List.filter_congr hp];refine List.map_congr_left fun u _ => ?_;show out (r ++ (zs4 4 u).drop 4)=_;rw [ztN,hout r u h4]
 clear hl hu
 induction ls with
 | nil => rfl
 | cons r ls ih =>rw [List.flatMap_cons,List.flatMap_cons,key r List.mem_cons_self,ih fun x hx => key x (CM _ hx)]
theorem zuA:∃ c h1 h2 a b d,zaI joinL=some (.ok c) ∧ JoinT c ∧ c.grouped=false ∧
  ((makeP 4 false (splitO c.on ++ splitO c.whr)).left=[] ∧ (makeP 4 false (splitO c.on ++ splitO c.whr)).right=[] ∧ (makeP 4 false (splitO c.on ++ splitO c.whr)).rest=[] ∧ (makeP 4 false (splitO c.on ++ splitO c.whr)).keys=[(.leaf h1,.leaf h2)]) ∧
  (h1.op=oColumn ∧ h1.col=0) ∧ (h2.op=oColumn ∧ h2.col=4) ∧ c.items=[.leaf a,.leaf b,.leaf d] ∧ (a.op=oColumn ∧ a.col=0) ∧ (b.op=oColumn ∧ b.col=4) ∧ d.op=oColumn ∧ d.col=6:=by
 have h:=zux
 cases hr:zaI joinL with
 | none => rw [hr] at h; cases h
 | some r =>
  rw [hr] at h
  cases r with
  | bad p k => cases h
  | ok c =>
   unfold joinOk headJ isCol at h;simp only [Bool.and_eq_true,decide_eq_true_eq] at h;obtain ⟨⟨⟨⟨⟨⟨⟨⟨e1,e2⟩,e3⟩,e4⟩,e5⟩,e6⟩,e7⟩,hp⟩,hi⟩:=h;split at hp
   ·next h1 h2 q1 q2 q3 q4 =>
    simp only [Bool.and_eq_true,decide_eq_true_eq] at hp;split at hi
    ·next a b d q5 =>
     simp only [Bool.and_eq_true,decide_eq_true_eq] at hi;exact ⟨c,h1,h2,a,b,d,rfl,⟨e1,e2,List.isEmpty_iff.1 e4,e5,e6,e7⟩,by simpa using e3,⟨q1,q2,q3,q4⟩,hp.1,hp.2,q5,hi.1.1,hi.1.2,hi.2.1,hi.2.2⟩
    ·cases hi
   ·cases hp
theorem zuB:∃ c h l,zaI noneL=some (.ok c) ∧ JoinT c ∧ c.grouped=false ∧
  ((makeP 4 false (splitO c.on ++ splitO c.whr)).left = .leaf h :: l ∧ (makeP 4 false (splitO c.on ++ splitO c.whr)).right=[] ∧ (makeP 4 false (splitO c.on ++ splitO c.whr)).rest=[] ∧ (makeP 4 false (splitO c.on ++ splitO c.whr)).keys=[]) ∧
  h.op=[118,97,108,117,101] ∧ h.n=0 ∧ h.null=false ∧ l.length ≤ 100:=by
 have h:=zuy
 cases hr:zaI noneL with
 | none => rw [hr] at h; cases h
 | some r =>
  rw [hr] at h
  cases r with
  | bad p k => cases h
  | ok c =>
   unfold noneOk headJ at h;simp only [Bool.and_eq_true,decide_eq_true_eq] at h;obtain ⟨⟨⟨⟨⟨⟨⟨e1,e2⟩,e3⟩,e4⟩,e5⟩,e6⟩,e7⟩,hp⟩:=h;split at hp
   ·next h1 l q1 q2 q3 q4 =>
    simp only [Bool.and_eq_true,decide_eq_true_eq] at hp;exact ⟨c,h1,l,rfl,⟨e1,e2,List.isEmpty_iff.1 e4,e5,e6,e7⟩,by simpa using e3,⟨q1,q2,q3,q4⟩,hp.1.1.1,hp.1.1.2,by simpa using hp.1.2,hp.2⟩
   ·cases hp
theorem ztO {w:World} {T:TypeId} {k n:Nat} {v:Value} {xs:List Value} (h:w.ownsRow 0 T k v n xs) (h0:0 < n):∃ g cap,v = .slice (some ⟨g,0,none⟩) n cap:=by
 rcases h.2 with ⟨hv,hl⟩ | ⟨g',cap',cur,hv,-⟩
 ·omega
 ·exact ⟨_,_,hv⟩
theorem zti (w:World) (rb pb:Nat) (hR:RunAt w rb pb) (ao:Option Addr) (cap:Nat) (row:Value):Calls Tryz.prog 41 #[zh rb,.slice ao 0 cap,row] w (ztn w rb pb true):=
 (zqF w rb ao cap row).mono fun e w' ⟨h1,h2⟩ => ⟨h1,by rw [h2]; exact QM _ _,by rw [h2]; exact hR⟩
theorem zuC (w:World) (c:CQ) (h1 h2:NHd) (hp:(makeP 4 false (splitO c.on ++ splitO c.whr)).left=[] ∧ (makeP 4 false (splitO c.on ++ splitO c.whr)).right=[] ∧ (makeP 4 false (splitO c.on ++ splitO c.whr)).rest=[] ∧ (makeP 4 false (splitO c.on ++ splitO c.whr)).keys=[(.leaf h1,.leaf h2)])
  (hr:c.right=some 1) (e1:h1.op=oColumn ∧ h1.col=0) (e2:h2.op=oColumn ∧ h2.col=4) (ao bo:Option Addr) (cap1 cap2 n1 n2:Nat) (ls us:List (List V)) (hn1:ls.length=n1) (hn2:us.length=n2) (hI1:RowsIn w ao ls []) (hI2:RowsIn w bo us []) (fl:zpp ls) (fu:zpp us)
  (ol:∀ r ∈ ls,okV (hd0 r)) (ou:∀ r ∈ us,okV (hd0 r)):JoinIs w c (.slice ao n1 cap1) (.slice bo n2 cap2) (joinP kL0 kR0 (fun _ => true) ls (us.map (zs4 4))):=by
 intro B w3 w4 pb cb vl vr vt vk bl br bt ps hM3 hM4 hP W rb hW hrb hQ hb;have hM04:=hM3.trans hM4;obtain ⟨lo,lc,hlv⟩:=zpq hP.l.own;obtain ⟨ro,rc,hrv⟩:=zpq hP.r.own;obtain ⟨tso,tc,htv⟩:=zpq hP.t.own;rw [hP.nl.len,hp.1] at hlv;rw [hP.nr.len,hp.2.1] at hrv;rw [hP.nt.len,hp.2.2.1] at htv;have hpl:ps.length=1:=by rw [hP.nk.len,hp.2.2.2]; rfl
 obtain ⟨p,rfl⟩:=List.length_eq_one_iff.1 hpl;have hnk:=hP.nk;rw [hp.2.2.2] at hnk;obtain ⟨⟨hN1,hN2⟩,-⟩:=hnk;obtain ⟨b1,hb1,-⟩:=id hN1;obtain ⟨b2,hb2,-⟩:=id hN2;have hko:=hP.k.own;obtain ⟨kb,kc,hkv⟩:=ztO hko BU;have hkl:=hP.k.lt kb (by rw [hkv]; rfl);rw [hkv] at hko;obtain ⟨-,-,hkc⟩:=zar hko;have k0:=hkc 0 p.1 rfl;have k1:=hkc 1 p.2 rfl;clear hko hkc;subst hlv hrv htv hkv;simp only [List.length_nil,List.length_cons,Nat.zero_add] at hb;have hcn:cb ≠ rb:=by have:=hQ.q.1;simpa using this
 obtain ⟨-,von,vwh,vg,its,nms,vo,hst,-⟩:=hQ.q;have q1:=za hst 1;rw [hr] at q1;have hkn:kb ≠ rb:=by omega
 have hNw:∀ {v:Value} {n:NT},NAt w3 [] v n → NAt W [rb] v n:=fun h => ((h.mods hM4).fresh hrb).mods (hW.mono);have hsz:=hM04.size;have hfit:JoinFit W rb pb cb (.slice lo 0 lc) (.slice ro 0 rc) (.slice tso 0 tc) (.slice (some ⟨kb,0,none⟩) 1 kc) ls us (fun _ => true) (fun _ => true) (fun _ => true) kL0 kR0:=by
  refine ⟨hQ.run,hb,hQ.pne,hcn,⟨1,q1,by decide⟩,fl,fu,fun W' hM' hR' u r hr hu => zti W' rb pb hR' lo lc u,fun W' hM' hR' u r hr hu => zti W' rb pb hR' ro rc u,fun W' hM' hR' u r x hr hx hu => zti W' rb pb hR' tso tc u,?_,?_,?_,fun r hr => ol r hr⟩
  ·intro W' hM' hR' u r hr hu;obtain ⟨vo,cc,rfl,hcc,hV⟩:=hu;have hf:=fu.2 r hr;refine (ztM W' rb pb kb kc (zh cb) _ _ _ hR' (hM'.heap hb (by simpa using hQ.pne)) hQ.pne hkn p.1 p.2 (hM'.cell (hW.cell k0) CC) (hM'.cell (hW.cell k1) CC) (by rw [hb1,hb2]; simp [zh,Value.oneCell']) true h2 ((hNw hN2).mods hM') e2.1 vo cc (zs4 4 r) _ rfl hV (by rw [e2.2]; unfold zs4; rw [List.length_append,List.length_replicate]; omega) _ (by rw [e2.2])).mono ?_;exact fun e w' h => h
  ·intro W' hM' hR' u r hr hu;obtain ⟨vo,cc,rfl,hcc,hV⟩:=hu;have hf:=fl.2 r hr;refine (ztM W' rb pb kb kc (zh cb) _ _ _ hR' (hM'.heap hb (by simpa using hQ.pne)) hQ.pne hkn p.1 p.2 (hM'.cell (hW.cell k0) CC) (hM'.cell (hW.cell k1) CC) (by rw [hb1,hb2]; simp [zh,Value.oneCell']) false h1 ((hNw hN1).mods hM') e1.1 vo cc r _ rfl hV (by rw [e1.2]; omega) _ (by rw [e1.2])).mono ?_;exact fun e w' h => h
  ·intro r hr;have e0:(zs4 4 r).getD 4 zeroV0=hd0 r:=zt5 r 0;show okV ((zs4 4 r).getD 4 zeroV0);rw [e0];exact ou r hr
 have hj:=zmK W rb pb cb _ _ _ _ ls us (fun _ => true) (fun _ => true) (fun _ => true) kL0 kR0 hfit ao bo cap1 cap2 n1 n2 hn1 hn2 (hI1.later (hM04.trans hW) BS) (hI2.later (hM04.trans hW) BS);rw [List.filter_eq_self.2 (fun _ _ => rfl),List.filter_eq_self.2 (fun _ _ => rfl)] at hj;exact hj
theorem ztR (w:World) (h:NHd) (v:Value) (hN:NAt w [] v (.leaf h)) (hop:h.op=[118,97,108,117,101]) (row:Value) :
  Calls Tryz.prog 74 #[v,row] w (zto w ⟨h.null,h.n,⟨h.s.toArray⟩⟩):=by
 obtain ⟨b,rfl,-,hb⟩:=hN;have hM0:=(QM [] w).alloc (.cells #[.bool false,.int .i64 0,.string ⟨#[]⟩] 35);have hr0:=QN w (.cells #[.bool false,.int .i64 0,.string ⟨#[]⟩] 35);have c0:=za hb 0;have c4:=za hb 4;have c5:=za hb 5;have c6:=za hb 6;have c7:=za hb 7;change w.cell? _=some (.string ⟨h.op.toArray⟩) at c0;rw [hop] at c0;change w.cell? _=some (.string ⟨#[118,97,108,117,101]⟩) at c0;change w.cell? _=some (.bool h.null) at c4;change w.cell? _=some (.int .i64 (h.n:Nat)) at c5;change w.cell? _=some (.string ⟨h.s.toArray⟩) at c6;change w.cell? _=some (.slice none 0 0) at c7;obtain ⟨x,hx⟩:=EX ((⟨h.null,h.n,⟨h.s.toArray⟩⟩ : V):V);have e4:h.null=x.z:=by rw [← hx]
 have e5:((h.n:Nat):Int)=x.n:=by rw [← hx]
 have e6:(⟨h.s.toArray⟩ : ByteArray)=x.s:=by rw [← hx]
 rw [hx];rw [e4] at c4;rw [e5] at c5;rw [e6] at c6;have hM1:=hM0.alloc (.cells #[.bool false,.int .i64 0,.string ⟨#[]⟩,.bool false,.int .i64 0,.string ⟨#[]⟩] 35);have hr1:=((QM [] (w.alloc (.cells #[.bool false,.int .i64 0,.string ⟨#[]⟩] 35))).alloc (.cells #[.bool false,.int .i64 0,.string ⟨#[]⟩,.bool false,.int .i64 0,.string ⟨#[]⟩] 35)).heap hr0;replace c0:=hM1.cell c0;replace c4:=hM1.cell c4;replace c5:=hM1.cell c5;replace c6:=hM1.cell c6;replace c7:=hM1.cell c7;have hmk:=zrc;have HM:=QH hM1;have HR:=QH hr1;clear hb hM0 hr0 hM1 hr1 hop hx e4 e5 e6;unfold zh;go_enter Tryz.func74, Tryz.ntmps74;go_wp2_with fail;generalize (w.alloc (.cells #[.bool false,.int .i64 0,.string ⟨#[]⟩] 35)).alloc (.cells #[.bool false,.int .i64 0,.string ⟨#[]⟩,.bool false,.int .i64 0,.string ⟨#[]⟩] 35)=w2 at *;go_loopg [20] 0 (fun gk t20 wr => gk=0 ∧ t20 = .int .i64 0 ∧ w2=wr)
 case atStart => exact ⟨rfl,rfl,rfl⟩
 obtain ⟨rfl,rfl,rfl⟩:=hrel;go_wp2_with (refine wpList_store_row rfl 35 (.tmp 4) (.tmp 48) rfl w.heap.size #[.bool x.z,.int .i64 x.n,.string x.s] rfl rfl 35 _ HR.out zpv rfl (zpW _ _ _) ?_);refine bodyPost_ret (zg rfl _ _ w.heap.size 35 #[.bool x.z,.int .i64 x.n,.string x.s] (0,0) _ rfl (zi _ HR.out) Tryz.underlying35 rfl zpv _ rfl) rfl ?_;exact ⟨rfl,HM.out.setRow (.inr (LR _)) _⟩
theorem zuD (w:World) (c:CQ) (h:NHd) (l:List NT) (hp:(makeP 4 false (splitO c.on ++ splitO c.whr)).left = .leaf h :: l ∧ (makeP 4 false (splitO c.on ++ splitO c.whr)).right=[] ∧ (makeP 4 false (splitO c.on ++ splitO c.whr)).rest=[] ∧ (makeP 4 false (splitO c.on ++ splitO c.whr)).keys=[])
  (hr:c.right=some 1) (hop:h.op=[118,97,108,117,101]) (hn:h.n=0) (hz:h.null=false) (hl:l.length ≤ 100) (ao bo:Option Addr) (cap1 cap2 n1 n2:Nat) (ls us:List (List V)) (hn1:ls.length=n1) (hn2:us.length=n2) (hI1:RowsIn w ao ls []) (hI2:RowsIn w bo us []) (fl:zpp ls) (fu:zpp us) :
  JoinIs w c (.slice ao n1 cap1) (.slice bo n2 cap2) []:=by
 intro B w3 w4 pb cb vl vr vt vk bl br bt ps hM3 hM4 hP W rb hW hrb hQ hb;have hM04:=hM3.trans hM4;obtain ⟨ro,rc,hrv⟩:=zpq hP.r.own;obtain ⟨tso,tc,htv⟩:=zpq hP.t.own;obtain ⟨ko,kc,hkv⟩:=zpq hP.k.own;rw [hP.nr.len,hp.2.1] at hrv;rw [hP.nt.len,hp.2.2.1] at htv;rw [hP.nk.len,hp.2.2.2] at hkv;have hll:bl.length=l.length + 1:=by rw [hP.nl.len,hp.1]; rfl
 have hnl:=hP.nl;rw [hp.1] at hnl;obtain ⟨b,bs,rfl⟩ : ∃ b bs,bl=b :: bs:=by
  cases bl with
  | nil => simp at hll
  | cons b bs => exact ⟨b,bs,rfl⟩
 have hN:=hnl.1;have hlo:=hP.l.own;obtain ⟨lb,lc,hlv⟩:=ztO hlo BU;have hlb:=hP.l.lt lb (by rw [hlv]; rfl);rw [hlv] at hlo;obtain ⟨-,-,hcl⟩:=zar hlo;have l0:=hcl 0 (zh b) rfl;rw [hll] at hlv;clear hlo hcl hll hnl;subst hlv hrv htv hkv;simp only [List.length_nil] at hb;have hcn:cb ≠ rb:=by have:=hQ.q.1;simpa using this
 obtain ⟨-,von,vwh,vg,its,nms,vo,hst,-⟩:=hQ.q;have q1:=za hst 1;rw [hr] at q1;have hkn:lb ≠ rb:=by omega
 have hNw:NAt W [rb] (zh b) (.leaf h):=((hN.mods hM4).fresh hrb).mods (hW.mono);have hsz:=hM04.size;have hfit:JoinFit W rb pb cb (.slice (some ⟨lb,0,none⟩) (l.length + 1) lc) (.slice ro 0 rc) (.slice tso 0 tc) (.slice ko 0 kc) ls us (fun _ => false) (fun _ => true) (fun _ => true) (fun _ => (zeroV0,true)) (fun _ => (zeroV0,true)):=by
  refine ⟨hQ.run,hb,hQ.pne,hcn,⟨1,q1,by decide⟩,fl,fu,?_,fun W' hM' hR' u r hr hu => zti W' rb pb hR' ro rc u,fun W' hM' hR' u r x hr hx hu => zti W' rb pb hR' tso tc u,?_,?_,fun r hr => ⟨⟨by decide,by decide⟩,by decide⟩,fun r hr => ⟨⟨by decide,by decide⟩,by decide⟩⟩
  ·intro W' hM' hR' u r hr hu;exact zuk W' rb pb lb 0 (l.length + 1) lc BS BS (zh b) u (hM'.cell (hW.cell l0) CC) ⟨h.null,h.n,⟨h.s.toArray⟩⟩ (by simp [hn]) hz (fun W2 hW2 => zre W2 rb pb (hR'.mods hW2 BU) (zh b) u _ fun W3 hW3 => ztR W3 h (zh b) (((hNw.mods hM').mods ((hW2.trans hW3).mono)).weaken BU) hop u)
  ·exact yga
  ·exact yga
 have hj:=zmK W rb pb cb _ _ _ _ ls us (fun _ => false) (fun _ => true) (fun _ => true) (fun _ => (zeroV0,true)) (fun _ => (zeroV0,true)) hfit ao bo cap1 cap2 n1 n2 hn1 hn2 (hI1.later (hM04.trans hW) BS) (hI2.later (hM04.trans hW) BS);have e:ls.filter (fun _ => false)=[]:=List.filter_eq_nil_iff.2 (fun _ _ => by simp);rw [e] at hj;exact hj
def valG (kd:Nat → Int) (nl:Nat → Bool) (m:Nat) (C:Nat → Int × ByteArray × Bool) (i k:Nat):V:=cellV (kd k) (nl k) (C (m * i + k)).1 (C (m * i + k)).2.1 (C (m * i + k)).2.2
def rowG (kd:Nat → Int) (nl:Nat → Bool) (m:Nat) (C:Nat → Int × ByteArray × Bool) (i k:Nat):List V:=(List.range k).map (valG kd nl m C i)
def ztp (kd:Nat → Int) (nl:Nat → Bool) (m:Nat) (C:Nat → Int × ByteArray × Bool) (n:Nat):List (List V):=(List.range n).map fun i => rowG kd nl m C i m
theorem zt7 (kd:Nat → Int) (nl:Nat → Bool) (m:Nat) (C:Nat → Int × ByteArray × Bool) (i k:Nat):rowG kd nl m C i (k + 1)=rowG kd nl m C i k ++ [valG kd nl m C i k]:=by simp [rowG,List.range_succ]
theorem zs7 (kd:Nat → Int) (nl:Nat → Bool) (m:Nat) (C:Nat → Int × ByteArray × Bool) (i k:Nat):(rowG kd nl m C i k).length=k:=by simp [rowG]
theorem zta (kd:Nat → Int) (nl:Nat → Bool) (m:Nat) (C:Nat → Int × ByteArray × Bool) (n:Nat):(ztp kd nl m C n).length=n:=by simp [ztp]
theorem ztS (kd:Nat → Int) (nl:Nat → Bool) (m:Nat) (C:Nat → Int × ByteArray × Bool) (n:Nat):ztp kd nl m C (n + 1)=ztp kd nl m C n ++ [rowG kd nl m C n m]:=by simp [ztp,List.range_succ]
def ztf (m n most:Nat):Nat:=if n / m ≤ most then n / m else most
theorem ztt (m n most:Nat):ztf m n most ≤ most:=by unfold ztf; split <;> omega
theorem ztF {m n most:Nat} (hm:0 < m) {q:Nat} (h:q < ztf m n most):m * q + m ≤ n:=by
 have h1:q + 1 ≤ n / m:=by unfold ztf at h; split at h <;> omega
 have h2:=Nat.mul_le_mul_left m h1;have h3:=Nat.mul_div_le n m;rw [Nat.mul_add,Nat.mul_one] at h2;omega
theorem zt8 {m n most:Nat} (hm:0 < m):n < m * ztf m n most + m ∨ ztf m n most=most:=by
 unfold ztf;split
 ·left;have h1:=Nat.div_add_mod n m;have h2:=Nat.mod_lt n hm;omega
 ·exact .inr rfl
theorem ztL {m n most:Nat} {q:Nat} (hm:m ≤ 4) (h:q ≤ ztf m n most) (hmost:most ≤ 1000):m * q ≤ 4000:=by have h1:=ztt m n most;exact Nat.le_trans (Nat.mul_le_mul hm (show q ≤ 1000 by omega)) BW
theorem lawrowsG (w:World) (m:Nat) (hm0:0 < m) (hm4:m ≤ 4) (cols:Array Value) (nm:Nat → ByteArray) (kd sc:Nat → Int) (nz:Nat → Bool) (hcols:∀ k,k < m → cols[k * 4]? = some (.string (nm k)) ∧ cols[k * 4 + 1]? = some (.int .i64 (kd k)) ∧ cols[k * 4 + 2]? = some (.int .i64 (sc k)) ∧ cols[k * 4 + 3]? = some (.bool (nz k)))
  (name:ByteArray) (g:Nat) (hg:w.heap[g]? = some (.cells cols 61 (0,0))) (lao:Option Addr) (n cl:Nat) (hn:n ≤ 9223372036854775807) (C:Nat → Int × ByteArray × Bool) (hC:CellsIn w lao n C) (most:Nat) (hmost:most ≤ 1000) :
  Calls Tryz.prog 6 #[.agg #[.string name,.slice (some ⟨g,0,none⟩) m m],.slice lao n cl,.int .i64 most] w fun e w' => ∃ t,e = .returned t ∧ RowsOn w w' t (ztp kd nz m C (ztf m n most)):=by
 obtain ⟨i0,hi,hz0,hz1,hz2⟩:=info_parts (show (Tryz.prog.info? 37).map (fun i => (i.zero,i.size,i.bytes))=some (some (.slice none 0 0),1,24) by kernel_rfl);obtain ⟨i1,hi',hy0,hy1,hy2⟩:=info_parts (show (Tryz.prog.info? 35).map (fun i => (i.zero,i.size,i.bytes))=some (some (.agg #[.bool false,.int .i64 0,.string ⟨#[]⟩]),3,32) by kernel_rfl);have hMA:=(QM [] w).alloc (.cells #[.string name,.slice (some ⟨g,0,none⟩) m m] 28);have hb:=QN w (.cells #[.string name,.slice (some ⟨g,0,none⟩) m m] 28);obtain ⟨R,hR⟩:=EX (ztf m n most);have hR1:R ≤ most ∧ (∀ q,q < R → m * q + m ≤ n) ∧ (n < m * R + m ∨ R=most) ∧ ∀ q,q ≤ R → m * q ≤ 4000:=by rw [← hR]; exact ⟨ztt _ _ _,fun q h => ztF hm0 h,zt8 hm0,fun q h => ztL hm4 h hmost⟩
 rw [hR];clear hR;go_enter Tryz.func6, Tryz.ntmps6;go_wp2_with fail;generalize hwa:w.alloc (.cells #[.string name,.slice (some ⟨g,0,none⟩) m m] 28)=wa at *;have hbx:wa.heap.size=w.heap.size + 1:=by rw [← hwa]; exact zl _ _
 have hst:RowsOn wa wa (.slice none 0 0) (ztp kd nz m C 0):=⟨QM _ _,RowsC.start wa⟩;clear hwa;generalize w.heap.size=bx at *;have HBX:=QH hbx;clear hbx;go_loopw [7,8] (fun t7 t8 wr => ∃ q:Nat,q ≤ R ∧ t8 = .int .i64 ((m * q:Nat):Int) ∧ RowsOn wa wr t7 (ztp kd nz m C q)) (fun _ t8 _ => n - (intOf t8).toNat)
 case atStart => exact ⟨0,by omega,by rw [Nat.mul_zero]; rfl,hst⟩
 case round =>
  clear hst;obtain ⟨q,hq,rfl,hRO⟩:=hrel;have hMw:=hRO.1;obtain ⟨ao,cap,rfl⟩:=hRO.val;rw [zta] at hRO ⊢;have hbr:=hMw.heap hb;have b1:wr.cell? ⟨bx,1,none⟩ = some (.slice (some ⟨g,0,none⟩) m m):=(za hbr 1).trans rfl;have hps:=hR1.2.2.2 q hq;obtain ⟨p,hp⟩:=EX (m * q);rw [hp] at hps ⊢;have HPE:=QH hp;by_cases hqR:q < R
  ·have hpn:=hR1.2.1 q hqR;rw [hp] at hpn;have hp1:m * (q + 1)=p + m:=by rw [Nat.mul_add,Nat.mul_one,hp]
   have HP1:=QH hp1;clear hp hp1;have c1:(p:Int) + (m:Int) ≤ (n:Int):=by omega
   have c2:(q:Int) < (most:Int):=by omega
   have HRO:=QH hRO;clear hRO hbr;go_wp2_with fail;obtain ⟨wo,hwo⟩ : ∃ wo:World,wo=wr:=⟨_,rfl⟩;have hvs:ValsOwn wr wr (.slice none 0 0) (rowG kd nz m C q 0):=ValsOwn.start wr;rw [← hwo] at hvs HRO hMw b1;obtain ⟨lb,lo,rfl,hCc⟩:=hC BS;have hMo:Mods [] w wo:=hMA.trans HRO.out.1;have hgo:=hMo.heap hg;have hCo:=fun i hi => hCc i hi;have hCl:=fun i hi => (hCc i hi).1.1;clear hC hg;go_loopw [9,10] (fun t9 t10 wx => ∃ k:Nat,k ≤ m ∧ t10 = .int .i64 k ∧ ValsOwn wo wx t9 (rowG kd nz m C q k)) (fun _ t10 _ => m - (intOf t10).toNat)
   case atStart => rw [← hwo]; exact ⟨0,by omega,rfl,hvs⟩
   case round =>
    clear hvs hwo;obtain ⟨k,hk,rfl,hVO⟩:=hrel;have b2:=hVO.1.cell b1;by_cases hk4:k < m
    ·obtain ⟨P,hP⟩:=EX (p + k);have hPi:(p:Int) + (k:Int)=(P:Int):=by omega
     have hPn:P < n:=by omega
     obtain ⟨⟨x0,x1,x2⟩,hxn,hxs⟩:=hCo P hPn;have hMx:=hMo.trans hVO.1;have x0:=hMx.cell x0;have x1:=hMx.cell x1;have x2:=hMx.cell x2;obtain ⟨k0,k1,k2,k3⟩:=hcols k hk4;have hgx:=hVO.1.heap hgo;have y0:=(za hgx (k * 4)).trans k0;have y1:=(za hgx (k * 4 + 1)).trans k1;have y2:=(za hgx (k * 4 + 2)).trans k2;have y3:=(za hgx (k * 4 + 3)).trans k3;have hval:=fun w' => value15 w' (nm k) (kd k) (sc k) (nz k) (C P).1 hxn (C P).2.1 hxs (C P).2.2;have hrv:valG kd nz m C q k=cellV (kd k) (nz k) (C P).1 (C P).2.1 (C P).2.2:=by unfold valG; rw [HPE.out,hP]
     have hki:(0:Int) ≤ (k:Int) ∧ (k:Int) < (m:Int):=by omega
     have hpi:(0:Int) ≤ (P:Int) ∧ (P:Int) < (n:Int):=by omega
     have hpt:(P:Int).toNat=P:=by omega
     have hkt:(k:Int).toNat=k:=by omega
     have hPw:IntKind.i64.wrap (P:Int)=(P:Int):=by rw [IntKind.wrap_i64]; omega
     have HRV:=QH hrv;have HP:=QH hP;have HV:=QH hVO;generalize cellV (kd k) (nz k) (C P).1 (C P).2.1 (C P).2.2=cv at *;generalize nm k=cname at *;generalize kd k=ckind at *;generalize sc k=csc at *;generalize nz k=cnl at *;generalize (C P).1=xn at *;generalize (C P).2.1=xs at *;generalize (C P).2.2=xz at *;clear hrv hP hVO hgx k0 k1 k2 k3 hCo hCc;have hvd:=hval wr.drew;obtain ⟨-,q2,q5⟩:=HV.out;obtain ⟨vn,hvn⟩:=EX (zph (rowG kd nz m C q k));rw [hvn,zs7] at q2;have HVN:=QH hvn;have lo_x:bx < wo.heap.size:=zD b1;have lo_g:g < wo.heap.size:=zj hgo;have lo_l:lb < wo.heap.size:=by have:lb < w.heap.size:=zD (hCl P hPn);have:=hMo.size;omega
     generalize u9=t9 at *;have nx:bx ∉ t9.ownBlock.toList:=fun hm => by have:=q5 bx CA; omega
     have ng:g ∉ t9.ownBlock.toList:=fun hm => by have:=q5 g CA; omega
     have nl:lb ∉ t9.ownBlock.toList:=fun hm => by have:=q5 lb CA; omega
     clear hval hvn q5 lo_x lo_g lo_l;go_wp2_with fail
     go_region_held3 (fun w' => w'.cell? ⟨bx,1,none⟩ = some (.slice (some ⟨g,0,none⟩) m m) ∧ w'.cell? ⟨g,k * 4,none⟩ = some (.string cname) ∧ w'.cell? ⟨g,k * 4 + 1,none⟩ = some (.int .i64 ckind) ∧ w'.cell? ⟨g,k * 4 + 2,none⟩ = some (.int .i64 csc) ∧ w'.cell? ⟨g,k * 4 + 3,none⟩ = some (.bool cnl) ∧ w'.cell? ⟨lb,lo + P * 3,none⟩ = some (.int .i64 xn) ∧ w'.cell? ⟨lb,lo + P * 3 + 1,none⟩ = some (.string xs) ∧ w'.cell? ⟨lb,lo + P * 3 + 2,none⟩ = some (.bool xz) ∧ Mods t9.ownBlock.toList wr w')
      (((with_reducible refine keep8 b2 y0 y1 y2 y3 x0 x1 x2 nx ng ng ng ng nl nl nl ?_); first | assumption | exact (QM _ _).drew | ((with_reducible refine Mods.alloc ?_ _); first | assumption | exact QM _ _)))
      (first | (go_at_call 13; (with_reducible refine hvd.mono ?_); rintro e w3 ⟨rfl,hM3⟩; have q3:=zm q2 (((QM [] wr).drew).trans hM3) BU; have hK3:Mods t9.ownBlock.toList wr w3:=(((QM [] wr).drew).trans hM3).mono) | ((refine zro rfl (.tmp 37) (.tmp 50) 37 rfl 35 i1 _ 3 32 Tryz.underlying37 hi' hy0 hy1 hy2 rfl BW t9 k vn (by rfl) (q3.alloc _) ⟨w3.heap.size,0,none⟩ 1 1 [.bool cv.z,.int .i64 cv.n,.string cv.s] (by rfl) rfl (zqk _ _ _ _ _) (zqV _ _ _) BW (by unfold maxLen; omega) BS ?_); intro g9 cap9 w7 hown7 hM7 hg7; have hK7:Mods t9.ownBlock.toList wr w7:=(hK3.alloc _).trans hM7 (fun x hx => .inl hx)))
     have hrel:ValsOwn wo w7 (.slice (some ⟨g9,0,none⟩) (k + 1) cap9) (rowG kd nz m C q (k + 1)):=by have hMA:=(QM [] w3).alloc (.cells #[.bool cv.z,.int .i64 cv.n,.string cv.s] 35);have hV3:=HV.out.quiet ((((QM [] wr).drew).trans hM3).trans hMA);have:=hV3.push (v:=cv) (w':=w7) (g:=g9) (cap:=cap9) (by rw [zs7,HVN.out]; exact hown7) hM7 hg7;rw [zs7] at this;rw [zt7,HRV.out];exact this
     clear hown7 hM7 hg7 q2 q3 hK3 hK7 hvd hM3;go_wp2_with fail;go_roundw
     case measure => simp [intOf]; omega
     case rel => exact ⟨k + 1,by omega,by go_num,hrel⟩
    ·obtain rfl:k=m:=by omega
     generalize u9=t9 at *;obtain ⟨v0,v1,v2⟩:=hVO;obtain ⟨vg,vc,rfl⟩ : ∃ vg vc,t9 = .slice (some ⟨vg,0,none⟩) k vc:=by
      rcases v1.2 with ⟨hv,hl⟩ | ⟨g',cap',cur,hv,-⟩
      ·rw [zs7] at hl; omega
      ·rw [zs7] at hv; exact ⟨_,_,hv⟩
     rw [zs7] at v1;have v3:=v2 vg rfl;have v4:=(zar v1).2.1;have hRr:=HRO.out.quiet v0;have hMA:=(QM [] wr).alloc (.cells #[.slice (some ⟨vg,0,none⟩) k vc] 37);have hRA:=hRr.quiet hMA;obtain ⟨css,hrow,hall⟩:=hRA.2.row;have hlt7:∀ x,(Value.slice ao q cap).ownBlock=some x → x < wo.heap.size:=fun x hx => by obtain ⟨css',hrow',-⟩:=HRO.out.2.row;exact (hrow'.lt x hx).2
     have hwa:wa.heap.size ≤ wo.heap.size:=HRO.out.1.size;have hr:∀ L:List Nat,(∀ x ∈ L,x < wa.heap.size ∨ (Value.slice ao q cap).ownBlock=some x) → RowR (wr.alloc (.cells #[.slice (some ⟨vg,0,none⟩) k vc] 37)) L [.slice (some ⟨vg,0,none⟩) k vc] (rowG kd nz k C q k):=fun L hL =>
      ⟨some ⟨vg,0,none⟩,vc,by rw [zs7],by rw [zs7]; exact v4,(zqe (zs7 kd nz k C q k) v1 (fun hx => by
       rcases hL vg hx with h | h
       ·omega
       ·have:=hlt7 vg h
        omega)).mods (hMA.mono)⟩
     have hlit:=zdy wr #[.slice (some ⟨vg,0,none⟩) k vc] 37;rw [zta] at hrow;have HW:=QH (AI hRA (AI hrow (AI hall (AI hr (AI hlit (hMw.trans (v0.trans hMA BU)))))));clear hRr hRA hMA hrow hall hlt7 hr hlit v1 v2 v3 v4 hCc hCo hCl;go_wp2_with (at_builtin; refine zw _ rfl _ _ 24 rfl 37 i0 (.slice none 0 0) 1 24 Tryz.underlying24 hi hz0 hz1 hz2 rfl BW (.slice ao q cap) q css.flatten rfl HW.out.2.1 ⟨wr.heap.size,0,none⟩ 1 1 [.slice (some ⟨vg,0,none⟩) k vc] rfl rfl HW.out.2.2.2.2.1 ?c2 BW ?c3 ?c4 ?_)
     case c2 => first | rfl | (intro u hu; simp at hu; subst hu; rfl)
     case c3 => unfold maxLen; omega
     case c4 => omega
     intro g9 cap9 w7 hown7 hM7 hg7;have hrel:RowsOn wa w7 (.slice (some ⟨g9,0,none⟩) (q + 1) cap9) (ztp kd nz k C (q + 1)):=by have:=HW.out.1.2.push (by rw [zta]; exact HW.out.2.1) HW.out.2.2.1 HW.out.2.2.2.1 (zta _ _ _ _ _) hown7 hM7 (by rw [zl]; exact hg7);rw [ztS];exact ⟨HW.out.1.1.trans hM7 (fun x hx => .inr (HW.out.1.2.own x BZ)),this⟩
     have hb7:w7.cell? ⟨bx,1,none⟩ = some (.slice (some ⟨g,0,none⟩) k k):=hM7.cell (((QM [] wr).alloc _).cell b2) (fun hm => by
      have h1:=HRO.out.2.own bx CA;have h2:=HBX.out
      omega)
     clear hown7 hM7 hg7;go_wp2_with fail;go_roundw
     case measure => simp [intOf]; omega
     case rel => exact ⟨q + 1,by omega,by rw [HP1.out]; go_num,hrel⟩
  ·obtain rfl:R=q:=by omega
   have hend:=hR1.2.2.1;rw [hp] at hend;have hno:¬ ((p:Int) + (m:Int) ≤ (n:Int)) ∨ ¬ ((R:Int) < (most:Int)):=by omega
   clear hp;have fin:=hRO.base hMA;clear hRO hbr;by_cases hc:(p:Int) + (m:Int) ≤ (n:Int)
   ·have hc2:¬ ((R:Int) < (most:Int)):=by omega
    go_wp2_with fail;go_ret;exact ⟨_,rfl,fin⟩
   ·go_wp2_with fail;go_ret;exact ⟨_,rfl,fin⟩
def colsU:Array Value:=#[.string ⟨#[120]⟩,.int .i64 1,.int .i64 0,.bool true,.string ⟨#[121]⟩,.int .i64 2,.int .i64 1,.bool false,.string ⟨#[122]⟩,.int .i64 3,.int .i64 0,.bool false]
def colUName (k:Nat):ByteArray:=⟨#[UInt8.ofNat (120 + k)]⟩
def colUScale (k:Nat):Int:=if k=1 then 1 else 0
def ztj (k:Nat):Bool:=decide (k=0)
theorem zur (k:Nat) (hk:k < 3):colsU[k * 4]? = some (.string (colUName k)) ∧ colsU[k * 4 + 1]? = some (.int .i64 (colKind k)) ∧ colsU[k * 4 + 2]? = some (.int .i64 (colUScale k)) ∧ colsU[k * 4 + 3]? = some (.bool (ztj k)):=by
 have h:k=0 ∨ k=1 ∨ k=2:=by omega
 rcases h with rfl | rfl | rfl <;> exact ⟨rfl,rfl,rfl,rfl⟩
theorem tables15u (w:World):Calls Tryz.prog 7 #[] w fun e w' => ∃ b g d,e = .returned (.slice (some ⟨b,0,none⟩) 2 2) ∧ Mods [] w w' ∧ w'.heap[b]? = some (.cells #[.string ⟨#[116]⟩,.slice (some ⟨g,0,none⟩) 4 4,.string ⟨#[117]⟩,.slice (some ⟨d,0,none⟩) 3 3] 28 (0,0)) ∧ w'.heap[g]? = some (.cells colsT 61 (0,0)) ∧ w'.heap[d]? = some (.cells colsU 61 (0,0)):=by go_enter Tryz.func7, Tryz.ntmps7;go_wp2_with fail;go_ret;have hz:(w.alloc (.cells #[.int .i64 1,.int .i64 0] 59)).heap.size=w.heap.size + 1:=zl _ _;generalize hw1:w.alloc (.cells #[.int .i64 1,.int .i64 0] 59)=w1 at *;have hM1:Mods [] w w1:=hw1 ▸ (QM [] w).alloc _;rw [← hz];have hz2:(w1.alloc (.cells #[.string ⟨#[97]⟩,.int .i64 1,.int .i64 0,.bool false,.string ⟨#[98]⟩,.int .i64 2,.int .i64 2,.bool true,.string ⟨#[99]⟩,.int .i64 3,.int .i64 0,.bool true,.string ⟨#[100]⟩,.int .i64 4,.int .i64 0,.bool true] 61)).heap.size=w1.heap.size + 1:=zl _ _;have hM2:=(QM [] w1).alloc (.cells colsT 61);have hB:=QN w1 (.cells colsT 61);change Mods [] w1 (w1.alloc (.cells #[.string ⟨#[97]⟩,.int .i64 1,.int .i64 0,.bool false,.string ⟨#[98]⟩,.int .i64 2,.int .i64 2,.bool true,.string ⟨#[99]⟩,.int .i64 3,.int .i64 0,.bool true,.string ⟨#[100]⟩,.int .i64 4,.int .i64 0,.bool true] 61)) at hM2;change (w1.alloc (.cells #[.string ⟨#[97]⟩,.int .i64 1,.int .i64 0,.bool false,.string ⟨#[98]⟩,.int .i64 2,.int .i64 2,.bool true,.string ⟨#[99]⟩,.int .i64 3,.int .i64 0,.bool true,.string ⟨#[100]⟩,.int .i64 4,.int .i64 0,.bool true] 61)).heap[_]? = _ at hB;generalize w1.alloc (.cells #[.string ⟨#[97]⟩,.int .i64 1,.int .i64 0,.bool false,.string ⟨#[98]⟩,.int .i64 2,.int .i64 2,.bool true,.string ⟨#[99]⟩,.int .i64 3,.int .i64 0,.bool true,.string ⟨#[100]⟩,.int .i64 4,.int .i64 0,.bool true] 61)=w2 at *;rw [← hz2];have hz3:(w2.alloc (.cells #[.string ⟨#[120]⟩,.int .i64 1,.int .i64 0,.bool true,.string ⟨#[121]⟩,.int .i64 2,.int .i64 1,.bool false,.string ⟨#[122]⟩,.int .i64 3,.int .i64 0,.bool false] 61)).heap.size=w2.heap.size + 1:=zl _ _;have hM3:=(QM [] w2).alloc (.cells colsU 61);have hC:=QN w2 (.cells colsU 61);change Mods [] w2 (w2.alloc (.cells #[.string ⟨#[120]⟩,.int .i64 1,.int .i64 0,.bool true,.string ⟨#[121]⟩,.int .i64 2,.int .i64 1,.bool false,.string ⟨#[122]⟩,.int .i64 3,.int .i64 0,.bool false] 61)) at hM3;change (w2.alloc (.cells #[.string ⟨#[120]⟩,.int .i64 1,.int .i64 0,.bool true,.string ⟨#[121]⟩,.int .i64 2,.int .i64 1,.bool false,.string ⟨#[122]⟩,.int .i64 3,.int .i64 0,.bool false] 61)).heap[_]? = _ at hC;generalize w2.alloc (.cells #[.string ⟨#[120]⟩,.int .i64 1,.int .i64 0,.bool true,.string ⟨#[121]⟩,.int .i64 2,.int .i64 1,.bool false,.string ⟨#[122]⟩,.int .i64 3,.int .i64 0,.bool false] 61)=w3 at *;rw [← hz3];have hM4:=(QM [] w3).alloc (.cells #[.string ⟨#[116]⟩,.slice (some ⟨w1.heap.size,0,none⟩) 4 4,.string ⟨#[117]⟩,.slice (some ⟨w2.heap.size,0,none⟩) 3 3] 28);exact ⟨_,w1.heap.size,w2.heap.size,rfl,((hM1.trans hM2).trans hM3).trans hM4,QN w3 _,hM4.heap (hM3.heap hB BU),hM4.heap hC⟩
theorem CellsIn.mods {w w':World} {ao:Option Addr} {n:Nat} {C:Nat → Int × ByteArray × Bool} (h:CellsIn w ao n C) (hM:Mods [] w w'):CellsIn w' ao n C:=fun h0 => by obtain ⟨b,o,h1,h2⟩:=h h0;exact ⟨b,o,h1,fun i hi => ⟨⟨hM.cell (h2 i hi).1.1 BU,hM.cell (h2 i hi).1.2.1 BU,hM.cell (h2 i hi).1.2.2 BU⟩,(h2 i hi).2⟩⟩
theorem ztb {kd:Nat → Int} {nl:Nat → Bool} {m:Nat} {C:Nat → Int × ByteArray × Bool} {n:Nat} {r:List V} (h:r ∈ ztp kd nl m C n):∃ i,i < n ∧ r=rowG kd nl m C i m:=by unfold ztp at h;obtain ⟨i,hi,rfl⟩:=List.mem_map.1 h;exact ⟨i,List.mem_range.1 hi,rfl⟩
end Go.Proofs.YtcabeljiobiojaaGreatDoor
