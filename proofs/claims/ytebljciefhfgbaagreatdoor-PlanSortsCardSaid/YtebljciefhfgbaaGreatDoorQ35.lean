/-
  check.table, as one contract. No condition.
-/
import Derived.Test.YtebljciefhfgbaaGreatDoorQ34
set_option linter.unusedVariables false
namespace Go.Proofs.YtebljciefhfgbaaGreatDoor
open Go.RowKit
theorem ybv {p:Prop} (h:p:=by
  rw [List.length_eq_zero_iff.1 h0];exact ⟨none,0,rfl,fun h => absurd h AB⟩
 ):p:=h
def butV:Option Nat → Int
 | none => -1
 | some k => (k:Nat)
def TRes (wB w:World) (sb rb mb:Nat) (env:List EC) (tb:List TblT) (r0:Chk Nat) (r:Ending) (w':World):Prop:=
 w'.heap[rb]? = w.heap[rb]? ∧ match r0 with
  | .bad p e => ∃ (z:Int) (cv':Value),r = .returned (.int .i64 z) ∧ ChkA wB w' sb rb cv' mb p e env
  | .ok k => r = .returned (.int .i64 (k:Nat)) ∧ ∃ cv',ChkA wB w' sb rb cv' mb 0 0 (env ++ zcC tb k)
theorem TbsOk.one {l:List Tbl} (h:TbsOk l) {k:Nat} (hk:k < l.length):tblOK l[k]=true:=by have h1:=h.ok;unfold zd4 at h1;simp only [Bool.and_eq_true] at h1;exact List.all_eq_true.1 h1.1 _ (List.getElem_mem hk)
theorem zna {l:List UInt8} (h:zbj l=true):l ≠ []:=by rintro rfl;exact absurd h AD
theorem zfn {l:List Tbl} {k:Nat} (hk:k < l.length):zcC (l.map zax) k=(zax l[k]).env:=by unfold zcC;rw [List.getD_eq_getElem?_getD,List.getElem?_map,List.getElem?_eq_getElem hk]; rfl
theorem TbsOk.parts {l:List Tbl} (h:TbsOk l) {k:Nat} (hk:k < l.length):l[k].nm ≠ [] ∧ l[k].cols.length ≤ 16 ∧ (l[k].cols.map Col.nm).Nodup ∧ ∀ c ∈ l[k].cols,c.good=true:=by have h1:=h.one hk;unfold tblOK at h1;simp only [Bool.and_eq_true,decide_eq_true_eq] at h1;exact ⟨zna h1.1,h1.2.2.1,h1.2.2.2.2,fun c hc => List.all_eq_true.1 h1.2.2.2.1 c hc⟩
theorem zf3 (wB w:World) (sb rb:Nat) (cv:Value) (mb:Nat) (env:List EC) (hC:ChkA wB w sb rb cv mb 0 0 env) (l:List Tbl) (hT:TbsOk l) (n:Nat) (hn:l.length=n) (ao:Option Addr) (cap:Nat) (hI:TblsIn w ao l (sb :: mb :: cv.ownBlock.toList))
  (s:Bs) (hs:s.length ≤ 5000) (at':Nat) (but:Option Nat) (henv:env.length ≤ 500) (hnew:∀ k (hk:k < l.length),but ≠ some k → ∀ c ∈ l[k].cols,∀ e ∈ env,e.name ≠ c.nm) :
  Calls Tryz.prog 29 #[zh sb,.slice ao n cap,.string ⟨s.toArray⟩,.int .i64 at',.int .i64 (butV but)] w (TRes wB w sb rb mb env (l.map zax) (zbd (l.map zax) s at' but)):=by
 have hA:=hC.adding;have hrl:rb < w.heap.size:=LL hC.rbl hC.mods.size;have hln:n ≤ 9223372036854775807:=by have h1:=hT.ok;unfold zd4 at h1;simp only [Bool.and_eq_true,decide_eq_true_eq] at h1;omega
 have hfr:∀ {w':World} {cv':Value} {p e:Nat} {env':List EC},Adding [rb] (sb :: mb :: cv.ownBlock.toList) w w' sb cv' mb 0 p e env' → w'.heap[rb]? = w.heap[rb]?:=fun h => h.mods.block rb hrl hC.rne
 cases hf:zbw (l.map zax) s with
 | none =>refine (zih [rb] _ w w sb cv mb 0 env hA l n hn hln ao cap hI s at' (butV but) hf).mono ?_;rintro r w' ⟨rfl,h⟩;refine ⟨hfr h,?_⟩;rw [show zbd (l.map zax) s at' but = .bad at' 13 by unfold zbd; rw [hf]];exact ⟨0,cv,rfl,hC.add h⟩
 | some k =>
  obtain ⟨hk,hnm⟩:=zd0 hf;by_cases hb:but=some k
  ·subst hb;refine (zii [rb] _ w w sb cv mb 0 env hA l n hn hln ao cap hI s at' k hf).mono ?_;rintro r w' ⟨rfl,h⟩;refine ⟨hfr h,?_⟩;rw [show zbd (l.map zax) s at' (some k) = .bad at' 4 by simp [zbd,hf]];exact ⟨k,cv,rfl,hC.add h⟩
  ·obtain ⟨h1,h2,h3,h4⟩:=hT.parts hk;have hbv:butV but ≠ (k:Int):=by
    cases but with
    | none => show (-1:Int) ≠ (k:Int); omega
    | some j => show (j:Int) ≠ (k:Int); intro h; exact hb (by rw [show j=k by omega])
   refine (zij [rb] _ w w sb cv mb 0 env hA l n hn hln ao cap hI s at' (butV but) k hf hbv (hnm ▸ h1) hs l[k] (List.getElem?_eq_getElem hk) AA (hT.each _ (List.getElem_mem hk)).2 (fun c hc e he => hnew k hk hb c hc e he) h3).mono ?_;rintro r w' ⟨rfl,cv',h⟩;refine ⟨hfr h,?_⟩;rw [show zbd (l.map zax) s at' but = .ok k by simp [zbd,hf,hb]];refine ⟨rfl,cv',?_⟩;rw [zfn hk];exact hC.add h
theorem zdF {l:List Tbl} {s:Bs} {pos:Nat} {but:Option Nat} {k:Nat} (h:zbd (l.map zax) s pos but = .ok k):k < l.length:=by
 unfold zbd at h
 cases hf:zbw (l.map zax) s with
 | none => rw [hf] at h; cases h
 | some j =>
  rw [hf] at h;simp only at h;split at h
  ·cases h
  ·cases h; exact (zd0 hf).1
theorem zdG {l:List Tbl} (h:TbsOk l) {k:Nat} (hk:k < l.length):zbT (zcC (l.map zax) k) ∧ (zcC (l.map zax) k).length ≤ 16:=by
 rw [zfn hk];obtain ⟨h1,h2,h3,h4⟩:=h.parts hk;refine ⟨fun e he => ?_,by simp [TblT.env,zax]; exact h2⟩;simp only [TblT.env,zax,List.map_map,List.mem_map] at he;obtain ⟨c,hc,rfl⟩:=he;have h5:=h4 c hc;have h6:=(h.each _ (List.getElem_mem hk)).2 c hc;unfold Col.good at h5;simp only [Bool.and_eq_true] at h5;have h7:=h5.2;unfold zaN at h7;simp only [Bool.or_eq_true,Bool.and_eq_true,beq_iff_eq,decide_eq_true_eq] at h7;show Ty.Right ⟨c.k.toNat,c.s.toNat⟩;rcases h7 with ⟨a,b,d⟩ | ⟨(a | a) | a,b⟩
 ·exact .inl ⟨by show c.k.toNat=2; omega,by show 1 ≤ c.s.toNat; omega,by show c.s.toNat ≤ 9; omega⟩
 ·exact .inr ⟨.inl (by show c.k.toNat=1; omega),by show c.s.toNat=0; omega⟩
 ·exact .inr ⟨.inr (.inl (by show c.k.toNat=3; omega)),by show c.s.toNat=0; omega⟩
 ·exact .inr ⟨.inr (.inr (by show c.k.toNat=4; omega)),by show c.s.toNat=0; omega⟩
theorem zlw {l:List Tbl} (h:TbsOk l) {k:Nat} (hk:k < l.length):∀ j (hj:j < l.length),some k ≠ some j → ∀ c ∈ l[j].cols,∀ e ∈ zcC (l.map zax) k,e.name ≠ c.nm:=by intro j hj hne c hc e he;rw [zfn hk] at he;simp only [TblT.env,zax,List.map_map,List.mem_map] at he;obtain ⟨d,hd,rfl⟩:=he;exact h.apart k j hk hj (fun h => hne (by rw [h])) d hd c hc
structure StartC (w wB:World) (sb rb mb:Nat) (q:zt) (gr:Bool):Prop where
 mods:Mods [] w wB
 sbw:w.heap.size ≤ sb
 mbw:w.heap.size ≤ mb
 rbw:w.heap.size ≤ rb
 ch:ChkA wB wB sb rb (.slice none 0 0) mb 0 0 []
 st:CSt wB rb 0 (-1) (.pointer none) (.pointer none) gr (.slice none 0 0) (.slice none 0 0) (.slice none 0 0) (.slice none 0 0) q.limit q.offset
theorem znb {w wB:World} {sb rb mb:Nat} {q:zt} {gr:Bool} (hM:Mods [] w wB) (hs:zaX wB sb (.slice none 0 0) mb 0 0 0) (hm:wB.heap[mb]? = some (.map #[] 0)) (hr:CSt wB rb 0 (-1) (.pointer none) (.pointer none) gr (.slice none 0 0) (.slice none 0 0) (.slice none 0 0) (.slice none 0 0) q.limit q.offset)
  (h1:w.heap.size ≤ mb) (h2:mb < sb) (h3:sb < rb):StartC w wB sb rb mb q gr:=
 ⟨hM,by omega,h1,by omega,⟨hs,⟨#[],0,hm,by show mb ∉ [sb,rb]; simp; omega,by simp,fun t n h => absurd rfl h,by simp⟩,⟨[],World.ownsRow_nil _ _ _ _,fun i hi => absurd hi AB⟩,QM _ _,(fun g hg => nomatch (show (none:Option Nat)=some g from hg)),zj hs,zj hm,zj hr,by omega⟩,hr⟩
theorem StartC.old {w wB W:World} {sb rb mb:Nat} {q:zt} {gr:Bool} (h:StartC w wB sb rb mb q gr) (hM:Mods [sb,mb,rb] wB W):Mods [] w W:=h.mods.trans hM (fun x hx => by
 simp at hx;rcases hx with rfl | rfl | rfl
 ·exact .inr h.sbw
 ·exact .inr h.mbw
 ·exact .inr h.rbw)
theorem StartC.tbls {w wB W:World} {sb rb mb:Nat} {q:zt} {gr:Bool} (h:StartC w wB sb rb mb q gr) {cv:Value} {p e:Nat} {env:List EC} (hC:ChkA wB W sb rb cv mb p e env) {ao:Option Addr} {l:List Tbl} (hI:TblsIn w ao l []):TblsIn W ao l (sb :: mb :: cv.ownBlock.toList):=
 (hI.apart (fun x hx => by
  rcases MC hx with rfl | hx
  ·exact h.sbw
  ·rcases MC hx with rfl | hx
   ·exact h.mbw
   ·exact Nat.le_trans h.mods.size (hC.own x AJ))).mods ((h.old hC.mods).mono)
theorem CSt.put0 {w:World} {rb:Nat} {lf rt:Int} {von vwh:Value} {gr:Bool} {vg its nms vo:Value} {lim off:Int} (h:CSt w rb lf rt von vwh gr vg its nms vo lim off) (z:Int):CSt (w.setCell ⟨rb,0,none⟩ (.int .i64 z)) rb z rt von vwh gr vg its nms vo lim off:=zb h 0 _
theorem CSt.put1 {w:World} {rb:Nat} {lf rt:Int} {von vwh:Value} {gr:Bool} {vg its nms vo:Value} {lim off:Int} (h:CSt w rb lf rt von vwh gr vg its nms vo lim off) (z:Int):CSt (w.setCell ⟨rb,1,none⟩ (.int .i64 z)) rb lf z von vwh gr vg its nms vo lim off:=zb h 1 _
theorem CSt.put2 {w:World} {rb:Nat} {lf rt:Int} {von vwh:Value} {gr:Bool} {vg its nms vo:Value} {lim off:Int} (h:CSt w rb lf rt von vwh gr vg its nms vo lim off) (z:Value):CSt (w.setCell ⟨rb,2,none⟩ z) rb lf rt z vwh gr vg its nms vo lim off:=zb h 2 _
theorem CSt.put3 {w:World} {rb:Nat} {lf rt:Int} {von vwh:Value} {gr:Bool} {vg its nms vo:Value} {lim off:Int} (h:CSt w rb lf rt von vwh gr vg its nms vo lim off) (z:Value):CSt (w.setCell ⟨rb,3,none⟩ z) rb lf rt von z gr vg its nms vo lim off:=zb h 3 _
theorem z9 (w:World) (rb k:Nat) (v:Value):Mods [rb] w (w.setCell ⟨rb,k,none⟩ v):=(QM _ _).setCell (.inl AB) _
theorem QBlk.start {wB w:World} {rb:Nat} {q:zt} {lf rt:Int} {von vwh:Value} {gr:Bool} {vg:Value} (h:CSt w rb lf rt von vwh gr vg (.slice none 0 0) (.slice none 0 0) (.slice none 0 0) q.limit q.offset) (hM:wB.heap.size ≤ w.heap.size):QBlk wB w rb q:=
 ⟨_,_,_,_,_,_,_,_,[],[],h,⟨hM,⟨[],World.ownsRow_nil _ _ _ _,fun L _ => trivial⟩,World.ownsRow_nil _ _ _ _,(fun g hg => nomatch (show (none:Option Nat)=some g from hg)),(fun g hg => nomatch (show (none:Option Nat)=some g from hg))⟩,rfl⟩
theorem zeB (wB w:World) (sb rb:Nat) (cv:Value) (mb pos e:Nat) (env:List EC) (hC:ChkA wB w sb rb cv mb pos e env) (hp:e=0 → pos=0) (hV:CkVars w) (hsg : 0 ≠ sb ∧ 2 ≠ sb) (v:Value) (o:Option Tree) (hO:OptAt w [sb] v o)
  (hX:∀ t,o=some t → e=0 → ExprOk sb cv mb env t 0):Calls Tryz.prog 30 #[zh sb,v] w (zch w sb cv mb pos e (zbB env o)):=by
 cases o with
 | none =>rw [show v = .pointer none from hO];exact zlf w sb cv mb pos e env hC.st
 | some t =>
  obtain ⟨b,rfl,hE⟩:=hO;by_cases he:e=0
  ·subst he;exact zlh w hV sb hsg cv mb pos env hC.scope b t hE (hX t rfl rfl)
  ·exact zlg w sb cv mb pos e env hC.st he b t
theorem QBlk.go {wB w w':World} {sb rb:Nat} {q:zt} (h:QBlk wB w rb q) (hM:Mods [sb] w w') (hs:sb < wB.heap.size) (hne:sb ≠ rb):QBlk wB w' rb q:=by obtain ⟨lf,rt,von,vwh,gr,vg,its,nms,ns,ss,h1,h2,h3⟩:=h;exact ⟨lf,rt,von,vwh,gr,vg,its,nms,ns,ss,hM.heap h1 (by simpa using Ne.symm hne),h2.go hM (by simpa using hs),h3⟩
theorem QBlk.put2 {wB w:World} {rb:Nat} {q:zt} (h:QBlk wB w rb q) (hr:rb < wB.heap.size) (v:Value):QBlk wB (w.setCell ⟨rb,2,none⟩ v) rb q:=by obtain ⟨lf,rt,von,vwh,gr,vg,its,nms,ns,ss,h1,h2,h3⟩:=h;exact ⟨lf,rt,_,vwh,gr,vg,its,nms,ns,ss,h1.put2 v,h2.go (z9 _ _ _ _) (by simpa using hr),h3⟩
theorem QBlk.put3 {wB w:World} {rb:Nat} {q:zt} (h:QBlk wB w rb q) (hr:rb < wB.heap.size) (v:Value):QBlk wB (w.setCell ⟨rb,3,none⟩ v) rb q:=by obtain ⟨lf,rt,von,vwh,gr,vg,its,nms,ns,ss,h1,h2,h3⟩:=h;exact ⟨lf,rt,von,_,gr,vg,its,nms,ns,ss,h1.put3 v,h2.go (z9 _ _ _ _) (by simpa using hr),h3⟩
theorem zbl {w:World} (hV:CkVars w) {x:Nat} (hx:w.heap.size ≤ x) : 0 ≠ x ∧ 2 ≠ x:=by have h1:=zio hV.1.1;have h2:=zio hV.2.1;exact ⟨by omega,by omega⟩
def GrI (wg wr:World) (sb rb:Nat) (cv:Value) (mb:Nat) (env:List EC) (q:zt) (lf rt:Int) (von vwh:Value) (gr:Bool) (i:Nat):Prop:=
 ∃ p e ks vg,Mods [sb,rb] wg wr ∧ zaX wr sb cv mb 0 p e ∧ CSt wr rb lf rt von vwh gr vg (.slice none 0 0) (.slice none 0 0) (.slice none 0 0) q.limit q.offset ∧
  wr.ownsRow 0 3 1 vg ks.length (ks.map fun k:Nat => Value.int .i64 (k:Nat)) ∧ (∀ g,vg.ownBlock=some g → wg.heap.size ≤ g) ∧ zai (zbe env (q.group.take i)) 0 0=(p,e) ∧ (e=0 → zbe env (q.group.take i) = .ok ks) ∧ ks.length ≤ i
theorem GrI.start {wg:World} {sb rb:Nat} {cv:Value} {mb:Nat} {env:List EC} {q:zt} {lf rt:Int} {von vwh:Value} {gr:Bool} (hS:zaX wg sb cv mb 0 0 0) (hC:CSt wg rb lf rt von vwh gr (.slice none 0 0) (.slice none 0 0) (.slice none 0 0) (.slice none 0 0) q.limit q.offset):GrI wg wg sb rb cv mb env q lf rt von vwh gr 0:=
 ⟨0,0,[],.slice none 0 0,QM _ _,hS,hC,World.ownsRow_nil _ _ _ _,(fun g hg => nomatch (show (none:Option Nat)=some g from hg)),rfl,fun _ => rfl,LR _⟩
theorem GrI.past {wg wr:World} {sb rb:Nat} {cv:Value} {mb:Nat} {env:List EC} {q:zt} {lf rt:Int} {von vwh:Value} {gr:Bool} {i p e:Nat} {ks:List Nat} {vg:Value} (hM:Mods [sb,rb] wg wr) (hS:zaX wr sb cv mb 0 p e) (hC:CSt wr rb lf rt von vwh gr vg (.slice none 0 0) (.slice none 0 0) (.slice none 0 0) q.limit q.offset)
  (ho:wr.ownsRow 0 3 1 vg ks.length (ks.map fun k:Nat => Value.int .i64 (k:Nat))) (hg:∀ g,vg.ownBlock=some g → wg.heap.size ≤ g) (hc:zai (zbe env (q.group.take i)) 0 0=(p,e)) (hl:ks.length ≤ i) (he:e ≠ 0) {t:Tree} (ht:q.group[i]? = some t):GrI wg wr sb rb cv mb env q lf rt von vwh gr (i + 1):=
 ⟨p,e,ks,vg,hM,hS,hC,ho,hg,by rw [zi2 hc ht,zbr _ he],fun h => absurd h he,by omega⟩
theorem GrI.push {wg w2 w3:World} {sb rb:Nat} {cv:Value} {mb:Nat} {env:List EC} {q:zt} {lf rt:Int} {von vwh:Value} {gr:Bool} {i:Nat} {ks:List Nat} {vg:Value} {h:Hd} {g cap n:Nat} (hM2:Mods [sb,rb] wg w2) (hS2:zaX w2 sb cv mb 0 (zai (zbF env h) 0 0).1 (zai (zbF env h) 0 0).2)
  (hC2:CSt w2 rb lf rt von vwh gr vg (.slice none 0 0) (.slice none 0 0) (.slice none 0 0) q.limit q.offset) (hg:∀ g,vg.ownBlock=some g → wg.heap.size ≤ g) (hc:zbe env (q.group.take i) = .ok ks) (hl:ks.length ≤ i) (ht:q.group[i]? = some (.leaf h)) (hs:sb < wg.heap.size) (hr:rb < wg.heap.size) (hne:sb ≠ rb) (hn:ks.length=n)
  (ho:w3.ownsRow 0 3 1 (.slice (some ⟨g,0,none⟩) (n + 1) cap) (n + 1) ((ks.map fun k:Nat => Value.int .i64 (k:Nat)) ++ [.int .i64 (colK env h 0:Nat)])) (hM3:Mods vg.ownBlock.toList w2 w3) (hg3:vg.ownBlock=some g ∨ w2.heap.size ≤ g) :
  GrI wg (w3.setCell ⟨rb,5,none⟩ (.slice (some ⟨g,0,none⟩) (n + 1) cap)) sb rb cv mb env q lf rt von vwh gr (i + 1):=by
 have hput:=z9 w3 rb 5 (.slice (some ⟨g,0,none⟩) (n + 1) cap);have hsn:sb ∉ vg.ownBlock.toList:=fun hm => by have:=hg sb AG; omega
 have hrn:rb ∉ vg.ownBlock.toList:=fun hm => by have:=hg rb AG; omega
 have hgg:wg.heap.size ≤ g:=by
  rcases hg3 with h1 | h1
  ·exact hg g h1
  ·exact Nat.le_trans hM2.size h1
 refine ⟨_,_,ks ++ [colK env h 0],_,(hM2.trans hM3 (fun x hx => .inr (hg x AJ))).trans hput,hput.heap (hM3.heap hS2 hsn) AW,zb (hM3.heap hC2 hrn) 5 _,?_,(fun x hx => by cases hx; exact hgg),?_,?_,by rw [List.length_append,hn]; show n + 1 ≤ i + 1; omega⟩
 ·rw [List.length_append,List.map_append,hn];exact zm ho hput (fun x hx hm => by cases hx; simp at hm; omega)
 ·have h1:=zi2 (pos:=0) (e:=0) (show zai (zbe env (q.group.take i)) 0 0=(0,0) by rw [hc]; rfl) ht;rw [h1]; rfl
 ·intro h0;rw [List.take_add_one,ht];show zbe env (q.group.take i ++ [Tree.leaf h])=_;rw [zfi,hc];obtain ⟨-,-,k,hk⟩:=zaU (p1:=(zai (zbF env h) 0 0).1) (fun p k hk => zgD hk) (show zai (zbF env h) 0 0=((zai (zbF env h) 0 0).1,0) from Prod.ext rfl h0);show ((zbF env h).bind fun k => .ok (ks ++ [k]))=_;rw [hk];show Chk.ok (ks ++ [k])=_;unfold colK;rw [hk]; rfl
theorem zlx {w:World} {vg:Value} {ks:List Nat} (h:w.ownsRow 0 3 1 vg ks.length (ks.map fun k:Nat => Value.int .i64 (k:Nat))) {L:List Nat} (hL:∀ g,vg.ownBlock=some g → g ∉ L):GroupAt w L vg ks:=by
 rcases h.2 with ⟨rfl,h0⟩ | ⟨g,cap,cur,rfl,hx⟩
 ·exact ybv
 ·refine ⟨_,_,rfl,fun _ => ⟨g,rfl,hL g rfl,fun i hi => ?_⟩⟩;have:=(zar h).2.2 i (.int .i64 (ks[i]:Nat)) (by rw [List.getElem?_map,List.getElem?_eq_getElem hi]; rfl);exact this
theorem zgS {α:Type} {r:Chk α} {pos p e:Nat} (h:zai r pos 0=(p,e)) (he:e ≠ 0):r = .bad p e:=by
 cases r with
 | ok a => rw [zaP] at h; cases h; exact absurd rfl he
 | bad a b => cases h; rfl
inductive SpV where
 | fin
 | one (f:Bool) (o:Oper) (qs:List Oper) (t:SpV)
 | two (f1:Bool) (o1:Oper) (q1:List Oper) (t1:SpV) (f2:Bool) (o2:Oper) (q2:List Oper) (t2:SpV)
def pickV (l:List Oper) (z:List Nat):SpT → SpV
 | .fin => .fin
 | .one s qs t => .one (z.contains s) (l.getD s default) (zat l qs) (pickV l z t)
 | .two s1 q1 t1 s2 q2 t2 => .two (z.contains s1) (l.getD s1 default) (zat l q1) (pickV l z t1) (z.contains s2) (l.getD s2 default) (zat l q2) (pickV l z t2)
def stgV (P:Program) (ops:Array Oper) (C:World → Prop) (f:Bool) (o:Oper) (qs:List Oper) (K:Act → World → Prop) (a:Act) (w:World):Prop:=
 wpList P ops (zeI fun a' w' => (f=true ∨ C w') ∧ ∃ AF,(∀ y,C y → wpQuiet P ops (fun u => ∃ k:Unit,u=y) (fun af => af=AF) qs a') ∧ K AF w') [o] a w
def segV (P:Program) (ops:Array Oper) (C:World → Prop) (Q:Act → World → Prop):SpV → Act → World → Prop
 | .fin,a,w => Q a w
 | .one f o qs t,a,w => stgV P ops C f o qs (segV P ops C Q t) a w
 | .two f1 o1 q1 t1 f2 o2 q2 t2,a,w => stgV P ops C f1 o1 q1 (segV P ops C Q t1) a w ∧ stgV P ops C f2 o2 q2 (segV P ops C Q t2) a w
section
variable {P:Program} {ops:Array Oper} {C:World → Prop} {Q:Act → World → Prop} {a:Act} {w:World}
theorem zoH {f:Bool} {o:Oper} {qs:List Oper} {K:Act → World → Prop}
  (h:∀ R:Act → World → Prop,(∀ a' w',(f=true ∨ C w') → ∀ AF,(∀ y,C y → wpQuiet P ops (fun u => ∃ k:Unit,u=y) (fun af => af=AF) qs a') → K AF w' → R a' w') → wpList P ops (zeI R) [o] a w):stgV P ops C f o qs K a w:=
 h _ fun a' w' h1 AF h2 h3 => ⟨h1,AF,h2,h3⟩
theorem zp {f:Bool} {o:Oper} {K:Act → World → Prop}
  (h:∀ R:Act → World → Prop,(∀ a' w',(f=true ∨ C w') → K a' w' → R a' w') → wpList P ops (zeI R) [o] a w):stgV P ops C f o [] K a w:=
 zoH fun R hR => h R fun a' w' h1 h2 => hR a' w' h1 a' (fun y _ => rfl) h2
theorem zcr (h:Q a w):segV P ops C Q .fin a w:=h
theorem zu {f:Bool} {o:Oper} {qs:List Oper} {t:SpV} (h:stgV P ops C f o qs (segV P ops C Q t) a w):segV P ops C Q (.one f o qs t) a w:=h
theorem zdK {f1 f2:Bool} {o1 o2:Oper} {q1 q2:List Oper} {t1 t2:SpV} (h1:stgV P ops C f1 o1 q1 (segV P ops C Q t1) a w) (h2:stgV P ops C f2 o2 q2 (segV P ops C Q t2) a w):segV P ops C Q (.two f1 o1 q1 t1 f2 o2 q2 t2) a w:=⟨h1,h2⟩
end
def lateB (l:List Oper) (z fr:List Nat):Bool:=z.all fun s => (List.range l.length).all fun k => z.contains k || (fr.contains k || zbf l l.length s k)
def earlyB (z:List Nat) (p:List (Nat × List Nat)):Bool:=p.all fun x => x.2.all fun q => !z.contains q
def tailB (l:List Oper) (fr q1:List Nat) (t:SpT) (z:List Nat):Bool:=
 let q0:=fr ++ q1
 waitB l && zcD l t && lateB l z fr && (q0.all fun q => !z.contains q) && t.paths.all fun p => decide (q0 ++ zL p).Nodup && ((List.range l.length).all fun i => (q0 ++ zL p).contains i) && ((q0 ++ zL p).all fun i => decide (i < l.length)) && zbQ l.toArray (zat l (q0 ++ zL p)) && pathB l p && earlyB z p
section
variable {P:Program} {l:List Oper} {C:World → Prop}
structure PvAt (l:List Oper) (z:List Nat) (done:List Nat) (p:List (Nat × List Nat)):Prop where
 ok:pathB l p=true
 nodup:(done ++ zL p).Nodup
 all:∀ i,i < l.length → i ∈ done ++ zL p
 bound:∀ i ∈ done ++ zL p,i < l.length
 once:∀ (i j:Nat) (oi oj:Oper),l[i]? = some oi → l[j]? = some oj → i ∈ done → j ∈ zL p → (∀ s ∈ oi.looksAt l.toArray,oj.dst ≠ some s) ∧ ∀ d,oi.dst=some d → oj.dst ≠ some d
 onceR:zbQ l.toArray (zat l (zL p))=true
 early:earlyB z p=true
structure TvAt (P:Program) (l:List Oper) (C:World → Prop) (z fr:List Nat) (Q:Act → World → Prop) (done:List Nat) (t:SpT) (AF:Act) (listed:Array Bool) (a:Act) (w:World):Prop where
 size:listed.size=l.length
 cover:zcD l t=true
 path:∀ p ∈ t.paths,PvAt l z done p
 sub:∀ i:Nat,listed[i]? = some true → i ∈ done
 down:∀ (i:Nat) (o:Oper),listed[i]? = some true → l[i]? = some o → ∀ e ∈ o.after.toList,Region.binds .any e=true → listed[e.on]? = some true
 quiet:∀ i ∈ done,listed[i]? = some true ∨ QF P l C AF i
 frame:∀ s,(∀ (m:Nat) (om:Oper),l[m]? = some om → om.dst=some s → m ∈ done → listed[m]? = some true) → a.tmps[s]? = AF.tmps[s]?
 fsize:a.tmps.size=AF.tmps.size
 defers:a.defers=AF.defers
 cls:C w ∨ ∀ i:Nat,i < l.length → z.contains i=false → fr.contains i=false → listed[i]? = some true
 free:∀ i ∈ fr,listed[i]? = some true ∨ QF P l (fun _ => True) AF i
 frd:∀ i ∈ fr,i ∈ done
 late:∀ i ∈ done,z.contains i=true → listed[i]? = some true
 rest:segV P l.toArray C Q (pickV l z t) AF w
theorem zl8 {ops:Array Oper} {z:List Nat} {Q:Act → World → Prop} {t t':SpT} {i:Nat} {qs:List Nat} {a:Act} {w:World} (h:segV P ops C Q (pickV l z t) a w) (hm:(i,qs,t') ∈ t.heads) {o:Oper} (ho:l[i]? = some o) :
  stgV P ops C (z.contains i) o (zat l qs) (segV P ops C Q (pickV l z t')) a w:=by
 exact yaP
theorem znG {z fr:List Nat} {Q:Exit → Act → World → Prop} (hwait:waitB l=true) (hlt:lateB l z fr=true) (hne:∃ y,C y) :
  ∀ (fuel:Nat) (done:List Nat) (t:SpT) (AF:Act) (listed:Array Bool) (a:Act) (w:World),TvAt P l C z fr (fun a w => Q .normal a w) done t AF listed a w → listed.toList.countP (fun b => !b) ≤ fuel → wpAny P .any l.toArray Q fuel listed a w:=by
 have gEL:=QH trivial;exact yeU
theorem zfv {id:Nat} {Q:Exit → Act → World → Prop} {a:Act} {w:World} (hm:P.follows .mixedOrders=true) (fr q0:List Nat) (t:SpT) (z:List Nat) (hok:tailB l fr q0 t z=true) (C:World → Prop) (hC:C w.drew)
  (AF1 AF:Act) (hfree:∀ y,wpQuiet P l.toArray (fun u => ∃ k:Unit,u=y) (fun af => af=AF1) (zat l fr) a) (hwalk:∀ y,C y → wpQuiet P l.toArray (fun u => ∃ k:Unit,u=y) (fun af => af=AF) (zat l q0) AF1) (hrun:segV P l.toArray C (fun a w => Q .normal a w) (pickV l z t) AF w.drew):(Code.region id l.toArray true).wp P Q a w:=by
 refine wp_region_any hm ?_;unfold tailB at hok;simp only [Bool.and_eq_true] at hok;obtain ⟨⟨⟨⟨k5,k6⟩,kl⟩,kq⟩,k7⟩:=hok;have hpaths:∀ p ∈ t.paths,PvAt l z (fr ++ q0) p:=by intro p hp;have h1:=List.all_eq_true.1 k7 p hp;simp only [Bool.and_eq_true] at h1;obtain ⟨⟨⟨⟨⟨k1,k2⟩,k3⟩,k4⟩,kp⟩,k8⟩:=h1;rw [zW] at k4;obtain ⟨o1,o2,o3⟩:=zX k4;exact ⟨kp,by simpa using k1,fun i hi => List.contains_iff_mem.1 (List.all_eq_true.1 k2 i (List.mem_range.2 hi)),fun i hi => by simpa using List.all_eq_true.1 k3 i hi,fun i j oi oj hoi hoj hi hj => o3 oi (zM hi hoi) oj (zM hj hoj),o2,k8⟩
 have ho1:zbQ l.toArray (zat l (fr ++ q0))=true:=by exact yca
 rw [zW] at ho1;obtain ⟨of1,of2,of3⟩:=zX ho1;have hbd:∀ i ∈ fr ++ q0,i < l.length:=fun i hi => (hpaths _ t.lead_mem).bound i (List.mem_append_left _ hi);obtain ⟨f1,f2,f3,f4⟩:=stretch (C:=fun _ => True) (fun i hi => hbd i (List.mem_append_left _ hi)) of1 (fun y _ => hfree y) ⟨w,trivial⟩;obtain ⟨t1,t2,t3,t4⟩:=stretch (fun i hi => hbd i (List.mem_append_right _ hi)) of2 hwalk ⟨_,hC⟩;have hrep:∀ i:Nat,(Array.replicate l.toArray.size false)[i]? ≠ some true:=fun i => by simp [Array.getElem?_replicate]
 have hfr:∀ i ∈ fr,QF P l (fun _ => True) AF i:=fun i hi => (f1 i hi).later t3 fun ok hok => ⟨fun s0 hs0 => t4 s0 fun k hk o ho => (of3 ok (zM hi hok) o (zM hk ho)).1 s0 hs0,fun d hd => t4 d fun k hk o ho => (of3 ok (zM hi hok) o (zM hk ho)).2 d hd⟩;refine znG (fr:=fr) k5 kl ⟨_,hC⟩ _ (fr ++ q0) t AF _ _ _ ⟨by simp,k6,hpaths,fun i hi => absurd hi (hrep i),fun i o hi => absurd hi (hrep i),fun i hi => .inr ?_,fun s hs => ?_,(t3.trans f3).symm,(t2.trans f2).symm,.inl hC,fun i hi => .inr (hfr i hi),fun i hi => List.mem_append_left _ hi,fun i hi hz => absurd (List.all_eq_true.1 kq i hi) (by rw [hz]; decide),hrun⟩ ?_
 ·rcases List.mem_append.1 hi with hi | hi
  ·exact fun o ho => ⟨(hfr i hi o ho).1,fun y _ => (hfr i hi o ho).2 y trivial⟩
  ·exact t1 i hi
 ·exact ((t4 s fun i hi o ho hds => hrep i (hs i o ho hds (List.mem_append_right _ hi))).trans (f4 s fun i hi o ho hds => hrep i (hs i o ho hds (List.mem_append_left _ hi)))).symm
 ·refine Nat.le_trans List.countP_le_length ?_;simp
end
end Go.Proofs.YtebljciefhfgbaaGreatDoor
