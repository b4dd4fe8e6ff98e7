/-
  check.table, as one contract. No condition.
-/
import Derived.Test.YtgdpaieechgahaaGreatDoorQ42
namespace Go.Proofs.YtgdpaieechgahaaGreatDoor
open Go.RowKit
set_option linter.unusedVariables false
def butV:Option Nat → Int
 | none => -1
 | some k => (k:Nat)
def TRes (wB w:World) (sb rb mb:Nat) (env:List EC) (tb:List TblT) (r0:Chk Nat) (r:Ending) (w':World):Prop:=
 w'.heap[rb]? = w.heap[rb]? ∧ match r0 with
  | .bad p e => ∃ (z:Int) (cv':Value),r = .returned (.int .i64 z) ∧ ChkA wB w' sb rb cv' mb p e env
  | .ok k => r = .returned (.int .i64 (k:Nat)) ∧ ∃ cv',ChkA wB w' sb rb cv' mb 0 0 (env ++ envAt tb k)
theorem TbsOk.one {l:List Tbl} (h:TbsOk l) {k:Nat} (hk:k < l.length):tblOK l[k]=true:=by
 have h1:=h.ok
 unfold tblsOK at h1
 simp only [Bool.and_eq_true] at h1
 exact List.all_eq_true.1 h1.1 _ (List.getElem_mem hk)
theorem zhR {l:List UInt8} (h:nameL l=true):l ≠ []:=by
 rintro rfl
 exact absurd h (by decide)
theorem zca {l:List Tbl} {k:Nat} (hk:k < l.length):envAt (l.map tblT) k=(tblT l[k]).env:=by
 unfold envAt
 rw [List.getD_eq_getElem?_getD,List.getElem?_map,List.getElem?_eq_getElem hk]; rfl
theorem TbsOk.parts {l:List Tbl} (h:TbsOk l) {k:Nat} (hk:k < l.length):l[k].nm ≠ [] ∧ l[k].cols.length ≤ 16 ∧ (l[k].cols.map Col.nm).Nodup ∧ ∀ c ∈ l[k].cols,c.good=true:=by
 have h1:=h.one hk
 unfold tblOK at h1
 simp only [Bool.and_eq_true,decide_eq_true_eq] at h1
 exact ⟨zhR h1.1,h1.2.2.1,h1.2.2.2.2,fun c hc => List.all_eq_true.1 h1.2.2.2.1 c hc⟩
theorem zcV (wB w:World) (sb rb:Nat) (cv:Value) (mb:Nat) (env:List EC) (hC:ChkA wB w sb rb cv mb 0 0 env) (l:List Tbl) (hT:TbsOk l) (n:Nat) (hn:l.length=n) (ao:Option Addr) (cap:Nat) (hI:TblsIn w ao l (sb :: mb :: cv.ownBlock.toList))
  (s:Bs) (hs:s.length ≤ 5000) (at':Nat) (but:Option Nat) (henv:env.length ≤ 500) (hnew:∀ k (hk:k < l.length),but ≠ some k → ∀ c ∈ l[k].cols,∀ e ∈ env,e.name ≠ c.nm) :
  Calls Tryz.prog 23 #[PtrV sb,.slice ao n cap,.string ⟨s.toArray⟩,.int .i64 at',.int .i64 (butV but)] w (TRes wB w sb rb mb env (l.map tblT) (tableQ (l.map tblT) s at' but)):=by
 have hA:=hC.adding
 have hrl:rb < w.heap.size:=Nat.lt_of_lt_of_le hC.rbl hC.mods.size
 have hln:n ≤ 9223372036854775807:=by
  have h1:=hT.ok
  unfold tblsOK at h1
  simp only [Bool.and_eq_true,decide_eq_true_eq] at h1
  omega
 have hfr:∀ {w':World} {cv':Value} {p e:Nat} {env':List EC},Adding [rb] (sb :: mb :: cv.ownBlock.toList) w w' sb cv' mb 0 p e env' → w'.heap[rb]? = w.heap[rb]?:=fun h => h.mods.block rb hrl hC.rne
 cases hf:tblFind (l.map tblT) s with
 | none =>
  refine (zeV [rb] _ w w sb cv mb 0 env hA l n hn hln ao cap hI s at' (butV but) hf).mono ?_
  rintro r w' ⟨rfl,h⟩
  refine ⟨hfr h,?_⟩
  rw [show tableQ (l.map tblT) s at' but = .bad at' 13 by unfold tableQ; rw [hf]]
  exact ⟨0,cv,rfl,hC.add h⟩
 | some k =>
  obtain ⟨hk,hnm⟩:=zbG hf
  by_cases hb:but=some k
  ·subst hb
   refine (zeW [rb] _ w w sb cv mb 0 env hA l n hn hln ao cap hI s at' k hf).mono ?_
   rintro r w' ⟨rfl,h⟩
   refine ⟨hfr h,?_⟩
   rw [show tableQ (l.map tblT) s at' (some k) = .bad at' 4 by simp [tableQ,hf]]
   exact ⟨k,cv,rfl,hC.add h⟩
  ·obtain ⟨h1,h2,h3,h4⟩:=hT.parts hk
   have hbv:butV but ≠ (k:Int):=by
    cases but with
    | none => show (-1:Int) ≠ (k:Int); omega
    | some j => show (j:Int) ≠ (k:Int); intro h; exact hb (by rw [show j=k by omega])
   refine (zeX [rb] _ w w sb cv mb 0 env hA l n hn hln ao cap hI s at' (butV but) k hf hbv (hnm ▸ h1) hs l[k] (List.getElem?_eq_getElem hk) (by omega) (hT.each _ (List.getElem_mem hk)).2 (fun c hc e he => hnew k hk hb c hc e he) h3).mono ?_
   rintro r w' ⟨rfl,cv',h⟩
   refine ⟨hfr h,?_⟩
   rw [show tableQ (l.map tblT) s at' but = .ok k by simp [tableQ,hf,hb]]
   refine ⟨rfl,cv',?_⟩
   rw [zca hk]
   exact hC.add h
theorem zbb {l:List Tbl} {s:Bs} {pos:Nat} {but:Option Nat} {k:Nat} (h:tableQ (l.map tblT) s pos but = .ok k):k < l.length:=by
 unfold tableQ at h
 cases hf:tblFind (l.map tblT) s with
 | none => rw [hf] at h; cases h
 | some j =>
  rw [hf] at h
  simp only at h
  split at h
  ·cases h
  ·cases h; exact (zbG hf).1
theorem zbc {l:List Tbl} (h:TbsOk l) {k:Nat} (hk:k < l.length):EnvRight (envAt (l.map tblT) k) ∧ (envAt (l.map tblT) k).length ≤ 16:=by
 rw [zca hk]
 obtain ⟨h1,h2,h3,h4⟩:=h.parts hk
 refine ⟨fun e he => ?_,by simp [TblT.env,tblT]; exact h2⟩
 simp only [TblT.env,tblT,List.map_map,List.mem_map] at he
 obtain ⟨c,hc,rfl⟩:=he
 have h5:=h4 c hc
 have h6:=(h.each _ (List.getElem_mem hk)).2 c hc
 unfold Col.good at h5
 simp only [Bool.and_eq_true] at h5
 have h7:=h5.2
 unfold tyRight at h7
 simp only [Bool.or_eq_true,Bool.and_eq_true,beq_iff_eq,decide_eq_true_eq] at h7
 show Ty.Right ⟨c.k.toNat,c.s.toNat⟩
 rcases h7 with ⟨a,b,d⟩ | ⟨(a | a) | a,b⟩
 ·exact .inl ⟨by show c.k.toNat=2; omega,by show 1 ≤ c.s.toNat; omega,by show c.s.toNat ≤ 9; omega⟩
 ·exact .inr ⟨.inl (by show c.k.toNat=1; omega),by show c.s.toNat=0; omega⟩
 ·exact .inr ⟨.inr (.inl (by show c.k.toNat=3; omega)),by show c.s.toNat=0; omega⟩
 ·exact .inr ⟨.inr (.inr (by show c.k.toNat=4; omega)),by show c.s.toNat=0; omega⟩
theorem zgs {l:List Tbl} (h:TbsOk l) {k:Nat} (hk:k < l.length):∀ j (hj:j < l.length),some k ≠ some j → ∀ c ∈ l[j].cols,∀ e ∈ envAt (l.map tblT) k,e.name ≠ c.nm:=by
 intro j hj hne c hc e he
 rw [zca hk] at he
 simp only [TblT.env,tblT,List.map_map,List.mem_map] at he
 obtain ⟨d,hd,rfl⟩:=he
 exact h.apart k j hk hj (fun h => hne (by rw [h])) d hd c hc
structure StartC (w wB:World) (sb rb mb:Nat) (q:QueryT) (gr:Bool):Prop where
 mods:Mods [] w wB
 sbw:w.heap.size ≤ sb
 mbw:w.heap.size ≤ mb
 rbw:w.heap.size ≤ rb
 ch:ChkA wB wB sb rb (.slice none 0 0) mb 0 0 []
 st:CSt wB rb 0 (-1) (.pointer none) (.pointer none) gr (.slice none 0 0) (.slice none 0 0) (.slice none 0 0) (.slice none 0 0) q.limit q.offset
theorem zhS {w wB:World} {sb rb mb:Nat} {q:QueryT} {gr:Bool} (hM:Mods [] w wB) (hs:ScSt wB sb (.slice none 0 0) mb 0 0 0) (hm:wB.heap[mb]? = some (.map #[] 0)) (hr:CSt wB rb 0 (-1) (.pointer none) (.pointer none) gr (.slice none 0 0) (.slice none 0 0) (.slice none 0 0) (.slice none 0 0) q.limit q.offset)
  (h1:w.heap.size ≤ mb) (h2:mb < sb) (h3:sb < rb):StartC w wB sb rb mb q gr:=
 ⟨hM,by omega,h1,by omega,⟨hs,⟨#[],0,hm,by show mb ∉ [sb,rb]; simp; omega,by simp,fun t n h => absurd rfl h,by simp⟩,⟨[],World.ownsRow_nil _ _ _ _,fun i hi => absurd hi (by simp)⟩,Mods.refl _ _,(fun g hg => nomatch (show (none:Option Nat)=some g from hg)),zi hs,zi hm,zi hr,by omega⟩,hr⟩
theorem StartC.old {w wB W:World} {sb rb mb:Nat} {q:QueryT} {gr:Bool} (h:StartC w wB sb rb mb q gr) (hM:Mods [sb,mb,rb] wB W):Mods [] w W:=h.mods.trans hM (fun x hx => by
 simp at hx
 rcases hx with rfl | rfl | rfl
 ·exact .inr h.sbw
 ·exact .inr h.mbw
 ·exact .inr h.rbw)
theorem StartC.tbls {w wB W:World} {sb rb mb:Nat} {q:QueryT} {gr:Bool} (h:StartC w wB sb rb mb q gr) {cv:Value} {p e:Nat} {env:List EC} (hC:ChkA wB W sb rb cv mb p e env) {ao:Option Addr} {l:List Tbl} (hI:TblsIn w ao l []):TblsIn W ao l (sb :: mb :: cv.ownBlock.toList):=
 (hI.apart (fun x hx => by
  rcases List.mem_cons.1 hx with rfl | hx
  ·exact h.sbw
  ·rcases List.mem_cons.1 hx with rfl | hx
   ·exact h.mbw
   ·exact Nat.le_trans h.mods.size (hC.own x (by simpa using hx)))).mods ((h.old hC.mods).mono (by simp))
theorem CSt.put0 {w:World} {rb:Nat} {lf rt:Int} {von vwh:Value} {gr:Bool} {vg its nms vo:Value} {lim off:Int} (h:CSt w rb lf rt von vwh gr vg its nms vo lim off) (z:Int):CSt (w.setCell ⟨rb,0,none⟩ (.int .i64 z)) rb z rt von vwh gr vg its nms vo lim off:=zb h 0 _
theorem CSt.put1 {w:World} {rb:Nat} {lf rt:Int} {von vwh:Value} {gr:Bool} {vg its nms vo:Value} {lim off:Int} (h:CSt w rb lf rt von vwh gr vg its nms vo lim off) (z:Int):CSt (w.setCell ⟨rb,1,none⟩ (.int .i64 z)) rb lf z von vwh gr vg its nms vo lim off:=zb h 1 _
theorem CSt.put2 {w:World} {rb:Nat} {lf rt:Int} {von vwh:Value} {gr:Bool} {vg its nms vo:Value} {lim off:Int} (h:CSt w rb lf rt von vwh gr vg its nms vo lim off) (z:Value):CSt (w.setCell ⟨rb,2,none⟩ z) rb lf rt z vwh gr vg its nms vo lim off:=zb h 2 _
theorem CSt.put3 {w:World} {rb:Nat} {lf rt:Int} {von vwh:Value} {gr:Bool} {vg its nms vo:Value} {lim off:Int} (h:CSt w rb lf rt von vwh gr vg its nms vo lim off) (z:Value):CSt (w.setCell ⟨rb,3,none⟩ z) rb lf rt von z gr vg its nms vo lim off:=zb h 3 _
theorem zH (w:World) (rb k:Nat) (v:Value):Mods [rb] w (w.setCell ⟨rb,k,none⟩ v):=(Mods.refl _ _).setCell (.inl (by simp)) _
theorem QBlk.start {wB w:World} {rb:Nat} {q:QueryT} {lf rt:Int} {von vwh:Value} {gr:Bool} {vg:Value} (h:CSt w rb lf rt von vwh gr vg (.slice none 0 0) (.slice none 0 0) (.slice none 0 0) q.limit q.offset) (hM:wB.heap.size ≤ w.heap.size):QBlk wB w rb q:=
 ⟨_,_,_,_,_,_,_,_,[],[],h,⟨hM,⟨[],World.ownsRow_nil _ _ _ _,fun L _ => trivial⟩,World.ownsRow_nil _ _ _ _,(fun g hg => nomatch (show (none:Option Nat)=some g from hg)),(fun g hg => nomatch (show (none:Option Nat)=some g from hg))⟩,rfl⟩
theorem zbW (wB w:World) (sb rb:Nat) (cv:Value) (mb pos e:Nat) (env:List EC) (hC:ChkA wB w sb rb cv mb pos e env) (hp:e=0 → pos=0) (hV:CkVars w) (hsg : 0 ≠ sb ∧ 2 ≠ sb) (v:Value) (o:Option Tree) (hO:OptAt w [sb] v o)
  (hX:∀ t,o=some t → e=0 → ExprOk sb cv mb env t 0):Calls Tryz.prog 24 #[PtrV sb,v] w (CondRes w sb cv mb pos e (condQ env o)):=by
 cases o with
 | none =>
  rw [show v = .pointer none from hO]
  exact zhv w sb cv mb pos e env hC.st
 | some t =>
  obtain ⟨b,rfl,hE⟩:=hO
  by_cases he:e=0
  ·subst he
   exact zhx w hV sb hsg cv mb pos env hC.scope b t hE (hX t rfl rfl)
  ·exact zhw w sb cv mb pos e env hC.st he b t
theorem QBlk.go {wB w w':World} {sb rb:Nat} {q:QueryT} (h:QBlk wB w rb q) (hM:Mods [sb] w w') (hs:sb < wB.heap.size) (hne:sb ≠ rb):QBlk wB w' rb q:=by
 obtain ⟨lf,rt,von,vwh,gr,vg,its,nms,ns,ss,h1,h2,h3⟩:=h
 exact ⟨lf,rt,von,vwh,gr,vg,its,nms,ns,ss,hM.heap h1 (by simpa using Ne.symm hne),h2.go hM (by simpa using hs),h3⟩
theorem QBlk.put2 {wB w:World} {rb:Nat} {q:QueryT} (h:QBlk wB w rb q) (hr:rb < wB.heap.size) (v:Value):QBlk wB (w.setCell ⟨rb,2,none⟩ v) rb q:=by
 obtain ⟨lf,rt,von,vwh,gr,vg,its,nms,ns,ss,h1,h2,h3⟩:=h
 exact ⟨lf,rt,_,vwh,gr,vg,its,nms,ns,ss,h1.put2 v,h2.go (zH _ _ _ _) (by simpa using hr),h3⟩
theorem QBlk.put3 {wB w:World} {rb:Nat} {q:QueryT} (h:QBlk wB w rb q) (hr:rb < wB.heap.size) (v:Value):QBlk wB (w.setCell ⟨rb,3,none⟩ v) rb q:=by
 obtain ⟨lf,rt,von,vwh,gr,vg,its,nms,ns,ss,h1,h2,h3⟩:=h
 exact ⟨lf,rt,von,_,gr,vg,its,nms,ns,ss,h1.put3 v,h2.go (zH _ _ _ _) (by simpa using hr),h3⟩
theorem zak {w:World} (hV:CkVars w) {x:Nat} (hx:w.heap.size ≤ x) : 0 ≠ x ∧ 2 ≠ x:=by
 have h1:=ze2 hV.1.1
 have h2:=ze2 hV.2.1
 exact ⟨by omega,by omega⟩
def GrI (wg wr:World) (sb rb:Nat) (cv:Value) (mb:Nat) (env:List EC) (q:QueryT) (lf rt:Int) (von vwh:Value) (gr:Bool) (i:Nat):Prop:=
 ∃ p e ks vg,Mods [sb,rb] wg wr ∧ ScSt wr sb cv mb 0 p e ∧ CSt wr rb lf rt von vwh gr vg (.slice none 0 0) (.slice none 0 0) (.slice none 0 0) q.limit q.offset ∧
  wr.ownsRow 0 3 1 vg ks.length (ks.map fun k:Nat => Value.int .i64 (k:Nat)) ∧ (∀ g,vg.ownBlock=some g → wg.heap.size ≤ g) ∧ chkE (groupQ env (q.group.take i)) 0 0=(p,e) ∧ (e=0 → groupQ env (q.group.take i) = .ok ks) ∧ ks.length ≤ i
theorem GrI.start {wg:World} {sb rb:Nat} {cv:Value} {mb:Nat} {env:List EC} {q:QueryT} {lf rt:Int} {von vwh:Value} {gr:Bool} (hS:ScSt wg sb cv mb 0 0 0) (hC:CSt wg rb lf rt von vwh gr (.slice none 0 0) (.slice none 0 0) (.slice none 0 0) (.slice none 0 0) q.limit q.offset):GrI wg wg sb rb cv mb env q lf rt von vwh gr 0:=
 ⟨0,0,[],.slice none 0 0,Mods.refl _ _,hS,hC,World.ownsRow_nil _ _ _ _,(fun g hg => nomatch (show (none:Option Nat)=some g from hg)),rfl,fun _ => rfl,Nat.le_refl _⟩
theorem GrI.past {wg wr:World} {sb rb:Nat} {cv:Value} {mb:Nat} {env:List EC} {q:QueryT} {lf rt:Int} {von vwh:Value} {gr:Bool} {i p e:Nat} {ks:List Nat} {vg:Value} (hM:Mods [sb,rb] wg wr) (hS:ScSt wr sb cv mb 0 p e) (hC:CSt wr rb lf rt von vwh gr vg (.slice none 0 0) (.slice none 0 0) (.slice none 0 0) q.limit q.offset)
  (ho:wr.ownsRow 0 3 1 vg ks.length (ks.map fun k:Nat => Value.int .i64 (k:Nat))) (hg:∀ g,vg.ownBlock=some g → wg.heap.size ≤ g) (hc:chkE (groupQ env (q.group.take i)) 0 0=(p,e)) (hl:ks.length ≤ i) (he:e ≠ 0) {t:Tree} (ht:q.group[i]? = some t):GrI wg wr sb rb cv mb env q lf rt von vwh gr (i + 1):=
 ⟨p,e,ks,vg,hM,hS,hC,ho,hg,by rw [zfw hc ht,zao _ he],fun h => absurd h he,by omega⟩
theorem GrI.push {wg w2 w3:World} {sb rb:Nat} {cv:Value} {mb:Nat} {env:List EC} {q:QueryT} {lf rt:Int} {von vwh:Value} {gr:Bool} {i:Nat} {ks:List Nat} {vg:Value} {h:Hd} {g cap n:Nat} (hM2:Mods [sb,rb] wg w2) (hS2:ScSt w2 sb cv mb 0 (chkE (colQ env h) 0 0).1 (chkE (colQ env h) 0 0).2)
  (hC2:CSt w2 rb lf rt von vwh gr vg (.slice none 0 0) (.slice none 0 0) (.slice none 0 0) q.limit q.offset) (hg:∀ g,vg.ownBlock=some g → wg.heap.size ≤ g) (hc:groupQ env (q.group.take i) = .ok ks) (hl:ks.length ≤ i) (ht:q.group[i]? = some (.leaf h)) (hs:sb < wg.heap.size) (hr:rb < wg.heap.size) (hne:sb ≠ rb) (hn:ks.length=n)
  (ho:w3.ownsRow 0 3 1 (.slice (some ⟨g,0,none⟩) (n + 1) cap) (n + 1) ((ks.map fun k:Nat => Value.int .i64 (k:Nat)) ++ [.int .i64 (colK env h 0:Nat)])) (hM3:Mods vg.ownBlock.toList w2 w3) (hg3:vg.ownBlock=some g ∨ w2.heap.size ≤ g) :
  GrI wg (w3.setCell ⟨rb,5,none⟩ (.slice (some ⟨g,0,none⟩) (n + 1) cap)) sb rb cv mb env q lf rt von vwh gr (i + 1):=by
 have hput:=zH w3 rb 5 (.slice (some ⟨g,0,none⟩) (n + 1) cap)
 have hsn:sb ∉ vg.ownBlock.toList:=fun hm => by have:=hg sb (by simpa using hm); omega
 have hrn:rb ∉ vg.ownBlock.toList:=fun hm => by have:=hg rb (by simpa using hm); omega
 have hgg:wg.heap.size ≤ g:=by
  rcases hg3 with h1 | h1
  ·exact hg g h1
  ·exact Nat.le_trans hM2.size h1
 refine ⟨_,_,ks ++ [colK env h 0],_,(hM2.trans hM3 (fun x hx => .inr (hg x (by simpa using hx)))).trans hput (by simp),hput.heap (hM3.heap hS2 hsn) (by simpa using hne),zb (hM3.heap hC2 hrn) 5 _,?_,(fun x hx => by cases hx; exact hgg),?_,?_,by rw [List.length_append,hn]; show n + 1 ≤ i + 1; omega⟩
 ·rw [List.length_append,List.map_append,hn]
  exact zl ho hput (fun x hx hm => by cases hx; simp at hm; omega)
 ·have h1:=zfw (pos:=0) (e:=0) (show chkE (groupQ env (q.group.take i)) 0 0=(0,0) by rw [hc]; rfl) ht
  rw [h1]; rfl
 ·intro h0
  rw [List.take_add_one,ht]
  show groupQ env (q.group.take i ++ [Tree.leaf h])=_
  rw [zcG,hc]
  obtain ⟨-,-,k,hk⟩:=zab (p1:=(chkE (colQ env h) 0 0).1) (fun p k hk => zdD hk) (show chkE (colQ env h) 0 0=((chkE (colQ env h) 0 0).1,0) from Prod.ext rfl h0)
  show ((colQ env h).bind fun k => .ok (ks ++ [k]))=_
  rw [hk]
  show Chk.ok (ks ++ [k])=_
  unfold colK
  rw [hk]; rfl
theorem zgt {w:World} {vg:Value} {ks:List Nat} (h:w.ownsRow 0 3 1 vg ks.length (ks.map fun k:Nat => Value.int .i64 (k:Nat))) {L:List Nat} (hL:∀ g,vg.ownBlock=some g → g ∉ L):GroupAt w L vg ks:=by
 rcases h.2 with ⟨rfl,h0⟩ | ⟨g,cap,cur,rfl,hx⟩
 ·rw [List.length_eq_zero_iff.1 h0]
  exact ⟨none,0,rfl,fun h => absurd h (by simp)⟩
 ·refine ⟨_,_,rfl,fun _ => ⟨g,rfl,hL g rfl,fun i hi => ?_⟩⟩
  have:=(zS h).2.2 i (.int .i64 (ks[i]:Nat)) (by rw [List.getElem?_map,List.getElem?_eq_getElem hi]; rfl)
  exact this
theorem zdf {α:Type} {r:Chk α} {pos p e:Nat} (h:chkE r pos 0=(p,e)) (he:e ≠ 0):r = .bad p e:=by
 cases r with
 | ok a => rw [z9] at h; cases h; exact absurd rfl he
 | bad a b => cases h; rfl
end Go.Proofs.YtgdpaieechgahaaGreatDoor
