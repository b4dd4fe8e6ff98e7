/-
  check.whole, walked: of a query whose exprs are formed. No condition.
-/
import Derived.Test.YtebljciefhfgbaaGreatDoorQ33
import Derived.Test.YtebljciefhfgbaaGreatDoorQ32
import Derived.Deep.AppendLies
set_option linter.unusedVariables false
set_option maxRecDepth 100000
set_option maxHeartbeats 16000000
namespace Go.Proofs.YtebljciefhfgbaaGreatDoor
open Go.RowKit
theorem ybO {p:Prop} (h:p:=by
  go_wp2_with fail;(with_reducible refine hfo2.mono ?_);rintro e w5 ⟨rfl,hM5⟩;clear hfo2;go_wp2_with fail;go_ret;exact ⟨rfl,hMs.trans hM5⟩
 ):p:=h
theorem zf2 {w W:World} {v:Value} {o:Option Tree} (h:OptAt w [] v o) (hM:Mods [] w W) (hf:∀ t,o=some t → formedT t=true):∃ p,v = .pointer p ∧ (p=none ∨ Calls Tryz.prog 66 #[v] W fun e w' => e = .returned (.bool true) ∧ Mods [] W w'):=by
 cases o with
 | none => exact ⟨none,h,.inl rfl⟩
 | some t =>obtain ⟨b,rfl,hA⟩:=h;exact ⟨_,rfl,.inr (zd1 t (hf t rfl) W [] _ (hA.mods hM))⟩
theorem zlt (w:World) (qb:Nat) (q:zt) (hQ:QueryAt w [] qb q) (hF:FormQ q) (hi1:q.items.length ≤ 100000) (hg1:q.group.length ≤ 100000) :
  Calls Tryz.prog 28 #[zh qb] w fun e w' => e = .returned (.bool true) ∧ Mods [] w w':=by
 obtain ⟨vi,von,vwh,vg,vo,hq,hI,hOn,hWh,hG,hO⟩:=hQ;obtain ⟨ai,ci,rfl,hai⟩:=hI.read itemLen;obtain ⟨ag,cg,rfl,hag⟩:=hG.read treeLen;have q1:=za hq 1;have q6:=za hq 6;have q7:=za hq 7;have q8:=za hq 8;change w.cell? _=some (.slice ai q.items.length ci) at q1;change w.cell? _=some von at q6;change w.cell? _=some vwh at q7;change w.cell? _=some (.slice ag q.group.length cg) at q8;obtain ⟨n1,hn1⟩:=EX (q.items.length);obtain ⟨n2,hn2⟩:=EX (q.group.length);rw [hn1] at q1 hi1;rw [hn2] at q8 hg1;have HH:=QH (AI hai (AI hag (AI hn1 (AI hn2 (AI hF (AI hOn (AI hWh (AI q6 (AI q7 q8)))))))));clear hai hag hn1 hn2 hF hOn hWh hq hI hG hO q6 q7 q8;unfold zh;go_enter Tryz.func28, Tryz.ntmps28;go_wp2_with fail;go_loopg [12] n1 (fun gk t12 wr => ∃ i:Nat,i + gk=n1 ∧ t12 = .int .i64 i ∧ Mods [] w wr)
 case atStart => exact ⟨0,by omega,rfl,QM _ _⟩
 obtain ⟨i,hi,rfl,hMr⟩:=hrel;clear q1;by_cases hlt:i < n1
 ·have hil:i < q.items.length:=by rw [HH.out.2.2.1]; exact hlt
  obtain ⟨g,rfl,hcells⟩:=HH.out.1 AA;obtain ⟨c,⟨b,rfl,hA⟩,hc⟩:=hcells i hil;have k0:=hMr.cell (hc 0 _ rfl);have k1:=hMr.cell (hc 1 _ rfl);rw [Nat.add_zero] at k0;have hMz:=(hMr.alloc (.cells #[zh b,.string ⟨q.items[i].name.toArray⟩] 162));have hfc:=zd1 _ (HH.out.2.2.2.2.1.items _ (List.getElem_mem hil)) _ [] _ (hA.mods hMz);generalize (⟨q.items[i].name.toArray⟩ : ByteArray)=nm at *;unfold zh at *;clear hcells hc hA;go_wp2_with fail;(with_reducible refine hfc.mono ?_);rintro e w5 ⟨rfl,hM5⟩;clear hfc;go_wp2_with fail;go_roundg (n1 - (i + 1))
  case measure => omega
  case rel => exact ⟨i + 1,by omega,by go_num,hMz.trans hM5⟩
 ·obtain rfl:i=n1:=by omega
  have q8:=hMr.cell HH.out.2.2.2.2.2.2.2.2.2;go_wp2_with fail
  rename World => w1
  go_loopg [26] n2 (fun gk t26 wr => ∃ j:Nat,j + gk=n2 ∧ t26 = .int .i64 j ∧ Mods [] w wr)
  case atStart => exact ⟨0,by omega,rfl,hMr⟩
  obtain ⟨j,hj,rfl,hMs⟩:=hrel;clear q8;by_cases hlt2:j < n2
  ·have hil:j < q.group.length:=by rw [HH.out.2.2.2.1]; exact hlt2
   obtain ⟨g,rfl,hcells⟩:=HH.out.2.1 AA;obtain ⟨c,⟨b,rfl,hA⟩,hc⟩:=hcells j hil;have k0:=hMs.cell (hc 0 _ rfl);rw [Nat.mul_one,Nat.add_zero] at k0;obtain ⟨hf1,hd,hd1,hd2⟩:=HH.out.2.2.2.2.1.group _ (List.getElem_mem hil);have hA2:=hA.mods hMs;have hfc:=zd1 _ hf1 _ [] _ hA2;rw [hd1] at hA2;obtain ⟨b',hb',-,hx⟩:=hA2;cases hb';have x0:=za hx 0;change wr.cell? _=some (.string ⟨hd.op.toArray⟩) at x0;rw [hd2] at x0;change wr.cell? _=some (.string ⟨#[99,111,108,117,109,110]⟩) at x0;unfold zh at *;clear hcells hc hA hx hd1 hd2 hf1;go_wp2_with fail;(with_reducible refine hfc.mono ?_);rintro e w5 ⟨rfl,hM5⟩;have y0:=hM5.cell x0;clear hfc x0;go_wp2_with fail;go_roundg (n2 - (j + 1))
   case measure => omega
   case rel => exact ⟨j + 1,by omega,by go_num,hMs.trans hM5⟩
  ·obtain rfl:j=n2:=by omega
   have q6:=hMs.cell HH.out.2.2.2.2.2.2.2.1;have q7:=hMs.cell HH.out.2.2.2.2.2.2.2.2.1;obtain ⟨p,hp,hfo⟩:=zf2 HH.out.2.2.2.2.2.1 hMs HH.out.2.2.2.2.1.on;rw [hp] at q6 hfo;clear hp;have hwp:∀ W,Mods [] w W → ∃ p,vwh = .pointer p ∧ (p=none ∨ Calls Tryz.prog 66 #[vwh] W fun e w' => e = .returned (.bool true) ∧ Mods [] W w'):=fun W hM => zf2 HH.out.2.2.2.2.2.2.1 hM HH.out.2.2.2.2.1.whr;have HW:=QH hwp;clear hwp;rcases hfo with rfl | hfo
   ·obtain ⟨p2,hp2,hfo2⟩:=HW.out wr hMs;rw [hp2] at q7 hfo2;clear hp2;rcases hfo2 with rfl | hfo2
    ·go_wp2_with fail;go_ret;exact ⟨rfl,hMs⟩
    ·cases p2 with
     | none =>go_wp2_with fail;go_ret;exact ⟨rfl,hMs⟩
     | some ad =>exact ybO
   ·cases p with
    | none =>
     obtain ⟨p2,hp2,hfo2⟩:=HW.out wr hMs;rw [hp2] at q7 hfo2;clear hp2 hfo
     cases p2 with
     | none =>go_wp2_with fail;go_ret;exact ⟨rfl,hMs⟩
     | some ad =>
      rcases hfo2 with h | hfo2
      ·cases h
      ·exact ybO
    | some ad0 =>
     go_wp2_with fail;(with_reducible refine hfo.mono ?_);rintro e w5 ⟨rfl,hM5⟩;have y7:=hM5.cell q7;obtain ⟨p2,hp2,hfo2⟩:=HW.out w5 (hMs.trans hM5);rw [hp2] at y7 hfo2;clear hp2 hfo q7
     cases p2 with
     | none =>go_wp2_with fail;go_ret;exact ⟨rfl,hMs.trans hM5⟩
     | some ad =>
      rcases hfo2 with h | hfo2
      ·cases h
      ·go_wp2_with fail;(with_reducible refine hfo2.mono ?_);rintro e w6 ⟨rfl,hM6⟩;clear hfo2;go_wp2_with fail;go_ret;exact ⟨rfl,(hMs.trans hM5).trans hM6⟩
def ListIn {α:Type} (R:zel α) (w:World) (L:List Nat) (v:Value) (l:List α) (k:Nat):Prop:=
 ∃ ao cap,v = .slice ao l.length cap ∧ (0 < l.length → ∃ g,ao=some ⟨g,0,none⟩ ∧ g ∉ L ∧ l.length ≤ cap ∧ ∀ j (hj:j < l.length),∃ c,R w L c l[j] ∧ c.length=k ∧ ∀ i u,c[i]? = some u → w.cell? ⟨g,j * k + i,none⟩ = some u)
theorem ListAt.inL {α:Type} {R:zel α} {w:World} {L:List Nat} {k:Nat} {v:Value} {l:List α} (hk:∀ c x,R w L c x → c.length=k) (h:ListAt R w L v l):ListIn R w L v l k:=by
 obtain ⟨ao,cap,rfl,hr⟩:=h.readL hk
 exact ⟨ao,cap,rfl,fun h0 => by
  obtain ⟨g,h1,h2,h3,h4⟩:=hr h0
  exact ⟨g,h1,h2,h3,fun j hj => by
   obtain ⟨c,h5,h6⟩:=h4 j hj
   exact ⟨c,h5,hk _ _ h5,h6⟩⟩⟩
theorem ListIn.mods {α:Type} {R:zel α} (hR:Rep R) {w w':World} {L:List Nat} {v:Value} {l:List α} {k:Nat} (h:ListIn R w L v l k) (hM:Mods L w w'):ListIn R w' L v l k:=by
 obtain ⟨ao,cap,rfl,h⟩:=h
 exact ⟨ao,cap,rfl,fun h0 => by
  obtain ⟨g,h1,h2,h3,h4⟩:=h h0
  exact ⟨g,h1,h2,h3,fun j hj => by
   obtain ⟨c,h5,h6,h7⟩:=h4 j hj
   exact ⟨c,hR.mods h5 hM,h6,fun i u hi => hM.cell (h7 i u hi) h2⟩⟩⟩
theorem ListIn.weaken {α:Type} {R:zel α} (hR:Rep R) {w:World} {L L':List Nat} (hL:∀ x ∈ L',x ∈ L) {v:Value} {l:List α} {k:Nat} (h:ListIn R w L v l k):ListIn R w L' v l k:=by
 obtain ⟨ao,cap,rfl,h⟩:=h
 exact ⟨ao,cap,rfl,fun h0 => by
  obtain ⟨g,h1,h2,h3,h4⟩:=h h0
  exact ⟨g,h1,fun hm => h2 (hL _ hm),h3,fun j hj => by
   obtain ⟨c,h5,h6,h7⟩:=h4 j hj
   exact ⟨c,hR.weaken hL h5,h6,h7⟩⟩⟩
theorem zio {w:World} {b o:Nat} {u:Value} (h:w.cell? ⟨b,o,none⟩ = some u):b < w.heap.size:=by
 rcases Nat.lt_or_ge b w.heap.size with h1 | h1
 ·exact h1
 ·have:w.heap[b]? = none:=by rw [Array.getElem?_eq_none_iff]; exact h1
  simp [World.cell?,this] at h
theorem ListIn.fresh {α:Type} {R:zel α} (hR:Rep R) {w:World} {L:List Nat} {v:Value} {l:List α} {k g:Nat} (hk:0 < k) (h:ListIn R w L v l k) (hg:w.heap.size ≤ g):ListIn R w (g :: L) v l k:=by
 obtain ⟨ao,cap,rfl,h⟩:=h
 exact ⟨ao,cap,rfl,fun h0 => by
  obtain ⟨b,h1,h2,h3,h4⟩:=h h0;refine ⟨b,h1,fun hm => ?_,h3,fun j hj => ?_⟩
  ·rcases MC hm with rfl | hm
   ·obtain ⟨c,h5,h6,h7⟩:=h4 0 h0;have hc:0 < c.length:=by omega
    have:=zio (h7 0 c[0] (List.getElem?_eq_getElem hc));omega
   ·exact h2 hm
  ·obtain ⟨c,h5,h6,h7⟩:=h4 j hj
   exact ⟨c,hR.fresh hg h5,h6,h7⟩⟩
def QIn (w:World) (L:List Nat) (qb:Nat) (q:zt):Prop:=
 qb ∉ L ∧ ∃ vi von vwh vg vo,w.heap[qb]? = some (.cells (queryC q vi von vwh vg vo).toArray 111 (0,0)) ∧ ListIn ItemR w L vi q.items 2 ∧ OptAt w L von q.on ∧ OptAt w L vwh q.whr ∧ ListIn TreeR w L vg q.group 1 ∧ ListIn KeyR w L vo q.order 4
theorem QueryAt.qin {w:World} {qb:Nat} {q:zt} (h:QueryAt w [] qb q):QIn w [] qb q:=by obtain ⟨vi,von,vwh,vg,vo,h1,h2,h3,h4,h5,h6⟩:=h;exact ⟨by simp,vi,von,vwh,vg,vo,h1,h2.inL itemLen,h3,h4,h5.inL treeLen,h6.inL keyLen⟩
theorem OptAt.fresh {w:World} {L:List Nat} {v:Value} {o:Option Tree} {g:Nat} (h:OptAt w L v o) (hg:w.heap.size ≤ g):OptAt w (g :: L) v o:=by
 cases o with
 | none => exact h
 | some t => obtain ⟨b,rfl,hE⟩:=h; exact ⟨b,rfl,ExprAt.fresh hg hE⟩
theorem QIn.mods {w w':World} {L:List Nat} {qb:Nat} {q:zt} (h:QIn w L qb q) (hM:Mods L w w'):QIn w' L qb q:=by obtain ⟨h0,vi,von,vwh,vg,vo,h1,h2,h3,h4,h5,h6⟩:=h;exact ⟨h0,vi,von,vwh,vg,vo,hM.heap h1 h0,h2.mods itemRep hM,h3.mods hM,h4.mods hM,h5.mods treeRep hM,h6.mods keyRep hM⟩
theorem QIn.fresh {w:World} {L:List Nat} {qb:Nat} {q:zt} {g:Nat} (h:QIn w L qb q) (hg:w.heap.size ≤ g):QIn w (g :: L) qb q:=by
 obtain ⟨h0,vi,von,vwh,vg,vo,h1,h2,h3,h4,h5,h6⟩:=h;refine ⟨fun hm => ?_,vi,von,vwh,vg,vo,h1,h2.fresh itemRep AD hg,h3.fresh hg,h4.fresh hg,h5.fresh treeRep AD hg,h6.fresh keyRep AD hg⟩;rcases MC hm with rfl | hm
 ·have:=zj h1; omega
 ·exact h0 hm
theorem QIn.weaken {w:World} {L L':List Nat} {qb:Nat} {q:zt} (h:QIn w L qb q) (hL:∀ x ∈ L',x ∈ L):QIn w L' qb q:=by obtain ⟨h0,vi,von,vwh,vg,vo,h1,h2,h3,h4,h5,h6⟩:=h;exact ⟨fun hm => h0 (hL _ hm),vi,von,vwh,vg,vo,h1,h2.weaken itemRep hL,h3.weaken hL,h4.weaken hL,h5.weaken treeRep hL,h6.weaken keyRep hL⟩
structure ChkA (wB w:World) (sb rb:Nat) (cv:Value) (mb pos e:Nat) (env:List EC):Prop where
 st:zaX w sb cv mb 0 pos e
 map:EnvMap w (sb :: (cv.ownBlock.toList ++ [rb])) mb env
 row:EnvOwn w cv env
 mods:Mods [sb,mb,rb] wB w
 own:∀ g,cv.ownBlock=some g → wB.heap.size ≤ g
 sbl:sb < wB.heap.size
 mbl:mb < wB.heap.size
 rbl:rb < wB.heap.size
 sne:sb ≠ rb
theorem EnvMap.ne {w:World} {L:List Nat} {mb:Nat} {env:List EC} (h:EnvMap w L mb env):mb ∉ L:=by obtain ⟨es,c,h1,h2,h3⟩:=h; exact h2
section
variable {wB w:World} {sb rb:Nat} {cv:Value} {mb pos e:Nat} {env:List EC}
theorem ChkA.adding (h:ChkA wB w sb rb cv mb pos e env):Adding [rb] (sb :: mb :: cv.ownBlock.toList) w w sb cv mb 0 pos e env:=
 ⟨h.st,h.map,h.row,QM _ _,⟨by simp,by simp,fun g hg => ⟨.inl (by simp [hg]),by have h1:=h.own g hg; have h2:=h.sbl; omega⟩⟩,fun x hx => by
  simp at hx; rw [hx]; exact LL h.rbl h.mods.size⟩
theorem ChkA.rne (h:ChkA wB w sb rb cv mb pos e env):rb ∉ sb :: mb :: cv.ownBlock.toList:=fun hm => by
 have h1:=h.map.ne;rcases MC hm with h2 | hm
 ·exact h.sne h2.symm
 ·rcases MC hm with h2 | hm
  ·exact h1 (by simp [← h2])
  ·have h3:=h.own rb AG; have h4:=h.rbl; omega
theorem ChkA.add (h:ChkA wB w sb rb cv mb pos e env) {w':World} {cv':Value} {pos' e':Nat} {env':List EC} (hA:Adding [rb] (sb :: mb :: cv.ownBlock.toList) w w' sb cv' mb 0 pos' e' env'):ChkA wB w' sb rb cv' mb pos' e' env':=
 ⟨hA.st,hA.map,hA.row,h.mods.trans hA.mods (fun x hx => by
  rcases MC hx with rfl | hx
  ·exact .inl AB
  ·rcases MC hx with rfl | hx
   ·exact .inl AB
   ·exact .inr (h.own x AJ)),fun g hg => by
  obtain ⟨h1,h2⟩:=hA.old.2.2 g hg;rcases h1 with h1 | h1
  ·rcases MC h1 with h3 | h1
   ·exact absurd h3 h2
   ·rcases MC h1 with h3 | h1
    ·exact absurd (show mb ∈ sb :: (cv'.ownBlock.toList ++ [rb]) by simp [hg,h3]) hA.map.ne
    ·exact h.own g (by simpa using h1)
  ·exact Nat.le_trans h.mods.size h1,h.sbl,h.mbl,h.rbl,h.sne⟩
theorem ChkA.put (h:ChkA wB w sb rb cv mb pos e env) {w':World} (hM:Mods [rb] w w'):ChkA wB w' sb rb cv mb pos e env:=
 ⟨hM.heap h.st (by simpa using h.sne),h.map.mods (hM.mono),h.row.mods hM (fun g hg => by have h1:=h.own g hg; have h2:=h.rbl; simp; omega),h.mods.trans hM,h.own,h.sbl,h.mbl,h.rbl,h.sne⟩
theorem ChkA.go (h:ChkA wB w sb rb cv mb pos e env) {w':World} {pos' e':Nat} (hM:Mods [sb] w w') (hS:zaX w' sb cv mb 0 pos' e'):ChkA wB w' sb rb cv mb pos' e' env:=
 ⟨hS,h.map.mods (hM.mono),h.row.mods hM (fun g hg => by have h1:=h.own g hg; have h2:=h.sbl; simp; omega),h.mods.trans hM,h.own,h.sbl,h.mbl,h.rbl,h.sne⟩
theorem ChkA.later (h:ChkA wB w sb rb cv mb pos e env) {w':World} (hM:Mods [] w w'):ChkA wB w' sb rb cv mb pos e env:=h.go (hM.mono) (hM.heap h.st)
theorem ChkA.scope (h:ChkA wB w sb rb cv mb pos e env):Scope w sb cv mb 0 pos e env:=
 ⟨h.st,h.map.weaken AB,h.row.cols fun g hg => by have h1:=h.own g hg; have h2:=h.sbl; simp; omega⟩
theorem ChkA.cols (h:ChkA wB w sb rb cv mb pos e env):EnvCols w [sb,rb] cv env:=h.row.cols fun g hg => by have h1:=h.own g hg; have h2:=h.sbl; have h3:=h.rbl; simp; omega
theorem ChkA.map2 (h:ChkA wB w sb rb cv mb pos e env):EnvMap w [sb,rb] mb env:=h.map.weaken AB
theorem ChkA.two (h:ChkA wB w sb rb cv mb pos e env) {w':World} {pos' e':Nat} (hM:Mods [sb,rb] w w') (hS:zaX w' sb cv mb 0 pos' e'):ChkA wB w' sb rb cv mb pos' e' env:=
 ⟨hS,h.map.mods (hM.mono),h.row.mods hM (fun g hg => by have h1:=h.own g hg; have h2:=h.sbl; have h3:=h.rbl; simp; omega),h.mods.trans hM,h.own,h.sbl,h.mbl,h.rbl,h.sne⟩
end
def itemS (i:za2):Bs:=showT i.e ++ (if i.name=[] then [] else [32,97,115,32] ++ i.name)
def showO:Option Tree → Bs
 | none => [45]
 | some t => showT t
def keyS (k:zfI):Bs:=(if k.name=[] then Lib.itoa k.item else k.name) ++ (if k.desc=true then [45] else [])
def starL (q:zt):List Bs:=if q.star=true then [[42]] else []
def itemsL (q:zt):List Bs:=starL q ++ q.items.map itemS
def t1 (q:zt):List Bs:=[Lib.join (itemsL q) [44,32],[102,114,111,109],q.src]
def t2 (q:zt):List Bs:=t1 q ++ (if q.join=[] then [] else [[106,111,105,110],q.join,[111,110],showO q.on])
def t3 (q:zt):List Bs:=t2 q ++ (match q.whr with | none => [] | some t => [[119,104,101,114,101],showT t])
def headL (w:Bs) (l:List Bs):List Bs:=if l=[] then [] else w :: l
def t4 (q:zt):List Bs:=t3 q ++ headL [103,114,111,117,112] (q.group.map showT)
def t5 (q:zt):List Bs:=t4 q ++ headL [111,114,100,101,114] (q.order.map keyS)
def t6 (q:zt):List Bs:=t5 q ++ (if 0 ≤ q.limit then [[108,105,109,105,116],Lib.itoa q.limit] else [])
def t7 (q:zt):List Bs:=t6 q ++ (if 0 ≤ q.offset then [[111,102,102,115,101,116],Lib.itoa q.offset] else [])
def StrsOwn (w wr:World) (t:Value) (l:List Bs):Prop:=
 Mods [] w wr ∧ wr.ownsRow 0 9 1 t l.length (zcw l) ∧ ∀ g,t.ownBlock=some g → w.heap.size ≤ g
theorem StrsOwn.start (w:World):StrsOwn w w (.slice none 0 0) []:=⟨QM _ _,World.ownsRow_nil _ _ _ _,fun g hg => by cases hg⟩
theorem StrsOwn.quiet {w wr w':World} {t:Value} {l:List Bs} (h:StrsOwn w wr t l) (hM:Mods [] wr w'):StrsOwn w w' t l:=⟨h.1.trans hM,zm h.2.1 hM AB,h.2.2⟩
theorem StrsOwn.push {w wr w':World} {t:Value} {l:List Bs} (h:StrsOwn w wr t l) {l2:List Bs} {g cap m:Nat} (hm:l2.length=m) (hown:w'.ownsRow 0 9 1 (.slice (some ⟨g,0,none⟩) (l.length + m) cap) (l.length + m) (zcw l ++ zcw l2))
  (hM:Mods t.ownBlock.toList wr w') (hg:t.ownBlock=some g ∨ wr.heap.size ≤ g):StrsOwn w w' (.slice (some ⟨g,0,none⟩) (l.length + m) cap) (l ++ l2):=by
 refine ⟨h.1.trans hM (fun x hx => .inr (h.2.2 x AJ)),?_,fun g' hg' => ?_⟩
 ·have e:zcw (l ++ l2)=zcw l ++ zcw l2:=by simp [zcw]
  rw [e,List.length_append,hm]; exact hown
 ·obtain rfl:g=g':=by simpa [Value.ownBlock] using hg'
  rcases hg with h2 | h2
  ·exact h.2.2 g h2
  ·have:=h.1.size; omega
theorem StrsOwn.base {w w1 wr:World} {t:Value} {l:List Bs} (h:StrsOwn w1 wr t l) (hM:Mods [] w w1):StrsOwn w wr t l:=⟨hM.trans h.1,h.2.1,fun g hg => Nat.le_trans hM.size (h.2.2 g hg)⟩
theorem StrsOwn.made (w:World) (l:List Bs) (hl:l.length ≤ 100) (n:Nat) (hn:l.length=n):StrsOwn w (w.alloc (.cells (zcw l).toArray 9)) (.slice (some ⟨w.heap.size,0,none⟩) n n) l:=by
 subst hn
 exact ⟨(QM _ _).alloc _,⟨by rw [ze1]; omega,.inr ⟨_,_,_,rfl,Nat.zero_le _,QN w _,LR _,by unfold maxLen; omega,by simp [ze1],by
  rw [Nat.mul_one,← ze1 l]
  simp⟩⟩,fun g hg => by
  obtain rfl:w.heap.size=g:=by simpa [Value.ownBlock] using hg
  exact LR _⟩
theorem cat2 (a b:Bs):(⟨a.toArray⟩ : ByteArray) ++ ⟨b.toArray⟩ = ⟨(a ++ b).toArray⟩:=by apply ByteArray.ext; apply Array.toList_inj.1; simp [ByteArray.data_append]
theorem zi5 (n:Int) (h0 : -9223372036854775808 ≤ n) (h1:n ≤ 9223372036854775807) (w:World) (hT:Pow w):Calls Tryz.prog 71 #[.int .i64 n] w fun e w' => e = .returned (.string ⟨(Lib.itoa n).toArray⟩) ∧ Mods [] w w':=
 (Tryz.strconv_Itoa n h0 h1 w hT).mono fun e w' he => by obtain ⟨rfl,k,os,rfl⟩:=he;exact ⟨rfl,Mods.of_below (Lib.below_grow w.heap.size w (LR _) k os) (LR _) []⟩
def joinQ (tb:List TblT) (q:zt) (left:Nat):Chk (Option Nat):=if q.join=[] then .ok none else (zbd tb q.join q.joinAt (some left)).bind fun k => .ok (some k)
def zbS (tb:List TblT) (left:Nat) (right:Option Nat):List EC:=zcC tb left ++ (match right with | none => [] | some k => zcC tb k)
section
variable (tb:List TblT) (q:zt)
def ck6 (left:Nat) (right:Option Nat) (on whr:Option NT) (group:List Nat) (x:List (NT × Bs) × Bool):Chk CQ:=
 (za6 (x.1.map (·.1)) (x.1.map (·.2)) q.order).bind fun order => .ok ⟨left,right,on,whr,x.2,group,x.1.map (·.1),x.1.map (·.2),order,q.limit,q.offset⟩
def ck5 (left:Nat) (right:Option Nat) (on whr:Option NT) (group:List Nat):Chk CQ:=(zem q (zbS tb left right) group).bind fun x => ck6 q left right on whr group x
def ck4 (left:Nat) (right:Option Nat) (on whr:Option NT):Chk CQ:=(zbe (zbS tb left right) q.group).bind fun group => ck5 tb q left right on whr group
def ck3 (left:Nat) (right:Option Nat) (on:Option NT):Chk CQ:=(zbB (zbS tb left right) q.whr).bind fun whr => ck4 tb q left right on whr
def ck2 (left:Nat) (right:Option Nat):Chk CQ:=(zbB (zbS tb left right) q.on).bind fun on => ck3 tb q left right on
def ck1 (left:Nat):Chk CQ:=(joinQ tb q left).bind fun right => ck2 tb q left right
theorem ck0:zao tb q=(zbd tb q.src q.srcAt none).bind fun left => ck1 tb q left:=rfl
end
theorem Chk.bad_of {α β:Type} {x:Chk α} {f:α → Chk β} {y:Chk β} {p k:Nat} (hy:y=x.bind f) (h:x = .bad p k):y = .bad p k:=by rw [hy,h]; rfl
theorem Chk.ok_of {α β:Type} {x:Chk α} {f:α → Chk β} {y:Chk β} {a:α} (hy:y=x.bind f) (h:x = .ok a):y=f a:=by rw [hy,h]; rfl
theorem zeA {tb:List TblT} {name:Bs} {pos:Nat} {but:Option Nat} {p e:Nat} (h:zbd tb name pos but = .bad p e):e ≠ 0:=by
 unfold zbd at h;split at h
 ·cases h; decide
 ·split at h
  ·cases h; decide
  ·cases h
def rightV:Option Nat → Int
 | none => -1
 | some k => (k:Nat)
def NameR:zel Bs:=fun w L cs s => cs=[.string ⟨s.toArray⟩]
def KeyCR:zel KeyC:=fun w L cs k => cs=[.int .i64 (k.item:Nat),.bool k.desc]
theorem nameRep:Rep NameR:=⟨fun h _ => h,fun _ h => h,fun _ h => h⟩
theorem keyCRep:Rep KeyCR:=⟨fun h _ => h,fun _ h => h,fun _ h => h⟩
def CheckedAt (w:World) (L:List Nat) (cb:Nat) (c:CQ):Prop:=
 cb ∉ L ∧ ∃ von vwh vg its nms vo,CSt w cb c.left (rightV c.right) von vwh c.grouped vg its nms vo c.limit c.offset ∧ OptN w L von c.on ∧ OptN w L vwh c.whr ∧ GroupAt w L vg c.group ∧ ListIn NodR w L its c.items 1 ∧ ListIn NameR w L nms c.names 1 ∧ ListIn KeyCR w L vo c.order 2
def zeo (w:World) (tb:List TblT) (q:zt) (r:Ending) (w':World):Prop:=
 Mods [] w w' ∧ match zao tb q with
  | .bad p k => r = .returned (.tuple #[.pointer none,.int .i64 (p:Nat),.int .i64 (k:Nat)])
  | .ok c => ∃ cb,r = .returned (.tuple #[zh cb,.int .i64 0,.int .i64 0]) ∧ w.heap.size ≤ cb ∧ c.items.length=c.names.length ∧ ∀ L:List Nat,(∀ x ∈ L,x < w.heap.size) → CheckedAt w' L cb c
def QBlk (wB w:World) (rb:Nat) (q:zt):Prop:=
 ∃ lf rt von vwh gr vg its nms ns ss,CSt w rb lf rt von vwh gr vg its nms (.slice none 0 0) q.limit q.offset ∧ Coll wB w its nms ns ss ∧ ns.length=ss.length
def zc0 (wB:World) (sb rb:Nat) (mb:Nat) (tb:List TblT) (q:zt) (w:World):Prop:=
 ∃ cv env p e,e ≠ 0 ∧ ChkA wB w sb rb cv mb p e env ∧ zao tb q = .bad p e ∧ QBlk wB w rb q
structure Good1 (wB w:World) (sb rb mb:Nat) (tb:List TblT) (q:zt) (gr:Bool) (cv:Value) (left:Nat):Prop where
 eq:zao tb q=ck1 tb q left
 tbl:zbd tb q.src q.srcAt none = .ok left
 ch:ChkA wB w sb rb cv mb 0 0 (zcC tb left)
 st:CSt w rb left (-1) (.pointer none) (.pointer none) gr (.slice none 0 0) (.slice none 0 0) (.slice none 0 0) (.slice none 0 0) q.limit q.offset
structure Good2 (wB w:World) (sb rb mb:Nat) (tb:List TblT) (q:zt) (gr:Bool) (cv:Value) (left:Nat) (right:Option Nat):Prop where
 eq:zao tb q=ck2 tb q left right
 env:zbT (zbS tb left right) ∧ (zbS tb left right).length ≤ 1000
 ch:ChkA wB w sb rb cv mb 0 0 (zbS tb left right)
 st:CSt w rb left (rightV right) (.pointer none) (.pointer none) gr (.slice none 0 0) (.slice none 0 0) (.slice none 0 0) (.slice none 0 0) q.limit q.offset
structure Good3 (wB w:World) (sb rb mb:Nat) (tb:List TblT) (q:zt) (gr:Bool) (cv:Value) (left:Nat) (right:Option Nat) (on:Option NT) (von:Value):Prop where
 eq:zao tb q=ck3 tb q left right on
 env:zbT (zbS tb left right) ∧ (zbS tb left right).length ≤ 1000
 ch:ChkA wB w sb rb cv mb 0 0 (zbS tb left right)
 st:CSt w rb left (rightV right) von (.pointer none) gr (.slice none 0 0) (.slice none 0 0) (.slice none 0 0) (.slice none 0 0) q.limit q.offset
 on:∀ L:List Nat,(∀ x ∈ L,x < wB.heap.size) → OptN w L von on
structure Good4 (wB w:World) (sb rb mb:Nat) (tb:List TblT) (q:zt) (gr:Bool) (cv:Value) (left:Nat) (right:Option Nat) (on whr:Option NT) (von vwh:Value):Prop where
 eq:zao tb q=ck4 tb q left right on whr
 env:zbT (zbS tb left right) ∧ (zbS tb left right).length ≤ 1000
 ch:ChkA wB w sb rb cv mb 0 0 (zbS tb left right)
 st:CSt w rb left (rightV right) von vwh gr (.slice none 0 0) (.slice none 0 0) (.slice none 0 0) (.slice none 0 0) q.limit q.offset
 on:∀ L:List Nat,(∀ x ∈ L,x < wB.heap.size) → OptN w L von on
 whr:∀ L:List Nat,(∀ x ∈ L,x < wB.heap.size) → OptN w L vwh whr
theorem OptN.mods {w w':World} {L:List Nat} {v:Value} {o:Option NT} (h:OptN w L v o) (hM:Mods L w w'):OptN w' L v o:=by
 cases o with
 | none => exact h
 | some n => exact NAt.mods hM h
theorem OptN.weaken {w:World} {L L':List Nat} {v:Value} {o:Option NT} (h:OptN w L v o) (hL:∀ x ∈ L',x ∈ L):OptN w L' v o:=by
 cases o with
 | none => exact h
 | some n => exact NAt.weaken hL h
structure Good5 (wB w:World) (sb rb mb:Nat) (tb:List TblT) (q:zt) (gr:Bool) (cv:Value) (left:Nat) (right:Option Nat) (on whr:Option NT) (von vwh:Value) (group:List Nat) (vg:Value):Prop where
 eq:zao tb q=ck5 tb q left right on whr group
 env:zbT (zbS tb left right) ∧ (zbS tb left right).length ≤ 1000
 ch:ChkA wB w sb rb cv mb 0 0 (zbS tb left right)
 st:CSt w rb left (rightV right) von vwh gr vg (.slice none 0 0) (.slice none 0 0) (.slice none 0 0) q.limit q.offset
 on:∀ L:List Nat,(∀ x ∈ L,x < wB.heap.size) → OptN w L von on
 whr:∀ L:List Nat,(∀ x ∈ L,x < wB.heap.size) → OptN w L vwh whr
 grp:∀ L:List Nat,(∀ x ∈ L,x < wB.heap.size) → GroupAt w L vg group
 len:group.length ≤ 20000
theorem OptN.past {wB w w':World} {sb rb:Nat} {v:Value} {o:Option NT} (h:∀ L:List Nat,(∀ x ∈ L,x < wB.heap.size) → OptN w L v o) (hM:Mods [sb,rb] w w') (hs:sb < wB.heap.size) (hr:rb < wB.heap.size):∀ L:List Nat,(∀ x ∈ L,x < wB.heap.size) → OptN w' L v o:=fun L hL =>
 ((
  h (sb :: rb :: L) (fun x hx => by
  rcases MC hx with rfl | hx
  ·exact hs
  ·rcases MC hx with rfl | hx
   ·exact hr
   ·exact hL x hx)).mods (hM.mono)).weaken (fun x hx => by simp [hx])
structure TbsOk (l:List Tbl):Prop where
 ok:zd4 l=true
 each:∀ t ∈ l,t.ok ∧ ∀ c ∈ t.cols,c.nm.length ≤ 5000 ∧ 0 ≤ c.k ∧ 0 ≤ c.s
 apart:∀ (i j:Nat) (hi:i < l.length) (hj:j < l.length),i ≠ j → ∀ c ∈ l[i].cols,∀ d ∈ l[j].cols,c.nm ≠ d.nm
def tblsL:List TblT:=[⟨[116],[([97],tyInt),([98],⟨2,2⟩),([99],tyBytes),([100],tyBool)]⟩,⟨[117],[([120],tyInt),([121],⟨2,1⟩),([122],tyBytes)]⟩]
def zaI (s:Bs):Option (Chk CQ):=match zaj s with
 | .bad _ _ => none
 | .good q => some (zao tblsL q)
open Go.Maps
theorem zm4 {α:Type} (f:α → List Value) (m:Nat) (hf:∀ x,(f x).length=m) (l:List α) (i:Nat) (h:i < l.length) (j:Nat) (hj:j < m):(l.flatMap f)[i * m + j]? = (f l[i])[j]?:=by
 induction l generalizing i with
 | nil => simp at h
 | cons x xs ih =>
  rw [List.flatMap_cons]
  cases i with
  | zero =>rw [Nat.zero_mul,Nat.zero_add,List.getElem?_append_left (by rw [hf]; exact hj)]; rfl
  | succ i =>rw [List.getElem?_append_right (by rw [hf,Nat.succ_mul]; omega),hf,show (i + 1) * m + j - m=i * m + j by rw [Nat.succ_mul]; omega];exact ih i AX
theorem zi6 {w:World} {b:Nat} {arr:Array Value} {T:TypeId} {fr:Nat × Nat} {cs:List Col} (h:w.heap[b]? = some (.cells arr T fr)) (ha:arr.toList=cs.flatMap colC):ColsIn w (some ⟨b,0,none⟩) cs []:=by intro _;refine ⟨b,0,rfl,by simp,fun i hi => ?_⟩;have g:=fun j (hj:j < 4) => zm4 colC 4 (fun _ => rfl) cs i hi j hj;rw [za h,za h,za h,za h,Nat.zero_add,← Array.getElem?_toList,← Array.getElem?_toList,← Array.getElem?_toList,← Array.getElem?_toList,ha];exact ⟨g 0 AA,g 1 AA,g 2 AA,g 3 AA⟩
theorem zm5 {w:World} {b:Nat} {co du:Option Addr} {n c m d:Nat} {T:TypeId} {fr:Nat × Nat} {t u:Tbl} (h:w.heap[b]? = some (.cells #[.string t.name,.slice co n c,.string u.name,.slice du m d] T fr)) (hn:t.cols.length=n) (hv:ColsIn w co t.cols []) (hm:u.cols.length=m) (hu:ColsIn w du u.cols []):TblsIn w (some ⟨b,0,none⟩) [t,u] []:=by
 intro _;refine ⟨b,0,rfl,by simp,fun i hi => ?_⟩;by_cases h0:i=0
 ·subst h0;refine ⟨by rw [za h]; rfl,co,c,?_,hv⟩;rw [za h];simp [hn]
 ·obtain rfl:i=1:=by simp at hi; omega
  refine ⟨by rw [za h]; rfl,du,d,?_,hu⟩;rw [za h];simp [hm]
def tabT:Tbl:=⟨⟨#[116]⟩,[⟨⟨#[97]⟩,1,0,false⟩,⟨⟨#[98]⟩,2,2,true⟩,⟨⟨#[99]⟩,3,0,true⟩,⟨⟨#[100]⟩,4,0,true⟩]⟩
def tabU:Tbl:=⟨⟨#[117]⟩,[⟨⟨#[120]⟩,1,0,true⟩,⟨⟨#[121]⟩,2,1,false⟩,⟨⟨#[122]⟩,3,0,false⟩]⟩
def tabsV:List Tbl:=[tabT,tabU]
theorem zjY:tabsV.map zax=tblsL:=by rfl
theorem tabs_right:TbsOk tabsV where
 ok:=by decide +kernel
 each:=by
  intro t ht;simp only [tabsV,List.mem_cons,List.not_mem_nil,or_false] at ht;rcases ht with rfl | rfl
  ·refine ⟨⟨by decide,by decide,fun c hc => ?_⟩,fun c hc => ?_⟩ <;> (simp only [tabT,List.mem_cons,List.not_mem_nil,or_false] at hc; rcases hc with rfl | rfl | rfl | rfl);all_goals first | exact ⟨⟨⟨by decide,by decide⟩,by decide,by decide⟩,by decide⟩ | exact ⟨by decide,by decide,by decide⟩
  ·refine ⟨⟨by decide,by decide,fun c hc => ?_⟩,fun c hc => ?_⟩ <;> (simp only [tabU,List.mem_cons,List.not_mem_nil,or_false] at hc; rcases hc with rfl | rfl | rfl);all_goals first | exact ⟨⟨⟨by decide,by decide⟩,by decide,by decide⟩,by decide⟩ | exact ⟨by decide,by decide,by decide⟩
 apart:=by
  intro i j hi hj hij c hc d hd;have h2:tabsV.length=2:=rfl;have hi2:i=0 ∨ i=1:=by omega
  have hj2:j=0 ∨ j=1:=by omega
  rcases hi2 with rfl | rfl <;> rcases hj2 with rfl | rfl
  ·exact absurd rfl hij
  ·have hc:c ∈ tabT.cols:=hc;have hd:d ∈ tabU.cols:=hd;simp only [tabT,tabU,List.mem_cons,List.not_mem_nil,or_false] at hc hd;rcases hc with rfl | rfl | rfl | rfl <;> rcases hd with rfl | rfl | rfl <;> decide
  ·have hc:c ∈ tabU.cols:=hc;have hd:d ∈ tabT.cols:=hd;simp only [tabT,tabU,List.mem_cons,List.not_mem_nil,or_false] at hc hd;rcases hc with rfl | rfl | rfl <;> rcases hd with rfl | rfl | rfl | rfl <;> decide
  ·exact absurd rfl hij
theorem tables15 (w:World):Calls Tryz.prog 7 #[] w fun e w' => ∃ b,e = .returned (.slice (some ⟨b,0,none⟩) 2 2) ∧ Mods [] w w' ∧ TblsIn w' (some ⟨b,0,none⟩) tabsV [] ∧ ∃ g d,w'.heap[b]? = some (.cells #[.string ⟨#[116]⟩,.slice (some ⟨g,0,none⟩) 4 4,.string ⟨#[117]⟩,d] 28 (0,0)) ∧ w'.heap[g]? = some (.cells #[.string ⟨#[97]⟩,.int .i64 1,.int .i64 0,.bool false,.string ⟨#[98]⟩,.int .i64 2,.int .i64 2,.bool true,.string ⟨#[99]⟩,.int .i64 3,.int .i64 0,.bool true,.string ⟨#[100]⟩,.int .i64 4,.int .i64 0,.bool true] 64 (0,0)):=by go_enter Tryz.func7, Tryz.ntmps7;go_wp2_with fail;go_ret;have hz:(w.alloc (.cells #[.int .i64 1,.int .i64 0] 62)).heap.size=w.heap.size + 1:=zl _ _;generalize hw1:w.alloc (.cells #[.int .i64 1,.int .i64 0] 62)=w1 at *;have hM1:Mods [] w w1:=hw1 ▸ (QM [] w).alloc _;rw [← hz];have hz2:(w1.alloc (.cells #[.string ⟨#[97]⟩,.int .i64 1,.int .i64 0,.bool false,.string ⟨#[98]⟩,.int .i64 2,.int .i64 2,.bool true,.string ⟨#[99]⟩,.int .i64 3,.int .i64 0,.bool true,.string ⟨#[100]⟩,.int .i64 4,.int .i64 0,.bool true] 64)).heap.size=w1.heap.size + 1:=zl _ _;have hB:=QN w1 (.cells #[.string ⟨#[97]⟩,.int .i64 1,.int .i64 0,.bool false,.string ⟨#[98]⟩,.int .i64 2,.int .i64 2,.bool true,.string ⟨#[99]⟩,.int .i64 3,.int .i64 0,.bool true,.string ⟨#[100]⟩,.int .i64 4,.int .i64 0,.bool true] 64);have hM2:=(QM [] w1).alloc (.cells #[.string ⟨#[97]⟩,.int .i64 1,.int .i64 0,.bool false,.string ⟨#[98]⟩,.int .i64 2,.int .i64 2,.bool true,.string ⟨#[99]⟩,.int .i64 3,.int .i64 0,.bool true,.string ⟨#[100]⟩,.int .i64 4,.int .i64 0,.bool true] 64);generalize w1.alloc (.cells #[.string ⟨#[97]⟩,.int .i64 1,.int .i64 0,.bool false,.string ⟨#[98]⟩,.int .i64 2,.int .i64 2,.bool true,.string ⟨#[99]⟩,.int .i64 3,.int .i64 0,.bool true,.string ⟨#[100]⟩,.int .i64 4,.int .i64 0,.bool true] 64)=w2 at *;rw [← hz2];have hz3:(w2.alloc (.cells #[.string ⟨#[120]⟩,.int .i64 1,.int .i64 0,.bool true,.string ⟨#[121]⟩,.int .i64 2,.int .i64 1,.bool false,.string ⟨#[122]⟩,.int .i64 3,.int .i64 0,.bool false] 64)).heap.size=w2.heap.size + 1:=zl _ _;have hC:=QN w2 (.cells #[.string ⟨#[120]⟩,.int .i64 1,.int .i64 0,.bool true,.string ⟨#[121]⟩,.int .i64 2,.int .i64 1,.bool false,.string ⟨#[122]⟩,.int .i64 3,.int .i64 0,.bool false] 64);have hM3:=(QM [] w2).alloc (.cells #[.string ⟨#[120]⟩,.int .i64 1,.int .i64 0,.bool true,.string ⟨#[121]⟩,.int .i64 2,.int .i64 1,.bool false,.string ⟨#[122]⟩,.int .i64 3,.int .i64 0,.bool false] 64);generalize w2.alloc (.cells #[.string ⟨#[120]⟩,.int .i64 1,.int .i64 0,.bool true,.string ⟨#[121]⟩,.int .i64 2,.int .i64 1,.bool false,.string ⟨#[122]⟩,.int .i64 3,.int .i64 0,.bool false] 64)=w3 at *;rw [← hz3];have hM4:=(QM [] w3).alloc (.cells #[.string ⟨#[116]⟩,.slice (some ⟨w1.heap.size,0,none⟩) 4 4,.string ⟨#[117]⟩,.slice (some ⟨w2.heap.size,0,none⟩) 3 3] 28);refine ⟨_,rfl,((hM1.trans hM2).trans hM3).trans hM4,zm5 (t:=tabT) (u:=tabU) (QN w3 _) rfl (zi6 (hM4.heap (hM3.heap hB AB)) rfl) rfl (zi6 (hM4.heap hC) rfl),w1.heap.size,_,QN w3 _,hM4.heap (hM3.heap hB AB)⟩
def splitN:NT → List NT
 | .bin h a b => if h.op=oAnd then splitN a ++ splitN b else [.bin h a b]
 | .un h a => [.un h a]
 | .leaf h => [.leaf h]
def splitO:Option NT → List NT
 | none => []
 | some n => splitN n
def colU (sp:Nat) (h:NHd):Bool × Bool:=if h.op=oColumn then (decide (h.col < sp),decide (sp ≤ h.col)) else (false,false)
def usesN (sp:Nat):NT → Bool × Bool
 | .leaf h => colU sp h
 | .un h a => ((colU sp h).1 || (usesN sp a).1,(colU sp h).2 || (usesN sp a).2)
 | .bin h a b => (((colU sp h).1 || (usesN sp a).1) || (usesN sp b).1,((colU sp h).2 || (usesN sp a).2) || (usesN sp b).2)
def turnN (sp:Nat) (a b:NT):NT × NT:=if usesN sp a=(false,true) then (b,a) else (a,b)
def zpO (sp:Nat) (p:NT × NT):Bool:=decide (usesN sp p.1=(true,false)) && decide (usesN sp p.2=(false,true))
def zps (sp:Nat):NT → Option (NT × NT)
 | .bin h a b => if h.op=[61] ∧ a.hd.t=b.hd.t ∧ zpO sp (turnN sp a b)=true then some (turnN sp a b) else none
 | _ => none
structure PlT where
 left:List NT:=[]
 right:List NT:=[]
 rest:List NT:=[]
 keys:List (NT × NT):=[]
def zpm (sp:Nat) (one:Bool) (p:PlT) (n:NT):PlT:=
 if one=true ∨ (usesN sp n).2=false then { p with left:=p.left ++ [n] }
 else if (usesN sp n).1=false then { p with right:=p.right ++ [n] }
 else match zps sp n with
  | some k => { p with keys:=p.keys ++ [k] }
  | none => { p with rest:=p.rest ++ [n] }
def makeP (sp:Nat) (one:Bool) (l:List NT):PlT:=l.foldl (zpm sp one) {}
def exP:Bs:=[83,69,76,69,67,84,32,97,32,70,82,79,77,32,116,32,74,79,73,78,32,117,32,79,78,32,116,46,97,32,61,32,117,46,120,32,65,78,68,32,100,32,87,72,69,82,69,32,121,32,62,32,49,32,65,78,68,32,97,32,60,32,121]
def exPB (r:Option (Chk CQ)):Bool:=match r with
 | some (.ok c) => decide (c.left=0 ∧ c.right=some 1 ∧ (splitO c.on ++ splitO c.whr).length=4) && (decide ((splitO c.whr).length=2) &&
   (let p:=makeP 4 false (splitO c.on ++ splitO c.whr); decide (p.left.length=1 ∧ p.right.length=1 ∧ p.keys.length=1 ∧ p.rest.length=1)))
 | _ => false
theorem ex_p:exPB (zaI exP)=true:=by decide +kernel
def askOk (gr:Bool) (group:List Nat) (items:List NT) (order:List KeyC) (lim off:Int) (r:Option (Chk CQ)):Bool:=match r with
 | some (.ok c) => decide (c.left=0 ∧ c.right=none ∧ c.on=none ∧ c.whr=none) && (decide (c.grouped=gr ∧ c.group=group ∧ c.items=items) && decide (c.order=order ∧ c.limit=lim ∧ c.offset=off))
 | _ => false
def colN (k:Nat) (t:Ty):NT:=.leaf { op:=oColumn,t:=t,col:=k }
def soItems:List NT:=[colN 0 tyInt,colN 1 ⟨2,2⟩,colN 2 tyBytes]
def soPlain:Bs:=[83,69,76,69,67,84,32,97,44,32,98,44,32,99,32,70,82,79,77,32,116]
def zpP (desc:Bool):Bs:=soPlain ++ [32,79,82,68,69,82,32,66,89,32,49] ++ (if desc=true then [32,68,69,83,67] else [])
def soCut (desc:Bool) (lim off:Nat):Bs:=zpP desc ++ [32,76,73,77,73,84,32] ++ [UInt8.ofNat (48 + lim)] ++ [32,79,70,70,83,69,84,32] ++ [UInt8.ofNat (48 + off)]
theorem zq7:askOk false [] soItems [] (-1) (-1) (zaI soPlain)=true:=by decide +kernel
theorem zrv:∀ d:Bool,askOk false [] soItems [⟨0,d⟩] (-1) (-1) (zaI (zpP d))=true:=by decide +kernel
theorem zrI:∀ d:Bool,∀ l o:Fin 10,askOk false [] soItems [⟨0,d⟩] (l.val:Nat) (o.val:Nat) (zaI (soCut d l.val o.val))=true:=by decide +kernel
end Go.Proofs.YtebljciefhfgbaaGreatDoor
