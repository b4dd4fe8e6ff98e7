/-
  Rows that are sorted, in memory. No condition.
-/
import Derived.Test.YtcabeljiobiojaaGreatDoorQ41
import Derived.Test.YtcabeljiobiojaaGreatDoorQ46
set_option linter.unusedVariables false
set_option maxRecDepth 100000
set_option maxHeartbeats 8000000
namespace Go.Proofs.YtcabeljiobiojaaGreatDoor
open Go.RowKit
theorem zpD (ps:List PR) (i:Nat):(ps.map (·.2)).getD i []=(ps.getD i dPR).2:=by rw [List.getD_eq_getElem?_getD,List.getD_eq_getElem?_getD,List.getElem?_map];cases ps[i]? <;> rfl
theorem zqL (ps:List PR) (j:Nat):(zpt dPR ps j).map (·.2)=zpt [] (ps.map (·.2)) j:=by unfold zpt;rw [List.map_set,List.map_set,zpD,zpD]
theorem zqM (ord:List V → List V → Int):∀ (j:Nat) (ps:List PR),(sinkL (ordP ord) dPR j ps).map (·.2)=sinkL ord [] j (ps.map (·.2)):=by
 intro j
 induction j with
 | zero => intro ps; rfl
 | succ j ih =>
  intro ps;unfold sinkL;rw [zpD,zpD];unfold ordP;split
  ·rw [← zqL]; exact ih _
  ·rfl
theorem zrg (ord:List V → List V → Int):∀ (k:Nat) (ps:List PR),(insL (ordP ord) dPR k ps).map (·.2)=insL ord [] k (ps.map (·.2)):=by
 intro k
 induction k with
 | zero => intro ps; rfl
 | succ k ih => intro ps; unfold insL; rw [zqM,ih]
theorem zqN (w1 w:World) (rb g n cap:Nat) (rs:List (List V)) (hn:rs.length=n) (hn0:0 < n) (hn1:n ≤ 19) (hC:RowsC w1 w (.slice (some ⟨g,0,none⟩) n cap) rs)
  (ord:List V → List V → Int) (hcmp:∀ W,Mods [g] w W → ∀ va,∀ ra ∈ rs,∀ vb,∀ rc ∈ rs,RowR W [] [va] ra → RowR W [] [vb] rc → Calls Tryz.prog 23 #[zh rb,va,vb] W fun e w' => e = .returned (.int .i64 (ord ra rc)) ∧ Mods [] W w') :
  Calls Tryz.prog 22 #[.slice (some ⟨g,0,none⟩) n cap,.func (.func 23) #[zh rb] #[]] w
   fun e w' => e = .returned (.tuple #[]) ∧ Mods [g] w w' ∧ RowsC w1 w' (.slice (some ⟨g,0,none⟩) n cap) (insL ord [] (n - 1) rs):=by
 obtain ⟨hsz,⟨css,hown,hall⟩,hg⟩:=hC;have hgg:=hg g rfl;obtain ⟨ps,e1,e2⟩:=zpT (hall [] AB);subst e1;subst e2;rw [zpA,hn] at hown;have hn':ps.length=n:=by rw [← hn,List.length_map]
 have hrow:∀ L:List Nat,(∀ x ∈ L,x < w1.heap.size ∨ x=g) → ∀ p ∈ ps,RowR w L [p.1] p.2:=fun L hL => allR_iff.1 (hall L fun x hx => (hL x hx).imp id fun h => by rw [h]; rfl);have hone:∀ p ∈ ps,p.1.oneCell'=true:=fun p hp => by obtain ⟨vo,c,h1,-⟩:=hrow [] AB p hp;simp only [List.cons.injEq,and_true] at h1;rw [h1]; rfl
 refine (zqg w _ n cap _ hn1 _ (zrw w rb g n cap ps hn' hn0 AA hown hone ord fun W hM p hp q hq => hcmp W hM _ _ (List.mem_map_of_mem hp) _ _ (List.mem_map_of_mem hq) ?_ ?_)).mono ?_
 ·exact rowRep.weaken AB (rowRep.mods (hrow [g] AB p hp) hM)
 ·exact rowRep.weaken AB (rowRep.mods (hrow [g] AB q hq) hM)
 ·rintro e w' ⟨rfl,hM,hO⟩;refine ⟨rfl,hM,Nat.le_trans hsz hM.size,⟨(insL (ordP ord) dPR (n - 1) ps).map fun p => [p.1],?_,fun L hL => ?_⟩,hg⟩
  ·rw [zpA,zpl,hn]; exact hO
  ·rw [← zrg];refine allR_iff.2 fun p hp => ?_;have hm:=zqf (ordP ord) dPR (n - 1) ps AA p hp;refine rowRep.weaken (L':=L) (L:=L ++ [g]) (fun x hx => List.mem_append_left _ hx) ?_
   exact rowRep.mods (hrow (L ++ [g]) (fun x hx => by
    rcases List.mem_append.1 hx with hx | hx
    ·exact (hL x hx).imp id fun h => (Option.some.inj h).symm
    ·exact .inr AJ) p hm) (hM.mono (fun x hx => .inl (List.mem_append_right _ hx)))
theorem zrl (w1 w:World) (rb n cap:Nat) (ao:Option Addr) (rs:List (List V)) (hn:rs.length=n) (hn1:n ≤ 19) (hC:RowsC w1 w (.slice ao n cap) rs)
  (ord:List V → List V → Int) (hcmp:∀ (L:List Nat) W,(∀ x ∈ L,w1.heap.size ≤ x) → Mods L w W → ∀ va,∀ ra ∈ rs,∀ vb,∀ rc ∈ rs,RowR W [] [va] ra → RowR W [] [vb] rc → Calls Tryz.prog 23 #[zh rb,va,vb] W fun e w' => e = .returned (.int .i64 (ord ra rc)) ∧ Mods [] W w') :
  Calls Tryz.prog 22 #[.slice ao n cap,.func (.func 23) #[zh rb] #[]] w
   fun e w' => e = .returned (.tuple #[]) ∧ (∃ L:List Nat,(∀ x ∈ L,w1.heap.size ≤ x) ∧ Mods L w w') ∧ RowsC w1 w' (.slice ao n cap) (insL ord [] (n - 1) rs):=by
 obtain ⟨hsz,⟨css,hown,hall⟩,hg⟩:=hC;rcases Nat.eq_zero_or_pos n with h0 | h0
 ·subst h0;obtain rfl:rs=[]:=List.length_eq_zero_iff.1 hn;refine (zqg w ao 0 cap _ AA (fun w' => w'=w) (zrf w ao cap rb)).mono ?_;rintro e w' ⟨rfl,rfl⟩;exact ⟨rfl,⟨[],by simp,QM _ _⟩,hsz,⟨css,hown,hall⟩,hg⟩
 ·rcases hown.2 with ⟨hv,hl⟩ | ⟨g',cap',cur,hv,hb,hgh,hnc,hcm,hcs,htake⟩
  ·omega
  ·simp only [Value.slice.injEq] at hv;obtain ⟨rfl,-,rfl⟩:=hv;refine (zqN w1 w rb g' n _ rs hn h0 hn1 ⟨hsz,⟨css,hown,hall⟩,hg⟩ ord fun W hM => hcmp [g'] W (by simpa using hg g' rfl) hM).mono ?_;rintro e w' ⟨rfl,hM,hC⟩;exact ⟨rfl,⟨[g'],by simpa using hg g' rfl,hM⟩,hC⟩
def winR (lim off:Int) (rs:List (List V)):List (List V):=if 0 ≤ lim then (rs.drop off.toNat).take lim.toNat else rs.drop off.toNat
theorem zrm (w:World) (pb cb:Nat) (c:CQ) (hp:∃ lo lc vr vt vk,w.heap[pb]? = some (.cells #[zh cb,.int .i64 4,.slice lo 0 lc,vr,vt,vk] 49 (0,0))) (hq:CheckedAt w [] cb c) (hr:c.right=none)
  (ao:Option Addr) (cap:Nat) (rs:List (List V)) (n:Nat) (hn:rs.length=n) (hI:RowsIn w ao rs []) (hF:zpp rs) (v2:Value) (rs2:List (List V)) (n2:Nat) (hn2:rs2.length=n2) (hn19:n2 ≤ 19)
  (hit:∀ (W:World) (rb:Nat) (bo:Option Addr) (bc:Nat),RunQ W rb pb cb c → RowsIn W bo rs [rb] → Calls Tryz.prog 21 #[zh rb,.slice bo n bc] W (ztg W rb pb rs2))
  (ord:List V → List V → Int) (hcmp:∀ (W:World) (rb:Nat),RunQ W rb pb cb c → ∀ va,∀ ra ∈ rs2,∀ vb,∀ rc ∈ rs2,RowR W [] [va] ra → RowR W [] [vb] rc → Calls Tryz.prog 23 #[zh rb,va,vb] W fun e w' => e = .returned (.int .i64 (ord ra rc)) ∧ Mods [] W w')
  (lim off:Int) (hlim:c.limit=lim) (hoff:c.offset=off) (hl0 : -1 ≤ lim) (hl1:lim ≤ 9) (ho0 : -1 ≤ off) (ho1:off ≤ 9) :
  Calls Tryz.prog 14 #[zh pb,.slice ao n cap,v2] w (RowsRes w (winR lim off (insL ord [] (n2 - 1) rs2))):=by
 obtain ⟨lo,lc,vr,vt,vk,hp⟩:=hp;have hpb:=zj hp;have hz:Mods [] w (w.alloc (.cells #[zh pb,.int .i64 0] 83)):=(QM _ _).alloc _;have hnew:=QN w (.cells #[zh pb,.int .i64 0] 83)
 have hQ1:RunQ (w.alloc (.cells #[zh pb,.int .i64 0] 83)) w.heap.size pb cb c:=
  ⟨hnew,⟨.slice lo 0 lc,vr,vt,vk,hz.heap hp⟩,by omega,by
   have h1:=(hq.fresh (g:=w.heap.size) (LR _));obtain ⟨hn,von,vwh,vg,its,nms,vo,h1,h2,h3,h4,h5,h6,h7⟩:=h1;have hM':Mods [w.heap.size] w (w.alloc (.cells #[zh pb,.int .i64 0] 83)):=hz.mono
   exact ⟨hn,von,vwh,vg,its,nms,vo,hM'.heap h1 hn,h2.mods hM',h3.mods hM',h4.mods hM',h5.mods nodRep hM',h6.mods nameRep hM',h7.mods keyCRep hM'⟩⟩
 have hj:=zeD _ w.heap.size pb cb c hQ1 ⟨lo,lc,vr,vt,vk,hz.heap hp⟩ hr ao cap rs n hn (fun h0 => by
  obtain ⟨g,o,h1,h2,h3⟩:=hI h0
  exact ⟨g,o,h1,h2,fun i hi => by
   obtain ⟨vo,k,h4,h5,h6⟩:=h3 i hi
   exact ⟨vo,k,h4,hz.cell h5,h6.mods hz⟩⟩) hF v2
 have HQ:=QH hQ1;have HH:=QH (AI hit (AI hcmp (AI hz (AI hq (AI hlim hoff)))));have HJ:=QH hj;clear hit hcmp hz hq hlim hoff hj hQ1 hp hI hF;unfold zh at *;go_enter Tryz.func14, Tryz.ntmps14;go_wp2_with fail;(with_reducible refine HJ.out.mono ?_);rintro e w2 ⟨t,rfl,hM2,hC⟩;obtain ⟨bo,bc,rfl,hbc,hb0,hbr⟩:=hC.slice;rw [hn];obtain ⟨rb,hrb⟩:=EX (w.heap.size);have hz:=HH.out.2.2.1;have hW1s:(w.alloc (.cells #[.pointer (some ⟨pb,0,none⟩),.int .i64 0] 83)).heap.size=w.heap.size + 1:=Array.size_push _;have hQ2:=HQ.out.later hM2;have hMw:Mods [] w w2:=hz.trans hM2
 have hIt:=HH.out.1 w2 w.heap.size bo bc hQ2 (fun h0 => by
  obtain ⟨g,h1,h2⟩:=hb0 h0;refine ⟨g,0,h1,by simp only [List.mem_singleton]; omega,fun i hi => ?_⟩;rw [Nat.zero_add]
  exact hbr _ (by intro x hx; rw [List.mem_singleton.1 hx]; omega) g h1 i hi)
 have x1:=za hQ2.run 1;change w2.cell? _=some (.int .i64 0) at x1;rw [hrb] at hIt x1 hQ2;have HA:=QH (AI hMw (AI hQ2 (AI hW1s hM2)));have HB:=QH hIt;clear hMw hQ2 hC hb0 hbr hz hM2 hIt hW1s;rw [hrb] at HQ ⊢;go_wp2_with fail;(with_reducible refine HB.out.mono ?_);rintro e w3 ⟨t,rfl,hM3,hR3,hC⟩;obtain ⟨co,cc,rfl,hcc,hc0,hcr⟩:=hC.slice;rw [hn2];clear x1;have x1:=za hR3 1;change w3.cell? _=some (.int .i64 0) at x1;have hrbl:rb < w2.heap.size:=zj HA.out.2.1.run;have hfar:∀ (L:List Nat) W,(∀ x ∈ L,w2.heap.size ≤ x) → Mods L w3 W → RunQ W rb pb cb c:=fun L W hL hM =>
  HA.out.2.1.far hL ((hM3.mono (L':=L ++ [rb]) AB).trans hM (fun x hx => .inl (List.mem_append_left _ hx))) (hR3.mods hM fun hm => by have:=hL _ hm; omega)
 have hso:=zrl w2 w3 rb n2 cc co rs2 hn2 hn19 (by rw [hn2] at hC; exact hC) ord fun L W hL hM va ra hra vb rc hrc h1 h2 => HH.out.2.1 W rb (hfar L W hL hM) va ra hra vb rc hrc h1 h2;have HS:=QH hso;have HF:=QH hfar;have HM3:=QH hM3;clear hcr hc0 hC hso hfar hM3 hR3;go_wp2_with fail;unfold zh at HS;(with_reducible refine HS.out.mono ?_);rintro e w4 ⟨rfl,⟨L,hL,hM4⟩,hC⟩;obtain ⟨vl2,vr2,vt2,vk2,hp4⟩:=(HF.out L w4 hL hM4).plan;obtain ⟨-,von,vwh,vg,its,nms,vo,hst,-⟩:=(HF.out L w4 hL hM4).q;have p0:=za hp4 0;have q9:=za hst 9;have q10:=za hst 10;rw [HH.out.2.2.2.2.1] at q9;rw [HH.out.2.2.2.2.2] at q10;change w4.cell? _=some (.pointer (some ⟨cb,0,none⟩)) at p0;change w4.cell? _=some (.int .i64 lim) at q9;change w4.cell? _=some (.int .i64 off) at q10;obtain ⟨rs3,hrs3⟩:=EX (insL ord [] (n2 - 1) rs2);have hn3:rs3.length=n2:=by rw [← hrs3,zpl,hn2]
 rw [hrs3] at hC;have hres:∀ (a:Option Addr) (k cap':Nat),(a=co.map (·.add (min (max off 0) (n2:Int)).toNat) ∨ k=0) → k=(winR lim off rs3).length → k ≤ cap' → RowsRes w (winR lim off (insL ord [] (n2 - 1) rs2)) (.returned (.tuple #[.slice a k cap',.int .i64 0])) w4:=by
  intro a k cap' ha hk hkc;rw [hrs3];subst hk;refine ⟨a,cap',rfl,hkc,(HA.out.1.trans HM3.out (fun x hx => .inr (by rw [List.mem_singleton.1 hx,← hrb]; exact LR _))).trans hM4 (fun x hx => .inr (Nat.le_trans HA.out.1.size (hL x hx))),fun L2 hL2 h0 => ?_⟩;obtain ⟨co',cc',hv,hcc',hc0,hcr⟩:=hC.slice;simp only [Value.slice.injEq] at hv;obtain ⟨rfl,-,rfl⟩:=hv;have hpos:0 < (winR lim off rs3).length:=List.length_pos_iff.2 h0;have hoff:off.toNat < n2:=by
   unfold winR at hpos;split at hpos
   ·simp [hn3] at hpos; omega
   ·simp [hn3] at hpos; omega
  have hfe:(min (max off 0) (n2:Int)).toNat=off.toNat:=by omega
  have hr3:rs3 ≠ []:=by rw [← List.length_pos_iff,hn3]; omega
  obtain ⟨g,rfl,hg⟩:=hc0 hr3;refine ⟨g,off.toNat,?_,fun hm => by have:=hL2 g hm; have:=HA.out.1.size; omega,fun i hi => ?_⟩
  ·rcases ha with ha | ha
   ·rw [ha,hfe];simp [Addr.add];omega
   ·omega
  ·have hi3:off.toNat + i < rs3.length:=by
    unfold winR at hi;split at hi
    ·simp at hi; omega
    ·simp at hi; omega
   obtain ⟨vo,c',h1,h2,h3⟩:=hcr L2 (fun x hx => LL (hL2 x hx) HA.out.1.size) g rfl (off.toNat + i) hi3;have he:(winR lim off rs3)[i]=rs3[off.toNat + i]:=by
    simp only [winR];split
    ·simp
    ·simp
   rw [he];exact ⟨vo,c',h1,h2,h3⟩
 have hwl:(winR lim off rs3).length=if 0 ≤ lim then min lim.toNat (n2 - off.toNat) else n2 - off.toNat:=by
  unfold winR;split
  ·simp [hn3]
  ·simp [hn3]
 have HC:=QH (AI hres (AI hwl hcc));clear hst hp4 hC hL hM4 hrs3 x1 hres hwl;go_wp2_with fail;all_goals go_ret2
 all_goals refine HC.out.1 _ _ _ ?_ ?_ ?_
 all_goals have hwl:=HC.out.2.1
 all_goals have hcc:=HC.out.2.2
 all_goals first | exact .inl rfl | rfl | (right; omega) | (rw [hwl]; split <;> omega) | omega
structure OneT (c:CQ):Prop where
 left:c.left=0
 right:c.right=none
 on:c.on=none
 whr:c.whr=none
theorem answer15 (w:World) (hT:Tabs3 w) (l:Bs) (hl:l.length ≤ 1000) (c:CQ) (hc:zaI l=some (.ok c)) (h1:OneT c)
  (ao:Option Addr) (cap:Nat) (rs:List (List V)) (n:Nat) (hn:rs.length=n) (hI:RowsIn w ao rs []) (hF:zpp rs) (rs2:List (List V)) (n2:Nat) (hn2:rs2.length=n2) (hn19:n2 ≤ 19)
  (hit:∀ (W:World) (rb pb cb:Nat) (bo:Option Addr) (bc:Nat),RunQ W rb pb cb c → RowsIn W bo rs [rb] → Calls Tryz.prog 21 #[zh rb,.slice bo n bc] W (ztg W rb pb rs2))
  (ord:List V → List V → Int) (hcmp:∀ (W:World) (rb pb cb:Nat),RunQ W rb pb cb c → ∀ va,∀ ra ∈ rs2,∀ vb,∀ rc ∈ rs2,RowR W [] [va] ra → RowR W [] [vb] rc → Calls Tryz.prog 23 #[zh rb,va,vb] W fun e w' => e = .returned (.int .i64 (ord ra rc)) ∧ Mods [] W w')
  (lim off:Int) (hlim:c.limit=lim) (hoff:c.offset=off) (hl0 : -1 ≤ lim) (hl1:lim ≤ 9) (ho0 : -1 ≤ off) (ho1:off ≤ 9) (v2:Value) :
  Calls Tryz.prog 8 #[.string ⟨l.toArray⟩,.slice ao n cap,v2] w (ztu w (winR lim off (insL ord [] (n2 - 1) rs2))):=by
 have hq:=query15 w hT l hl c hc;obtain ⟨S,hS⟩:=EX ((⟨l.toArray⟩ : ByteArray):ByteArray);rw [hS] at hq ⊢;obtain ⟨PP,hPP⟩:=EX (ztu w (winR lim off (insL ord [] (n2 - 1) rs2)));rw [hPP];have HP:=QH hPP;have HT:=QH hT;have HX:=QH (AI h1 (AI hit (AI hcmp (AI hI hF))));clear hT hc hS hl hPP h1 hit hcmp hI hF;go_enter Tryz.func8, Tryz.ntmps8;have gBq:=QH trivial;exact yds
structure AskIs (c:CQ) (gr:Bool) (group:List Nat) (items:List NT) (order:List KeyC) (lim off:Int):Prop where
 one:OneT c
 grouped:c.grouped=gr
 group:c.group=group
 items:c.items=items
 order:c.order=order
 limit:c.limit=lim
 offset:c.offset=off
theorem zrQ {gr:Bool} {group:List Nat} {items:List NT} {order:List KeyC} {lim off:Int} {l:Bs} (h:askOk gr group items order lim off (zaI l)=true):∃ c,zaI l=some (.ok c) ∧ AskIs c gr group items order lim off:=by
 cases hr:zaI l with
 | none => rw [hr] at h; cases h
 | some r =>
  rw [hr] at h
  cases r with
  | bad p k => cases h
  | ok c =>unfold askOk at h;simp only [Bool.and_eq_true,decide_eq_true_eq] at h;obtain ⟨⟨h1,h2,h3,h4⟩,⟨h5,h6,h7⟩,h8,h9,h10⟩:=h;exact ⟨c,rfl,⟨h1,h2,h3,h4⟩,h5,h6,h7,h8,h9,h10⟩
theorem zqh (n:Nat):rowsN n 8 ≤ 8:=by unfold rowsN; split <;> omega
theorem zqi (C:Nat → Int × ByteArray × Bool) (i:Nat):(rowI C i).length=4:=zpg C i 4
theorem zpy {C:Nat → Int × ByteArray × Bool} {n:Nat} {r:List V} (h:r ∈ zpk C n):∃ i,i < n ∧ r=rowI C i:=by unfold zpk at h;obtain ⟨i,hi,rfl⟩:=List.mem_map.1 h;exact ⟨i,List.mem_range.1 hi,rfl⟩
theorem zpJ (C:Nat → Int × ByteArray × Bool) (i:Nat):(rowI C i).getD 0 zeroV0 = ⟨false,(C (4 * i)).1,⟨#[]⟩⟩:=by show cellV (colKind 0) (colNull 0) (C (4 * i + 0)).1 (C (4 * i + 0)).2.1 (C (4 * i + 0)).2.2=_;unfold cellV colKind colNull;simp
theorem zq1 (C:Nat → Int × ByteArray × Bool) (n:Nat):zpp (zpk C (rowsN n 8)):=
 ⟨by rw [zpi]; have:=zqh n; omega,fun r hr => by
  obtain ⟨i,-,rfl⟩:=zpy hr
  rw [zqi]; omega⟩
theorem zrE {α:Type} (d:α):∀ (k:Nat) (l:List α),insL (fun _ _ => 0) d k l=l:=by
 have hs:∀ (j:Nat) (l:List α),sinkL (fun _ _ => 0) d j l=l:=fun j l => by
  cases j with
  | zero => rfl
  | succ j => unfold sinkL; rw [if_neg AD]
 intro k
 induction k with
 | zero => intro l; rfl
 | succ k ih => intro l; unfold insL; rw [hs,ih]
theorem zqj (l:List (List V)):winR (-1) (-1) l=l:=rfl
theorem zsm (gs:List Nat):∀ (n:Nat) (rs:List (List V)),rs.length=n → (zrU gs rs).length ≤ n
 | 0,rs,h => by obtain rfl:=List.length_eq_zero_iff.1 h; exact LR _
 | n + 1,rs,h => by
  rcases List.eq_nil_or_concat rs with rfl | ⟨q,y,rfl⟩
  ·cases h
  ·rw [List.concat_eq_append] at *;rw [zr0];have ih:=zsm gs n q AN;unfold putR;rw [List.length_set];split
   ·omega
   ·simp; omega
theorem zsX:∀ n ∈ grItems,itemG 4 (fun k => k=0) n:=by
 intro n hn;simp only [grItems,List.mem_cons,List.not_mem_nil,or_false] at hn;rcases hn with rfl | rfl | rfl | rfl
 ·exact .inl ⟨_,rfl,rfl,by decide⟩
 ·exact .inr (.inl ⟨_,rfl,rfl⟩)
 ·exact .inr (.inr ⟨false,_,_,rfl,rfl,rfl,rfl,by decide,rfl⟩)
 ·exact .inr (.inr ⟨true,_,_,rfl,rfl,rfl,rfl,by decide,rfl⟩)
theorem zsS {c:CQ} {li of:Int} (h:AskIs c true [2] grItems [] li of) (C:Nat → Int × ByteArray × Bool) (R:Nat) (hR:R ≤ 8) (hC:∀ i,i < R → -9223372036854775808 ≤ (C (4 * i)).1 ∧ (C (4 * i)).1 ≤ 9223372036854775807) (W:World) (rb pb cb:Nat) (bo:Option Addr) (bc:Nat) (hQ:RunQ W rb pb cb c) (hI:RowsIn W bo (zpk C R) [rb]) :
  Calls Tryz.prog 21 #[zh rb,.slice bo R bc] W (ztg W rb pb ((zrU [2] (zpk C R)).map (outR grItems))):=by
 have:=zsu W rb pb cb c hQ h.grouped 4 (fun k => k=0) (by rw [h.items]; exact zsX) 4 (by rw [h.items]; rfl) AD bo bc (zpk C R) R (zpi _ _) AA hI (fun r hr => by
  obtain ⟨i,-,rfl⟩:=zpy hr
  exact zqi _ _) (fun r hr k hk => by
  obtain ⟨i,hi,rfl⟩:=zpy hr;subst hk
  exact ⟨_,zpJ C i,hC i hi⟩) 1 (by rw [h.group]; rfl) AD (by rw [h.group]; decide)
 rw [h.items,h.group] at this;exact this
theorem zsq (w:World) (hT:Tabs3 w) (lao:Option Addr) (n cl:Nat) (hn:n ≤ 9223372036854775807) (C:Nat → Int × ByteArray × Bool) (hC:CellsIn w lao n C) :
  Calls Tryz.prog 3 #[.slice lao n cl] w fun e w' => e = .returned (.bool true) ∧ Mods [] w w':=by
 have hex:=zpM w hT;have HH:=QH (AI hT (AI hn hC));clear hT hn hC;go_enter Tryz.func3, Tryz.ntmps3;go_wp2_with fail;(with_reducible refine hex.mono ?_);rintro e w2 ⟨rfl,hM2⟩;clear hex;have htb:=tables15 w2;have HM2:=QH hM2;clear hM2;go_wp2_with fail;(with_reducible refine htb.mono ?_);rintro e w3 ⟨tb,rfl,hM3,-,g,dd,hb,hg⟩;clear htb;have t0:=za hb 0;have t1:=za hb 1;change w3.cell? _=some (.string ⟨#[116]⟩) at t0;change w3.cell? _=some (.slice (some ⟨g,0,none⟩) 4 4) at t1;have hMw:=HM2.out.trans hM3
 have hrw:=lawrows15 w3 ⟨#[116]⟩ g hg lao n cl HH.out.2.1 C (fun h0 => by
  obtain ⟨b,o,h1,h2⟩:=HH.out.2.2 h0
  exact ⟨b,o,h1,fun i hi => ⟨⟨hMw.cell (h2 i hi).1.1 AB,hMw.cell (h2 i hi).1.2.1 AB,hMw.cell (h2 i hi).1.2.2 AB⟩,(h2 i hi).2⟩⟩) 8 AD
 change Calls _ _ #[_,_,.int .i64 8] _ _ at hrw;have HM3:=QH (AI hMw (HH.out.1.later hMw));clear hM3 hb hg hMw;go_wp2_with fail;(with_reducible refine hrw.mono ?_);rintro e w4 ⟨t,rfl,hM4,hRC⟩;clear hrw;obtain ⟨R,hR⟩:=EX (rowsN n 8);have hR8:R ≤ 8:=by rw [← hR]; exact zqh n
 have hRn:4 * R ≤ n:=by rw [← hR]; unfold rowsN; split <;> omega
 rw [hR] at hRC;obtain ⟨xo,xc,rfl,hxc,hx0,hxr⟩:=hRC.slice;rw [zpi] at hxc ⊢;have hXI:RowsIn w4 xo (zpk C R) []:=fun h0 => by obtain ⟨g',h1,h2⟩:=hx0 h0;exact ⟨g',0,h1,by simp,fun i hi => by rw [Nat.zero_add]; exact hxr [] AB g' h1 i hi⟩
 have hXF:zpp (zpk C R):=by rw [← hR]; exact zq1 C n
 have hCb:∀ i,i < R → -9223372036854775808 ≤ (C (4 * i)).1 ∧ (C (4 * i)).1 ≤ 9223372036854775807:=fun i hi => by obtain ⟨b,o,h1,h2⟩:=HH.out.2.2 AA;exact (h2 (4 * i) AA).2.1
 obtain ⟨rs,hrs⟩:=EX (zpk C R);have hrl:rs.length=R:=by rw [← hrs,zpi]
 have hr4:∀ r ∈ rs,r.length=4:=fun r hr => by rw [← hrs] at hr;obtain ⟨i,-,rfl⟩:=zpy hr;exact zqi _ _
 obtain ⟨G,hG⟩:=EX (zrU [2] rs);obtain ⟨ng,hng⟩:=EX (G.length);have hngR:ng ≤ R:=by rw [← hng,← hG]; exact zsm [2] R rs hrl
 have hT4:=HM3.out.2.later hM4;have hMw4:=HM3.out.1.trans hM4;have hans:Calls Tryz.prog 8 #[.string ⟨grText.toArray⟩,.slice xo R xc,.slice none 0 0] w4 (ztu w4 (G.map (outR grItems))):=by obtain ⟨c,hc,hA⟩:=zrQ zsZ;have:=answer15 w4 hT4 grText AD c hc hA.one xo xc (zpk C R) R (zpi _ _) hXI hXF ((zrU [2] (zpk C R)).map (outR grItems)) ng (by rw [List.length_map,hrs,hG,hng]) AA (fun W rb pb cb bo bc hQ hI => zsS hA C R hR8 hCb W rb pb cb bo bc hQ hI) (fun _ _ => 0) (fun W rb pb cb hQ va ra hra vb rc hrc e1 e2 => zqq W rb pb cb c hQ hA.order va vb) (-1) (-1) hA.limit hA.offset AD AD AD AD (.slice none 0 0);rw [zrE,zqj,hrs,hG] at this;exact this
 change Calls _ _ #[.string ⟨#[83,69,76,69,67,84,32,99,44,32,67,79,85,78,84,40,42,41,44,32,77,73,78,40,97,41,44,32,77,65,88,40,97,41,32,70,82,79,77,32,116,32,71,82,79,85,80,32,66,89,32,99]⟩,_,_] _ _ at hans;rw [hrs] at hXI;have HX:=QH (AI hMw4 (AI hXI (AI hrl (AI hr4 (AI hG hng)))));clear hRC hM4 hx0 hxr hR hRn hXI hXF hCb hrs hrl hr4 hG hng hT4 hMw4;go_wp2_with fail;(with_reducible refine hans.mono ?_);rintro e w5 ⟨ao,ac,rfl,hac,hM5,hA⟩;clear hans;rw [List.length_map,HX.out.2.2.2.2.2] at hac ⊢;have HA:=QH (AI hac (AI hM5 (hA [] AB)));have hM05:=HX.out.1.trans hM5;have HM05:=QH hM05;clear hac hM5 hA hM05;go_wp2_with fail;go_loopg [7,8,9] ng (fun gk t7 t8 t9 wr => ∃ i a:Nat,i + gk=ng ∧ t9 = .int .i64 i ∧ t8 = .int .i64 a ∧ t7 = .int .i64 (((G.map List.length).take i).sum:Nat) ∧ Mods [] w5 wr ∧ (heads (rs.take a)).length=i ∧ a ≤ R)
 case atStart => exact ⟨0,0,by omega,rfl,rfl,rfl,QM _ _,rfl,Nat.zero_le _⟩
 obtain ⟨i,a,hin,rfl,rfl,rfl,hM,hhl,haR⟩:=hrel;by_cases hlt:i < ng
 ·go_wp2_with fail;generalize wr=wo at *;have HM:=QH (AI hM (AI hhl haR));clear hM hhl haR;go_loopg [8] (R - a) (fun gk t8 wx => ∃ q:Nat,q + gk=R ∧ t8 = .int .i64 q ∧ Mods [] w5 wx ∧ (heads (rs.take q)).length=i)
  case atStart => exact ⟨a,by have:=HM.out.2.2; omega,rfl,HM.out.1,HM.out.2.1⟩
  obtain ⟨q,hqR,rfl,hMx,hhq⟩:=hrel;by_cases hq:q < R
  ·obtain ⟨-,hXI,hrl,hr4,hG,hng⟩:=HX.out;obtain ⟨hac,hM5,hA⟩:=HA.out;have hql:q < rs.length:=by omega
   obtain ⟨b,off,rfl,-,hcs⟩:=hXI (fun h0 => by rw [h0] at hql; simp at hql);have hMw:=hM5.trans hMx;obtain ⟨vo,cc,hcc,k0,hV⟩:=hcs q hql;have hf:=hr4 _ (List.getElem_mem hql);have hmc:∀ W z x t,Mods [] wr W → Calls Tryz.prog 9 #[.slice (some ⟨b,off,none⟩) q xc,.agg #[.bool z,.int .i64 x,.string t]] W fun e w' => e = .returned (.bool (metB (rs.take q) ⟨z,x,t⟩)) ∧ Mods [] W w':=fun W z x t hW =>
    met15 W _ xc q (rs.take q) (by rw [List.length_take]; omega) AA (fun h0 => ⟨b,off,rfl,by simp,fun j hj => by
     have hj2:j < rs.length:=by rw [List.length_take] at hj; omega
     obtain ⟨vj,cj,h1,h2,h3⟩:=hcs j hj2;rw [List.getElem_take];have hM:=hMw.trans hW
     exact ⟨vj,cj,h1,hM.cell h2,h3.mods hM⟩⟩) (fun r hr => hr4 r (List.mem_of_mem_take hr)) z x t
   have hmet:=fun h => zsM (rs:=rs) (j:=q) hql h;have hnew:=fun h => zsN (rs:=rs) (j:=q) (i:=i) hql h hhq;have h2l:2 < rs[q].length:=by omega
   have hv2:zr5 rs[q]=rs[q][2]:=by unfold zr5; simp [List.getD_eq_getElem?_getD,List.getElem?_eq_getElem h2l]
   rw [hf] at k0;obtain ⟨p,po,rfl,-,hp⟩:=hV (by intro h; rw [h] at h2l; simp at h2l);obtain ⟨p0,p1,p2⟩:=hp 2 h2l;rw [← hv2] at p0 p1 p2;obtain ⟨v,hv⟩:=EX (zr5 rs[q]);rw [hv] at p0 p1 p2 hmet hnew;obtain ⟨z,x,t⟩:=v;simp only at p0 p1 p2;replace k0:=hMw.cell k0;replace p0:=hMw.cell p0;replace p1:=hMw.cell p1;replace p2:=hMw.cell p2;have hcall:=fun W hW => hmc W z x t hW;obtain ⟨B,hB⟩ : ∃ B,metB (rs.take q) ⟨z,x,t⟩ = B:=⟨_,rfl⟩;simp only [hB] at hcall;have HK:=QH (fun k:zay wr => (hcall k.val k.mods).mono fun e w' h => (show e=_ ∧ ∃ k':zay wr,w'=k'.val from ⟨h.1,⟨w',k.mods.trans h.2⟩,rfl⟩));have F1:∀ k:zay wr,k.val.cell? ⟨b,off + q,none⟩ = some (.slice (some ⟨p,po,none⟩) 4 cc):=fun k => k.mods.cell k0;have F2:∀ k:zay wr,k.val.cell? ⟨p,po + 2 * 3,none⟩ = some (.bool z):=fun k => k.mods.cell p0;have F3:∀ k:zay wr,k.val.cell? ⟨p,po + 2 * 3 + 1,none⟩ = some (.int .i64 x):=fun k => k.mods.cell p1;have F4:∀ k:zay wr,k.val.cell? ⟨p,po + 2 * 3 + 2,none⟩ = some (.string t):=fun k => k.mods.cell p2;have HQ:=QH (AI hMx (AI hMw (AI hB (AI hmet (AI hnew (AI hhq hv))))));have HP:=QH (AI k0 (AI p0 (AI p1 p2)));have hqc:q ≤ xc:=by omega
   clear hXI hrl hr4 hG hng hac hM5 hA hcs hMw hcc hV hf hmc hmet hnew h2l hv2 hp hv hcall hB hMx hhq k0 p0 p1 p2;go_upto_region 13 with fail;have gF9:=QH trivial;exact yfJ
  ·exfalso;obtain rfl:q=R:=by omega
   obtain ⟨-,-,hrl,-,hG,hng⟩:=HX.out;rw [List.take_of_length_le AA] at hhq;have:(heads rs).length=ng:=by unfold heads; rw [List.length_map,hG,hng]
   omega
 ·obtain rfl:i=ng:=by omega
  obtain ⟨-,-,hrl,-,hG,hng⟩:=HX.out;have hS:((G.map List.length).take i).sum=R:=by rw [List.take_of_length_le (by rw [List.length_map]; omega),← hG,(zr6 _ rs rfl).sum,hrl]
  rw [hS];have hMz:=HM05.out.trans hM;clear hS hrl hG hng hM hhl haR;go_wp2_with fail;go_ret;exact ⟨rfl,hMz⟩
theorem zsn (w:World) (hT:Tabs2 w ∧ CkVars w) (lao:Option Addr) (n cl:Nat) (C:Nat → Int × ByteArray × Bool) (hn:n ≤ 9223372036854775807) (hC:CellsIn w lao n C) :
  Calls Tryz.prog 3 #[.slice lao n cl] w fun e w' => e = .returned (.bool true) ∧ Mods [] w w':=zsq w hT lao n cl hn C hC
end Go.Proofs.YtcabeljiobiojaaGreatDoor
