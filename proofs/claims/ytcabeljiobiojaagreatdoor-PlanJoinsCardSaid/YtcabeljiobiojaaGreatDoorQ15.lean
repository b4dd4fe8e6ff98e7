/-
  schema.NameRight, walked. No condition but that Go's own variables hold what they were laid with.
-/
import Derived.Test.YtcabeljiobiojaaGreatDoorQ14
import Derived.Deep.RegionLaw
set_option linter.unusedVariables false
set_option maxRecDepth 100000
set_option maxHeartbeats 4000000
namespace Go.Proofs.YtcabeljiobiojaaGreatDoor
open Go.RowKit
theorem AG {p:Prop} (h:p:=by simp [MapKept.IsKey]):p:=h
theorem yfb {p:Prop} (h:p:=by
  have hz:=(QM [] w).alloc (.cells #[.int .i64 0,.int .i64 0] 59);have hr:=QN w (.cells #[.int .i64 0,.int .i64 0] 59)
  first
  |clear gE1
   obtain ⟨-,v0,v1⟩:=hV.later hz;go_enter Tryz.func132, Tryz.ntmps132;go_wp2_with (refine wpList_store_row rfl 59 (.tmp 0) (.tmp 2) rfl w.heap.size #[.int .i64 1,.int .i64 0] rfl rfl 59 _ hr zk rfl (zA 1 0) ?_);refine bodyPost_ret (zg rfl _ _ w.heap.size 59 #[.int .i64 1,.int .i64 0] (0,0) _ rfl (zi _ hr) Tryz.underlying59 rfl zk _ rfl) rfl ?_;exact ⟨rfl,hz.setRow (.inr (LR _)) _⟩
  |clear gE2
   obtain ⟨⟨v0,v1⟩,-⟩:=hV.later hz;go_enter Tryz.func136, Tryz.ntmps136;go_wp2_with (refine wpList_store_row rfl 59 (.tmp 0) (.tmp 2) rfl w.heap.size #[.int .i64 4,.int .i64 0] rfl rfl 59 _ hr zk rfl (zA 4 0) ?_);refine bodyPost_ret (zg rfl _ _ w.heap.size 59 #[.int .i64 4,.int .i64 0] (0,0) _ rfl (zi _ hr) Tryz.underlying59 rfl zk _ rfl) rfl ?_;exact ⟨rfl,hz.setRow (.inr (LR _)) _⟩
  |clear gE3
   obtain ⟨sb,h1,h2,h3,-,-⟩:=h.later hz;unfold zh;go_enter Tryz.func135, Tryz.ntmps135;go_wp2_with (refine wpList_store_row rfl 59 (.tmp 1) (.tmp 5) rfl w.heap.size #[.int .i64 a.k,.int .i64 a.s] rfl rfl 59 _ hr zk rfl (zA _ _) ?_);refine bodyPost_ret (zg rfl _ _ w.heap.size 59 #[.int .i64 a.k,.int .i64 a.s] (0,0) _ rfl (zi _ hr) Tryz.underlying59 rfl zk _ rfl) rfl ?_;exact ⟨rfl,hz.setRow (.inr (LR _)) _⟩
  |clear gE4
   obtain ⟨sb,h1,h2,h3,h4,h5⟩:=h;have F1:=fun b => zbk (o:=.cells #[.int .i64 0,.int .i64 0] 59) (cells:=#[.int .i64 4,.int .i64 0]) h1 b;have F2:=fun b => zbk (o:=.cells #[.int .i64 0,.int .i64 0] 59) (cells:=#[.int .i64 4,.int .i64 0]) h2 b;have F3:=fun b => zbk (o:=.cells #[.int .i64 0,.int .i64 0] 59) (cells:=#[.int .i64 4,.int .i64 0]) h3 b;have F4:=fun b => zbk (o:=.cells #[.int .i64 0,.int .i64 0] 59) (cells:=#[.int .i64 4,.int .i64 0]) h4 b;have F5:=fun b => zbk (o:=.cells #[.int .i64 0,.int .i64 0] 59) (cells:=#[.int .i64 4,.int .i64 0]) h5 b;have G0:=fun b => zbk (o:=.cells #[.int .i64 0,.int .i64 0] 59) (cells:=#[.int .i64 4,.int .i64 0]) hV.1.1 b;have G1:=fun b => zbk (o:=.cells #[.int .i64 0,.int .i64 0] 59) (cells:=#[.int .i64 4,.int .i64 0]) hV.1.2 b;have HH:=QH (AI F1 (AI F2 (AI F3 (AI F4 (AI F5 (AI G0 G1))))));have HZ:=QH hz;clear F1 F2 F3 F4 F5 G0 G1 h1 h2 h3 h4 h5 hV hz;have ca:=zgB a;have cb:=zgB b;unfold zh;rcases ca with ⟨a1,a2,a3⟩ | ⟨a1,a2,a3⟩ | ⟨a1,a3⟩
   ·rcases cb with ⟨b1,b2,b3⟩ | ⟨b1,b2,b3⟩ | ⟨b1,b3⟩
    ·rw [decide_eq_true a3,decide_eq_true b3];exact yad
    ·rw [decide_eq_true a3,decide_eq_false b3];exact yad
    ·rw [decide_eq_true a3,decide_eq_false b3];exact yad
   ·exact ycA
   ·exact ycA
  |clear gE5
   obtain ⟨t,ht,htu⟩:=zia (zb7 (UInt8.ofNat op) a b);obtain ⟨sb,h1,h2,h3,h4,h5⟩:=h;have K:=fun bb (k:zay (zdL (w.alloc (.cells #[.int .i64 0,.int .i64 0] 59)) w.heap.size #[.int .i64 t.k,.int .i64 t.s] bb)) => (zk1 k.val op hop a b ha hb).mono fun e w' h => (show e = .returned (.tuple #[tyA t,.bool (zb7 (UInt8.ofNat op) a b).isSome]) ∧ ∃ k':zay (zdL (w.alloc (.cells #[.int .i64 0,.int .i64 0] 59)) w.heap.size #[.int .i64 t.k,.int .i64 t.s] bb),w'=k'.val from ⟨by rw [← ht]; exact h.1,⟨w',k.mods.trans h.2⟩,rfl⟩);have F1:=fun b => zbk (o:=.cells #[.int .i64 0,.int .i64 0] 59) (cells:=#[.int .i64 t.k,.int .i64 t.s]) h1 b;have F2:=fun b => zbk (o:=.cells #[.int .i64 0,.int .i64 0] 59) (cells:=#[.int .i64 t.k,.int .i64 t.s]) h2 b;have F3:=fun b => zbk (o:=.cells #[.int .i64 0,.int .i64 0] 59) (cells:=#[.int .i64 t.k,.int .i64 t.s]) h3 b;have F4:=fun b => zbk (o:=.cells #[.int .i64 0,.int .i64 0] 59) (cells:=#[.int .i64 t.k,.int .i64 t.s]) h4 b;have F5:=fun b => zbk (o:=.cells #[.int .i64 0,.int .i64 0] 59) (cells:=#[.int .i64 t.k,.int .i64 t.s]) h5 b;have F6:=fun b => zbk (o:=.cells #[.int .i64 0,.int .i64 0] 59) (cells:=#[.int .i64 t.k,.int .i64 t.s]) hob b;have HFIN:Hid (∀ w',Mods [] w w' → RuleRes (zb7 (UInt8.ofNat op) a b) w (.returned (.tuple #[.agg #[.int .i64 t.k,.int .i64 t.s],.bool (zb7 (UInt8.ofNat op) a b).isSome])) w'):=QH fun w' hM => ⟨⟨t,rfl,htu⟩,hM⟩;obtain ⟨rr,hrr⟩:=EX ((zb7 (UInt8.ofNat op) a b).isSome);rw [hrr] at K HFIN;obtain ⟨RR,hRR⟩:=EX (RuleRes (zb7 (UInt8.ofNat op) a b) w);rw [hRR] at HFIN ⊢;have HH:=QH (AI F1 (AI F2 (AI F3 (AI F4 (AI F5 (AI F6 K))))));have HZ:=QH hz;clear F1 F2 F3 F4 F5 F6 K h1 h2 h3 h4 h5 hz hob ht htu hrr hRR ha hb;unfold tyA at HH;unfold zh;rcases hop with rfl | rfl | rfl | rfl
   ·have gEX:=QH trivial;exact yfa
   ·have gEY:=QH trivial;exact yfa
   ·have gEZ:=QH trivial;exact yfa
   ·have gE0:=QH trivial;exact yfa
 ):p:=h
theorem ydt {p:Prop} (h:p:=by
  clear hfin;go_wp2_with fail;(with_reducible refine hA.mono ?_);rintro e w6 ⟨rfl,hM6⟩;have q0:=hM6.cell y0;have q1:=hM6.cell y1;have hB:=HB5.out w6;clear hA x0 x1 y0 y1;go_wp2_with fail;(with_reducible refine hB.mono ?_);rintro e w7 ⟨rfl,hM7⟩
  first
  |clear gBr
   clear hB;go_wp2_with fail
   go_meet
   exact HFIN.out w7 (hM6.trans hM7)
  |clear gBs
   have s1:=hM7.cell q1;have hM67:=hM6.trans hM7;clear hB q0 q1 hM6 hM7;rcases hs with h1 | ⟨h1,rfl⟩ | ⟨h1,rfl,h3⟩ | ⟨h1,rfl,h3⟩
   ·go_wp2_with fail
    go_meet
    exact HFIN.out true w7 (by constructor; (intro h; cases h); (intro h; omega)) hM67
   ·go_wp2_with fail
    go_meet
    rw [decide_eq_false (show ¬ (9:Int) < (sc:Int) by omega)];exact HFIN.out false w7 (by constructor; (intro _; exact ⟨by omega,fun h => by cases h.1⟩); (intro _; rfl)) hM67
   ·go_wp2_with fail
    go_meet
    exact HFIN.out true w7 (by constructor; (intro h; cases h); (intro h; exact absurd ⟨by trivial,by omega⟩ h.2)) hM67
   ·go_wp2_with fail
    go_meet
    rw [decide_eq_false (show ¬ (9:Int) < (sc:Int) by omega)];exact HFIN.out false w7 (by constructor; (intro _; exact ⟨by omega,fun h => by have:=h.2; omega⟩); (intro _; rfl)) hM67
 ):p:=h
theorem yat {p:Prop} (h:p:=by
  clear e3;go_enter Tryz.func137, Tryz.ntmps137;go_upto_region 1 with fail;go_region_law (refine zb3 rfl 59 (.tmp 1) (.tmp 3) rfl w.heap.size #[.int .i64 4,.int .i64 0] rfl rfl 59 _ hr zk rfl (zA _ _) ?_)
  all_goals
   go_wp2_with fail;refine bodyPost_ret (zg rfl _ _ w.heap.size 59 #[.int .i64 4,.int .i64 0] (0,0) _ rfl hr4 Tryz.underlying59 rfl zk _ rfl) rfl ?_;exact ⟨rfl,hz4.drew⟩
 ):p:=h
theorem ybb {p:Prop} (h:p:=by
  go_wp2_with fail;(with_reducible refine hc1.mono ?_);rintro e w2 ⟨rfl,hM2⟩;have d0:=hM2.cell c0;clear hc1 c0 c1;go_wp2_with fail;go_ret;exact ⟨rfl,hM.trans hM2⟩
 ):p:=h
theorem ybg {p:Prop} (h:p:=by
  go_wp2_with fail;all_goals go_ret
  all_goals refine ⟨zbC ?_,hM⟩
  all_goals simp [zaN]
  all_goals first | done | omega
 ):p:=h
theorem ybt {p:Prop} (h:p:=by
  go_enter Tryz.func134, Tryz.ntmps134;go_wp2_with fail;go_ret;exact ⟨rfl,hM⟩
 ):p:=h
theorem ybF {p:Prop} (h:p:=by
  go_enter Tryz.func32, Tryz.ntmps32;go_wp2_with fail;exact bodyPost_end (results_none rfl _ _ _) rfl ⟨rfl,QM _ _,HH.out.1⟩
 ):p:=h
theorem ybQ {p:Prop} (h:p:=by
  go_wp2_with fail;(with_reducible refine hA.mono ?_);rintro e w2 ⟨rfl,hM2⟩;clear hA;go_wp2_with fail;go_ret;exact ⟨by rw [HE.out]; rfl,hM2⟩
 ):p:=h
theorem ybX {p:Prop} (h:p:=by
  exact ⟨HFIN.out,HR6.out.2.setRow (.inr (by have:=HBB.out; omega)) _⟩
 ):p:=h
def zbj (l:List UInt8):Bool:=
 if 4096 < l.length then false else
 match za4 l with
 | .good [t,_] => decide (t = ⟨2,0,l,0,0⟩)
 | _ => false
theorem zgA (w:World) (hT:Tabs w) (s:ByteArray) (hs0:s.size ≤ 9223372036854775807) :
  Calls Tryz.prog 102 #[.string s] w fun e w' => e = .returned (.bool (zbj s.data.toList)) ∧ Mods [] w w':=by
 have hA:=zkz w hT s AA;have hsl:s.data.toList.length=s.size:=rfl;go_enter Tryz.func102, Tryz.ntmps102;by_cases hbig:4096 < s.size
 ·have e:zbj s.data.toList=false:=by unfold zbj; rw [if_pos AA]
  unfold zbu at hA;simp only [if_pos hbig] at hA;have HE:=QH e;clear hbig e;exact ybQ
 ·have hn:zbj s.data.toList=(match za4 s.data.toList with | .good [t,_] => decide (t = ⟨2,0,s.data.toList,0,0⟩) | _ => false):=by unfold zbj; rw [if_neg AA]
  unfold zbu at hA;simp only [if_neg hbig] at hA
  cases hl:za4 s.data.toList with
  | bad p =>rw [hl] at hn;simp only [hl] at hA;have HE:=QH hn;clear hbig hn hl;exact ybQ
  | good ts =>
   have hne:=zhc hl;rw [hl] at hn;simp only [hl] at hA;have HE:=QH hn;clear hbig hn hl;go_wp2_with fail;(with_reducible refine hA.mono ?_);rintro e w2 ⟨t1,rfl,hO1⟩;obtain ⟨g1,cap1,rfl,hA1,hc1⟩:=hO1.at hne;have hM2:=hO1.1;clear hA hO1;by_cases h2:ts.length=2
   ·match ts,h2 with
    | [t,u],_ =>
     obtain ⟨c0,c1,c2,c3,c4⟩:=hA1.tok 0 AB;simp only [List.getElem_cons_zero] at c0 c1 c2 c3 c4;clear hA1;go_wp2_with fail;all_goals go_ret
     all_goals refine ⟨zbC ?_,hM2⟩
     all_goals rw [HE.out]
     all_goals clear c0 c1 c2 c3 c4 HE
     all_goals obtain ⟨k,p,l,n,c⟩:=t
     all_goals simp_all [ByteArray.toList_eq]
     all_goals omega
   ·have h2z:((ts.length:Int) == 2)=false:=by rw [beq_eq_false_iff_ne]; omega
    have hno:zbj s.data.toList=false:=by
     rw [HE.out]
     match ts,h2 with
     | [],_ => rfl
     | [_],_ => rfl
     | [_,_],h => exact absurd rfl h
     | _ :: _ :: _ :: _,_ => rfl
    have HNO:=QH hno;clear hno HE;go_wp2_with fail;go_ret;exact ⟨by rw [HNO.out]; rfl,hM2⟩
def zaN (k s:Int):Bool:=(k == 2 && (decide (1 ≤ s) && decide (s ≤ 9))) || ((k == 1 || k == 3 || k == 4) && s == 0)
theorem zdg (k s:Int) (w:World):Calls Tryz.prog 73 #[.agg #[.int .i64 k,.int .i64 s]] w fun e w' => e = .returned (.bool (zaN k s)) ∧ Mods [] w w':=by
 have hM:=(QM [] w).alloc (.cells #[.int .i64 k,.int .i64 s] 59);go_enter Tryz.func73, Tryz.ntmps73;by_cases h2:k=2
 ·subst h2;exact ybg
 by_cases h1:k=1
 ·subst h1;exact ybg
 by_cases h3:k=3
 ·subst h3;exact ybg
 by_cases h4:k=4
 ·subst h4;exact ybg
 go_wp2_with fail;all_goals go_ret
 all_goals refine ⟨zbC ?_,hM⟩
 all_goals simp [zaN,h1,h2,h3,h4]
def tyA (t:Ty):Value:=.agg #[.int .i64 t.k,.int .i64 t.s]
theorem zmN {t:Ty} (h:t.Right):zaN t.k t.s=true:=by
 obtain ⟨k,s⟩:=t;unfold Ty.Right at h;unfold zaN;simp only at h ⊢;rcases h with ⟨rfl,h1,h2⟩ | ⟨rfl | rfl | rfl,rfl⟩
 ·have e1:decide ((1:Int) ≤ (s:Int))=true:=decide_eq_true AA;have e2:decide ((s:Int) ≤ 9)=true:=decide_eq_true AA;rw [e1,e2]; rfl
 ·rfl
 ·rfl
 ·rfl
theorem zn9 {P:Program} (w:World) (t1 t2 ty:TypeId) (k:IntKind) (m n r:Int) (hr:(m ≤ n ∧ r=n) ∨ (n < m ∧ r=m)):(Builtin.max_ #[t1,t2] ty #[.int k m,.int k n]).run P w = .ok (.int k r) w:=by
 rcases hr with ⟨h1,rfl⟩ | ⟨h1,rfl⟩
 ·by_cases h:m=r
  ·subst h; simp [Builtin.max_,Builtin.max2]
  ·have h2:m < r:=by omega
   simp [Builtin.max_,Builtin.max2,h2]
 ·have h2:¬ r < n:=by omega
  simp [Builtin.max_,Builtin.max2,h2]
theorem zdh (t:Ty) (w:World):Calls Tryz.prog 134 #[tyA t] w fun e w' => e = .returned (.bool t.num) ∧ Mods [] w w':=by
 obtain ⟨k,s⟩:=t;have hM:=(QM [] w).alloc (.cells #[.int .i64 k,.int .i64 s] 59);unfold tyA;by_cases h1:k=1
 ·subst h1;exact ybt
 have z1:((k:Int) == 1)=false:=beq_eq_false_iff_ne.2 AA;by_cases h2:k=2
 ·subst h2;exact ybt
 have z2:((k:Int) == 2)=false:=beq_eq_false_iff_ne.2 AA;have hn:(⟨k,s⟩ : Ty).num=false:=by unfold Ty.num; rw [decide_eq_false h1,decide_eq_false h2]; rfl
 rw [hn];clear h1 h2 hn;exact ybt
theorem ze4 (t:Ty) (ht:t.Right) (w:World):Calls Tryz.prog 110 #[tyA t] w fun e w' => e = .returned (.bool t.num) ∧ Mods [] w w':=by
 have hr:=zmN ht;obtain ⟨k,s⟩:=t;have hM:=(QM [] w).alloc (.cells #[.int .i64 k,.int .i64 s] 59);have hbn:=QN w (.cells #[.int .i64 k,.int .i64 s] 59);have hc:=fun W => zdg (k:Int) (s:Int) W;simp only at hr;rw [hr] at hc;unfold tyA;simp only;obtain ⟨nb,hnb⟩:=EX ((⟨k,s⟩ : Ty).num);rw [hnb];unfold Ty.num at hnb;simp only at hnb;go_enter Tryz.func110, Tryz.ntmps110;go_upto_region 1 with fail;generalize w.alloc (.cells #[.int .i64 k,.int .i64 s] 59)=w1 at *;generalize w.heap.size=b at *;have c0:=za hbn 0;have c1:=za hbn 1;change w1.cell? _=some (.int .i64 k) at c0;change w1.cell? _=some (.int .i64 s) at c1;have hc1:=hc w1;clear hc;by_cases h1:k=1
 ·have z1:((k:Int) == 1)=true:=by rw [h1]; rfl
  obtain rfl:nb=true:=by rw [← hnb,h1]; rfl
  clear hnb h1;exact ybb
 have z1:((k:Int) == 1)=false:=beq_eq_false_iff_ne.2 AA;by_cases h2:k=2
 ·have z2:((k:Int) == 2)=true:=by rw [h2]; rfl
  obtain rfl:nb=true:=by rw [← hnb,h2]; rfl
  clear hnb h2 h1;exact ybb
 have z2:((k:Int) == 2)=false:=beq_eq_false_iff_ne.2 AA;obtain rfl:nb=false:=by rw [← hnb,decide_eq_false h1,decide_eq_false h2]; rfl
 clear h1 h2 hnb;exact ybb
def scE (a b c d:Int):List MapEntry:=[{ key:=.int .u8 43,val:=.int .i64 a,born:=0 },{ key:=.int .u8 45,val:=.int .i64 b,born:=1 },{ key:=.int .u8 42,val:=.int .i64 c,born:=2 },{ key:=.int .u8 47,val:=.int .i64 d,born:=3 }]
theorem zjI (a b c d:Int) (op:Nat) (r:Int) (h:(op=43 ∧ r=a) ∨ (op=45 ∧ r=b) ∨ (op=42 ∧ r=c) ∨ (op=47 ∧ r=d)):∃ i,Instr.findNow (.int .u8) (.int .u8 op) (scE a b c d) 0=some (some (i,.int .i64 r)):=by
 rcases h with ⟨rfl,rfl⟩ | ⟨rfl,rfl⟩ | ⟨rfl,rfl⟩ | ⟨rfl,rfl⟩
 ·exact ⟨0,rfl⟩
 ·exact ⟨1,rfl⟩
 ·exact ⟨2,rfl⟩
 ·exact ⟨3,rfl⟩
theorem zhr (a b c d:Int) (op:Nat) (r:Int) (h:(op=43 ∧ r=a) ∨ (op=45 ∧ r=b) ∨ (op=42 ∧ r=c) ∨ (op=47 ∧ r=d)) (w:World):(Instr.lookup 264 (.map (some w.heap.size)) (.int .u8 op) true).run Tryz.prog (w.alloc (.map (scE a b c d).toArray 4)) = .ok (.tuple #[.int .i64 r,.bool true]) (w.alloc (.map (scE a b c d).toArray 4)):=by obtain ⟨i,hi⟩:=zjI a b c d op r h;have:=zfD (P:= Tryz.prog) 264 5 3 (.int .u8) Tryz.underlying264 Tryz.underlying5 w (scE a b c d).toArray 4 (.int .u8 op) (.int .i64 0) (fun w => by kernel_rfl) AG (some (i,.int .i64 r)) BA;rw [this]; rfl
theorem zA (k s:Int):(#[.int .i64 k,.int .i64 s]:Array Value).all (·.oneCell')=true:=by simp [Value.oneCell']
theorem zk:(Tryz.prog.info? 59).map (·.size)=some 2:=by kernel_rfl
def arithA (a b:Ty) (op:Nat) (e:Ending):Prop:=e = .returned (match zb7 (UInt8.ofNat op) a b with | none => .tuple #[tyA tyNone,.bool false] | some t => .tuple #[tyA t,.bool true])
def zen (na nb:Bool) (sc:Nat) (d:Bool) (bs:Nat) (w5:World) (t:Value) (wx:World):Prop:=∃ g:Bool,t = .bool g ∧ (g=false ↔ (na=true ∧ nb=true ∧ sc ≤ 9 ∧ ¬ (d=true ∧ 0 < bs))) ∧ Mods [] w5 wx
theorem zk1 (w:World) (op:Nat) (hop:op=43 ∨ op=45 ∨ op=42 ∨ op=47) (a b:Ty) (ha:a.Right) (hb:b.Right) :
  Calls Tryz.prog 106 #[.int .u8 op,tyA a,tyA b] w fun e w' => arithA a b op e ∧ Mods [] w w':=by
 have hA:=fun W => ze4 a ha W;have hB:=fun W => ze4 b hb W;have has:a.s ≤ 9:=by unfold Ty.Right at ha; omega
 have hbs:b.s ≤ 9:=by unfold Ty.Right at hb; omega
 obtain ⟨sc,hsc,hcase⟩ : ∃ sc:Nat,scaleA (UInt8.ofNat op) a b=some sc ∧ ((op=43 ∧ (sc:Int)=(max a.s b.s:Nat)) ∨ (op=45 ∧ (sc:Int)=(max a.s b.s:Nat)) ∨ (op=42 ∧ (sc:Int)=(a.s:Int) + b.s) ∨ (op=47 ∧ (sc:Int)=a.s)):=by
  rcases hop with rfl | rfl | rfl | rfl
  ·exact ⟨_,rfl,.inl ⟨rfl,rfl⟩⟩
  ·exact ⟨_,rfl,.inr (.inl ⟨rfl,rfl⟩)⟩
  ·exact ⟨a.s + b.s,rfl,.inr (.inr (.inl ⟨rfl,by omega⟩))⟩
  ·exact ⟨a.s,rfl,.inr (.inr (.inr ⟨rfl,rfl⟩))⟩
 obtain ⟨d,hd⟩:=EX (((op:Int) == 47));have hd2:UInt8.ofNat op=47 ↔ d=true:=by rw [← hd];rcases hop with rfl | rfl | rfl | rfl <;> decide
 have hop2:op < 256:=by omega
 have hRR:(match zb7 (UInt8.ofNat op) a b with | none => Value.tuple #[tyA tyNone,.bool false] | some t => .tuple #[tyA t,.bool true])=if a.num=true ∧ b.num=true ∧ sc ≤ 9 ∧ ¬ (d=true ∧ 0 < b.s) then (if sc=0 then .tuple #[tyA tyInt,.bool true] else .tuple #[tyA ⟨2,sc⟩,.bool true]) else .tuple #[tyA tyNone,.bool false]:=by
  unfold zb7;rw [hsc];simp only [hd2];split
  ·rename_i h
   split at h
   ·split at h <;> cases h
   ·rename_i hn; rw [if_neg hn]
  ·rename_i t h
   split at h
   ·rename_i hy
    rw [if_pos hy];split at h
    ·rename_i h0; cases h; rw [if_pos h0]
    ·rename_i h0; cases h; rw [if_neg h0]
   ·cases h
 have hmax:=fun W => zn9 (P:= Tryz.prog) W 3 3 3 .i64 a.s b.s ((max a.s b.s:Nat):Int) AA;have hi:=fun (w:World) (es:Array MapEntry) (c:Nat) (k:Int) (v:Value) => zZ (P:= Tryz.prog) 264 5 3 (.int .u8) Tryz.underlying264 Tryz.underlying5 w es c (.int .u8 k) v AG;have hmm:=@run_makeMap Tryz.prog;have i1:=fun w => hi w #[] 0 43 (.int .i64 (max a.s b.s:Nat)) rfl;have i2:=fun w => hi w ((scE (max a.s b.s:Nat) (max a.s b.s:Nat) ((a.s:Int) + b.s) a.s).take 1).toArray 1 45 (.int .i64 (max a.s b.s:Nat)) rfl;have i3:=fun w => hi w ((scE (max a.s b.s:Nat) (max a.s b.s:Nat) ((a.s:Int) + b.s) a.s).take 2).toArray 2 42 (.int .i64 ((a.s:Int) + b.s)) rfl;have i4:=fun w => hi w ((scE (max a.s b.s:Nat) (max a.s b.s:Nat) ((a.s:Int) + b.s) a.s).take 3).toArray 3 47 (.int .i64 a.s) rfl;have hl:=fun W => zhr (max a.s b.s:Nat) (max a.s b.s:Nat) ((a.s:Int) + b.s) a.s op sc hcase W;obtain ⟨mx,hmx⟩:=EX (((max a.s b.s:Nat):Int));rw [hmx] at hmax i1 i2 i3 i4;simp only [hmx] at hl;simp [scE] at i1 i2 i3 i4 hl;have HRR:=QH (AI hRR (AI hA hB));have hsc9:sc ≤ 18:=by omega
 clear hi hRR hcase hmx hsc hd2 hop hA hB;unfold arithA;rw [HRR.out.1];obtain ⟨na,hna⟩:=EX (a.num);obtain ⟨nb,hnb⟩:=EX (b.num);rw [hna,hnb] at HRR ⊢;have HA:=QH HRR.out.2.1;have HB:=QH HRR.out.2.2;clear HRR ha hb hna hnb;obtain ⟨RV,hRV⟩:=EX ((if na=true ∧ nb=true ∧ sc ≤ 9 ∧ ¬ (d=true ∧ 0 < b.s) then (if sc=0 then Value.tuple #[tyA tyInt,.bool true] else .tuple #[tyA ⟨2,sc⟩,.bool true]) else .tuple #[tyA tyNone,.bool false]));rw [hRV];have HRV:=QH hRV;clear hRV;unfold tyA at HA HB ⊢;go_enter Tryz.func106, Tryz.ntmps106;have hM1:=(QM [] w).alloc (.cells #[.int .i64 a.k,.int .i64 a.s] 59);have hM2:=(QM [] (w.alloc (.cells #[.int .i64 a.k,.int .i64 a.s] 59))).alloc (.cells #[.int .i64 b.k,.int .i64 b.s] 59);have hM3:=(QM [] ((w.alloc (.cells #[.int .i64 a.k,.int .i64 a.s] 59)).alloc (.cells #[.int .i64 b.k,.int .i64 b.s] 59))).alloc (.cells #[.int .i64 0,.int .i64 0] 59);have r1:=hM3.heap (hM2.heap (QN w (.cells #[.int .i64 a.k,.int .i64 a.s] 59))) AB;have r2:=hM3.heap (QN (w.alloc (.cells #[.int .i64 a.k,.int .i64 a.s] 59)) (.cells #[.int .i64 b.k,.int .i64 b.s] 59)) AB;have r3:=QN ((w.alloc (.cells #[.int .i64 a.k,.int .i64 a.s] 59)).alloc (.cells #[.int .i64 b.k,.int .i64 b.s] 59)) (.cells #[.int .i64 0,.int .i64 0] 59);rw [zl] at r2 r3;rw [zl] at r3;have hMw:=(hM1.trans hM2).trans hM3;go_upto_region 1 with fail;generalize ((w.alloc (.cells #[.int .i64 a.k,.int .i64 a.s] 59)).alloc (.cells #[.int .i64 b.k,.int .i64 b.s] 59)).alloc (.cells #[.int .i64 0,.int .i64 0] 59)=w4 at *;clear hM1 hM2 hM3;obtain ⟨ab,hab⟩:=EX (w.heap.size);obtain ⟨bb,hbb⟩:=EX (ab + 1);obtain ⟨cb,hcb⟩:=EX (bb + 1);rw [hab] at r1 r2 r3;rw [hbb] at r2 r3;rw [hcb] at r3;rw [hab,hbb,hcb];have HBB:=QH (AI hab (AI hbb hcb));clear hab hbb hcb;have a0:=za r1 0;have a1:=za r1 1;have b0:=za r2 0;have b1:=za r2 1;change w4.cell? _=some (.int .i64 a.k) at a0;change w4.cell? _=some (.int .i64 a.s) at a1;change w4.cell? _=some (.int .i64 b.k) at b0;change w4.cell? _=some (.int .i64 b.s) at b1;have f1:∀ (es:Array MapEntry) (c:Nat),(w4.alloc (.map es c)).cell? ⟨ab,1,none⟩ = some (.int .i64 a.s):=fun es c => ((QM [] w4).alloc (.map es c)).cell a1;have f2:∀ (es:Array MapEntry) (c:Nat),(w4.alloc (.map es c)).cell? ⟨bb,1,none⟩ = some (.int .i64 b.s):=fun es c => ((QM [] w4).alloc (.map es c)).cell b1;go_upto_region 2 with fail;clear i1 i2 i3 i4 hmax hmm f1 f2;go_upto_region 3 with fail;clear hl;have hMm:=(QM [] w4).alloc (.map #[{ key:=.int .u8 43,val:=.int .i64 mx,born:=0 },{ key:=.int .u8 45,val:=.int .i64 mx,born:=1 },{ key:=.int .u8 42,val:=.int .i64 ((a.s:Int) + b.s),born:=2 },{ key:=.int .u8 47,val:=.int .i64 a.s,born:=3 }] 4);have x0:=hMm.cell a0;have x1:=hMm.cell a1;have y0:=hMm.cell b0;have y1:=hMm.cell b1;have r5:=hMm.heap r3;have hMw5:=hMw.trans hMm;generalize w4.alloc (.map #[{ key:=.int .u8 43,val:=.int .i64 mx,born:=0 },{ key:=.int .u8 45,val:=.int .i64 mx,born:=1 },{ key:=.int .u8 42,val:=.int .i64 ((a.s:Int) + b.s),born:=2 },{ key:=.int .u8 47,val:=.int .i64 a.s,born:=3 }] 4)=w5 at *;generalize w4.heap.size=mb at *;clear hMm a0 a1 b0 b1 r1 r2 r3 hMw;have hA:=HA.out w5;have HB5:=HB.out;go_cut [60] from 36 to 59 (fun t60 wx => zen na nb sc d b.s w5 t60 wx)
 case first =>
  cases na with
  | false =>
   have hfin:∀ wx,Mods [] w5 wx → zen false nb sc d b.s w5 (.bool true) wx:=fun wx h => ⟨true,rfl,by simp,h⟩;have HFIN:=QH hfin;clear hfin HB5;go_wp2_with fail;(with_reducible refine hA.mono ?_);rintro e w6 ⟨rfl,hM6⟩;clear hA;go_wp2_with fail
   go_meet
   exact HFIN.out w6 hM6
  | true =>
   cases nb with
   | false =>have hfin:∀ wx,Mods [] w5 wx → zen true false sc d b.s w5 (.bool true) wx:=fun wx h => ⟨true,rfl,by simp,h⟩;have HFIN:=QH hfin;have HB5:=QH HB5;have gBr:=QH trivial;exact ydt
   | true =>
    have HB5:=QH HB5;have hs:9 < sc ∨ (¬ 9 < sc ∧ d=false) ∨ (¬ 9 < sc ∧ d=true ∧ 0 < b.s) ∨ (¬ 9 < sc ∧ d=true ∧ ¬ 0 < b.s):=by cases d <;> simp <;> omega
    have hfin:∀ g wx,(g=false ↔ (sc ≤ 9 ∧ ¬ (d=true ∧ 0 < b.s))) → Mods [] w5 wx → zen true true sc d b.s w5 (.bool g) wx:=fun g wx h1 h => ⟨g,rfl,by rw [h1]; simp,h⟩;have HFIN:=QH hfin;have gBs:=QH trivial;exact ydt
 case rest =>
 obtain ⟨g,rfl,hg,hM6⟩:=hcut;generalize wc=w6 at *;have r6:=hM6.heap r5;have hMw6:=hMw5.trans hM6;have HG:=QH hg;have HR6:=QH (AI r6 hMw6);clear hg hA HB5 x0 x1 y0 y1 r5 hM6 hMw5 r6 hMw6
 cases g with
 | true =>
  have hfin:RV = .tuple #[.agg #[.int .i64 0,.int .i64 0],.bool false]:=by rw [← HRV.out,if_neg (fun h => by have:=HG.out.2 h; cases this)]; rfl
  have HFIN:=QH (congrArg Ending.returned hfin).symm;clear hfin;go_wp2_with (refine wpList_store_row rfl 59 (.tmp 6) (.tmp 61) rfl cb #[.int .i64 0,.int .i64 0] rfl rfl 59 _ HR6.out.1 zk rfl (zA 0 0) ?_);refine bodyPost_ret (zg rfl _ _ cb 59 #[.int .i64 0,.int .i64 0] (0,0) _ rfl (zi _ HR6.out.1) Tryz.underlying59 rfl zk _ rfl) rfl ?_;exact ybX
 | false =>
  have hfin:=HG.out.1 rfl;by_cases h0:sc=0
  ·have hz:((sc:Int) == 0)=true:=by rw [h0]; rfl
   have hfin:RV = .tuple #[.agg #[.int .i64 1,.int .i64 0],.bool true]:=by rw [← HRV.out,if_pos hfin,if_pos h0]; rfl
   have HFIN:=QH (congrArg Ending.returned hfin).symm;clear hfin h0;go_wp2_with (refine wpList_store_row rfl 59 (.tmp 6) (.tmp 64) rfl cb #[.int .i64 1,.int .i64 0] rfl rfl 59 _ HR6.out.1 zk rfl (zA 1 0) ?_);refine bodyPost_ret (zg rfl _ _ cb 59 #[.int .i64 1,.int .i64 0] (0,0) _ rfl (zi _ HR6.out.1) Tryz.underlying59 rfl zk _ rfl) rfl ?_;exact ybX
  ·have hz:((sc:Int) == 0)=false:=beq_eq_false_iff_ne.2 AA;have hfin:RV = .tuple #[.agg #[.int .i64 2,.int .i64 sc],.bool true]:=by
    rw [← HRV.out,if_pos hfin,if_neg h0]; rfl
   have HFIN:=QH (congrArg Ending.returned hfin).symm;clear hfin h0;go_wp2_with (refine wpList_store_row rfl 59 (.tmp 6) (.tmp 66) rfl cb #[.int .i64 2,.int .i64 sc] rfl rfl 59 _ HR6.out.1 zk rfl (zA 2 sc) ?_);refine bodyPost_ret (zg rfl _ _ cb 59 #[.int .i64 2,.int .i64 sc] (0,0) _ rfl (zi _ HR6.out.1) Tryz.underlying59 rfl zk _ rfl) rfl ?_;exact ybX
theorem zb3 {P:Program} {ops:Array Oper} {o:Oper} {a:Act} {w:World} {K:Act → World → Prop} {Q:Exit → Act → World → Prop} {E:Prop} (hgd:o.guard=none) (ty:TypeId) (x y:Operand) (ho:o.op = .store ty x y)
  (g:Nat) (cells:Array Value) (hx:a.eval x = .pointer (some ⟨g,0,none⟩)) (hy:a.eval y = .agg cells)
  (t:TypeId) (old:Array Value) (hg:w.heap[g]? = some (.cells old t (0,0))) (hi:(P.info? ty).map (·.size)=some cells.size)
  (hold:old.size=cells.size) (h1:cells.all (·.oneCell')=true) (h:K (a.put o.dst undef) (w.setRow g cells)) :
  if Region.wanted o (yielded ops a.tmps)=true then Oper.wp P o a w K Q else E:=by
 rw [if_pos (by simp [Region.wanted,hgd])];exact wp_store_row ty x y ho g cells hx hy t old hg hi hold h1 h
def CkVars (w:World):Prop:=(w.cell? ⟨0, 0,none⟩ = some (.int .i64 4) ∧ w.cell? ⟨0, 1,none⟩ = some (.int .i64 0)) ∧ (w.cell? ⟨2, 0,none⟩ = some (.int .i64 1) ∧ w.cell? ⟨2, 1,none⟩ = some (.int .i64 0))
theorem CkVars.later {w w':World} (h:CkVars w) (hM:Mods [] w w'):CkVars w':=⟨⟨hM.cell h.1.1,hM.cell h.1.2⟩,hM.cell h.2.1,hM.cell h.2.2⟩
def TwoT (w:World) (tb:Nat) (a b:Ty):Prop:=∃ sb,w.cell? ⟨tb,0,none⟩ = some (.slice (some ⟨sb,0,none⟩) 2 2) ∧ w.cell? ⟨sb,0,none⟩ = some (.int .i64 a.k) ∧ w.cell? ⟨sb,1,none⟩ = some (.int .i64 a.s) ∧ w.cell? ⟨sb,2,none⟩ = some (.int .i64 b.k) ∧ w.cell? ⟨sb,3,none⟩ = some (.int .i64 b.s)
theorem TwoT.later {w w':World} {tb:Nat} {a b:Ty} (h:TwoT w tb a b) (hM:Mods [] w w'):TwoT w' tb a b:=by obtain ⟨sb,h1,h2,h3,h4,h5⟩:=h;exact ⟨sb,hM.cell h1,hM.cell h2,hM.cell h3,hM.cell h4,hM.cell h5⟩
theorem ziT (w:World) (hV:CkVars w):Calls Tryz.prog 132 #[] w fun e w' => e = .returned (.tuple #[tyA tyInt,.bool true]) ∧ Mods [] w w':=by have gE1:=QH trivial;exact yfb
theorem zhs (w:World) (hV:CkVars w):Calls Tryz.prog 136 #[] w fun e w' => e = .returned (.tuple #[tyA tyBool,.bool true]) ∧ Mods [] w w':=by have gE2:=QH trivial;exact yfb
theorem zht (w:World) (tb:Nat) (a b:Ty) (h:TwoT w tb a b):Calls Tryz.prog 135 #[zh tb] w fun e w' => e = .returned (.tuple #[tyA a,.bool true]) ∧ Mods [] w w':=by have gE3:=QH trivial;exact yfb
theorem ziU (w:World) (tb:Nat) (a b:Ty) (h:TwoT w tb a b):Calls Tryz.prog 133 #[zh tb] w fun e w' => e = .returned (.tuple #[tyA a,.bool a.num]) ∧ Mods [] w w':=by
 have hz:=((QM [] w).alloc (.cells #[.int .i64 0,.int .i64 0] 59)).drew;have hr:=QN w (.cells #[.int .i64 0,.int .i64 0] 59);obtain ⟨sb,h1,h2,h3,-,-⟩:=h.later hz;have hc:=fun W => zdh a W;have HSZ:Hid (w.heap.size=w.heap.size):=QH rfl;unfold zh;unfold tyA at *;generalize a.num=nb at *;go_enter Tryz.func133, Tryz.ntmps133;go_upto_region 1 with fail;go_region_law (go_simp; go_at_call 134; (with_reducible refine (hc _).mono ?_); rintro e w2 ⟨rfl,hM2⟩; have d1:=hM2.cell h1; have d2:=hM2.cell h2; have d3:=hM2.cell h3; have hr2:=hM2.heap (show ((w.alloc (.cells #[.int .i64 0,.int .i64 0] 59)).drew).heap[w.heap.size]? = _ from hr) AB; have y0:w2.cell? ⟨w.heap.size,0,none⟩ = some (.int .i64 0):=za hr2 0; have y1:w2.cell? ⟨w.heap.size,1,none⟩ = some (.int .i64 0):=za hr2 1; have g0:=zc hr2 0; have g1:=zc hr2 1)
 all_goals
  have hr4:=zb (zb hr2 0 (.int .i64 a.k)) 1 (.int .i64 a.s);go_wp2_with fail;refine bodyPost_ret (zg rfl _ _ w.heap.size 59 #[.int .i64 a.k,.int .i64 a.s] (0,0) _ rfl hr4 Tryz.underlying59 rfl zk _ rfl) rfl ?_;exact ⟨rfl,((hz.trans hM2).setCell (.inr (LR _)) _).setCell (.inr (LR _)) _⟩
theorem zgB (a:Ty):((a.k:Int)=4 ∧ a.s=0 ∧ a=tyBool) ∨ ((a.k:Int)=4 ∧ ¬ a.s=0 ∧ a ≠ tyBool) ∨ (¬ (a.k:Int)=4 ∧ a ≠ tyBool):=by obtain ⟨k,s⟩:=a;unfold tyBool;simp only [Ty.mk.injEq,ne_eq];omega
theorem zmO (w:World) (hV:CkVars w) (tb:Nat) (a b:Ty) (h:TwoT w tb a b):Calls Tryz.prog 137 #[zh tb] w fun e w' => e = .returned (.tuple #[tyA tyBool,.bool (decide (a=tyBool))]) ∧ Mods [] w w':=by
 have hz:=((QM [] w).alloc (.cells #[.int .i64 0,.int .i64 0] 59)).drew;have hr:=QN w (.cells #[.int .i64 0,.int .i64 0] 59);obtain ⟨sb,h1,h2,h3,-,-⟩:=h.later hz;obtain ⟨⟨v0,v1⟩,-⟩:=hV.later hz;have hcase:=zgB a;have hz4:=(QM [] w).alloc (.cells #[.int .i64 4,.int .i64 0] 59);have hr4:((w.alloc (.cells #[.int .i64 4,.int .i64 0] 59)).drew).heap[w.heap.size]? = _:=QN w _;have s0:=hz4.cell hV.1.1;have s1:=hz4.cell hV.1.2;obtain ⟨sb',q1,q2,q3,-,-⟩:=h.later hz4;obtain rfl:sb=sb':=by have e1:=hz.cell (h.choose_spec.1);have e2:=hz4.cell (h.choose_spec.1);rw [h1] at e1;rw [q1] at e2;simp only [Option.some.injEq,Value.slice.injEq,Addr.mk.injEq,and_true] at e1 e2;exact e1.trans e2.symm
 unfold zh;rcases hcase with ⟨e1,e2,e3⟩ | ⟨e1,e2,e3⟩ | ⟨e1,e3⟩
 ·rw [decide_eq_true e3];exact yat
 ·rw [decide_eq_false e3];exact yat
 ·rw [decide_eq_false e3];exact yat
open Go.ChangeShapes Go.WideShapes Go.ChangeAt Go.RowKit
theorem zcu {P:Program} {W:World} {name:String} {a b:Int} {rest:List (String × DataW Unit)} {g:Nat} {t:TypeId} {f0 f1:Field} (hg:P.globalNamed name=some g) (hty:(P.globals[g]?).map (·.type)=some t) (ht:P.underlying t=some (.struct #[f0,f1]))
  (h0:P.underlying f0.type=some (.int .i64)) (h1:P.underlying f1.type=some (.int .i64)) (o0:f0.offset=0) (o1:f1.offset=1) (c0:P.cellsOf f0.type=1) (c1:P.cellsOf f1.type=1) (ct:P.cellsOf t=2)
  (h:laidMet P ((name,.agg [.lit (.int .i64 a),.lit (.int .i64 b)]) :: rest) W):W.cell? ⟨g,0,none⟩ = some (.int .i64 a) ∧ W.cell? ⟨g,1,none⟩ = some (.int .i64 b):=by
 obtain ⟨ps,⟨g',t',cs,fuel,p,q,hg',ht',hvar,hd,_,_⟩,_⟩:=h;obtain rfl:=Option.some.inj (hg.symm.trans hg');obtain rfl:=Option.some.inj (hty.symm.trans ht');obtain ⟨y0,y1,n,hx,hl,k0,k1⟩:=trod_struct2 ht hd;rw [o0,c0] at k0;rw [o1,c1] at k1;rw [ct] at hl;obtain ⟨z0,e0,hz0,-⟩:=DataW.trod_int h0 k0;obtain ⟨z1,e1,hz1,-⟩:=DataW.trod_int h1 k1;have hx1:=congrArg Prod.fst hx;simp only [DataW.agg.injEq,List.cons.injEq,and_true] at hx1;rw [hz0,hz1] at hx1;simp only [DataW.lit.injEq,Lit.int.injEq,true_and] at hx1;obtain ⟨rfl,rfl⟩:=hx1;have hc:=World.var?_cell hg hvar;have g0:=hc 0;have g1:=hc 1;obtain ⟨l⟩:=cs;have x0:l[0]? = some (.int .i64 a):=by have:=congrArg (·[0]?) e0;simpa [List.getElem?_take,List.getElem?_drop] using this
 have x1:l[1]? = some (.int .i64 b):=by have:=congrArg (·[0]?) e1;simpa [List.getElem?_take,List.getElem?_drop] using this
 exact ⟨g0.trans (by simpa using x0),g1.trans (by simpa using x1)⟩
theorem zh3 {W:World} (hL:laidMetH Tryz.prog laidL W):Tabs2 W ∧ CkVars W:=by
 refine ⟨zmM hL,?_⟩;rw [MakeChecks.laidMetH_plain _ _ _ AC] at hL;have h8:=hL.tail.tail.tail.tail.tail.tail.tail.tail;have h9:=h8.tail
 exact ⟨zcu (g:= 0) (t:= 59) AC AC Tryz.underlying59 AC AC rfl rfl AC AC AC h9,
  zcu (g:= 2) (t:= 59) AC AC Tryz.underlying59 AC AC rfl rfl AC AC AC h8⟩
def zaX (w:World) (sb:Nat) (cv:Value) (mb:Nat) (d pos e:Nat):Prop:=
 w.heap[sb]? = some (.cells #[cv,.map (some mb),.int .i64 d,.int .i64 pos,.int .i64 e] 101 (0,0))
def zaa (b:Bool) (k p:Nat) (pos e:Nat):Nat × Nat:=if b=true ∧ e=0 then (p,k) else (pos,e)
theorem zF (w:World) (sb:Nat) (cv:Value) (mb:Nat) (d pos e:Nat) (h:zaX w sb cv mb d pos e) (b:Bool) (k p:Nat) :
  Calls Tryz.prog 32 #[zh sb,.bool b,.int .i64 k,.int .i64 p] w fun r w' => r = .returned (.tuple #[]) ∧ Mods [sb] w w' ∧ zaX w' sb cv mb d (zaa b k p pos e).1 (zaa b k p pos e).2:=by
 have c4:=za h 4;have c3:=za h 3;have g4:=zc h 4;have g3:=zc h 3;change w.cell? _=some (.int .i64 e) at c4;change w.cell? _=some (.int .i64 pos) at c3;have hM3:Mods [sb] w ((w.setCell ⟨sb,4,none⟩ (.int .i64 k)).setCell ⟨sb,3,none⟩ (.int .i64 p)):=((QM _ _).setCell (.inl AB) _).setCell (.inl AB) _;have hb3:=zb (zb h 4 (.int .i64 k)) 3 (.int .i64 p);have HH:=QH (AI h (AI hM3 hb3));unfold zh;clear h hM3 hb3
 cases b with
 | false =>
  have hf:zaa false k p pos e=(pos,e):=by unfold zaa; rw [if_neg (fun h => by cases h.1)]
  rw [hf];clear hf;exact ybF
 | true =>
  by_cases he:e=0
  ·have hf:zaa true k p pos e=(p,k):=by unfold zaa; rw [if_pos ⟨rfl,he⟩]
   rw [hf];have z:((e:Int) == 0)=true:=by rw [beq_iff_eq]; omega
   clear hf he;go_enter Tryz.func32, Tryz.ntmps32;go_wp2_with fail;go_end0;exact ⟨rfl,HH.out.2.1,HH.out.2.2⟩
  ·have hf:zaa true k p pos e=(pos,e):=by unfold zaa; rw [if_neg (fun h => he h.2)]
   rw [hf];have z:((e:Int) == 0)=false:=by rw [beq_eq_false_iff_ne]; omega
   clear hf he;exact ybF
def aggBytes:List ByteArray:=[⟨#[99,111,117,110,116,97,108,108]⟩,⟨#[99,111,117,110,116]⟩,⟨#[115,117,109]⟩,⟨#[109,105,110]⟩,⟨#[109,97,120]⟩]
theorem zk2 (op:Bs):Lib.containsS aggBytes ⟨op.toArray⟩ = aggOpB op:=by
 rw [Bool.eq_iff_iff,Lib.containsS_iff];have h:aggBytes=aggOps.map fun l => ⟨l.toArray⟩:=rfl;unfold aggOpB;rw [h,List.contains_iff_mem,List.mem_map];constructor
 ·rintro ⟨l,hl,he⟩;obtain rfl:l=op:=by simpa using he
  exact hl
 ·intro hm;exact ⟨op,hm,rfl⟩
theorem zan (w:World) (op:Bs):Calls Tryz.prog 70 #[.string ⟨op.toArray⟩] w fun e w' => e = .returned (.bool (aggOpB op)) ∧ Mods [] w w':=by
 have hz:=(QM [] w).alloc (.cells #[.string ⟨#[99,111,117,110,116,97,108,108]⟩,.string ⟨#[99,111,117,110,116]⟩,.string ⟨#[115,117,109]⟩,.string ⟨#[109,105,110]⟩,.string ⟨#[109,97,120]⟩] 9);have hb:=QN w (.cells #[.string ⟨#[99,111,117,110,116,97,108,108]⟩,.string ⟨#[99,111,117,110,116]⟩,.string ⟨#[115,117,109]⟩,.string ⟨#[109,105,110]⟩,.string ⟨#[109,97,120]⟩] 9)
 have hc:= Tryz.slices_Contains_string w.heap.size 0 5 5 aggBytes ⟨op.toArray⟩ (w.alloc (.cells #[.string ⟨#[99,111,117,110,116,97,108,108]⟩,.string ⟨#[99,111,117,110,116]⟩,.string ⟨#[115,117,109]⟩,.string ⟨#[109,105,110]⟩,.string ⟨#[109,97,120]⟩] 9)) AD AD (fun j hj => by
  rw [Nat.zero_add,za hb j];have h5:j=0 ∨ j=1 ∨ j=2 ∨ j=3 ∨ j=4:=by simp [aggBytes] at hj; omega
  rcases h5 with rfl | rfl | rfl | rfl | rfl <;> rfl)
 have e5:aggBytes.take 5=aggBytes:=rfl;rw [e5,zk2] at hc;generalize (⟨op.toArray⟩ : ByteArray)=S at *;go_enter Tryz.func70, Tryz.ntmps70;go_wp2_with fail;(with_reducible refine hc.mono ?_);rintro e w2 ⟨rfl,rfl⟩;go_wp2_with fail;go_ret;exact ⟨rfl,hz⟩
open Go.Maps
theorem zmP:laidOutB Tryz.prog=true:=by kernel_rfl
theorem zk3:WideMaps.KeyLaw Tryz.prog 211:=deep_law_laid zmP (m:=3) AD (of_decide_eq_true AC) AC AC
theorem place_keyed:Keyed Tryz.prog 211:=Keyed.of_law zk3
def zeG (t:Int) (s:ByteArray):Value:=.agg #[.int .i64 t,.string s]
theorem zk4 (t:Int) (ht : -9223372036854775808 ≤ t ∧ t ≤ 9223372036854775807) (s:ByteArray) (hs:s.size ≤ 9223372036854775807):∃ l,keyOf Tryz.prog 211 (zeG t s)=some l:=by
 have h1 : Tryz.prog.keyType 211 = true:=by kernel_rfl
 have h2:Value.formed Tryz.prog 211 (zeG t s)=true:=by kernel_rfl
 have hi:(Lit.int .i64 t).wf=true:=by simp [Lit.wf]; exact ⟨ht.1,ht.2⟩
 have hc:(zeG t s).cells.toList=[.int .i64 t,.string s]:=by simp [zeG,Value.cells]
 have hs2:s.size ≤ maxLen:=by unfold maxLen; omega
 have k1 : Tryz.prog.cellsOf 211 = 2:=by kernel_rfl
 have k2 : Tryz.prog.cellsOf 3 = 1:=by kernel_rfl
 have gAU:=QH trivial;exact ydf
open Go.Maps
theorem zak {P:Program} {T kt et:TypeId} (K:Keyed P kt) (hT:P.underlying T=some (.map kt et)) {w:World} {mb:Nat} {es:Array MapEntry} {clock:Nat} (hb:w.heap[mb]? = some (.map es clock)) {k:Value} {l:Lit} (hk:keyOf P kt k=some l) {z:Value}
  (hz:∀ w,(zeroValue et).run P w = .ok z w) (r:Option (Nat × Value)) (hf:(Instr.findKey kt k es.toList).run P w = .ok r w) :
  (Instr.lookup T (.map (some mb)) k false).run P w = .ok ((r.map (·.2)).getD z) w:=by
 have hc:(Instr.checkKey es.isEmpty 10000 kt k).run P w = .ok () w:=K.check w _ hk;cases r <;> simp [Instr.lookup,run_underlying hT,MapKept.run_getObj_map hb,hc,hf,hz,Result.andThen]
theorem zeg {P:Program} {T kt et:TypeId} (K:Keyed P kt) (hT:P.underlying T=some (.map kt et)) {w:World} {mb:Nat} {es:Array MapEntry} {clock:Nat} (hb:w.heap[mb]? = some (.map es clock)) {k:Value} {l:Lit} (hk:keyOf P kt k=some l) {z:Value}
  (hz:∀ w,(zeroValue et).run P w = .ok z w) (hf:(Instr.findKey kt k es.toList).run P w = .ok none w) :
  (Instr.mapEntry T (.map (some mb)) k).run P w = .ok (.tuple #[z,.int .i64 clock]) (setHeap w mb (.map (es.push { key:=k,val:=z,born:=clock }) (clock + 1))):=by
 have hc:(Instr.checkKey false 10000 kt k).run P w = .ok () w:=K.check w _ hk;simp [Instr.mapEntry,run_underlying hT,MapKept.run_getObj_map hb,hc,hf,hz,MapKept.run_setObj_map _ hb,Result.andThen];exact ⟨rfl,rfl⟩
theorem zeh {P:Program} {T kt et:TypeId} (K:Keyed P kt) (hT:P.underlying T=some (.map kt et)) {w:World} {mb:Nat} {es:Array MapEntry} {clock:Nat} (hb:w.heap[mb]? = some (.map es clock)) {k:Value} {l:Lit} (hk:keyOf P kt k=some l)
  {j:Nat} {e:MapEntry} (hf:(Instr.findKey kt k es.toList).run P w = .ok (some (j,e.val)) w) (he:es[j]? = some e) (hek:e.key=k) :
  (Instr.mapEntry T (.map (some mb)) k).run P w = .ok (.tuple #[e.val,.int .i64 e.born]) (setHeap w mb (.map (es.modify j fun e => { e with key:=k }) clock)):=by
 have hc:(Instr.checkKey false 10000 kt k).run P w = .ok () w:=K.check w _ hk;have hs:(Instr.keyThatStays k k).run P w = .ok k w:=K.stays w hk;simp [Instr.mapEntry,run_underlying hT,MapKept.run_getObj_map hb,hc,hf,he,hek,hs,MapKept.run_setObj_map _ hb,Result.andThen];exact ⟨rfl,rfl⟩
theorem zcc {P:Program} (T:TypeId) {w:World} {mb:Nat} {es:Array MapEntry} {clock:Nat} (hb:w.heap[mb]? = some (.map es clock)) (b:Int) (v:Value) {i:Nat} (hi:es.findIdx? (fun e => (e.born:Int) == b)=some i) :
  (Instr.entryStore T (.map (some mb)) (.int .i64 b) v).run P w = .ok () (setHeap w mb (.map (es.modify i fun e => { e with val:=v }) clock)):=by
 have h1:(asIntOf (.int .i64 b)).run P w = .ok (.i64,b) w:=rfl;simp [Instr.entryStore,MapKept.run_getObj_map hb,asInt,h1,hi,MapKept.run_setObj_map _ hb,Result.andThen];rfl
end Go.Proofs.YtcabeljiobiojaaGreatDoor
