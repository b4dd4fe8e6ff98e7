/-
  The rules by which check types operators, walked: the closures of check.typed. No condition but that Go's own variables hold what they were laid with.
-/
import Derived.Test.YtebljciefhfgbaaGreatDoorQ15
import Derived.Deep.RegionLaw
import Derived.Test.YtebljciefhfgbaaGreatDoorQ14
set_option linter.unusedVariables false
set_option maxRecDepth 100000
set_option maxHeartbeats 4000000
namespace Go.Proofs.YtebljciefhfgbaaGreatDoor
open Go.RowKit
theorem yfb {p:Prop} (h:p:=by
  have hz:=(QM [] w).alloc (.cells #[.int .i64 0,.int .i64 0] 62);have hr:=QN w (.cells #[.int .i64 0,.int .i64 0] 62)
  first
  |clear gE1
   obtain ⟨-,v0,v1⟩:=hV.later hz;go_enter Tryz.func134, Tryz.ntmps134;go_wp2_with (refine wpList_store_row rfl 62 (.tmp 0) (.tmp 2) rfl w.heap.size #[.int .i64 1,.int .i64 0] rfl rfl 62 _ hr zk rfl (zA 1 0) ?_);refine bodyPost_ret (zg rfl _ _ w.heap.size 62 #[.int .i64 1,.int .i64 0] (0,0) _ rfl (zi _ hr) Tryz.underlying62 rfl zk _ rfl) rfl ?_;exact ⟨rfl,hz.setRow (.inr (LR _)) _⟩
  |clear gE2
   obtain ⟨⟨v0,v1⟩,-⟩:=hV.later hz;go_enter Tryz.func138, Tryz.ntmps138;go_wp2_with (refine wpList_store_row rfl 62 (.tmp 0) (.tmp 2) rfl w.heap.size #[.int .i64 4,.int .i64 0] rfl rfl 62 _ hr zk rfl (zA 4 0) ?_);refine bodyPost_ret (zg rfl _ _ w.heap.size 62 #[.int .i64 4,.int .i64 0] (0,0) _ rfl (zi _ hr) Tryz.underlying62 rfl zk _ rfl) rfl ?_;exact ⟨rfl,hz.setRow (.inr (LR _)) _⟩
  |clear gE3
   obtain ⟨sb,h1,h2,h3,-,-⟩:=h.later hz;unfold zh;go_enter Tryz.func137, Tryz.ntmps137;go_wp2_with (refine wpList_store_row rfl 62 (.tmp 1) (.tmp 5) rfl w.heap.size #[.int .i64 a.k,.int .i64 a.s] rfl rfl 62 _ hr zk rfl (zA _ _) ?_);refine bodyPost_ret (zg rfl _ _ w.heap.size 62 #[.int .i64 a.k,.int .i64 a.s] (0,0) _ rfl (zi _ hr) Tryz.underlying62 rfl zk _ rfl) rfl ?_;exact ⟨rfl,hz.setRow (.inr (LR _)) _⟩
  |clear gE4
   obtain ⟨sb,h1,h2,h3,h4,h5⟩:=h;have F1:=fun b => zbk (o:=.cells #[.int .i64 0,.int .i64 0] 62) (cells:=#[.int .i64 4,.int .i64 0]) h1 b;have F2:=fun b => zbk (o:=.cells #[.int .i64 0,.int .i64 0] 62) (cells:=#[.int .i64 4,.int .i64 0]) h2 b;have F3:=fun b => zbk (o:=.cells #[.int .i64 0,.int .i64 0] 62) (cells:=#[.int .i64 4,.int .i64 0]) h3 b;have F4:=fun b => zbk (o:=.cells #[.int .i64 0,.int .i64 0] 62) (cells:=#[.int .i64 4,.int .i64 0]) h4 b;have F5:=fun b => zbk (o:=.cells #[.int .i64 0,.int .i64 0] 62) (cells:=#[.int .i64 4,.int .i64 0]) h5 b;have G0:=fun b => zbk (o:=.cells #[.int .i64 0,.int .i64 0] 62) (cells:=#[.int .i64 4,.int .i64 0]) hV.1.1 b;have G1:=fun b => zbk (o:=.cells #[.int .i64 0,.int .i64 0] 62) (cells:=#[.int .i64 4,.int .i64 0]) hV.1.2 b;have HH:=QH (AI F1 (AI F2 (AI F3 (AI F4 (AI F5 (AI G0 G1))))));have HZ:=QH hz;clear F1 F2 F3 F4 F5 G0 G1 h1 h2 h3 h4 h5 hV hz;have ca:=zgB a;have cb:=zgB b;unfold zh;rcases ca with ⟨a1,a2,a3⟩ | ⟨a1,a2,a3⟩ | ⟨a1,a3⟩
   ·rcases cb with ⟨b1,b2,b3⟩ | ⟨b1,b2,b3⟩ | ⟨b1,b3⟩
    ·rw [decide_eq_true a3,decide_eq_true b3];exact yad
    ·rw [decide_eq_true a3,decide_eq_false b3];exact yad
    ·rw [decide_eq_true a3,decide_eq_false b3];exact yad
   ·exact ycA
   ·exact ycA
  |clear gE5
   obtain ⟨t,ht,htu⟩:=zia (zb7 (UInt8.ofNat op) a b);obtain ⟨sb,h1,h2,h3,h4,h5⟩:=h;have K:=fun bb (k:zay (zdL (w.alloc (.cells #[.int .i64 0,.int .i64 0] 62)) w.heap.size #[.int .i64 t.k,.int .i64 t.s] bb)) => (zk1 k.val op hop a b ha hb).mono fun e w' h => (show e = .returned (.tuple #[tyA t,.bool (zb7 (UInt8.ofNat op) a b).isSome]) ∧ ∃ k':zay (zdL (w.alloc (.cells #[.int .i64 0,.int .i64 0] 62)) w.heap.size #[.int .i64 t.k,.int .i64 t.s] bb),w'=k'.val from ⟨by rw [← ht]; exact h.1,⟨w',k.mods.trans h.2⟩,rfl⟩);have F1:=fun b => zbk (o:=.cells #[.int .i64 0,.int .i64 0] 62) (cells:=#[.int .i64 t.k,.int .i64 t.s]) h1 b;have F2:=fun b => zbk (o:=.cells #[.int .i64 0,.int .i64 0] 62) (cells:=#[.int .i64 t.k,.int .i64 t.s]) h2 b;have F3:=fun b => zbk (o:=.cells #[.int .i64 0,.int .i64 0] 62) (cells:=#[.int .i64 t.k,.int .i64 t.s]) h3 b;have F4:=fun b => zbk (o:=.cells #[.int .i64 0,.int .i64 0] 62) (cells:=#[.int .i64 t.k,.int .i64 t.s]) h4 b;have F5:=fun b => zbk (o:=.cells #[.int .i64 0,.int .i64 0] 62) (cells:=#[.int .i64 t.k,.int .i64 t.s]) h5 b;have F6:=fun b => zbk (o:=.cells #[.int .i64 0,.int .i64 0] 62) (cells:=#[.int .i64 t.k,.int .i64 t.s]) hob b;have HFIN:Hid (∀ w',Mods [] w w' → RuleRes (zb7 (UInt8.ofNat op) a b) w (.returned (.tuple #[.agg #[.int .i64 t.k,.int .i64 t.s],.bool (zb7 (UInt8.ofNat op) a b).isSome])) w'):=QH fun w' hM => ⟨⟨t,rfl,htu⟩,hM⟩;obtain ⟨rr,hrr⟩:=EX ((zb7 (UInt8.ofNat op) a b).isSome);rw [hrr] at K HFIN;obtain ⟨RR,hRR⟩:=EX (RuleRes (zb7 (UInt8.ofNat op) a b) w);rw [hRR] at HFIN ⊢;have HH:=QH (AI F1 (AI F2 (AI F3 (AI F4 (AI F5 (AI F6 K))))));have HZ:=QH hz;clear F1 F2 F3 F4 F5 F6 K h1 h2 h3 h4 h5 hz hob ht htu hrr hRR ha hb;unfold tyA at HH;unfold zh;rcases hop with rfl | rfl | rfl | rfl
   ·have gEX:=QH trivial;exact yfa
   ·have gEY:=QH trivial;exact yfa
   ·have gEZ:=QH trivial;exact yfa
   ·have gE0:=QH trivial;exact yfa
 ):p:=h
theorem ydq {p:Prop} (h:p:=by
  unfold zh;go_enter Tryz.func31, Tryz.ntmps31;go_upto_region 1 with fail;go_quiet (fail);clear L0 s1 x2 x3;have hS1:zaX (w.drewN nq) sb cv mb d pos e:=HQ.out.2;have y1:(w.drewN nq).cell? ⟨xb,1,none⟩ = some (.int .i64 h.pos):=x1
  first
  |clear gBl
   have hM1:Mods [sb] w (w.drewN nq):=(QM _ _).drewN nq;generalize w.drewN nq=w1 at *;have f1:=zF w1 sb cv mb d pos e hS1 true 13 h.pos;change Calls _ _ #[.pointer (some ⟨sb,0,none⟩),.bool true,.int .i64 13,.int .i64 h.pos] _ _ at f1;clear hS1 x1;go_wp2_with fail;(with_reducible refine f1.mono ?_);rintro r w2 ⟨rfl,hM2,hS2⟩;have z1:=hM2.cell y1 AW;have f2:=zF w2 sb cv mb d _ _ hS2 false 4 h.pos;rw [zaw] at f2;change Calls _ _ #[.pointer (some ⟨sb,0,none⟩),.bool false,.int .i64 4,.int .i64 h.pos] _ _ at f2;clear f1 y1;go_wp2_with fail;(with_reducible refine f2.mono ?_);rintro r w3 ⟨rfl,hM3,hS3⟩;have hM4:=(hM1.trans hM2).trans hM3;clear f2 hS2 z1;have hfe:zaa true 13 h.pos pos e=zai (zbF env h) pos e:=by
    rw [HQ.out.1]; unfold zaa zai;by_cases he:e=0
    ·rw [if_pos ⟨rfl,he⟩,if_neg AA]
    ·rw [if_neg (fun h => he h.2),if_pos he]
   have c4:=za hS3 4;change w3.cell? _=some (.int .i64 ((zaa true 13 h.pos pos e).2:Nat)) at c4;have hnz:(zaa true 13 h.pos pos e).2 ≠ 0:=by
    unfold zaa;by_cases he:e=0
    ·rw [if_pos ⟨rfl,he⟩]; show (13:Nat) ≠ 0; decide
    ·rw [if_neg (fun h => he h.2)]; exact he
   have hfin:PP (.returned (.int .i64 0)) w3:=by
    rw [← HPP.out];refine ⟨?_,hM4,by rw [← hfe]; exact hS3⟩;have:colK env h e=0:=by unfold colK; rw [HQ.out.1]; split <;> rfl
    rw [this]; rfl
   have HFIN:=QH hfin;obtain ⟨q,hq⟩:=EX ((zaa true 13 h.pos pos e).2);rw [hq] at c4 hnz;have z0:((q:Int) != 0)=true:=bne_iff_ne.2 AA;clear hfin hfe hS3 hq hnz;go_wp2_with fail;exact HFIN.out
  |clear gBm
   have b1:(w.drewN nq).cell? ⟨b,0,none⟩ = some (.int .i64 (i:Nat)):=hci;have hM1:Mods [sb] w (w.drewN nq):=(QM _ _).drewN nq;generalize w.drewN nq=w1 at *;have f1:=zF w1 sb cv mb d pos e hS1 false 13 h.pos;rw [zaw] at f1;change Calls _ _ #[.pointer (some ⟨sb,0,none⟩),.bool false,.int .i64 13,.int .i64 h.pos] _ _ at f1;clear hS1 x1 hci;go_wp2_with fail;(with_reducible refine f1.mono ?_);rintro r w2 ⟨rfl,hM2,hS2⟩;have z1:=hM2.cell y1 AW;have b2:=hM2.cell b1 (by simpa using hbs);have f2:=zF w2 sb cv mb d _ _ hS2 false 4 h.pos;rw [zaw] at f2;change Calls _ _ #[.pointer (some ⟨sb,0,none⟩),.bool false,.int .i64 4,.int .i64 h.pos] _ _ at f2;clear f1 y1 b1;go_wp2_with fail;(with_reducible refine f2.mono ?_);rintro r w3 ⟨rfl,hM3,hS3⟩;have b3:=hM3.cell b2 (by simpa using hbs);have hM4:=(hM1.trans hM2).trans hM3;clear f2 hS2 z1 b2;have hce:zai (zbF env h) pos e=(pos,e):=by rw [HQ.out.1]; unfold zai;split <;> rfl
   have c4:=za hS3 4;change w3.cell? _=some (.int .i64 (e:Nat)) at c4;by_cases he:e=0
   ·have hfin:PP (.returned (.int .i64 i)) w3:=by
     rw [← HPP.out];refine ⟨?_,hM4,by rw [hce]; exact hS3⟩;have:colK env h e=i:=by unfold colK; rw [HQ.out.1,if_neg AA]
     rw [this]
    have HFIN:=QH hfin;have z0:((e:Int) != 0)=false:=bne_eq_false_iff_eq.2 AA;clear hfin hce hS3 he;go_wp2_with fail;exact HFIN.out
   ·have hfin:PP (.returned (.int .i64 0)) w3:=by
     rw [← HPP.out];refine ⟨?_,hM4,by rw [hce]; exact hS3⟩;have:colK env h e=0:=by unfold colK; rw [if_pos he]
     rw [this]; rfl
    have HFIN:=QH hfin;have z0:((e:Int) != 0)=true:=bne_iff_ne.2 AA;clear hfin hce hS3 he;go_wp2_with fail;exact HFIN.out
 ):p:=h
theorem yat {p:Prop} (h:p:=by
  clear e3;go_enter Tryz.func139, Tryz.ntmps139;go_upto_region 1 with fail;go_region_law (refine zb3 rfl 62 (.tmp 1) (.tmp 3) rfl w.heap.size #[.int .i64 4,.int .i64 0] rfl rfl 62 _ hr zk rfl (zA _ _) ?_)
  all_goals
   go_wp2_with fail;refine bodyPost_ret (zg rfl _ _ w.heap.size 62 #[.int .i64 4,.int .i64 0] (0,0) _ rfl hr4 Tryz.underlying62 rfl zk _ rfl) rfl ?_;exact ⟨rfl,hz4.drew⟩
 ):p:=h
theorem ybm {p:Prop} (h:p:=by
  obtain ⟨es,c,h1,h2,h3,h4⟩:=h;have:=zj h1;refine ⟨es,c,h1,by simp; exact ⟨by omega,h2⟩,fun e he => ?_,h4⟩;obtain ⟨t,n,i,b,cap,q1,q2,q3,q4,q5,q6,q7,q8⟩:=h3 e he;have:=zD q7;change b < _ at this;exact ⟨t,n,i,b,cap,q1,q2,q3,q4,q5,by simp; exact ⟨by omega,q6⟩,q7,q8⟩
 ):p:=h
theorem yby {p:Prop} (h:p:=by
  obtain ⟨es,c,h1,h2,h3,h4⟩:=h;refine ⟨es,c,h1,fun hm => h2 (hL _ hm),fun e he => ?_,h4⟩;obtain ⟨t,n,i,b,cap,q1,q2,q3,q4,q5,q6,q7,q8⟩:=h3 e he;exact ⟨t,n,i,b,cap,q1,q2,q3,q4,q5,fun hm => q6 (hL _ hm),q7,q8⟩
 ):p:=h
theorem ybC {p:Prop} (h:p:=by
  obtain ⟨es,c,h1,h2,h3,h4⟩:=h;refine ⟨es,c,hM.heap h1 h2,h2,fun e he => ?_,h4⟩;obtain ⟨t,n,i,b,cap,q1,q2,q3,q4,q5,q6,q7,q8⟩:=h3 e he;exact ⟨t,n,i,b,cap,q1,q2,q3,q4,q5,q6,hM.cell q7 q6,q8⟩
 ):p:=h
theorem ybF {p:Prop} (h:p:=by
  go_enter Tryz.func34, Tryz.ntmps34;go_wp2_with fail;exact bodyPost_end (results_none rfl _ _ _) rfl ⟨rfl,QM _ _,HH.out.1⟩
 ):p:=h
theorem ycb {p:Prop} (h:p:=by
  exact zak named_keyed Tryz.underlying103 (by rw [hw']; exact h1) hk (fun w => by kernel_rfl) none hf'
 ):p:=h
theorem zb3 {P:Program} {ops:Array Oper} {o:Oper} {a:Act} {w:World} {K:Act → World → Prop} {Q:Exit → Act → World → Prop} {E:Prop} (hgd:o.guard=none) (ty:TypeId) (x y:Operand) (ho:o.op = .store ty x y)
  (g:Nat) (cells:Array Value) (hx:a.eval x = .pointer (some ⟨g,0,none⟩)) (hy:a.eval y = .agg cells)
  (t:TypeId) (old:Array Value) (hg:w.heap[g]? = some (.cells old t (0,0))) (hi:(P.info? ty).map (·.size)=some cells.size)
  (hold:old.size=cells.size) (h1:cells.all (·.oneCell')=true) (h:K (a.put o.dst undef) (w.setRow g cells)) :
  if Region.wanted o (yielded ops a.tmps)=true then Oper.wp P o a w K Q else E:=by
 rw [if_pos (by simp [Region.wanted,hgd])];exact wp_store_row ty x y ho g cells hx hy t old hg hi hold h1 h
def CkVars (w:World):Prop:=(w.cell? ⟨0, 0,none⟩ = some (.int .i64 4) ∧ w.cell? ⟨0, 1,none⟩ = some (.int .i64 0)) ∧ (w.cell? ⟨2, 0,none⟩ = some (.int .i64 1) ∧ w.cell? ⟨2, 1,none⟩ = some (.int .i64 0))
theorem CkVars.later {w w':World} (h:CkVars w) (hM:Mods [] w w'):CkVars w':=⟨⟨hM.cell h.1.1,hM.cell h.1.2⟩,hM.cell h.2.1,hM.cell h.2.2⟩
def TwoT (w:World) (tb:Nat) (a b:Ty):Prop:=∃ sb,w.cell? ⟨tb,0,none⟩ = some (.slice (some ⟨sb,0,none⟩) 2 2) ∧ w.cell? ⟨sb,0,none⟩ = some (.int .i64 a.k) ∧ w.cell? ⟨sb,1,none⟩ = some (.int .i64 a.s) ∧ w.cell? ⟨sb,2,none⟩ = some (.int .i64 b.k) ∧ w.cell? ⟨sb,3,none⟩ = some (.int .i64 b.s)
theorem TwoT.later {w w':World} {tb:Nat} {a b:Ty} (h:TwoT w tb a b) (hM:Mods [] w w'):TwoT w' tb a b:=by obtain ⟨sb,h1,h2,h3,h4,h5⟩:=h;exact ⟨sb,hM.cell h1,hM.cell h2,hM.cell h3,hM.cell h4,hM.cell h5⟩
theorem ziT (w:World) (hV:CkVars w):Calls Tryz.prog 134 #[] w fun e w' => e = .returned (.tuple #[tyA tyInt,.bool true]) ∧ Mods [] w w':=by have gE1:=QH trivial;exact yfb
theorem zhs (w:World) (hV:CkVars w):Calls Tryz.prog 138 #[] w fun e w' => e = .returned (.tuple #[tyA tyBool,.bool true]) ∧ Mods [] w w':=by have gE2:=QH trivial;exact yfb
theorem zht (w:World) (tb:Nat) (a b:Ty) (h:TwoT w tb a b):Calls Tryz.prog 137 #[zh tb] w fun e w' => e = .returned (.tuple #[tyA a,.bool true]) ∧ Mods [] w w':=by have gE3:=QH trivial;exact yfb
theorem ziU (w:World) (tb:Nat) (a b:Ty) (h:TwoT w tb a b):Calls Tryz.prog 135 #[zh tb] w fun e w' => e = .returned (.tuple #[tyA a,.bool a.num]) ∧ Mods [] w w':=by
 have hz:=((QM [] w).alloc (.cells #[.int .i64 0,.int .i64 0] 62)).drew;have hr:=QN w (.cells #[.int .i64 0,.int .i64 0] 62);obtain ⟨sb,h1,h2,h3,-,-⟩:=h.later hz;have hc:=fun W => zdh a W;have HSZ:Hid (w.heap.size=w.heap.size):=QH rfl;unfold zh;unfold tyA at *;generalize a.num=nb at *;go_enter Tryz.func135, Tryz.ntmps135;go_upto_region 1 with fail;go_region_law (go_simp; go_at_call 136; (with_reducible refine (hc _).mono ?_); rintro e w2 ⟨rfl,hM2⟩; have d1:=hM2.cell h1; have d2:=hM2.cell h2; have d3:=hM2.cell h3; have hr2:=hM2.heap (show ((w.alloc (.cells #[.int .i64 0,.int .i64 0] 62)).drew).heap[w.heap.size]? = _ from hr) AB; have y0:w2.cell? ⟨w.heap.size,0,none⟩ = some (.int .i64 0):=za hr2 0; have y1:w2.cell? ⟨w.heap.size,1,none⟩ = some (.int .i64 0):=za hr2 1; have g0:=zc hr2 0; have g1:=zc hr2 1)
 all_goals
  have hr4:=zb (zb hr2 0 (.int .i64 a.k)) 1 (.int .i64 a.s);go_wp2_with fail;refine bodyPost_ret (zg rfl _ _ w.heap.size 62 #[.int .i64 a.k,.int .i64 a.s] (0,0) _ rfl hr4 Tryz.underlying62 rfl zk _ rfl) rfl ?_;exact ⟨rfl,((hz.trans hM2).setCell (.inr (LR _)) _).setCell (.inr (LR _)) _⟩
theorem zgB (a:Ty):((a.k:Int)=4 ∧ a.s=0 ∧ a=tyBool) ∨ ((a.k:Int)=4 ∧ ¬ a.s=0 ∧ a ≠ tyBool) ∨ (¬ (a.k:Int)=4 ∧ a ≠ tyBool):=by obtain ⟨k,s⟩:=a;unfold tyBool;simp only [Ty.mk.injEq,ne_eq];omega
theorem zmO (w:World) (hV:CkVars w) (tb:Nat) (a b:Ty) (h:TwoT w tb a b):Calls Tryz.prog 139 #[zh tb] w fun e w' => e = .returned (.tuple #[tyA tyBool,.bool (decide (a=tyBool))]) ∧ Mods [] w w':=by
 have hz:=((QM [] w).alloc (.cells #[.int .i64 0,.int .i64 0] 62)).drew;have hr:=QN w (.cells #[.int .i64 0,.int .i64 0] 62);obtain ⟨sb,h1,h2,h3,-,-⟩:=h.later hz;obtain ⟨⟨v0,v1⟩,-⟩:=hV.later hz;have hcase:=zgB a;have hz4:=(QM [] w).alloc (.cells #[.int .i64 4,.int .i64 0] 62);have hr4:((w.alloc (.cells #[.int .i64 4,.int .i64 0] 62)).drew).heap[w.heap.size]? = _:=QN w _;have s0:=hz4.cell hV.1.1;have s1:=hz4.cell hV.1.2;obtain ⟨sb',q1,q2,q3,-,-⟩:=h.later hz4;obtain rfl:sb=sb':=by have e1:=hz.cell (h.choose_spec.1);have e2:=hz4.cell (h.choose_spec.1);rw [h1] at e1;rw [q1] at e2;simp only [Option.some.injEq,Value.slice.injEq,Addr.mk.injEq,and_true] at e1 e2;exact e1.trans e2.symm
 unfold zh;rcases hcase with ⟨e1,e2,e3⟩ | ⟨e1,e2,e3⟩ | ⟨e1,e3⟩
 ·rw [decide_eq_true e3];exact yat
 ·rw [decide_eq_false e3];exact yat
 ·rw [decide_eq_false e3];exact yat
open Go.ChangeShapes Go.WideShapes Go.ChangeAt Go.RowKit
theorem zcu {P:Program} {W:World} {name:String} {a b:Int} {rest:List (String × DataW Unit)} {g:Nat} {t:TypeId} {f0 f1:Field} (hg:P.globalNamed name=some g) (hty:(P.globals[g]?).map (·.type)=some t) (ht:P.underlying t=some (.struct #[f0,f1]))
  (h0:P.underlying f0.type=some (.int .i64)) (h1:P.underlying f1.type=some (.int .i64)) (o0:f0.offset=0) (o1:f1.offset=1) (c0:P.cellsOf f0.type=1) (c1:P.cellsOf f1.type=1) (ct:P.cellsOf t=2)
  (h:laidMet P ((name,.agg [.lit (.int .i64 a),.lit (.int .i64 b)]) :: rest) W):W.cell? ⟨g,0,none⟩ = some (.int .i64 a) ∧ W.cell? ⟨g,1,none⟩ = some (.int .i64 b):=by
 obtain ⟨ps,⟨g',t',cs,fuel,p,q,hg',ht',hvar,hd,_,_⟩,_⟩:=h;obtain rfl:=Option.some.inj (hg.symm.trans hg');obtain rfl:=Option.some.inj (hty.symm.trans ht');obtain ⟨y0,y1,n,hx,hl,k0,k1⟩:=trod_struct2 ht hd;rw [o0,c0] at k0;rw [o1,c1] at k1;rw [ct] at hl;obtain ⟨z0,e0,hz0,-⟩:=DataW.trod_int h0 k0;obtain ⟨z1,e1,hz1,-⟩:=DataW.trod_int h1 k1;have hx1:=congrArg Prod.fst hx;simp only [DataW.agg.injEq,List.cons.injEq,and_true] at hx1;rw [hz0,hz1] at hx1;simp only [DataW.lit.injEq,Lit.int.injEq,true_and] at hx1;obtain ⟨rfl,rfl⟩:=hx1;have hc:=World.var?_cell hg hvar;have g0:=hc 0;have g1:=hc 1;obtain ⟨l⟩:=cs;have x0:l[0]? = some (.int .i64 a):=by have:=congrArg (·[0]?) e0;simpa [List.getElem?_take,List.getElem?_drop] using this
 have x1:l[1]? = some (.int .i64 b):=by have:=congrArg (·[0]?) e1;simpa [List.getElem?_take,List.getElem?_drop] using this
 exact ⟨g0.trans (by simpa using x0),g1.trans (by simpa using x1)⟩
theorem zh3 {W:World} (hL:laidMetH Tryz.prog laidL W):Tabs2 W ∧ CkVars W:=by
 refine ⟨zmM hL,?_⟩;rw [MakeChecks.laidMetH_plain _ _ _ AC] at hL;have h8:=hL.tail.tail.tail.tail.tail.tail.tail.tail;have h9:=h8.tail
 exact ⟨zcu (g:= 0) (t:= 62) AC AC Tryz.underlying62 AC AC rfl rfl AC AC AC h9,
  zcu (g:= 2) (t:= 62) AC AC Tryz.underlying62 AC AC rfl rfl AC AC AC h8⟩
def zaX (w:World) (sb:Nat) (cv:Value) (mb:Nat) (d pos e:Nat):Prop:=
 w.heap[sb]? = some (.cells #[cv,.map (some mb),.int .i64 d,.int .i64 pos,.int .i64 e] 105 (0,0))
def zaa (b:Bool) (k p:Nat) (pos e:Nat):Nat × Nat:=if b=true ∧ e=0 then (p,k) else (pos,e)
theorem zF (w:World) (sb:Nat) (cv:Value) (mb:Nat) (d pos e:Nat) (h:zaX w sb cv mb d pos e) (b:Bool) (k p:Nat) :
  Calls Tryz.prog 34 #[zh sb,.bool b,.int .i64 k,.int .i64 p] w fun r w' => r = .returned (.tuple #[]) ∧ Mods [sb] w w' ∧ zaX w' sb cv mb d (zaa b k p pos e).1 (zaa b k p pos e).2:=by
 have c4:=za h 4;have c3:=za h 3;have g4:=zc h 4;have g3:=zc h 3;change w.cell? _=some (.int .i64 e) at c4;change w.cell? _=some (.int .i64 pos) at c3;have hM3:Mods [sb] w ((w.setCell ⟨sb,4,none⟩ (.int .i64 k)).setCell ⟨sb,3,none⟩ (.int .i64 p)):=((QM _ _).setCell (.inl AB) _).setCell (.inl AB) _;have hb3:=zb (zb h 4 (.int .i64 k)) 3 (.int .i64 p);have HH:=QH (AI h (AI hM3 hb3));unfold zh;clear h hM3 hb3
 cases b with
 | false =>
  have hf:zaa false k p pos e=(pos,e):=by unfold zaa; rw [if_neg (fun h => by cases h.1)]
  rw [hf];clear hf;exact ybF
 | true =>
  by_cases he:e=0
  ·have hf:zaa true k p pos e=(p,k):=by unfold zaa; rw [if_pos ⟨rfl,he⟩]
   rw [hf];have z:((e:Int) == 0)=true:=by rw [beq_iff_eq]; omega
   clear hf he;go_enter Tryz.func34, Tryz.ntmps34;go_wp2_with fail;go_end0;exact ⟨rfl,HH.out.2.1,HH.out.2.2⟩
  ·have hf:zaa true k p pos e=(pos,e):=by unfold zaa; rw [if_neg (fun h => he h.2)]
   rw [hf];have z:((e:Int) == 0)=false:=by rw [beq_eq_false_iff_ne]; omega
   clear hf he;exact ybF
def aggBytes:List ByteArray:=[⟨#[99,111,117,110,116,97,108,108]⟩,⟨#[99,111,117,110,116]⟩,⟨#[115,117,109]⟩,⟨#[109,105,110]⟩,⟨#[109,97,120]⟩]
theorem zk2 (op:Bs):Lib.containsS aggBytes ⟨op.toArray⟩ = aggOpB op:=by
 rw [Bool.eq_iff_iff,Lib.containsS_iff];have h:aggBytes=aggOps.map fun l => ⟨l.toArray⟩:=rfl;unfold aggOpB;rw [h,List.contains_iff_mem,List.mem_map];constructor
 ·rintro ⟨l,hl,he⟩;obtain rfl:l=op:=by simpa using he
  exact hl
 ·intro hm;exact ⟨op,hm,rfl⟩
theorem zan (w:World) (op:Bs):Calls Tryz.prog 72 #[.string ⟨op.toArray⟩] w fun e w' => e = .returned (.bool (aggOpB op)) ∧ Mods [] w w':=by
 have hz:=(QM [] w).alloc (.cells #[.string ⟨#[99,111,117,110,116,97,108,108]⟩,.string ⟨#[99,111,117,110,116]⟩,.string ⟨#[115,117,109]⟩,.string ⟨#[109,105,110]⟩,.string ⟨#[109,97,120]⟩] 9);have hb:=QN w (.cells #[.string ⟨#[99,111,117,110,116,97,108,108]⟩,.string ⟨#[99,111,117,110,116]⟩,.string ⟨#[115,117,109]⟩,.string ⟨#[109,105,110]⟩,.string ⟨#[109,97,120]⟩] 9)
 have hc:= Tryz.slices_Contains_string w.heap.size 0 5 5 aggBytes ⟨op.toArray⟩ (w.alloc (.cells #[.string ⟨#[99,111,117,110,116,97,108,108]⟩,.string ⟨#[99,111,117,110,116]⟩,.string ⟨#[115,117,109]⟩,.string ⟨#[109,105,110]⟩,.string ⟨#[109,97,120]⟩] 9)) AD AD (fun j hj => by
  rw [Nat.zero_add,za hb j];have h5:j=0 ∨ j=1 ∨ j=2 ∨ j=3 ∨ j=4:=by simp [aggBytes] at hj; omega
  rcases h5 with rfl | rfl | rfl | rfl | rfl <;> rfl)
 have e5:aggBytes.take 5=aggBytes:=rfl;rw [e5,zk2] at hc;generalize (⟨op.toArray⟩ : ByteArray)=S at *;go_enter Tryz.func72, Tryz.ntmps72;go_wp2_with fail;(with_reducible refine hc.mono ?_);rintro e w2 ⟨rfl,rfl⟩;go_wp2_with fail;go_ret;exact ⟨rfl,hz⟩
open Go.Maps
theorem zmP:laidOutB Tryz.prog=true:=by kernel_rfl
theorem zk3:WideMaps.KeyLaw Tryz.prog 214:=deep_law_laid zmP (m:=3) AD (of_decide_eq_true AC) AC AC
theorem place_keyed:Keyed Tryz.prog 214:=Keyed.of_law zk3
def zeG (t:Int) (s:ByteArray):Value:=.agg #[.int .i64 t,.string s]
theorem zk4 (t:Int) (ht : -9223372036854775808 ≤ t ∧ t ≤ 9223372036854775807) (s:ByteArray) (hs:s.size ≤ 9223372036854775807):∃ l,keyOf Tryz.prog 214 (zeG t s)=some l:=by
 have h1 : Tryz.prog.keyType 214 = true:=by kernel_rfl
 have h2:Value.formed Tryz.prog 214 (zeG t s)=true:=by kernel_rfl
 have hi:(Lit.int .i64 t).wf=true:=by simp [Lit.wf]; exact ⟨ht.1,ht.2⟩
 have hc:(zeG t s).cells.toList=[.int .i64 t,.string s]:=by simp [zeG,Value.cells]
 have hs2:s.size ≤ maxLen:=by unfold maxLen; omega
 have k1 : Tryz.prog.cellsOf 214 = 2:=by kernel_rfl
 have k2 : Tryz.prog.cellsOf 3 = 1:=by kernel_rfl
 have gAU:=QH trivial;exact ydf
open Go.Maps
theorem zak {P:Program} {T kt et:TypeId} (K:Keyed P kt) (hT:P.underlying T=some (.map kt et)) {w:World} {mb:Nat} {es:Array MapEntry} {clock:Nat} (hb:w.heap[mb]? = some (.map es clock)) {k:Value} {l:Lit} (hk:keyOf P kt k=some l) {z:Value}
  (hz:∀ w,(zeroValue et).run P w = .ok z w) (r:Option (Nat × Value)) (hf:(Instr.findKey kt k es.toList).run P w = .ok r w) :
  (Instr.lookup T (.map (some mb)) k false).run P w = .ok ((r.map (·.2)).getD z) w:=by
 have hc:(Instr.checkKey es.isEmpty 10000 kt k).run P w = .ok () w:=K.check w _ hk;cases r <;> simp [Instr.lookup,run_underlying hT,MapKept.run_getObj_map hb,hc,hf,hz,Result.andThen]
theorem zeg {P:Program} {T kt et:TypeId} (K:Keyed P kt) (hT:P.underlying T=some (.map kt et)) {w:World} {mb:Nat} {es:Array MapEntry} {clock:Nat} (hb:w.heap[mb]? = some (.map es clock)) {k:Value} {l:Lit} (hk:keyOf P kt k=some l) {z:Value}
  (hz:∀ w,(zeroValue et).run P w = .ok z w) (hf:(Instr.findKey kt k es.toList).run P w = .ok none w) :
  (Instr.mapEntry T (.map (some mb)) k).run P w = .ok (.tuple #[z,.int .i64 clock]) (setHeap w mb (.map (es.push { key:=k,val:=z,born:=clock }) (clock + 1))):=by
 have hc:(Instr.checkKey false 10000 kt k).run P w = .ok () w:=K.check w _ hk;simp [Instr.mapEntry,run_underlying hT,MapKept.run_getObj_map hb,hc,hf,hz,MapKept.run_setObj_map _ hb,Result.andThen];exact ⟨rfl,rfl⟩
theorem zeh {P:Program} {T kt et:TypeId} (K:Keyed P kt) (hT:P.underlying T=some (.map kt et)) {w:World} {mb:Nat} {es:Array MapEntry} {clock:Nat} (hb:w.heap[mb]? = some (.map es clock)) {k:Value} {l:Lit} (hk:keyOf P kt k=some l)
  {j:Nat} {e:MapEntry} (hf:(Instr.findKey kt k es.toList).run P w = .ok (some (j,e.val)) w) (he:es[j]? = some e) (hek:e.key=k) :
  (Instr.mapEntry T (.map (some mb)) k).run P w = .ok (.tuple #[e.val,.int .i64 e.born]) (setHeap w mb (.map (es.modify j fun e => { e with key:=k }) clock)):=by
 have hc:(Instr.checkKey false 10000 kt k).run P w = .ok () w:=K.check w _ hk;have hs:(Instr.keyThatStays k k).run P w = .ok k w:=K.stays w hk;simp [Instr.mapEntry,run_underlying hT,MapKept.run_getObj_map hb,hc,hf,he,hek,hs,MapKept.run_setObj_map _ hb,Result.andThen];exact ⟨rfl,rfl⟩
theorem zcc {P:Program} (T:TypeId) {w:World} {mb:Nat} {es:Array MapEntry} {clock:Nat} (hb:w.heap[mb]? = some (.map es clock)) (b:Int) (v:Value) {i:Nat} (hi:es.findIdx? (fun e => (e.born:Int) == b)=some i) :
  (Instr.entryStore T (.map (some mb)) (.int .i64 b) v).run P w = .ok () (setHeap w mb (.map (es.modify i fun e => { e with val:=v }) clock)):=by
 have h1:(asIntOf (.int .i64 b)).run P w = .ok (.i64,b) w:=rfl;simp [Instr.entryStore,MapKept.run_getObj_map hb,asInt,h1,hi,MapKept.run_setObj_map _ hb,Result.andThen];rfl
open Go.Maps
theorem zjJ:laidOutB Tryz.prog=true:=by kernel_rfl
theorem zk5:WideMaps.KeyLaw Tryz.prog 181:=deep_law_laid zjJ (m:=3) AD (of_decide_eq_true AC) AC AC
theorem named_keyed:Keyed Tryz.prog 181:=Keyed.of_law zk5
abbrev zdm (t n:Bs):Value:=.agg #[.string ⟨t.toArray⟩,.string ⟨n.toArray⟩]
theorem zcL (t n:Bs) (ht:t.length ≤ 9223372036854775807) (hn:n.length ≤ 9223372036854775807):∃ l,keyOf Tryz.prog 181 (zdm t n)=some l:=by
 have h1 : Tryz.prog.keyType 181 = true:=by kernel_rfl
 have h2:Value.formed Tryz.prog 181 (zdm t n)=true:=by kernel_rfl
 have hc:(zdm t n).cells.toList=[.string ⟨t.toArray⟩,.string ⟨n.toArray⟩]:=by simp [Value.cells]
 have hs1:(⟨t.toArray⟩ : ByteArray).size ≤ maxLen:=by unfold maxLen; show t.toArray.size ≤ _; simp; omega
 have hs2:(⟨n.toArray⟩ : ByteArray).size ≤ maxLen:=by unfold maxLen; show n.toArray.size ≤ _; simp; omega
 have k1 : Tryz.prog.cellsOf 181 = 2:=by kernel_rfl
 have gAV:=QH trivial;exact ydf
theorem zgC {t n t' n':Bs} (h:zdm t n=zdm t' n'):t=t' ∧ n=n':=by simp only [zdm,Value.agg.injEq,Array.mk.injEq,List.cons.injEq,Value.string.injEq,and_true] at h;have h1:=congrArg (fun b => b.data.toList) h.1;have h2:=congrArg (fun b => b.data.toList) h.2;exact ⟨by simpa using h1,by simpa using h2⟩
def EnvMap (w:World) (L:List Nat) (mb:Nat) (env:List EC):Prop:=
 ∃ es c,w.heap[mb]? = some (.map es c) ∧ mb ∉ L ∧ (∀ e ∈ es.toList,∃ t n i b cap,e.key=zdm t n ∧ t.length ≤ 9223372036854775807 ∧ n.length ≤ 9223372036854775807 ∧ e.val = .slice (some ⟨b,0,none⟩) 1 cap ∧ (1 ≤ cap ∧ cap ≤ 9223372036854775807) ∧ b ∉ L ∧ w.cell? ⟨b,0,none⟩ = some (.int .i64 (i:Nat)) ∧ zaC env t n=[i]) ∧
  (∀ t n,zaC env t n ≠ [] → ∃ e ∈ es.toList,e.key=zdm t n) ∧ ∀ e ∈ es.toList,∀ e' ∈ es.toList,e.key=e'.key → e.val=e'.val
theorem EnvMap.mods {w w':World} {L:List Nat} {mb:Nat} {env:List EC} (h:EnvMap w L mb env) (hM:Mods L w w'):EnvMap w' L mb env:=by exact ybC
theorem EnvMap.weaken {w:World} {L L':List Nat} {mb:Nat} {env:List EC} (h:EnvMap w L mb env) (hL:∀ x ∈ L',x ∈ L):EnvMap w L' mb env:=by exact yby
theorem EnvMap.fresh {w:World} {L:List Nat} {mb:Nat} {env:List EC} {g:Nat} (h:EnvMap w L mb env) (hg:w.heap.size ≤ g):EnvMap w (g :: L) mb env:=by exact ybm
theorem EnvMap.look {w:World} {L:List Nat} {mb:Nat} {env:List EC} (h:EnvMap w L mb env) (t n:Bs) (ht:t.length ≤ 9223372036854775807) (hn:n.length ≤ 9223372036854775807) :
  (zaC env t n=[] ∧ ∀ w',w'.heap=w.heap → (Instr.lookup 103 (.map (some mb)) (zdm t n) false).run Tryz.prog w' = .ok (.slice none 0 0) w') ∨
  ∃ i b cap,zaC env t n=[i] ∧ (1 ≤ cap ∧ cap ≤ 9223372036854775807) ∧ b ∉ L ∧ w.cell? ⟨b,0,none⟩ = some (.int .i64 (i:Nat)) ∧ ∀ w',w'.heap=w.heap → (Instr.lookup 103 (.map (some mb)) (zdm t n) false).run Tryz.prog w' = .ok (.slice (some ⟨b,0,none⟩) 1 cap) w':=by
 obtain ⟨es,c,h1,h2,h3,h4,h5⟩:=h;obtain ⟨k,hk⟩:=zcL t n ht hn;have hall:∀ e ∈ es.toList,∃ l,keyOf Tryz.prog 181 e.key=some l:=fun e he => by obtain ⟨t,n,i,b,cap,q1,q2,q3,-⟩:=h3 e he;rw [q1]; exact zcL t n q2 q3
 rcases named_keyed.find w hk es.toList hall with ⟨hf,hno⟩ | ⟨j,e,hf,he,hek⟩
 ·refine .inl ⟨?_,fun w' hw' => ?_⟩
  ·by_cases hc:zaC env t n=[]
   ·exact hc
   ·obtain ⟨e,he,hke⟩:=h4 t n hc;exact absurd hke (hno e he)
  ·rcases named_keyed.find w' hk es.toList hall with ⟨hf',-⟩ | ⟨j,e,hf',he,hek⟩
   ·exact ycb
   ·exact absurd hek (hno e (List.mem_of_getElem? he))
 ·obtain ⟨t',n',i,b,cap,q1,q2,q3,q4,q5,q6,q7,q8⟩:=h3 e (List.mem_of_getElem? he);have hk2:zdm t' n'=zdm t n:=by rw [← q1]; exact hek
  obtain ⟨rfl,rfl⟩:=zgC hk2;refine .inr ⟨i,b,cap,q8,q5,q6,q7,fun w' hw' => ?_⟩;rcases named_keyed.find w' hk es.toList hall with ⟨hf',hno⟩ | ⟨j',e',hf',he',hek'⟩
  ·exact absurd hek (hno e (List.mem_of_getElem? he))
  ·obtain ⟨t2,n2,i2,b2,cap2,p1,p2,p3,p4,p5,p6,p7,p8⟩:=h3 e' (List.mem_of_getElem? he');have hj:e'.val=e.val:=h5 e' (List.mem_of_getElem? he') e (List.mem_of_getElem? he) (hek'.trans hek.symm);have:=zak named_keyed Tryz.underlying103 (z:=.slice none 0 0) (by rw [hw']; exact h1) hk (fun w => by kernel_rfl) (some (j',e'.val)) hf';rw [hj,q4] at this;exact this
theorem zh4 (t n:Bs):∀ (l:List EC) (i k:Nat),k ∈ zap t n i l → i ≤ k ∧ k < i + l.length:=by
 intro l
 induction l with
 | nil => intro i k h; cases h
 | cons e l ih =>
  intro i k h;unfold zap at h;split at h
  ·rcases MC h with rfl | h
   ·simp
   ·have:=ih _ _ h;simp only [List.length_cons];omega
  ·have:=ih _ _ h;simp only [List.length_cons];omega
theorem zh5 {env:List EC} {h:Hd} {k:Nat} (hq:zbF env h = .ok k):k < env.length:=by
 unfold zbF at hq;split at hq
 ·cases hq
 ·rename_i k' hk
  cases hq;have:=zh4 h.table h.name env 0 k (by unfold zaC at hk; rw [hk]; simp);omega
 ·cases hq
theorem zgD {env:List EC} {h:Hd} {p k:Nat} (hq:zbF env h = .bad p k):k ≠ 0:=by
 unfold zbF at hq;split at hq
 ·cases hq; decide
 ·cases hq
 ·cases hq; decide
def zai {α:Type} (r:Chk α) (pos e:Nat):Nat × Nat:=if e ≠ 0 then (pos,e) else match r with | .ok _ => (pos,e) | .bad p k => (p,k)
def colK (env:List EC) (h:Hd) (e:Nat):Nat:=if e ≠ 0 then 0 else match zbF env h with | .ok k => k | .bad _ _ => 0
def ColRes (w:World) (sb:Nat) (cv:Value) (mb d pos e:Nat) (env:List EC) (h:Hd) (r:Ending) (w':World):Prop:=
 r = .returned (.int .i64 (colK env h e:Nat)) ∧ Mods [sb] w w' ∧ zaX w' sb cv mb d (zai (zbF env h) pos e).1 (zai (zbF env h) pos e).2
theorem zaw (k p pos e:Nat):zaa false k p pos e=(pos,e):=by unfold zaa; rw [if_neg (fun h => by cases h.1)]
theorem ze5 (w:World) (sb:Nat) (cv:Value) (mb d pos e:Nat) (hS:zaX w sb cv mb d pos e) (env:List EC) (hE:EnvMap w [sb] mb env) (xb:Nat) (h:Hd) (va:Value) (hx:w.heap[xb]? = some (.cells (hdC h va).toArray 175 (0,0))) (hne:xb ≠ sb)
  (ht:h.table.length ≤ 9223372036854775807) (hn:h.name.length ≤ 9223372036854775807) :
  Calls Tryz.prog 31 #[zh sb,zh xb] w (ColRes w sb cv mb d pos e env h):=by
 have s1:=za hS 1;change w.cell? _=some (.map (some mb)) at s1;have x1:=za hx 1;change w.cell? _=some (.int .i64 h.pos) at x1;have x2:=za hx 2;change w.cell? _=some (.string ⟨h.table.toArray⟩) at x2;have x3:=za hx 3;change w.cell? _=some (.string ⟨h.name.toArray⟩) at x3;obtain ⟨PP,hPP⟩:=EX (ColRes w sb cv mb d pos e env h);rw [hPP];have HPP:=QH hPP;have HX:=QH hx;clear hPP hx;unfold zdm at *;rcases hE.look h.table h.name ht hn with ⟨hc,hl⟩ | ⟨i,b,cap,hc,hcap,hb,hci,hl⟩
 ·have hq:zbF env h = .bad h.pos 13:=by unfold zbF; rw [hc]
  have L0:∀ n,(Instr.lookup 103 (.map (some mb)) (.agg #[.string ⟨h.table.toArray⟩,.string ⟨h.name.toArray⟩]) false).run Tryz.prog (w.drewN n) = .ok (.slice none 0 0) (w.drewN n):=fun n => hl _ rfl;have HQ:=QH (AI hq hS);clear hl hc hq hS hE ht hn;have gBl:=QH trivial;exact ydq
 ·have hq:zbF env h = .ok i:=by unfold zbF; rw [hc]
  have L0:∀ n,(Instr.lookup 103 (.map (some mb)) (.agg #[.string ⟨h.table.toArray⟩,.string ⟨h.name.toArray⟩]) false).run Tryz.prog (w.drewN n) = .ok (.slice (some ⟨b,0,none⟩) 1 cap) (w.drewN n):=fun n => hl _ rfl;have HQ:=QH (AI hq hS);have hbs:b ≠ sb:=by simpa using hb
  clear hl hc hq hS hE ht hn hb;have gBm:=QH trivial;exact ydq
end Go.Proofs.YtebljciefhfgbaaGreatDoor
