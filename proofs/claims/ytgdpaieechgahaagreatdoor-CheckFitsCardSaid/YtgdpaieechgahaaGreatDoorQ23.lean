/-
  Two more rules of check.typed, walked: of two Bools; of two numbers. No condition but that Go's own variables hold what they were laid with.
-/
import Derived.Test.YtgdpaieechgahaaGreatDoorMix
import Derived.Test.YtgdpaieechgahaaGreatDoorQ19
import Derived.StillTailTactics
import Derived.Deep.MidRow
set_option linter.unusedVariables false
set_option maxRecDepth 100000
set_option maxHeartbeats 4000000
namespace Go.Proofs.YtgdpaieechgahaaGreatDoor
open Go.RowKit
theorem zbk {w:World} {o:Obj} {cells:Array Value} {p:Addr} {v:Value} (hv:w.cell? p=some v) (b:Bool) (k:zay (zdL (w.alloc o) w.heap.size cells b)):k.val.cell? p=some v:=by
 have hlt:=zD hv;have h1:Mods [w.heap.size] w (zdL (w.alloc o) w.heap.size cells b):=by
  unfold zdL;split
  ·exact (((QM _ w).alloc o).drew).setRow (.inl (by simp)) _
  ·exact ((QM _ w).alloc o).drew
 exact k.mods.cell (h1.cell hv (by simp; omega))
theorem ziV (w:World) (hV:CkVars w) (tb:Nat) (a b:Ty) (h:TwoT w tb a b):Calls Tryz.prog 117 #[zh tb] w fun e w' => e = .returned (.tuple #[tyA tyBool,.bool (decide (a=tyBool) && decide (b=tyBool))]) ∧ Mods [] w w':=by
 have hz:=(QM [] w).alloc (.cells #[.int .i64 0,.int .i64 0] 26);have hr:=QN w (.cells #[.int .i64 0,.int .i64 0] 26);obtain ⟨sb,h1,h2,h3,h4,h5⟩:=h;have F1:=fun b => zbk (o:=.cells #[.int .i64 0,.int .i64 0] 26) (cells:=#[.int .i64 4,.int .i64 0]) h1 b;have F2:=fun b => zbk (o:=.cells #[.int .i64 0,.int .i64 0] 26) (cells:=#[.int .i64 4,.int .i64 0]) h2 b;have F3:=fun b => zbk (o:=.cells #[.int .i64 0,.int .i64 0] 26) (cells:=#[.int .i64 4,.int .i64 0]) h3 b;have F4:=fun b => zbk (o:=.cells #[.int .i64 0,.int .i64 0] 26) (cells:=#[.int .i64 4,.int .i64 0]) h4 b;have F5:=fun b => zbk (o:=.cells #[.int .i64 0,.int .i64 0] 26) (cells:=#[.int .i64 4,.int .i64 0]) h5 b;have G0:=fun b => zbk (o:=.cells #[.int .i64 0,.int .i64 0] 26) (cells:=#[.int .i64 4,.int .i64 0]) hV.1.1 b;have G1:=fun b => zbk (o:=.cells #[.int .i64 0,.int .i64 0] 26) (cells:=#[.int .i64 4,.int .i64 0]) hV.1.2 b;have HH:=QH (AI F1 (AI F2 (AI F3 (AI F4 (AI F5 (AI G0 G1))))));have HZ:=QH hz;clear F1 F2 F3 F4 F5 G0 G1 h1 h2 h3 h4 h5 hV hz;have ca:=zgB a;have cb:=zgB b;unfold zh;rcases ca with ⟨a1,a2,a3⟩ | ⟨a1,a2,a3⟩ | ⟨a1,a3⟩
 ·rcases cb with ⟨b1,b2,b3⟩ | ⟨b1,b2,b3⟩ | ⟨b1,b3⟩
  ·rw [decide_eq_true a3,decide_eq_true b3];clear a3 b3;go_enter Tryz.func117, Tryz.ntmps117;go_upto_region 1 with fail;apply zz (by kernel_rfl) 13 _ rfl 26 (.tmp 1) (.tmp 3) rfl rfl rfl (by kernel_rfl) (by kernel_rfl) w.heap.size #[.int .i64 4,.int .i64 0] _ _ hr zk rfl (zA 4 0)
   case hwalk =>intro bb;obtain ⟨F1,F2,F3,F4,F5,G0,G1⟩:=HH.out;have F1:=F1 bb;have F2:=F2 bb;have F3:=F3 bb;have F4:=F4 bb;have F5:=F5 bb;have G0:=G0 bb;have G1:=G1 bb;dsimp only [nop,List.set];(repeat go_big_quiet_step (fail));refine QW ?_;exact rfl
   case hxa => rfl
   case hya => rfl
   case hend =>intro wz hMz;have hr4:=hMz.heap (zi (w:=(w.alloc (.cells #[.int .i64 0,.int .i64 0] 26)).drew) #[.int .i64 4,.int .i64 0] hr) (by simp);have hfin:Mods [] w wz:=((HZ.out.drew).setRow (g:=w.heap.size) (.inr (LR _)) #[.int .i64 4,.int .i64 0]).trans hMz;clear hMz HZ HH hr;generalize w.heap.size=gb at *;go_wp2_with fail;refine bodyPost_ret (zg rfl _ _ gb 26 #[.int .i64 4,.int .i64 0] (0,0) _ rfl hr4 Tryz.underlying26 rfl zk _ rfl) rfl ?_;exact ⟨rfl,hfin⟩
  ·rw [decide_eq_true a3,decide_eq_false b3];clear a3 b3;go_enter Tryz.func117, Tryz.ntmps117;go_upto_region 1 with fail;apply zz (by kernel_rfl) 13 _ rfl 26 (.tmp 1) (.tmp 3) rfl rfl rfl (by kernel_rfl) (by kernel_rfl) w.heap.size #[.int .i64 4,.int .i64 0] _ _ hr zk rfl (zA 4 0)
   case hwalk =>intro bb;obtain ⟨F1,F2,F3,F4,F5,G0,G1⟩:=HH.out;have F1:=F1 bb;have F2:=F2 bb;have F3:=F3 bb;have F4:=F4 bb;have F5:=F5 bb;have G0:=G0 bb;have G1:=G1 bb;dsimp only [nop,List.set];(repeat go_big_quiet_step (fail));refine QW ?_;exact rfl
   case hxa => rfl
   case hya => rfl
   case hend =>intro wz hMz;have hr4:=hMz.heap (zi (w:=(w.alloc (.cells #[.int .i64 0,.int .i64 0] 26)).drew) #[.int .i64 4,.int .i64 0] hr) (by simp);have hfin:Mods [] w wz:=((HZ.out.drew).setRow (g:=w.heap.size) (.inr (LR _)) #[.int .i64 4,.int .i64 0]).trans hMz;clear hMz HZ HH hr;generalize w.heap.size=gb at *;go_wp2_with fail;refine bodyPost_ret (zg rfl _ _ gb 26 #[.int .i64 4,.int .i64 0] (0,0) _ rfl hr4 Tryz.underlying26 rfl zk _ rfl) rfl ?_;exact ⟨rfl,hfin⟩
  ·rw [decide_eq_true a3,decide_eq_false b3];clear a3 b3;go_enter Tryz.func117, Tryz.ntmps117;go_upto_region 1 with fail;apply zz (by kernel_rfl) 13 _ rfl 26 (.tmp 1) (.tmp 3) rfl rfl rfl (by kernel_rfl) (by kernel_rfl) w.heap.size #[.int .i64 4,.int .i64 0] _ _ hr zk rfl (zA 4 0)
   case hwalk =>intro bb;obtain ⟨F1,F2,F3,F4,F5,G0,G1⟩:=HH.out;have F1:=F1 bb;have F2:=F2 bb;have F3:=F3 bb;have F4:=F4 bb;have F5:=F5 bb;have G0:=G0 bb;have G1:=G1 bb;dsimp only [nop,List.set];(repeat go_big_quiet_step (fail));refine QW ?_;exact rfl
   case hxa => rfl
   case hya => rfl
   case hend =>intro wz hMz;have hr4:=hMz.heap (zi (w:=(w.alloc (.cells #[.int .i64 0,.int .i64 0] 26)).drew) #[.int .i64 4,.int .i64 0] hr) (by simp);have hfin:Mods [] w wz:=((HZ.out.drew).setRow (g:=w.heap.size) (.inr (LR _)) #[.int .i64 4,.int .i64 0]).trans hMz;clear hMz HZ HH hr;generalize w.heap.size=gb at *;go_wp2_with fail;refine bodyPost_ret (zg rfl _ _ gb 26 #[.int .i64 4,.int .i64 0] (0,0) _ rfl hr4 Tryz.underlying26 rfl zk _ rfl) rfl ?_;exact ⟨rfl,hfin⟩
 ·rcases cb with ⟨b1,b2,b3⟩ | ⟨b1,b2,b3⟩ | ⟨b1,b3⟩
  ·rw [decide_eq_false a3,decide_eq_true b3];clear a3 b3;go_enter Tryz.func117, Tryz.ntmps117;go_upto_region 1 with fail;apply zz (by kernel_rfl) 13 _ rfl 26 (.tmp 1) (.tmp 3) rfl rfl rfl (by kernel_rfl) (by kernel_rfl) w.heap.size #[.int .i64 4,.int .i64 0] _ _ hr zk rfl (zA 4 0)
   case hwalk =>intro bb;obtain ⟨F1,F2,F3,F4,F5,G0,G1⟩:=HH.out;have F1:=F1 bb;have F2:=F2 bb;have F3:=F3 bb;have F4:=F4 bb;have F5:=F5 bb;have G0:=G0 bb;have G1:=G1 bb;dsimp only [nop,List.set];(repeat go_big_quiet_step (fail));refine QW ?_;exact rfl
   case hxa => rfl
   case hya => rfl
   case hend =>intro wz hMz;have hr4:=hMz.heap (zi (w:=(w.alloc (.cells #[.int .i64 0,.int .i64 0] 26)).drew) #[.int .i64 4,.int .i64 0] hr) (by simp);have hfin:Mods [] w wz:=((HZ.out.drew).setRow (g:=w.heap.size) (.inr (LR _)) #[.int .i64 4,.int .i64 0]).trans hMz;clear hMz HZ HH hr;generalize w.heap.size=gb at *;go_wp2_with fail;refine bodyPost_ret (zg rfl _ _ gb 26 #[.int .i64 4,.int .i64 0] (0,0) _ rfl hr4 Tryz.underlying26 rfl zk _ rfl) rfl ?_;exact ⟨rfl,hfin⟩
  ·rw [decide_eq_false a3,decide_eq_false b3];clear a3 b3;go_enter Tryz.func117, Tryz.ntmps117;go_upto_region 1 with fail;apply zz (by kernel_rfl) 13 _ rfl 26 (.tmp 1) (.tmp 3) rfl rfl rfl (by kernel_rfl) (by kernel_rfl) w.heap.size #[.int .i64 4,.int .i64 0] _ _ hr zk rfl (zA 4 0)
   case hwalk =>intro bb;obtain ⟨F1,F2,F3,F4,F5,G0,G1⟩:=HH.out;have F1:=F1 bb;have F2:=F2 bb;have F3:=F3 bb;have F4:=F4 bb;have F5:=F5 bb;have G0:=G0 bb;have G1:=G1 bb;dsimp only [nop,List.set];(repeat go_big_quiet_step (fail));refine QW ?_;exact rfl
   case hxa => rfl
   case hya => rfl
   case hend =>intro wz hMz;have hr4:=hMz.heap (zi (w:=(w.alloc (.cells #[.int .i64 0,.int .i64 0] 26)).drew) #[.int .i64 4,.int .i64 0] hr) (by simp);have hfin:Mods [] w wz:=((HZ.out.drew).setRow (g:=w.heap.size) (.inr (LR _)) #[.int .i64 4,.int .i64 0]).trans hMz;clear hMz HZ HH hr;generalize w.heap.size=gb at *;go_wp2_with fail;refine bodyPost_ret (zg rfl _ _ gb 26 #[.int .i64 4,.int .i64 0] (0,0) _ rfl hr4 Tryz.underlying26 rfl zk _ rfl) rfl ?_;exact ⟨rfl,hfin⟩
  ·rw [decide_eq_false a3,decide_eq_false b3];clear a3 b3;go_enter Tryz.func117, Tryz.ntmps117;go_upto_region 1 with fail;apply zz (by kernel_rfl) 13 _ rfl 26 (.tmp 1) (.tmp 3) rfl rfl rfl (by kernel_rfl) (by kernel_rfl) w.heap.size #[.int .i64 4,.int .i64 0] _ _ hr zk rfl (zA 4 0)
   case hwalk =>intro bb;obtain ⟨F1,F2,F3,F4,F5,G0,G1⟩:=HH.out;have F1:=F1 bb;have F2:=F2 bb;have F3:=F3 bb;have F4:=F4 bb;have F5:=F5 bb;have G0:=G0 bb;have G1:=G1 bb;dsimp only [nop,List.set];(repeat go_big_quiet_step (fail));refine QW ?_;exact rfl
   case hxa => rfl
   case hya => rfl
   case hend =>intro wz hMz;have hr4:=hMz.heap (zi (w:=(w.alloc (.cells #[.int .i64 0,.int .i64 0] 26)).drew) #[.int .i64 4,.int .i64 0] hr) (by simp);have hfin:Mods [] w wz:=((HZ.out.drew).setRow (g:=w.heap.size) (.inr (LR _)) #[.int .i64 4,.int .i64 0]).trans hMz;clear hMz HZ HH hr;generalize w.heap.size=gb at *;go_wp2_with fail;refine bodyPost_ret (zg rfl _ _ gb 26 #[.int .i64 4,.int .i64 0] (0,0) _ rfl hr4 Tryz.underlying26 rfl zk _ rfl) rfl ?_;exact ⟨rfl,hfin⟩
 ·rcases cb with ⟨b1,b2,b3⟩ | ⟨b1,b2,b3⟩ | ⟨b1,b3⟩
  ·rw [decide_eq_false a3,decide_eq_true b3];clear a3 b3;go_enter Tryz.func117, Tryz.ntmps117;go_upto_region 1 with fail;apply zz (by kernel_rfl) 13 _ rfl 26 (.tmp 1) (.tmp 3) rfl rfl rfl (by kernel_rfl) (by kernel_rfl) w.heap.size #[.int .i64 4,.int .i64 0] _ _ hr zk rfl (zA 4 0)
   case hwalk =>intro bb;obtain ⟨F1,F2,F3,F4,F5,G0,G1⟩:=HH.out;have F1:=F1 bb;have F2:=F2 bb;have F3:=F3 bb;have F4:=F4 bb;have F5:=F5 bb;have G0:=G0 bb;have G1:=G1 bb;dsimp only [nop,List.set];(repeat go_big_quiet_step (fail));refine QW ?_;exact rfl
   case hxa => rfl
   case hya => rfl
   case hend =>intro wz hMz;have hr4:=hMz.heap (zi (w:=(w.alloc (.cells #[.int .i64 0,.int .i64 0] 26)).drew) #[.int .i64 4,.int .i64 0] hr) (by simp);have hfin:Mods [] w wz:=((HZ.out.drew).setRow (g:=w.heap.size) (.inr (LR _)) #[.int .i64 4,.int .i64 0]).trans hMz;clear hMz HZ HH hr;generalize w.heap.size=gb at *;go_wp2_with fail;refine bodyPost_ret (zg rfl _ _ gb 26 #[.int .i64 4,.int .i64 0] (0,0) _ rfl hr4 Tryz.underlying26 rfl zk _ rfl) rfl ?_;exact ⟨rfl,hfin⟩
  ·rw [decide_eq_false a3,decide_eq_false b3];clear a3 b3;go_enter Tryz.func117, Tryz.ntmps117;go_upto_region 1 with fail;apply zz (by kernel_rfl) 13 _ rfl 26 (.tmp 1) (.tmp 3) rfl rfl rfl (by kernel_rfl) (by kernel_rfl) w.heap.size #[.int .i64 4,.int .i64 0] _ _ hr zk rfl (zA 4 0)
   case hwalk =>intro bb;obtain ⟨F1,F2,F3,F4,F5,G0,G1⟩:=HH.out;have F1:=F1 bb;have F2:=F2 bb;have F3:=F3 bb;have F4:=F4 bb;have F5:=F5 bb;have G0:=G0 bb;have G1:=G1 bb;dsimp only [nop,List.set];(repeat go_big_quiet_step (fail));refine QW ?_;exact rfl
   case hxa => rfl
   case hya => rfl
   case hend =>intro wz hMz;have hr4:=hMz.heap (zi (w:=(w.alloc (.cells #[.int .i64 0,.int .i64 0] 26)).drew) #[.int .i64 4,.int .i64 0] hr) (by simp);have hfin:Mods [] w wz:=((HZ.out.drew).setRow (g:=w.heap.size) (.inr (LR _)) #[.int .i64 4,.int .i64 0]).trans hMz;clear hMz HZ HH hr;generalize w.heap.size=gb at *;go_wp2_with fail;refine bodyPost_ret (zg rfl _ _ gb 26 #[.int .i64 4,.int .i64 0] (0,0) _ rfl hr4 Tryz.underlying26 rfl zk _ rfl) rfl ?_;exact ⟨rfl,hfin⟩
  ·rw [decide_eq_false a3,decide_eq_false b3];clear a3 b3;go_enter Tryz.func117, Tryz.ntmps117;go_upto_region 1 with fail;apply zz (by kernel_rfl) 13 _ rfl 26 (.tmp 1) (.tmp 3) rfl rfl rfl (by kernel_rfl) (by kernel_rfl) w.heap.size #[.int .i64 4,.int .i64 0] _ _ hr zk rfl (zA 4 0)
   case hwalk =>intro bb;obtain ⟨F1,F2,F3,F4,F5,G0,G1⟩:=HH.out;have F1:=F1 bb;have F2:=F2 bb;have F3:=F3 bb;have F4:=F4 bb;have F5:=F5 bb;have G0:=G0 bb;have G1:=G1 bb;dsimp only [nop,List.set];(repeat go_big_quiet_step (fail));refine QW ?_;exact rfl
   case hxa => rfl
   case hya => rfl
   case hend =>intro wz hMz;have hr4:=hMz.heap (zi (w:=(w.alloc (.cells #[.int .i64 0,.int .i64 0] 26)).drew) #[.int .i64 4,.int .i64 0] hr) (by simp);have hfin:Mods [] w wz:=((HZ.out.drew).setRow (g:=w.heap.size) (.inr (LR _)) #[.int .i64 4,.int .i64 0]).trans hMz;clear hMz HZ HH hr;generalize w.heap.size=gb at *;go_wp2_with fail;refine bodyPost_ret (zg rfl _ _ gb 26 #[.int .i64 4,.int .i64 0] (0,0) _ rfl hr4 Tryz.underlying26 rfl zk _ rfl) rfl ?_;exact ⟨rfl,hfin⟩
def RuleRes (o:Option Ty) (w:World) (e:Ending) (w':World):Prop:=(∃ t:Ty,e = .returned (.tuple #[tyA t,.bool o.isSome]) ∧ ∀ u,o=some u → t=u) ∧ Mods [] w w'
def arithV (o:Option Ty):Value:=match o with | none => .tuple #[tyA tyNone,.bool false] | some t => .tuple #[tyA t,.bool true]
theorem zia (o:Option Ty):∃ t:Ty,arithV o = .tuple #[tyA t,.bool o.isSome] ∧ ∀ u,o=some u → t=u:=by
 cases o with
 | none => exact ⟨tyNone,rfl,fun u h => by cases h⟩
 | some t => exact ⟨t,rfl,fun u h => by cases h; rfl⟩
theorem zcQ (w:World) (ob tb op:Nat) (hop:op=43 ∨ op=45 ∨ op=42 ∨ op=47) (hob:w.cell? ⟨ob,0,none⟩ = some (.string ⟨#[UInt8.ofNat op]⟩)) (a b:Ty) (ha:a.Right) (hb:b.Right) (h:TwoT w tb a b) :
  Calls Tryz.prog 118 #[zh ob,zh tb] w (RuleRes (zb7 (UInt8.ofNat op) a b) w):=by
 have hz:=(QM [] w).alloc (.cells #[.int .i64 0,.int .i64 0] 26);have hr:=QN w (.cells #[.int .i64 0,.int .i64 0] 26);obtain ⟨t,ht,htu⟩:=zia (zb7 (UInt8.ofNat op) a b);obtain ⟨sb,h1,h2,h3,h4,h5⟩:=h;have K:=fun bb (k:zay (zdL (w.alloc (.cells #[.int .i64 0,.int .i64 0] 26)) w.heap.size #[.int .i64 t.k,.int .i64 t.s] bb)) => (zk1 k.val op hop a b ha hb).mono fun e w' h => (show e = .returned (.tuple #[tyA t,.bool (zb7 (UInt8.ofNat op) a b).isSome]) ∧ ∃ k':zay (zdL (w.alloc (.cells #[.int .i64 0,.int .i64 0] 26)) w.heap.size #[.int .i64 t.k,.int .i64 t.s] bb),w'=k'.val from ⟨by rw [← ht]; exact h.1,⟨w',k.mods.trans h.2⟩,rfl⟩);have F1:=fun b => zbk (o:=.cells #[.int .i64 0,.int .i64 0] 26) (cells:=#[.int .i64 t.k,.int .i64 t.s]) h1 b;have F2:=fun b => zbk (o:=.cells #[.int .i64 0,.int .i64 0] 26) (cells:=#[.int .i64 t.k,.int .i64 t.s]) h2 b;have F3:=fun b => zbk (o:=.cells #[.int .i64 0,.int .i64 0] 26) (cells:=#[.int .i64 t.k,.int .i64 t.s]) h3 b;have F4:=fun b => zbk (o:=.cells #[.int .i64 0,.int .i64 0] 26) (cells:=#[.int .i64 t.k,.int .i64 t.s]) h4 b;have F5:=fun b => zbk (o:=.cells #[.int .i64 0,.int .i64 0] 26) (cells:=#[.int .i64 t.k,.int .i64 t.s]) h5 b;have F6:=fun b => zbk (o:=.cells #[.int .i64 0,.int .i64 0] 26) (cells:=#[.int .i64 t.k,.int .i64 t.s]) hob b;have HFIN:Hid (∀ w',Mods [] w w' → RuleRes (zb7 (UInt8.ofNat op) a b) w (.returned (.tuple #[.agg #[.int .i64 t.k,.int .i64 t.s],.bool (zb7 (UInt8.ofNat op) a b).isSome])) w'):=QH fun w' hM => ⟨⟨t,rfl,htu⟩,hM⟩;obtain ⟨rr,hrr⟩:=EX ((zb7 (UInt8.ofNat op) a b).isSome);rw [hrr] at K HFIN;obtain ⟨RR,hRR⟩:=EX (RuleRes (zb7 (UInt8.ofNat op) a b) w);rw [hRR] at HFIN ⊢;have HH:=QH (AI F1 (AI F2 (AI F3 (AI F4 (AI F5 (AI F6 K))))));have HZ:=QH hz;clear F1 F2 F3 F4 F5 F6 K h1 h2 h3 h4 h5 hz hob ht htu hrr hRR ha hb;unfold tyA at HH;unfold zh;rcases hop with rfl | rfl | rfl | rfl
 ·go_enter Tryz.func118, Tryz.ntmps118;go_upto_region 1 with fail;apply zz (by kernel_rfl) 11 _ rfl 26 (.tmp 2) (.tmp 13) rfl rfl rfl (by kernel_rfl) (by kernel_rfl) w.heap.size #[.int .i64 t.k,.int .i64 t.s] _ _ hr zk rfl (zA t.k t.s)
  case hwalk =>intro bb;obtain ⟨F1,F2,F3,F4,F5,F6,K⟩:=HH.out;have F1:=F1 bb;have F2:=F2 bb;have F3:=F3 bb;have F4:=F4 bb;have F5:=F5 bb;have F6:∀ k:zay (zdL (w.alloc (.cells #[.int .i64 0,.int .i64 0] 26)) w.heap.size #[.int .i64 t.k,.int .i64 t.s] bb),k.val.cell? ⟨ob,0,none⟩ = some (.string ⟨#[43]⟩):=F6 bb;have HK:=QH (K bb);clear K;dsimp only [nop,List.set];(repeat go_big_quiet_step (exact HK.out _));refine QW ?_;exact rfl
  case hxa => rfl
  case hya => rfl
  case hend =>intro wz hMz;have hr4:=hMz.heap (zi (w:=(w.alloc (.cells #[.int .i64 0,.int .i64 0] 26)).drew) #[.int .i64 t.k,.int .i64 t.s] hr) (by simp);have hfin:Mods [] w wz:=((HZ.out.drew).setRow (g:=w.heap.size) (.inr (LR _)) #[.int .i64 t.k,.int .i64 t.s]).trans hMz;clear hMz HZ HH hr;generalize w.heap.size=gb at *;go_wp2_with fail;refine bodyPost_ret (zg rfl _ _ gb 26 #[.int .i64 t.k,.int .i64 t.s] (0,0) _ rfl hr4 Tryz.underlying26 rfl zk _ rfl) rfl ?_;exact HFIN.out wz hfin
 ·go_enter Tryz.func118, Tryz.ntmps118;go_upto_region 1 with fail;apply zz (by kernel_rfl) 11 _ rfl 26 (.tmp 2) (.tmp 13) rfl rfl rfl (by kernel_rfl) (by kernel_rfl) w.heap.size #[.int .i64 t.k,.int .i64 t.s] _ _ hr zk rfl (zA t.k t.s)
  case hwalk =>intro bb;obtain ⟨F1,F2,F3,F4,F5,F6,K⟩:=HH.out;have F1:=F1 bb;have F2:=F2 bb;have F3:=F3 bb;have F4:=F4 bb;have F5:=F5 bb;have F6:∀ k:zay (zdL (w.alloc (.cells #[.int .i64 0,.int .i64 0] 26)) w.heap.size #[.int .i64 t.k,.int .i64 t.s] bb),k.val.cell? ⟨ob,0,none⟩ = some (.string ⟨#[45]⟩):=F6 bb;have HK:=QH (K bb);clear K;dsimp only [nop,List.set];(repeat go_big_quiet_step (exact HK.out _));refine QW ?_;exact rfl
  case hxa => rfl
  case hya => rfl
  case hend =>intro wz hMz;have hr4:=hMz.heap (zi (w:=(w.alloc (.cells #[.int .i64 0,.int .i64 0] 26)).drew) #[.int .i64 t.k,.int .i64 t.s] hr) (by simp);have hfin:Mods [] w wz:=((HZ.out.drew).setRow (g:=w.heap.size) (.inr (LR _)) #[.int .i64 t.k,.int .i64 t.s]).trans hMz;clear hMz HZ HH hr;generalize w.heap.size=gb at *;go_wp2_with fail;refine bodyPost_ret (zg rfl _ _ gb 26 #[.int .i64 t.k,.int .i64 t.s] (0,0) _ rfl hr4 Tryz.underlying26 rfl zk _ rfl) rfl ?_;exact HFIN.out wz hfin
 ·go_enter Tryz.func118, Tryz.ntmps118;go_upto_region 1 with fail;apply zz (by kernel_rfl) 11 _ rfl 26 (.tmp 2) (.tmp 13) rfl rfl rfl (by kernel_rfl) (by kernel_rfl) w.heap.size #[.int .i64 t.k,.int .i64 t.s] _ _ hr zk rfl (zA t.k t.s)
  case hwalk =>intro bb;obtain ⟨F1,F2,F3,F4,F5,F6,K⟩:=HH.out;have F1:=F1 bb;have F2:=F2 bb;have F3:=F3 bb;have F4:=F4 bb;have F5:=F5 bb;have F6:∀ k:zay (zdL (w.alloc (.cells #[.int .i64 0,.int .i64 0] 26)) w.heap.size #[.int .i64 t.k,.int .i64 t.s] bb),k.val.cell? ⟨ob,0,none⟩ = some (.string ⟨#[42]⟩):=F6 bb;have HK:=QH (K bb);clear K;dsimp only [nop,List.set];(repeat go_big_quiet_step (exact HK.out _));refine QW ?_;exact rfl
  case hxa => rfl
  case hya => rfl
  case hend =>intro wz hMz;have hr4:=hMz.heap (zi (w:=(w.alloc (.cells #[.int .i64 0,.int .i64 0] 26)).drew) #[.int .i64 t.k,.int .i64 t.s] hr) (by simp);have hfin:Mods [] w wz:=((HZ.out.drew).setRow (g:=w.heap.size) (.inr (LR _)) #[.int .i64 t.k,.int .i64 t.s]).trans hMz;clear hMz HZ HH hr;generalize w.heap.size=gb at *;go_wp2_with fail;refine bodyPost_ret (zg rfl _ _ gb 26 #[.int .i64 t.k,.int .i64 t.s] (0,0) _ rfl hr4 Tryz.underlying26 rfl zk _ rfl) rfl ?_;exact HFIN.out wz hfin
 ·go_enter Tryz.func118, Tryz.ntmps118;go_upto_region 1 with fail;apply zz (by kernel_rfl) 11 _ rfl 26 (.tmp 2) (.tmp 13) rfl rfl rfl (by kernel_rfl) (by kernel_rfl) w.heap.size #[.int .i64 t.k,.int .i64 t.s] _ _ hr zk rfl (zA t.k t.s)
  case hwalk =>intro bb;obtain ⟨F1,F2,F3,F4,F5,F6,K⟩:=HH.out;have F1:=F1 bb;have F2:=F2 bb;have F3:=F3 bb;have F4:=F4 bb;have F5:=F5 bb;have F6:∀ k:zay (zdL (w.alloc (.cells #[.int .i64 0,.int .i64 0] 26)) w.heap.size #[.int .i64 t.k,.int .i64 t.s] bb),k.val.cell? ⟨ob,0,none⟩ = some (.string ⟨#[47]⟩):=F6 bb;have HK:=QH (K bb);clear K;dsimp only [nop,List.set];(repeat go_big_quiet_step (exact HK.out _));refine QW ?_;exact rfl
  case hxa => rfl
  case hya => rfl
  case hend =>intro wz hMz;have hr4:=hMz.heap (zi (w:=(w.alloc (.cells #[.int .i64 0,.int .i64 0] 26)).drew) #[.int .i64 t.k,.int .i64 t.s] hr) (by simp);have hfin:Mods [] w wz:=((HZ.out.drew).setRow (g:=w.heap.size) (.inr (LR _)) #[.int .i64 t.k,.int .i64 t.s]).trans hMz;clear hMz HZ HH hr;generalize w.heap.size=gb at *;go_wp2_with fail;refine bodyPost_ret (zg rfl _ _ gb 26 #[.int .i64 t.k,.int .i64 t.s] (0,0) _ rfl hr4 Tryz.underlying26 rfl zk _ rfl) rfl ?_;exact HFIN.out wz hfin
def tRow (ts:List Ty) (i:Nat):Array Value:=
 #[.int .i64 (if 0 < i then (ts.getD 0 tyNone).k else 0:Nat),.int .i64 (if 0 < i then (ts.getD 0 tyNone).s else 0:Nat),.int .i64 (if 1 < i then (ts.getD 1 tyNone).k else 0:Nat),.int .i64 (if 1 < i then (ts.getD 1 tyNone).s else 0:Nat)]
theorem zs {P:Program} (T kt et:TypeId) (d:TypeDesc) (hT:P.underlying T=some (.map kt et)) (hk:P.underlying kt=some d) {w:World} {mb:Nat} {es:Array MapEntry} {clock:Nat} (hb:w.heap[mb]? = some (.map es clock)) (k:Value) (z:Value)
  (hz:∀ w,(zeroValue et).run P w = .ok z w) (hkey:MapKept.IsKey d k) (r:Option (Nat × Value)) (hf:Instr.findNow d k es.toList 0=some r) :
  (Instr.lookup T (.map (some mb)) k true).run P w = .ok (.tuple #[(r.map (·.2)).getD z,.bool r.isSome]) w:=by
 have hc:(Instr.checkKey es.isEmpty 10000 kt k).run P w = .ok () w:=MapKept.run_checkKey hk hkey _ 9999;cases r <;> simp [Instr.lookup,run_underlying hT,MapKept.run_getObj_map hb,hc,MapKept.run_findKey hk hf,hz,Result.andThen]
theorem RuleRes.of {o:Option Ty} {w:World} {t:Ty} {b:Bool} {e:Ending} {w':World} (hb:o.isSome=b) (ho:∀ u,o=some u → t=u) (h:e = .returned (.tuple #[tyA t,.bool b]) ∧ Mods [] w w'):RuleRes o w e w':=
 ⟨⟨t,by rw [hb]; exact h.1,ho⟩,h.2⟩
theorem zaz {p:Prop} [Decidable p] {t:Ty}:(if p then some t else none).isSome=decide p:=by by_cases h:p <;> simp [h]
theorem zej {p:Prop} [Decidable p] {t:Ty}:∀ u,(if p then some t else none)=some u → t=u:=by intro u h; by_cases hp:p <;> simp [hp] at h; exact h
theorem zcn {w:World} {g:Nat} {cells:Array Value} {p:Addr} {v:Value} (hv:w.cell? p=some v) (hne:p.block ≠ g) (b:Bool) (k:zay (zdL w g cells b)):k.val.cell? p=some v:=by
 have h1:Mods [g] w (zdL w g cells b):=by
  unfold zdL;split
  ·exact ((QM _ w).drew).setRow (.inl (by simp)) _
  ·exact (QM _ w).drew
 exact k.mods.cell (h1.cell hv (by simpa using hne))
def zaH (l:Bs):Value:=.string ⟨l.toArray⟩
def zO (ob tb:Nat):List MapEntry:=[⟨zaH oAll,.func (.func 111) #[] #[],0⟩,⟨zaH oNeg,.func (.func 112) #[] #[zh tb],1⟩,⟨zaH oMin,.func (.func 114) #[] #[zh tb],2⟩,⟨zaH oIs,.func (.func 115) #[] #[],3⟩,⟨zaH oNot,.func (.func 116) #[] #[zh tb],4⟩,⟨zaH oAnd,.func (.func 117) #[] #[zh tb],5⟩,⟨zaH oPlus,.func (.func 118) #[] #[zh ob,zh tb],6⟩]
def sameE:List MapEntry:=[⟨zaH oCount,zaH oAll,0⟩,⟨zaH oSum,zaH oNeg,1⟩,⟨zaH oMax,zaH oMin,2⟩,⟨zaH oIsNot,zaH oIs,3⟩,⟨zaH oOr,zaH oAnd,4⟩,⟨zaH oMinus,zaH oPlus,5⟩,⟨zaH oTimes,zaH oPlus,6⟩,⟨zaH oOver,zaH oPlus,7⟩]
theorem zew {ts:List Ty} {n:Nat} (h:ts.length=n) (hn:n ≤ 2):tRow ts n = #[.int .i64 (ts.getD 0 tyNone).k,.int .i64 (ts.getD 0 tyNone).s,.int .i64 (ts.getD 1 tyNone).k,.int .i64 (ts.getD 1 tyNone).s]:=by
 have h3:n=0 ∨ n=1 ∨ n=2:=by omega
 rcases h3 with rfl | rfl | rfl
 ·obtain rfl:=List.length_eq_zero_iff.1 h; rfl
 ·obtain ⟨a,rfl⟩:=List.length_eq_one_iff.1 h; rfl
 ·match ts,h with
  | [a,b],_ => rfl
theorem zk8 (ob tb:Nat) {op:Bs} (h:op ∈ rels):Instr.findNow .string (.string ⟨op.toArray⟩) sameE.toArray.toList 0=some none ∧ Instr.findNow .string (.string ⟨op.toArray⟩) (zO ob tb).toArray.toList 0=some none:=by simp only [rels,List.mem_cons,List.not_mem_nil,or_false] at h;rcases h with rfl | rfl | rfl | rfl | rfl | rfl <;> exact ⟨rfl,rfl⟩
theorem zjL (a b:Ty) {op:Bs} (h:op ∈ rels):zx op a b=if a=b ∨ (a.num=true ∧ b.num=true) then some tyBool else none:=by simp only [rels,List.mem_cons,List.not_mem_nil,or_false] at h;rcases h with rfl | rfl | rfl | rfl | rfl | rfl <;> rfl
theorem zgL (w:World):(Instr.makeSlice 195 (.int .i64 2) (.int .i64 2)).run Tryz.prog w = .ok (.slice (some ⟨w.heap.size,0,none⟩) 2 2) (w.alloc (.cells #[.int .i64 0,.int .i64 0,.int .i64 0,.int .i64 0] 26)):=by kernel_rfl
end Go.Proofs.YtgdpaieechgahaaGreatDoor
