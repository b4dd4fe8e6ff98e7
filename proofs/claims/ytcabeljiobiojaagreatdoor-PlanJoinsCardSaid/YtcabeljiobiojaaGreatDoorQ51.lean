/-
  The sort of rows that all stand alike: nothing moves. No condition.
-/
import Derived.Test.YtcabeljiobiojaaGreatDoorPjHq1
set_option linter.unusedVariables false
set_option maxRecDepth 100000
set_option maxHeartbeats 8000000
namespace Go.Proofs.YtcabeljiobiojaaGreatDoor
open Go.RowKit
theorem yfZ {p:Prop} (h:p:=by
  (repeat go_big_quiet_step (with_reducible exact HK.out _));refine QW ?_;rintro _ ⟨kk,rfl⟩;have HM2:=QH (hM0.out.trans kk.mods)
  first
  |guard_hyp gGr
   clear HK F1 F2;go_wp2_with fail;go_roundg (m - (x + 1))
   case measure => omega
   case rel => exact ⟨x + 1,by omega,by omega,by go_num,rfl,HM2.out⟩
  |guard_hyp gGs
   clear HK F1 F2 k0 k1 hdec;go_wp2_with fail;go_roundg (b - (j + 2))
   case measure => omega
   case rel => exact ⟨j + 1,by omega,by omega,by omega,by go_num,HM2.out⟩
  |guard_hyp gGt
   clear HK F1 F2;go_wp2_with fail;go_roundg (x - (a + 1))
   case measure => omega
   case rel => exact ⟨x,by omega,by omega,rfl,by go_num,HM2.out⟩
 ):p:=h
theorem yfW {p:Prop} (h:p:=by
  obtain ⟨y,hy⟩ : ∃ y:Nat,(p:Int) - (x:Int)=y:=⟨p - x,by omega⟩;have hxn:x < n:=by omega
  have hyn:y < n:=by omega
  obtain ⟨u1,k1⟩:=HH.out.1.later hM x hxn;obtain ⟨u0,k0⟩:=HH.out.1.later hM y hyn;have F1:∀ k:zay wr,k.val.cell? ⟨g,x,none⟩ = some u1:=fun k => k.mods.cell k1;have F2:∀ k:zay wr,k.val.cell? ⟨g,y,none⟩ = some u0:=fun k => k.mods.cell k0;have HK:=QH (fun k:zay wr => ((HH.out.2.1.later hM) k.val k.mods u0 u1).mono fun e w' h => (show e=_ ∧ ∃ k':zay wr,w'=k'.val from ⟨h.1,⟨w',k.mods.trans h.2⟩,rfl⟩));unfold zh at HK;have hM0:=QH hM;clear hM k1 k0;refine zcK BV BV ?_;(repeat go_big_quiet_step (with_reducible exact HK.out _));(try rw [hy])
  first
  |guard_hyp gGl
   (repeat go_big_quiet_step (with_reducible exact HK.out _));refine QW ?_;rintro _ ⟨kk,rfl⟩;have HM2:=QH (hM0.out.trans kk.mods);clear HK F1 F2;go_wp2_with fail;go_roundg (q - (x + 1))
   case measure => omega
   case rel => exact ⟨x + 1,by omega,by omega,by go_num,rfl,HM2.out⟩
  |guard_hyp gGm
   exact yfN
 ):p:=h
theorem yfN {p:Prop} (h:p:=by
  have gGr:=QH trivial;exact yfZ
 ):p:=h
theorem yfO {p:Prop} (h:p:=by
  clear hM;go_wp2_with fail;(with_reducible refine hrc.mono ?_);rintro e w5 ⟨rfl,hM5⟩;clear hrc;have HM5:=QH (HM.out.trans hM5);clear hM5;go_wp2_with fail;go_end0;exact ⟨rfl,HM5.out⟩
 ):p:=h
theorem yfP {p:Prop} (h:p:=by
  obtain ⟨rfl,rfl⟩:=hrel;go_wp2_with fail;(try simp only [Exit.inBlock,Exit.then]);refine bodyPost_ret (results_none rfl _ _ _) rfl ?_;exact ⟨rfl,hM⟩
 ):p:=h
def ZeroO (w:World) (rb:Nat):Prop:=∀ W,Mods [] w W → ∀ va vb,Calls Tryz.prog 23 #[zh rb,va,vb] W fun e w' => e = .returned (.int .i64 0) ∧ Mods [] W w'
def CellsAt (w:World) (g n:Nat):Prop:=∀ i,i < n → ∃ u,w.cell? ⟨g,i,none⟩ = some u
theorem CellsAt.later {w w':World} {g n:Nat} (h:CellsAt w g n) (hM:Mods [] w w'):CellsAt w' g n:=fun i hi => by obtain ⟨u,hu⟩:=h i hi;exact ⟨u,hM.cell hu⟩
theorem ZeroO.later {w w':World} {rb:Nat} (h:ZeroO w rb) (hM:Mods [] w w'):ZeroO w' rb:=fun W hW => h W (hM.trans hW)
theorem zug (w:World) (rb g n cap a b:Nat) (hb:b ≤ n) (hn:n ≤ 1000) (ha:a ≤ 1000) (hc:CellsAt w g n) (hz:ZeroO w rb) :
  Calls Tryz.prog 81 #[.slice (some ⟨g,0,none⟩) n cap,.int .i64 a,.int .i64 b,.func (.func 23) #[zh rb] #[]] w
   fun e w' => e = .returned (.tuple #[]) ∧ Mods [] w w':=by
 have HH:=QH (AI hc hz);clear hc hz;unfold zh;go_enter Tryz.func81, Tryz.ntmps81;go_wp2_with fail;go_loopg [8] (b - (a + 1)) (fun gk t8 wr => ∃ i:Nat,gk=b - (i + 1) ∧ a ≤ i ∧ i ≤ 1000 ∧ t8 = .int .i64 ((i:Int) + 1) ∧ Mods [] w wr)
 case atStart => exact ⟨a,rfl,LR _,ha,by go_num,QM _ _⟩
 obtain ⟨j,rfl,haj,hj1,rfl,hM⟩:=hrel;by_cases hlt:j + 1 < b
 ·have hM0:=QH hM;clear hM;go_wp2_with fail;generalize wr=wo at *;go_loopg [9] 0 (fun gk t9 wx => t9 = .int .i64 ((j:Int) + 1) ∧ wo=wx)
  case atStart => exact ⟨rfl,rfl⟩
  obtain ⟨rfl,rfl⟩:=hrel;obtain ⟨u1,k1⟩:=HH.out.1.later hM0.out (j + 1) BS;obtain ⟨u0,k0⟩:=HH.out.1.later hM0.out j BS;have F1:∀ k:zay wo,k.val.cell? ⟨g,j + 1,none⟩ = some u1:=fun k => k.mods.cell k1;have F2:∀ k:zay wo,k.val.cell? ⟨g,j,none⟩ = some u0:=fun k => k.mods.cell k0;have HK:=QH (fun k:zay wo => ((HH.out.2.later hM0.out) k.val k.mods u1 u0).mono fun e w' h => (show e=_ ∧ ∃ k':zay wo,w'=k'.val from ⟨h.1,⟨w',k.mods.trans h.2⟩,rfl⟩));unfold zh at HK;have hg1:j + 1 < n:=by omega
  have hg0:j < n:=by omega
  have hga:a < j + 1:=by omega
  go_upto_region 4 with fail;refine zcK BV BV ?_;(repeat go_big_quiet_step (with_reducible exact HK.out _));have hdec:decide ((a:Int) < (j:Int) + 1)=true:=decide_eq_true BS;rw [hdec];have gGs:=QH trivial;exact yfZ
 ·go_wp2_with fail;go_end0;exact ⟨rfl,hM⟩
theorem zuv (w:World) (rb g n cap a b:Nat) (hb:b ≤ n) (hn:n ≤ 1000) (ha:a + 1 < b) (hc:CellsAt w g n) (hz:ZeroO w rb) :
  Calls Tryz.prog 82 #[.slice (some ⟨g,0,none⟩) n cap,.int .i64 a,.int .i64 (a + 1:Nat),.int .i64 b,.func (.func 23) #[zh rb] #[]] w
   fun e w' => e = .returned (.tuple #[]) ∧ Mods [] w w':=by
 have HH:=QH (AI hc hz);clear hc hz;unfold zh;have h1:(((a + 1:Nat):Int) - (a:Int) == 1)=true:=beq_iff_eq.2 BS;go_enter Tryz.func82, Tryz.ntmps82;go_wp2_with fail;go_loopg [10,11] (b - (a + 1)) (fun gk t10 t11 wr => ∃ j:Nat,j=a + 1 + gk ∧ j ≤ b ∧ t10 = .int .i64 (a + 1:Nat) ∧ t11 = .int .i64 j ∧ Mods [] w wr)
 case atStart => exact ⟨b,by omega,by omega,by go_num,by go_num,QM _ _⟩
 obtain ⟨j,hj,hjb,rfl,rfl,hM⟩:=hrel;by_cases hlt:a + 1 < j
 ·subst hj;go_upto_region 5 with fail;generalize hzz:((a:Int) + 1 + ((a:Int) + 1 + (gk:Int))) / 2=z at *;obtain ⟨x,rfl⟩ : ∃ x:Nat,z=x:=⟨z.toNat,by omega⟩;have hx1:a + 1 ≤ x:=by omega
  have hx2:x < a + 1 + gk:=by omega
  have hxn:x < n:=by omega
  have han:a < n:=by omega
  obtain ⟨u1,k1⟩:=HH.out.1.later hM x hxn;obtain ⟨u0,k0⟩:=HH.out.1.later hM a han;have F1:∀ k:zay wr,k.val.cell? ⟨g,x,none⟩ = some u1:=fun k => k.mods.cell k1;have F2:∀ k:zay wr,k.val.cell? ⟨g,a,none⟩ = some u0:=fun k => k.mods.cell k0;have HK:=QH (fun k:zay wr => ((HH.out.2.later hM) k.val k.mods u1 u0).mono fun e w' h => (show e=_ ∧ ∃ k':zay wr,w'=k'.val from ⟨h.1,⟨w',k.mods.trans h.2⟩,rfl⟩));unfold zh at HK;have hM0:=QH hM;clear hM k1 k0;refine zcK BV BV ?_;have gGt:=QH trivial;exact yfZ
 ·go_wp2_with fail;go_loopg [13] 0 (fun gk2 t13 wx => t13 = .int .i64 a ∧ wr=wx)
  case atStart => exact ⟨rfl,rfl⟩
  exact yfP
theorem zuh (w:World) (rb g n cap a m:Nat) (hb:m + 1 ≤ n) (hn:n ≤ 1000) (ha:a + 1 < m) (hc:CellsAt w g n) (hz:ZeroO w rb) :
  Calls Tryz.prog 82 #[.slice (some ⟨g,0,none⟩) n cap,.int .i64 a,.int .i64 m,.int .i64 (m + 1:Nat),.func (.func 23) #[zh rb] #[]] w
   fun e w' => e = .returned (.tuple #[]) ∧ Mods [] w w':=by
 have HH:=QH (AI hc hz);clear hc hz;unfold zh;have h1:((m:Int) - (a:Int) == 1)=false:=beq_eq_false_iff_ne.2 BS;have h2:((m:Int) + 1 - (m:Int) == 1)=true:=beq_iff_eq.2 BS;go_enter Tryz.func82, Tryz.ntmps82;go_wp2_with fail;go_loopg [14,15] (m - a) (fun gk t14 t15 wr => ∃ i:Nat,i + gk=m ∧ a ≤ i ∧ t14 = .int .i64 i ∧ t15 = .int .i64 m ∧ Mods [] w wr)
 case atStart => exact ⟨a,by omega,by omega,rfl,rfl,QM _ _⟩
 obtain ⟨i,hi,hai,rfl,rfl,hM⟩:=hrel;by_cases hlt:i < m
 ·go_upto_region 17 with fail;generalize hzz:((i:Int) + (m:Int)) / 2=z at *;obtain ⟨x,rfl⟩ : ∃ x:Nat,z=x:=⟨z.toNat,by omega⟩;have hx1:i ≤ x:=by omega
  have hx2:x < m:=by omega
  have hxn:x < n:=by omega
  have han:m < n:=by omega
  obtain ⟨u1,k1⟩:=HH.out.1.later hM x hxn;obtain ⟨u0,k0⟩:=HH.out.1.later hM m han;have F1:∀ k:zay wr,k.val.cell? ⟨g,x,none⟩ = some u1:=fun k => k.mods.cell k1;have F2:∀ k:zay wr,k.val.cell? ⟨g,m,none⟩ = some u0:=fun k => k.mods.cell k0;have HK:=QH (fun k:zay wr => ((HH.out.2.later hM) k.val k.mods u0 u1).mono fun e w' h => (show e=_ ∧ ∃ k':zay wr,w'=k'.val from ⟨h.1,⟨w',k.mods.trans h.2⟩,rfl⟩));unfold zh at HK;have hM0:=QH hM;clear hM k1 k0;refine zcK BV BV ?_;exact yfN
 ·obtain rfl:m=i:=by omega
  go_wp2_with fail;go_loopg [17] 0 (fun gk2 t17 wx => t17 = .int .i64 m ∧ wr=wx)
  case atStart => exact ⟨rfl,rfl⟩
  exact yfP
theorem zui (w:World) (rb g n cap a m b:Nat) (hb:b ≤ n) (hn:n ≤ 1000) (ha:a + 1 < m) (hm:m + 1 < b) (hc:CellsAt w g n) (hz:ZeroO w rb)
  (hrec:∀ a' m' b':Nat,a' < m' → m' < b' → b' ≤ n → b' - a' < b - a → ∀ W,Mods [] w W → Calls Tryz.prog 82 #[.slice (some ⟨g,0,none⟩) n cap,.int .i64 a',.int .i64 m',.int .i64 b',.func (.func 23) #[zh rb] #[]] W fun e w' => e = .returned (.tuple #[]) ∧ Mods [] W w') :
  Calls Tryz.prog 82 #[.slice (some ⟨g,0,none⟩) n cap,.int .i64 a,.int .i64 m,.int .i64 b,.func (.func 23) #[zh rb] #[]] w
   fun e w' => e = .returned (.tuple #[]) ∧ Mods [] w w':=by
 have HH:=QH (AI hc (AI hz hrec));clear hc hz hrec;unfold zh at *;have h1:((m:Int) - (a:Int) == 1)=false:=beq_eq_false_iff_ne.2 BS;have h2:((b:Int) - (m:Int) == 1)=false:=beq_eq_false_iff_ne.2 BS;go_enter Tryz.func82, Tryz.ntmps82;go_upto_region 27 with fail;generalize hq:((a:Int) + (b:Int)) / 2=z at *;obtain ⟨q,rfl⟩ : ∃ q:Nat,z=q:=⟨z.toNat,by omega⟩;by_cases hmid:q < m
 ·obtain ⟨s0,hs0⟩ : ∃ s0:Nat,(q:Int) + (m:Int) - (b:Int)=s0:=⟨q + m - b,by omega⟩;obtain ⟨p,hp⟩ : ∃ p:Nat,(q:Int) + (m:Int) - 1=p:=⟨q + m - 1,by omega⟩;go_upto_region 33 with fail;(try rw [hs0]);(try rw [hp]);go_loopg [20,21] (q - s0) (fun gk t20 t21 wr => ∃ i:Nat,i + gk=q ∧ s0 ≤ i ∧ t20 = .int .i64 i ∧ t21 = .int .i64 q ∧ Mods [] w wr)
  case atStart => exact ⟨s0,by omega,by omega,rfl,rfl,QM _ _⟩
  obtain ⟨i,hi,hai,rfl,rfl,hM⟩:=hrel;by_cases hlt:i < q
  ·go_upto_region 35 with fail;generalize hzz:((i:Int) + (q:Int)) / 2=z at *;obtain ⟨x,rfl⟩ : ∃ x:Nat,z=x:=⟨z.toNat,by omega⟩;have hx1:i ≤ x:=by omega
   have hx2:x < q:=by omega
   have gGl:=QH trivial;exact yfW
  ·obtain rfl:q=i:=by omega
   have e1:(q:Int) + (m:Int) - (q:Int)=m:=by omega
   have hrc:=HH.out.2.2 q m b BS BS hb BS wr hM;have HM:=QH hM;exact yfO
 ·obtain ⟨p,hp⟩ : ∃ p:Nat,(q:Int) + (m:Int) - 1=p:=⟨q + m - 1,by omega⟩;go_upto_region 33 with fail;(try rw [hp]);go_loopg [20,21] (m - a) (fun gk t20 t21 wr => ∃ i:Nat,i + gk=m ∧ a ≤ i ∧ t20 = .int .i64 i ∧ t21 = .int .i64 m ∧ Mods [] w wr)
  case atStart => exact ⟨a,by omega,by omega,rfl,rfl,QM _ _⟩
  obtain ⟨i,hi,hai,rfl,rfl,hM⟩:=hrel;by_cases hlt:i < m
  ·go_upto_region 35 with fail;generalize hzz:((i:Int) + (m:Int)) / 2=z at *;obtain ⟨x,rfl⟩ : ∃ x:Nat,z=x:=⟨z.toNat,by omega⟩;have hx1:i ≤ x:=by omega
   have hx2:x < m:=by omega
   have gGm:=QH trivial;exact yfW
  ·obtain rfl:m=i:=by omega
   have e1:(q:Int) + (m:Int) - (m:Int)=q:=by omega
   have HM:=QH hM;by_cases hqm:m < q
   ·have hrc:=HH.out.2.2 a m q BS hqm BS BS wr hM;exact yfO
   ·clear hM;go_wp2_with fail;go_end0;exact ⟨rfl,HM.out⟩
theorem zuj (w:World) (rb g n cap:Nat) (hn:n ≤ 1000) (hc:CellsAt w g n) (hz:ZeroO w rb):∀ (d a m b:Nat),b - a ≤ d → a < m → m < b → b ≤ n → ∀ W,Mods [] w W →
  Calls Tryz.prog 82 #[.slice (some ⟨g,0,none⟩) n cap,.int .i64 a,.int .i64 m,.int .i64 b,.func (.func 23) #[zh rb] #[]] W fun e w' => e = .returned (.tuple #[]) ∧ Mods [] W w':=by
 intro d
 induction d with
 | zero => intro a m b h1 h2 h3; omega
 | succ d ih =>
  intro a m b hd ham hmb hb W hW;by_cases h1:m=a + 1
  ·subst h1;exact zuv W rb g n cap a b hb hn BS (hc.later hW) (hz.later hW)
  ·by_cases h2:b=m + 1
   ·subst h2;exact zuh W rb g n cap a m hb hn BS (hc.later hW) (hz.later hW)
   ·exact zui W rb g n cap a m b hb hn BS BS (hc.later hW) (hz.later hW) fun a' m' b' k1 k2 k3 k4 W' hW' => ih a' m' b' BS k1 k2 k3 W' (hW.trans hW')
theorem ztK (w:World) (rb g n cap:Nat) (hn:n ≤ 1000) (hc:CellsAt w g n) (hz:ZeroO w rb) :
  Calls Tryz.prog 45 #[.slice (some ⟨g,0,none⟩) n cap,.int .i64 n,.func (.func 23) #[zh rb] #[]] w fun e w' => e = .returned (.tuple #[]) ∧ Mods [] w w':=by
 have HI:=QH (fun (W:World) (hW:Mods [] w W) (a b:Nat) (hb:b ≤ n) (ha:a ≤ 1000) => zug W rb g n cap a b hb hn ha (hc.later hW) (hz.later hW));have HS:=QH (fun (W:World) (hW:Mods [] w W) (a m b:Nat) (h1:a < m) (h2:m < b) (h3:b ≤ n) => zuj w rb g n cap hn hc hz _ a m b (LR _) h1 h2 h3 W hW);clear hc hz;unfold zh at *;go_enter Tryz.func45, Tryz.ntmps45;go_wp2_with fail;go_loopg [7,8] n (fun gk t7 t8 wr => ∃ a:Nat,a + gk=n ∧ t7 = .int .i64 a ∧ t8 = .int .i64 ((a:Int) + 20) ∧ Mods [] w wr)
 case atStart => exact ⟨0,by omega,rfl,rfl,QM _ _⟩
 obtain ⟨a,ha,rfl,rfl,hM⟩:=hrel;by_cases hlt:a + 20 ≤ n
 ·have hi:=HI.out wr hM a (a + 20) hlt BS;rw [show ((a + 20:Nat):Int)=(a:Int) + 20 by omega] at hi;have HM:=QH hM;clear hM;go_wp2_with fail;(with_reducible refine hi.mono ?_);rintro e w2 ⟨rfl,hM2⟩;clear hi;have HM2:=QH (HM.out.trans hM2);clear hM2;go_wp2_with fail;go_roundg (n - (a + 20))
  case measure => omega
  case rel => exact ⟨a + 20,by omega,by go_num,by go_num,HM2.out⟩
 ·have hi:=HI.out wr hM a n (LR _) BS;have HM:=QH hM;clear hM;go_wp2_with fail;(with_reducible refine hi.mono ?_);rintro e w2 ⟨rfl,hM2⟩;clear hi;have HM2:=QH (HM.out.trans hM2);clear hM2;go_wp2_with fail;go_loopg [6,7,8,9] (n - 20) (fun gk t6 t7 t8 t9 wx => ∃ B:Nat,gk=n - B ∧ 20 ≤ B ∧ B ≤ 2000 ∧ t6 = .int .i64 B ∧ Mods [] w wx)
  case atStart => exact ⟨20,by omega,by omega,by omega,rfl,HM2.out⟩
  obtain ⟨B,hB,hB0,hB1,rfl,hM⟩:=hrel;by_cases hBn:B < n
  ·have HM:=QH hM;clear hM;go_wp2_with fail;generalize wr=wo at *;go_loopg [7,8] n (fun gk2 t7 t8 wy => ∃ c:Nat,c + gk2=n ∧ t7 = .int .i64 c ∧ t8 = .int .i64 ((c:Int) + 2 * (B:Int)) ∧ Mods [] w wy)
   case atStart => exact ⟨0,by omega,rfl,by go_num,HM.out⟩
   obtain ⟨c,hcn,rfl,rfl,hMc⟩:=hrel;by_cases hcl:c + 2 * B ≤ n
   ·have hs:=HS.out wr hMc c (c + B) (c + 2 * B) BS BS hcl;rw [show ((c + B:Nat):Int)=(c:Int) + (B:Int) by omega,show ((c + 2 * B:Nat):Int)=(c:Int) + 2 * (B:Int) by omega] at hs;have HMc:=QH hMc;clear hMc;go_wp2_with fail;(with_reducible refine hs.mono ?_);rintro e w3 ⟨rfl,hM3⟩;clear hs;have HM3:=QH (HMc.out.trans hM3);clear hM3;go_wp2_with fail;go_roundg (n - (c + 2 * B))
    case measure => omega
    case rel => exact ⟨c + 2 * B,by omega,by go_num,by go_num,HM3.out⟩
   ·by_cases hcb:c + B < n
    ·have hs:=HS.out wr hMc c (c + B) n BS BS (LR _);rw [show ((c + B:Nat):Int)=(c:Int) + (B:Int) by omega] at hs;have HMc:=QH hMc;clear hMc;go_wp2_with fail;(with_reducible refine hs.mono ?_);rintro e w3 ⟨rfl,hM3⟩;clear hs;have HM3:=QH (HMc.out.trans hM3);clear hM3;go_wp2_with fail;go_roundg (n - B * 2)
     case measure => omega
     case rel => exact ⟨B * 2,by omega,by omega,by omega,by go_num,HM3.out⟩
    ·have HMc:=QH hMc;clear hMc;go_wp2_with fail;go_roundg (n - B * 2)
     case measure => omega
     case rel => exact ⟨B * 2,by omega,by omega,by omega,by go_num,HMc.out⟩
  ·go_wp2_with fail;go_end0;exact ⟨rfl,hM⟩
theorem zuw (w:World) (x:Option Addr) (n cap:Nat) (fv:Value) (R:World → Prop)
  (hst:Calls Tryz.prog 45 #[.slice x n cap,.int .i64 n,fv] w fun e w' => e = .returned (.tuple #[]) ∧ R w') :
  Calls Tryz.prog 22 #[.slice x n cap,fv] w fun e w' => e = .returned (.tuple #[]) ∧ R w':=by
 have HI:=QH hst;clear hst;go_enter Tryz.func22, Tryz.ntmps22;go_wp2_with fail;refine HI.out.mono ?_;rintro e w2 ⟨rfl,hR⟩;have HR:=QH hR;clear hR;go_wp2_with fail;go_end0;exact ⟨rfl,HR.out⟩
theorem zt3 (w1 w:World) (rb n cap:Nat) (ao:Option Addr) (rs:List (List V)) (hn:rs.length=n) (hn1:n ≤ 1000) (hC:RowsC w1 w (.slice ao n cap) rs) (hz:ZeroO w rb) :
  Calls Tryz.prog 22 #[.slice ao n cap,.func (.func 23) #[zh rb] #[]] w fun e w' => e = .returned (.tuple #[]) ∧ Mods [] w w':=by
 rcases Nat.eq_zero_or_pos n with h0 | h0
 ·subst h0;refine (zqg w ao 0 cap _ BS (fun w' => w'=w) (zrf w ao cap rb)).mono ?_;rintro e w' ⟨rfl,rfl⟩;exact ⟨rfl,QM _ _⟩
 ·obtain ⟨ao2,cap2,hv,-,hg,hat⟩:=hC.slice;simp only [Value.slice.injEq] at hv;obtain ⟨rfl,-,rfl⟩:=hv;obtain ⟨g,rfl,-⟩:=hg (fun h => by rw [h] at hn; simp at hn; omega);refine zuw w _ n _ _ _ (ztK w rb g n _ hn1 (fun i hi => ?_) hz);obtain ⟨vo,c,-,h,-⟩:=hat [] BU g rfl i BS;exact ⟨_,h⟩
theorem zt4 (w:World) (pb cb:Nat) (c:CQ) (vl vr vt vk:Value) (hp:w.heap[pb]? = some (.cells #[zh cb,.int .i64 4,vl,vr,vt,vk] 49 (0,0))) (hq:CheckedAt w [] cb c) (hk:c.order=[])
  (v1 v2:Value) (rs:List (List V)) (n:Nat) (hn:rs.length=n) (hj:∀ W rb,Mods [] w W → w.heap.size ≤ rb → RunQ W rb pb cb c → W.heap[pb]? = some (.cells #[zh cb,.int .i64 4,vl,vr,vt,vk] 49 (0,0)) → Calls Tryz.prog 20 #[zh rb,v1,v2] W (FiltG W rb pb rs))
  (rs2:List (List V)) (n2:Nat) (hn2:rs2.length=n2) (hn19:n2 ≤ 1000)
  (hit:∀ (W:World) (rb:Nat) (bo:Option Addr) (bc:Nat),RunQ W rb pb cb c → RowsIn W bo rs [rb] → Calls Tryz.prog 21 #[zh rb,.slice bo n bc] W (ztg W rb pb rs2))
  (hlim:c.limit = -1) (hoff:c.offset = -1) :
  Calls Tryz.prog 14 #[zh pb,v1,v2] w (RowsRes w rs2):=by
 have hpb:=zj hp;have hz:Mods [] w (w.alloc (.cells #[zh pb,.int .i64 0] 83)):=(QM _ _).alloc _;have hnew:=QN w (.cells #[zh pb,.int .i64 0] 83)
 have hQ1:RunQ (w.alloc (.cells #[zh pb,.int .i64 0] 83)) w.heap.size pb cb c:=
  ⟨hnew,⟨vl,vr,vt,vk,hz.heap hp⟩,by omega,by
   have h1:=(hq.fresh (g:=w.heap.size) (LR _));obtain ⟨hn,von,vwh,vg,its,nms,vo,h1,h2,h3,h4,h5,h6,h7⟩:=h1;have hM':Mods [w.heap.size] w (w.alloc (.cells #[zh pb,.int .i64 0] 83)):=hz.mono
   exact ⟨hn,von,vwh,vg,its,nms,vo,hM'.heap h1 hn,h2.mods hM',h3.mods hM',h4.mods hM',h5.mods nodRep hM',h6.mods nameRep hM',h7.mods keyCRep hM'⟩⟩
 have hjj:=hj _ w.heap.size hz (LR _) hQ1 (hz.heap hp);have HQ:=QH hQ1;have HH:=QH (AI hit (AI hk (AI hz (AI hq (AI hlim hoff)))));have HJ:=QH hjj;clear hit hk hz hq hlim hoff hj hjj hQ1 hp;unfold zh at *;go_enter Tryz.func14, Tryz.ntmps14;go_wp2_with fail;(with_reducible refine HJ.out.mono ?_);rintro e w2 ⟨t,rfl,hM2,hR2,hC⟩;obtain ⟨rb,hrb⟩:=EX (w.heap.size);have hz:=HH.out.2.2.1;have hW1s:(w.alloc (.cells #[.pointer (some ⟨pb,0,none⟩),.int .i64 0] 83)).heap.size=w.heap.size + 1:=Array.size_push _;obtain ⟨bo,bc,rfl,hbc,hI2⟩:=hC.read (L:=[w.heap.size]) (fun x hx => .inl (by simp at hx; rw [hW1s]; omega));rw [hn];have hQ2:=HQ.out.mods hM2 hR2;have hMw:Mods [] w w2:=hz.trans hM2 (fun x hx => .inr (by simp at hx; omega));have hIt:=HH.out.1 w2 w.heap.size bo bc hQ2 hI2;have x1:=za hQ2.run 1;change w2.cell? _=some (.int .i64 0) at x1;rw [hrb] at hIt x1 hQ2;have HA:=QH (AI hMw (AI hQ2 hW1s));have HB:=QH hIt;clear hMw hQ2 hC hI2 hz hM2 hR2 hIt hW1s;rw [hrb] at HQ ⊢;go_wp2_with fail;(with_reducible refine HB.out.mono ?_);rintro e w3 ⟨t,rfl,hM3,hR3,hC⟩;have hQ3:=HA.out.2.1.mods hM3 hR3;obtain ⟨co,cc,rfl,hcc,hc0,-⟩:=hC.slice;rw [hn2];clear x1;have x1:=za hR3 1;change w3.cell? _=some (.int .i64 0) at x1;have hso:=zt3 w2 w3 rb n2 cc co rs2 hn2 hn19 (by rw [hn2] at hC; exact hC) (fun W hW va vb => zqq W rb pb cb c (hQ3.later hW) HH.out.2.1 va vb);have HS:=QH hso;have HM3:=QH (AI hM3 (AI hQ3 hC));clear hC hso hM3 hR3 hQ3 hc0;go_wp2_with fail;unfold zh at HS;(with_reducible refine HS.out.mono ?_);rintro e w4 ⟨rfl,hM4⟩;have hQ4:=HM3.out.2.1.later hM4;obtain ⟨vl2,vr2,vt2,vk2,hp4⟩:=hQ4.plan;obtain ⟨-,von,vwh,vg,its,nms,vo,hst,-⟩:=hQ4.q;have p0:=za hp4 0;have q9:=za hst 9;have q10:=za hst 10;rw [HH.out.2.2.2.2.1] at q9;rw [HH.out.2.2.2.2.2] at q10;change w4.cell? _=some (.pointer (some ⟨cb,0,none⟩)) at p0;change w4.cell? _=some (.int .i64 (-1)) at q9;change w4.cell? _=some (.int .i64 (-1)) at q10;have hC:=HM3.out.2.2.later hM4 BU;have hres:∀ (a:Option Addr) (k cap':Nat),(a=co.map (·.add (min (max (-1:Int) 0) (n2:Int)).toNat) ∨ k=0) → k=n2 → k ≤ cap' → RowsRes w rs2 (.returned (.tuple #[.slice a k cap',.int .i64 0])) w4:=by
  intro a k cap' ha hk hkc;subst hk;refine ⟨a,cap',by rw [hn2],by rw [hn2]; exact hkc,(HA.out.1.trans HM3.out.1 (fun x hx => .inr (by rw [List.mem_singleton.1 hx,← hrb]; exact LR _))).trans hM4,fun L2 hL2 h0 => ?_⟩;obtain ⟨co',cc',hv,hcc',hc0,hcr⟩:=hC.slice;simp only [Value.slice.injEq] at hv;obtain ⟨rfl,-,rfl⟩:=hv;obtain ⟨g,rfl,hg⟩:=hc0 h0;have hpos:0 < rs2.length:=List.length_pos_iff.2 h0;have hfe:(min (max (-1:Int) 0) (k:Int)).toNat=0:=by omega
  refine ⟨g,0,?_,fun hm => by have:=hL2 g hm; have:=HA.out.1.size; omega,fun i hi => ?_⟩
  ·rcases ha with ha | ha
   ·rw [ha,hfe];simp [Addr.add]
   ·omega
  ·obtain ⟨vo,c',h1,h2,h3⟩:=hcr L2 (fun x hx => LL (hL2 x hx) HA.out.1.size) g rfl i hi;exact ⟨vo,c',h1,by rw [Nat.zero_add]; exact h2,h3⟩
 have HC:=QH (AI hres hcc);clear hst hp4 hC hM4 x1 hres hQ4;go_wp2_with fail;all_goals go_ret2
 all_goals refine HC.out.1 _ _ _ ?_ ?_ ?_
 all_goals have hcc:=HC.out.2
 all_goals first | exact .inl rfl | rfl | (right; omega) | omega
theorem zuk (w:World) (rb pb:Nat) (lb off k cap:Nat) (hk0:0 < k) (hk1:k ≤ 1000) (nv row:Value) (hn:w.cell? ⟨lb,off,none⟩ = some nv) (x:V) (hx:x.n=0) (hz:x.z=false)
  (hev:∀ W,Mods [] w W → Calls Tryz.prog 42 #[zh rb,nv,row] W fun e w' => e = .returned (.agg #[.bool x.z,.int .i64 x.n,.string x.s]) ∧ Mods [rb] W w' ∧ RunAt w' rb pb) :
  Calls Tryz.prog 41 #[zh rb,.slice (some ⟨lb,off,none⟩) k cap,row] w (ztn w rb pb false):=by
 have he:=hev w (QM _ _);rw [hx,hz] at he;obtain ⟨s,hs⟩:=EX (x.s);rw [hs] at he;clear hev hs hx hz;unfold zh at *;go_enter Tryz.func41, Tryz.ntmps41;go_wp2_with fail;go_loopg [12] k (fun gk t12 wr => t12 = .int .i64 (0:Nat) ∧ w=wr)
 case atStart => exact ⟨rfl,rfl⟩
 obtain ⟨rfl,rfl⟩:=hrel;go_wp2_with fail;(with_reducible refine he.mono ?_);rintro e w2 ⟨rfl,hM2,hR2⟩;clear he;have hxb:=QN w2 (.cells #[.bool false,.int .i64 0,.string ⟨#[]⟩] 35);go_upto_region 5 with (refine wpList_store_row rfl 35 (.tmp 9) (.tmp 19) rfl w2.heap.size #[.bool false,.int .i64 0,.string s] rfl rfl 35 _ hxb zpv rfl (zpW _ _ _) ?_);have hMx:Mods [] w2 ((w2.alloc (.cells #[.bool false,.int .i64 0,.string ⟨#[]⟩] 35)).setRow w2.heap.size #[.bool false,.int .i64 0,.string s]):=((QM [] w2).alloc _).setRow (.inr (LR _)) _;have hxr:=zi #[.bool false,.int .i64 0,.string s] hxb;generalize (w2.alloc (.cells #[.bool false,.int .i64 0,.string ⟨#[]⟩] 35)).setRow w2.heap.size #[.bool false,.int .i64 0,.string s]=w3 at *;generalize w2.heap.size=xb at *;have x0:=za hxr 0;have x1:=za hxr 1;change w3.cell? _=some (.bool false) at x0;change w3.cell? _=some (.int .i64 0) at x1;have hR3:=hR2.mods hMx BU;have r1:=za hR3 1;change w3.cell? _=some (.int .i64 0) at r1;have HF:=QH (AI (hM2.trans hMx) hR3);clear hM2 hMx hR2 hR3 hxr hxb hn;go_wp2_with fail;go_ret;exact ⟨rfl,HF.out⟩
theorem ztP (w:World) (rb pb cb:Nat) (c:CQ) (hQ:RunQ w rb pb cb c) (hg:c.grouped=false) (ao:Option Addr) (cap:Nat) :
  Calls Tryz.prog 21 #[zh rb,.slice ao 0 cap] w (ztg w rb pb []):=by
 obtain ⟨vl,vr,vt,vk,hp⟩:=hQ.plan;obtain ⟨hcb,von,vwh,vg,its,nms,vo,hst,-⟩:=hQ.q;have hRun:=hQ.run;have r0:=za hRun 0;have p0:=za hp 0;have q4:=za hst 4;rw [hg] at q4;change w.cell? _=some (zh pb) at r0;change w.cell? _=some (zh cb) at p0;change w.cell? _=some (.bool false) at q4;obtain ⟨PP,hPP⟩:=EX (ztg w rb pb []);rw [hPP];have HC:=QH (AI hPP hRun);clear hPP hst hp hQ hRun hg hcb;unfold zh at *;go_enter Tryz.func21, Tryz.ntmps21;go_wp2_with fail;clear r0 p0 q4;go_loopg [4,28] 0 (fun gk t4 t28 wr => t4 = .slice none 0 0 ∧ t28 = .int .i64 (0:Nat) ∧ w=wr)
 case atStart => exact ⟨rfl,rfl,rfl⟩
 obtain ⟨rfl,rfl,rfl⟩:=hrel;have hfin:PP (.returned (.slice none 0 0)) w:=by rw [← HC.out.1];exact ⟨_,rfl,QM _ _,HC.out.2,RowsC.start w⟩
 have HFIN:=QH hfin;clear hfin;go_wp2_with fail;exact HFIN.out
theorem RowsIn.later {w w':World} {ao:Option Addr} {rs:List (List V)} (h:RowsIn w ao rs []) (hM:Mods [] w w') {rb:Nat} (hrb:w.heap.size ≤ rb):RowsIn w' ao rs [rb]:=by
 intro h0;obtain ⟨g,o,h1,h2,h3⟩:=h h0;refine ⟨g,o,h1,fun hm => ?_,fun i hi => ?_⟩
 ·obtain ⟨vo,k,h4,h5,h6⟩:=h3 0 (List.length_pos_iff.2 h0);have:=zD h5;simp only at this;simp at hm;omega
 ·obtain ⟨vo,k,h4,h5,h6⟩:=h3 i hi;exact ⟨vo,k,h4,hM.cell h5,(h6.fresh hrb).mods (hM.mono)⟩
def JoinIs (w:World) (c:CQ) (v1 v2:Value) (rs:List (List V)):Prop:=
 ∀ (B:Nat) (w3 w4:World) (pb cb:Nat) (vl vr vt vk:Value) (bl br bt:List Nat) (ps:List (Value × Value)),Mods [] w w3 → Mods [] w3 w4 → PlanM B w3 w4 [] cb pb 4 (makeP 4 false (splitO c.on ++ splitO c.whr)) vl vr vt vk bl br bt ps →
  ∀ W rb,Mods [] w4 W → w4.heap.size ≤ rb → RunQ W rb pb cb c → W.heap[pb]? = some (.cells #[zh cb,.int .i64 4,vl,vr,vt,vk] 49 (0,0)) → Calls Tryz.prog 20 #[zh rb,v1,v2] W (FiltG W rb pb rs)
structure JoinT (c:CQ):Prop where
 left:c.left=0
 right:c.right=some 1
 order:c.order=[]
 limit:c.limit = -1
 offset:c.offset = -1
 len:(splitO c.on ++ splitO c.whr).length ≤ 100000
theorem ztA (w:World) (hT:Tabs3 w) (l:Bs) (hl:l.length ≤ 1000) (c:CQ) (hc:zaI l=some (.ok c)) (h1:JoinT c)
  (v1 v2:Value) (rs:List (List V)) (n:Nat) (hn:rs.length=n) (hj:JoinIs w c v1 v2 rs) (rs2:List (List V)) (n2:Nat) (hn2:rs2.length=n2) (hn19:n2 ≤ 1000)
  (hit:∀ (W:World) (rb pb cb:Nat) (bo:Option Addr) (bc:Nat),RunQ W rb pb cb c → RowsIn W bo rs [rb] → Calls Tryz.prog 21 #[zh rb,.slice bo n bc] W (ztg W rb pb rs2)) :
  Calls Tryz.prog 8 #[.string ⟨l.toArray⟩,v1,v2] w (ztu w rs2):=by
 have hq:=query15 w hT l hl c hc;obtain ⟨S,hS⟩:=EX ((⟨l.toArray⟩ : ByteArray):ByteArray);rw [hS] at hq ⊢;obtain ⟨PP,hPP⟩:=EX (ztu w rs2);rw [hPP];have HP:=QH hPP;have HT:=QH hT;have HX:=QH (AI h1 (AI hit hj));clear hT hc hS hl hPP h1 hit hj;go_enter Tryz.func8, Tryz.ntmps8;go_wp2_with fail;(with_reducible refine hq.mono ?_);rintro e w2 ⟨cb,rfl,hM2,hC⟩;unfold zh;clear hq;have htb:=tables15 w2;have HC:=QH (AI hM2 hC);clear hM2 hC;go_wp2_with fail;(with_reducible refine htb.mono ?_);rintro e w3 ⟨tb,rfl,hM3,hI,-⟩;clear htb;have hmk:=zqd w3 (HT.out.later (HC.out.1.trans hM3)).1.1 tb hI cb c (HC.out.2.later hM3) HX.out.1.left (.inr HX.out.1.right) HX.out.1.len;rw [show decide (c.right=none)=false by rw [HX.out.1.right]; rfl] at hmk;have HM3:=QH (AI (HC.out.1.trans hM3) (HC.out.2.later hM3));unfold zh at hmk;clear hM3 hI;go_wp2_with fail;(with_reducible refine hmk.mono ?_);rintro e w4 ⟨pb,rfl,hM4,-,B,vl,vr,vt,vk,bl,br,bt,ps,hP⟩;clear hmk;have hM04:=HM3.out.1.trans hM4;have hrw:=zt4 w4 pb cb c vl vr vt vk hP.blk (HM3.out.2.later hM4) HX.out.1.order v1 v2 rs n hn (fun W rb hW hrb hQ hb => HX.out.2.2 B w3 w4 pb cb vl vr vt vk bl br bt ps HM3.out.1 hM4 hP W rb hW hrb hQ hb) rs2 n2 hn2 hn19 (fun W rb => HX.out.2.1 W rb pb cb) HX.out.1.limit HX.out.1.offset;have HM4:=QH hM04;unfold zh at hrw ⊢;clear hM4 hP hM04;go_wp2_with fail;(with_reducible refine hrw.mono ?_);rintro e w5 ⟨bo,bc,rfl,hbc,hM5,hR⟩;clear hrw;have hfin:PP (.returned (.tuple #[.slice bo n2 bc,.bool true])) w5:=by rw [← HP.out];exact ⟨bo,bc,by rw [hn2],hbc,HM4.out.trans hM5,fun L hL => hR L fun x hx => LL (hL x hx) HM4.out.size⟩
 have HFIN:=QH hfin;clear hfin hR hM5 hbc;go_wp2_with fail;exact HFIN.out
def joinL:Bs:=[83,69,76,69,67,84,32,97,44,32,120,44,32,122,32,70,82,79,77,32,116,32,74,79,73,78,32,117,32,79,78,32,97,32,61,32,120]
def noneL:Bs:=[83,69,76,69,67,84,32,49,32,47,32,48,32,70,82,79,77,32,116,32,74,79,73,78,32,117,32,79,78,32,70,65,76,83,69,32,65,78,68,32,49,32,47,32,48,32,61,32,49]
def isCol (k:Nat) (h:NHd):Bool:=decide (h.op=oColumn) && decide (h.col=k)
def headJ (c:CQ):Bool:=decide (c.left=0) && decide (c.right=some 1) && !c.grouped && c.order.isEmpty && decide (c.limit = -1) && decide (c.offset = -1) && decide ((splitO c.on ++ splitO c.whr).length ≤ 100000)
def joinOk:Option (Chk CQ) → Bool
 | some (.ok c) => headJ c && (match (makeP 4 false (splitO c.on ++ splitO c.whr)).left,(makeP 4 false (splitO c.on ++ splitO c.whr)).right,(makeP 4 false (splitO c.on ++ splitO c.whr)).rest,(makeP 4 false (splitO c.on ++ splitO c.whr)).keys with
  | [],[],[],[(.leaf h1,.leaf h2)] => isCol 0 h1 && isCol 4 h2
  | _,_,_,_ => false) && (match c.items with
  | [.leaf a,.leaf b,.leaf d] => isCol 0 a && isCol 4 b && isCol 6 d
  | _ => false)
 | _ => false
def noneOk:Option (Chk CQ) → Bool
 | some (.ok c) => headJ c && (match (makeP 4 false (splitO c.on ++ splitO c.whr)).left,(makeP 4 false (splitO c.on ++ splitO c.whr)).right,(makeP 4 false (splitO c.on ++ splitO c.whr)).rest,(makeP 4 false (splitO c.on ++ splitO c.whr)).keys with
  | .leaf h :: l,[],[],[] => decide (h.op=[118,97,108,117,101]) && decide (h.n=0) && !h.null && decide (l.length ≤ 100)
  | _,_,_,_ => false)
 | _ => false
theorem zux:joinOk (zaI joinL)=true:=by decide +kernel
theorem zuy:noneOk (zaI noneL)=true:=by decide +kernel
end Go.Proofs.YtcabeljiobiojaaGreatDoor
