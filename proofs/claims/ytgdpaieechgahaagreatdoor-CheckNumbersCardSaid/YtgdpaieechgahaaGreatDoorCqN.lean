/-
  The law CheckNumbers, walked. No condition but that Go's own variables hold what they were laid with.
-/
import Derived.Test.YtgdpaieechgahaaGreatDoorQ49
namespace Go.Proofs.YtgdpaieechgahaaGreatDoor
open Go.RowKit
set_option linter.unusedVariables false
theorem zjD {x y o:Nat} (hx:x < 10) (hy:y < 10) (ho:o < 4):typedP (numTxt x ++ [32] ++ opC o ++ [32] ++ numTxt y)=if fitsN x y o=true then some (scaleT (wantN x y o)) else none:=of_decide_eq_true (ze4 x hx y hy o ho)
theorem zaA {k:Nat} (h:k < 10):(numTxt k).length ≤ 11:=by
 unfold numTxt
 split
 ·decide
 ·rw [List.length_append,List.length_take]
  simp
  omega
theorem zgw {o:Nat} (h:o < 4):(opC o).length=1:=by
 have h2:o=0 ∨ o=1 ∨ o=2 ∨ o=3:=by omega
 rcases h2 with rfl | rfl | rfl | rfl <;> rfl
set_option maxRecDepth 100000 in
set_option maxHeartbeats 8000000 in
theorem zbu (w:World) (hT:Tabs3 w) (a:Nat) (ha:a < 256) (b:Nat) (hb:b < 256) (op:Nat) (hop:op < 256) :
  Calls Tryz.prog 6 #[.int .u8 a,.int .u8 b,.int .u8 op] w fun e w' => e = .returned (.bool true) ∧ Mods [] w w':=by
 have hex:=zcT w hT
 obtain ⟨x,hx,hxz⟩ : ∃ k:Nat,k < 10 ∧ (a:Int).tmod 10=(k:Int):=⟨a % 10,by omega,by rw [Int.tmod_eq_emod_of_nonneg (by omega)]; omega⟩
 obtain ⟨y,hy,hyz⟩ : ∃ k:Nat,k < 10 ∧ (b:Int).tmod 10=(k:Int):=⟨b % 10,by omega,by rw [Int.tmod_eq_emod_of_nonneg (by omega)]; omega⟩
 obtain ⟨o,ho,hoz⟩ : ∃ k:Nat,k < 4 ∧ (op:Int).tmod 4=(k:Int):=⟨op % 4,by omega,by rw [Int.tmod_eq_emod_of_nonneg (by omega)]; omega⟩
 have ho4:(o:Int) < 4:=by omega
 have HT:=Lib.hid hT
 clear hT
 go_enter Tryz.func6, Tryz.ntmps6
 go_wp2_with fail
 (with_reducible refine hex.mono ?_)
 rintro e w2 ⟨rfl,hM2⟩
 clear hex
 have hz1:=(Mods.refl [] w2).alloc (.cells #[.string ⟨#[43]⟩,.string ⟨#[45]⟩,.string ⟨#[42]⟩,.string ⟨#[47]⟩] 9)
 have hc1:(w2.alloc (.cells #[.string ⟨#[43]⟩,.string ⟨#[45]⟩,.string ⟨#[42]⟩,.string ⟨#[47]⟩] 9)).cell? ⟨w2.heap.size,o,none⟩ = some (.string ⟨(opC o).toArray⟩):=by
  rw [za (heap_alloc_new w2 _) o]
  have h2:o=0 ∨ o=1 ∨ o=2 ∨ o=3:=by omega
  rcases h2 with rfl | rfl | rfl | rfl <;> rfl
 have hMw3:=hM2.trans hz1 (by simp)
 obtain ⟨OP,hOP⟩ : ∃ S:ByteArray,(⟨(opC o).toArray⟩ : ByteArray)=S:=⟨_,rfl⟩
 have hops:OP.size=1:=by rw [← hOP]; exact zgw ho
 rw [hOP] at hc1
 obtain ⟨NX,hNX⟩ : ∃ S:ByteArray,(⟨(numTxt x).toArray⟩ : ByteArray)=S:=⟨_,rfl⟩
 obtain ⟨NY,hNY⟩ : ∃ S:ByteArray,(⟨(numTxt y).toArray⟩ : ByteArray)=S:=⟨_,rfl⟩
 have hxs:NX.size ≤ 11:=by rw [← hNX]; exact zaA hx
 have hys:NY.size ≤ 11:=by rw [← hNY]; exact zaA hy
 have hcat:NX ++ (⟨#[32]⟩ : ByteArray) ++ OP ++ ⟨#[32]⟩ ++ NY = ⟨(numTxt x ++ [32] ++ opC o ++ [32] ++ numTxt y).toArray⟩:=by
  rw [← hNX,← hNY,← hOP]
  exact (congrArg (· ++ (⟨(numTxt y).toArray⟩ : ByteArray)) ((congrArg (· ++ (⟨#[32]⟩ : ByteArray)) ((congrArg (· ++ (⟨(opC o).toArray⟩ : ByteArray)) (cat2 (numTxt x) [32])).trans (cat2 _ (opC o)))).trans (cat2 _ [32]))).trans (cat2 _ (numTxt y))
 have hnx:=fun W => zdc W x hx
 have hny:=fun W => zdc W y hy
 rw [hNX] at hnx
 rw [hNY] at hny
 have m1:¬ 9223372036854775807 < NX.size + 1:=by omega
 have m2:¬ 9223372036854775807 < NX.size + 1 + 1:=by omega
 have m3:¬ 9223372036854775807 < NX.size + 1 + 1 + 1:=by omega
 have m4:¬ 9223372036854775807 < NX.size + 1 + 1 + 1 + NY.size:=by omega
 have HN:=Lib.hid (And.intro hcat (And.intro hNX (And.intro hMw3 hOP)))
 clear hz1 hM2 hNX hNY hOP hcat hMw3 hxs hys
 go_upto_region 9 with fail
 generalize w2.alloc (.cells #[.string ⟨#[43]⟩,.string ⟨#[45]⟩,.string ⟨#[42]⟩,.string ⟨#[47]⟩] 9)=w3 at *
 clear hc1
 go_wp2_with fail
 (refine (hnx w3).mono ?_)
 rintro e w4 ⟨rfl,hM4⟩
 go_wp2_with fail
 (refine (hny w4).mono ?_)
 rintro e w5 ⟨rfl,hM5⟩
 have hM05:=((HN.out.2.2.1).trans hM4 (by simp)).trans hM5 (by simp)
 have hty:=zcK w5 (HT.out.later hM05) (numTxt x ++ [32] ++ opC o ++ [32] ++ numTxt y) (by have h1:=zaA hx; have h2:=zaA hy; have h3:=zgw ho; simp only [List.length_append,List.length_cons,List.length_nil]; omega)
 rw [zjD hx hy ho,← HN.out.1] at hty
 obtain ⟨B,hB⟩ : ∃ B,fitsN x y o=B:=⟨_,rfl⟩
 obtain ⟨wk,hwk⟩ : ∃ k,(scaleT (wantN x y o)).k=k:=⟨_,rfl⟩
 obtain ⟨ws,hws⟩ : ∃ k,(scaleT (wantN x y o)).s=k:=⟨_,rfl⟩
 rw [hB] at hty
 have HB:=Lib.hid (And.intro hB (And.intro hwk (And.intro hws hM05)))
 have htr:∃ tk ts:Int,tyR (if B=true then some (scaleT (wantN x y o)) else none) = .tuple #[.agg #[.int .i64 tk,.int .i64 ts],.bool B] ∧ (B=true → tk=(wk:Int) ∧ ts=(ws:Int)):=by
  cases B with
  | true => exact ⟨wk,ws,by rw [if_pos rfl,← hwk,← hws]; rfl,fun _ => ⟨rfl,rfl⟩⟩
  | false => exact ⟨0,0,by rw [if_neg (by simp)]; rfl,fun h => by cases h⟩
 obtain ⟨tk,ts,htr,htt⟩:=htr
 unfold TypedRes at hty
 rw [htr] at hty
 have HTT:=Lib.hid htt
 clear hM4 hM5 hM05 hB hwk hws htr htt
 go_wp2_with fail
 (with_reducible refine hty.mono ?_)
 rintro e w6 ⟨rfl,hM6⟩
 clear hty
 have hzt:=(Mods.refl [] w6).alloc (.cells #[.int .i64 tk,.int .i64 ts] 26)
 have hnt:=heap_alloc_new w6 (.cells #[.int .i64 tk,.int .i64 ts] 26)
 have HM6:=Lib.hid (And.intro ((HB.out.2.2.2.trans hM6 (by simp)).trans hzt (by simp)) hnt)
 clear hM6 hzt hnt m1 m2 m3 m4
 go_upto_region 10 with fail
 generalize w6.alloc (.cells #[.int .i64 tk,.int .i64 ts] 26)=w7 at *
 generalize w6.heap.size=tb at *
 go_wp2_with fail
 (refine (hnx w7).mono ?_)
 rintro e w8 ⟨rfl,hM8⟩
 have hty:=zcK w8 (HT.out.later (HM6.out.1.trans hM8 (by simp))) (numTxt x) (by have h1:=zaA hx; omega)
 rw [ze3 x hx,HN.out.2.1] at hty
 obtain ⟨xk,hxk⟩ : ∃ k,(scaleT x).k=k:=⟨_,rfl⟩
 obtain ⟨xs,hxs2⟩ : ∃ k,(scaleT x).s=k:=⟨_,rfl⟩
 change Calls _ _ _ _ (fun e w' => e = .returned (.tuple #[.agg #[.int .i64 ((scaleT x).k:Nat),.int .i64 ((scaleT x).s:Nat)],.bool true]) ∧ Mods [] w8 w') at hty
 rw [hxk,hxs2] at hty
 have HM8:=Lib.hid (And.intro (HM6.out.1.trans hM8 (by simp)) (And.intro (hM8.heap HM6.out.2 (by simp)) (And.intro hxk hxs2)))
 clear hM8 hnx hny hxk hxs2
 go_wp2_with fail
 (with_reducible refine hty.mono ?_)
 rintro e w9 ⟨rfl,hM9⟩
 clear hty
 have hzt:=(Mods.refl [] w9).alloc (.cells #[.int .i64 (xk:Nat),.int .i64 (xs:Nat)] 26)
 have hnt:=heap_alloc_new w9 (.cells #[.int .i64 (xk:Nat),.int .i64 (xs:Nat)] 26)
 have HM9:=Lib.hid (And.intro ((HM8.out.1.trans hM9 (by simp)).trans hzt (by simp)) (And.intro ((hM9.trans hzt (by simp)).heap HM8.out.2.1 (by simp)) hnt))
 clear hM9 hzt hnt
 go_upto_region 11 with fail
 generalize w9.alloc (.cells #[.int .i64 (xk:Nat),.int .i64 (xs:Nat)] 26)=wa at *
 generalize w9.heap.size=ub at *
 obtain ⟨hcat,hNX,hMw3,hOP⟩:=HN.out
 have ho5:o=0 ∨ o=1 ∨ o=2 ∨ o=3:=by omega
 have hmax:=fun W => zhh (P:= Tryz.prog) W 3 3 3 .i64 x y ((max x y:Nat):Int) (by omega)
 obtain ⟨mx,hmx⟩ : ∃ mx,max x y=mx:=⟨_,rfl⟩
 have hmx2:mx < 10:=by omega
 rw [hmx] at hmax
 rcases ho5 with rfl | rfl | rfl | rfl
 ·obtain rfl:B=true:=by rw [← HB.out.1]; rfl
  obtain rfl:OP = ⟨#[43]⟩:=by rw [← hOP]; rfl
  have hWo:wantN x y 0=mx:=by rw [← hmx]; rfl
  clear hcat hNX hMw3 hOP HN hoz ho4 ho hmx
  have u0:=za HM9.out.2.2 0
  have u1:=za HM9.out.2.2 1
  have v0:=za HM9.out.2.1 0
  have v1:=za HM9.out.2.1 1
  change wa.cell? _=some (.int .i64 (xk:Nat)) at u0
  change wa.cell? _=some (.int .i64 (xs:Nat)) at u1
  change wa.cell? _=some (.int .i64 tk) at v0
  change wa.cell? _=some (.int .i64 ts) at v1
  rw [(HTT.out rfl).1] at v0
  rw [(HTT.out rfl).2] at v1
  go_upto_region 19 with fail
  have hsc:=zR wa.drew x (by omega)
  rw [HM8.out.2.2.1,HM8.out.2.2.2] at hsc
  apply zm (by kernel_rfl) [0,1,2,3,4,5,6,7] [(8,[9,10,11,12,13,14,15,16,17,18,19,20,21,22]),(23,[24,25,26,27])] true (by kernel_rfl) (fun y => y.cell? ⟨ub,0,none⟩ = some (.int .i64 (xk:Nat)) ∧ y.cell? ⟨ub,1,none⟩ = some (.int .i64 (xs:Nat)) ∧ y.cell? ⟨tb,0,none⟩ = some (.int .i64 (wk:Nat)) ∧ y.cell? ⟨tb,1,none⟩ = some (.int .i64 (ws:Nat)))
  case hC => exact ⟨u0,u1,v0,v1⟩
  case hwalk =>
   rintro y ⟨y0,y1,y2,y3⟩
   change wpQuiet _ _ _ _ [_,_,_,_,_,_,_,_] (Act.mk _ _)
   repeat (go_big_quiet_step (fail))
   refine wpQuiet_nil ?_
   exact rfl
  case hrun =>
   change segI _ _ _ _ _ [(_,[_,_,_,_,_,_,_,_,_,_,_,_,_,_]),(_,[_,_,_,_])] _ _
   refine zs fun R1 hR1 => ?_
   go_wp2_with fail
   (with_reducible refine hsc.mono ?_)
   rintro r wb ⟨rfl,hMb⟩
   clear hsc
   have hMab:=(Mods.refl [] wa).drew.trans hMb (by simp)
   replace u0:=hMab.cell u0 (by simp)
   replace u1:=hMab.cell u1 (by simp)
   replace v0:=hMab.cell v0 (by simp)
   replace v1:=hMab.cell v1 (by simp)
   have HMb:=Lib.hid (HM9.out.1.trans hMab (by simp))
   clear hMb hMab
   go_wp2_with fail
   refine zc ?_
   apply hR1 _ wb (.inr ⟨u0,u1,v0,v1⟩)
   ·rintro y ⟨y0,y1,y2,y3⟩
    change wpQuiet _ _ _ _ [_,_,_,_,_,_,_,_,_,_,_,_,_,_] (Act.mk _ _)
    repeat (go_big_quiet_step (fail))
    refine wpQuiet_nil ?_
    exact rfl
   ·clear hR1 R1
    refine zs fun R2 hR2 => ?_
    have hsd:=zR wb (mx) (by omega)
    rw [show (scaleT (mx)).k=wk from by rw [← HB.out.2.1,hWo],show (scaleT (mx)).s=ws from by rw [← HB.out.2.2.1,hWo]] at hsd
    clear hWo
    go_wp2_with fail
    (with_reducible refine hsd.mono ?_)
    rintro r wc ⟨rfl,hMc⟩
    clear hsd
    replace u0:=hMc.cell u0 (by simp)
    replace u1:=hMc.cell u1 (by simp)
    replace v0:=hMc.cell v0 (by simp)
    replace v1:=hMc.cell v1 (by simp)
    have HMc:=Lib.hid (HMb.out.trans hMc (by simp))
    clear hMc
    go_wp2_with fail
    refine zc ?_
    apply hR2 _ wc (.inr ⟨u0,u1,v0,v1⟩)
    ·rintro y ⟨y0,y1,y2,y3⟩
     change wpQuiet _ _ _ _ [_,_,_,_] (Act.mk _ _)
     repeat (go_big_quiet_step (fail))
     refine wpQuiet_nil ?_
     exact rfl
    ·clear hR2 R2
     refine zt ?_
     go_wp2_with fail
     go_ret
     exact ⟨rfl,HMc.out⟩
 ·obtain rfl:B=true:=by rw [← HB.out.1]; rfl
  obtain rfl:OP = ⟨#[45]⟩:=by rw [← hOP]; rfl
  have hWo:wantN x y 1=mx:=by rw [← hmx]; rfl
  clear hcat hNX hMw3 hOP HN hoz ho4 ho hmx
  have u0:=za HM9.out.2.2 0
  have u1:=za HM9.out.2.2 1
  have v0:=za HM9.out.2.1 0
  have v1:=za HM9.out.2.1 1
  change wa.cell? _=some (.int .i64 (xk:Nat)) at u0
  change wa.cell? _=some (.int .i64 (xs:Nat)) at u1
  change wa.cell? _=some (.int .i64 tk) at v0
  change wa.cell? _=some (.int .i64 ts) at v1
  rw [(HTT.out rfl).1] at v0
  rw [(HTT.out rfl).2] at v1
  go_upto_region 19 with fail
  have hsc:=zR wa.drew x (by omega)
  rw [HM8.out.2.2.1,HM8.out.2.2.2] at hsc
  apply zm (by kernel_rfl) [0,1,2,3,4,5,6,7] [(8,[9,10,11,12,13,14,15,16,17,18,19,20,21,22]),(23,[24,25,26,27])] true (by kernel_rfl) (fun y => y.cell? ⟨ub,0,none⟩ = some (.int .i64 (xk:Nat)) ∧ y.cell? ⟨ub,1,none⟩ = some (.int .i64 (xs:Nat)) ∧ y.cell? ⟨tb,0,none⟩ = some (.int .i64 (wk:Nat)) ∧ y.cell? ⟨tb,1,none⟩ = some (.int .i64 (ws:Nat)))
  case hC => exact ⟨u0,u1,v0,v1⟩
  case hwalk =>
   rintro y ⟨y0,y1,y2,y3⟩
   change wpQuiet _ _ _ _ [_,_,_,_,_,_,_,_] (Act.mk _ _)
   repeat (go_big_quiet_step (fail))
   refine wpQuiet_nil ?_
   exact rfl
  case hrun =>
   change segI _ _ _ _ _ [(_,[_,_,_,_,_,_,_,_,_,_,_,_,_,_]),(_,[_,_,_,_])] _ _
   refine zs fun R1 hR1 => ?_
   go_wp2_with fail
   (with_reducible refine hsc.mono ?_)
   rintro r wb ⟨rfl,hMb⟩
   clear hsc
   have hMab:=(Mods.refl [] wa).drew.trans hMb (by simp)
   replace u0:=hMab.cell u0 (by simp)
   replace u1:=hMab.cell u1 (by simp)
   replace v0:=hMab.cell v0 (by simp)
   replace v1:=hMab.cell v1 (by simp)
   have HMb:=Lib.hid (HM9.out.1.trans hMab (by simp))
   clear hMb hMab
   go_wp2_with fail
   refine zc ?_
   apply hR1 _ wb (.inr ⟨u0,u1,v0,v1⟩)
   ·rintro y ⟨y0,y1,y2,y3⟩
    change wpQuiet _ _ _ _ [_,_,_,_,_,_,_,_,_,_,_,_,_,_] (Act.mk _ _)
    repeat (go_big_quiet_step (fail))
    refine wpQuiet_nil ?_
    exact rfl
   ·clear hR1 R1
    refine zs fun R2 hR2 => ?_
    have hsd:=zR wb (mx) (by omega)
    rw [show (scaleT (mx)).k=wk from by rw [← HB.out.2.1,hWo],show (scaleT (mx)).s=ws from by rw [← HB.out.2.2.1,hWo]] at hsd
    clear hWo
    go_wp2_with fail
    (with_reducible refine hsd.mono ?_)
    rintro r wc ⟨rfl,hMc⟩
    clear hsd
    replace u0:=hMc.cell u0 (by simp)
    replace u1:=hMc.cell u1 (by simp)
    replace v0:=hMc.cell v0 (by simp)
    replace v1:=hMc.cell v1 (by simp)
    have HMc:=Lib.hid (HMb.out.trans hMc (by simp))
    clear hMc
    go_wp2_with fail
    refine zc ?_
    apply hR2 _ wc (.inr ⟨u0,u1,v0,v1⟩)
    ·rintro y ⟨y0,y1,y2,y3⟩
     change wpQuiet _ _ _ _ [_,_,_,_] (Act.mk _ _)
     repeat (go_big_quiet_step (fail))
     refine wpQuiet_nil ?_
     exact rfl
    ·clear hR2 R2
     refine zt ?_
     go_wp2_with fail
     go_ret
     exact ⟨rfl,HMc.out⟩
 ·obtain rfl:OP = ⟨#[42]⟩:=by rw [← hOP]; rfl
  obtain ⟨sm,hsm⟩ : ∃ sm,x + y=sm:=⟨_,rfl⟩
  have hsm2:(x:Int) + (y:Int)=(sm:Int):=by omega
  have hsm3:sm < 20:=by omega
  have hWo:wantN x y 2=sm:=by rw [← hsm]; rfl
  have hBB:decide (sm ≤ 9)=B:=by rw [← HB.out.1,← hsm]; rfl
  clear hcat hNX hMw3 hOP HN hoz ho4 ho hsm hmx
  cases B with
  | true =>
   have hle:(sm:Int) ≤ 9:=by have:=of_decide_eq_true hBB; omega
   have hle2:decide ((sm:Int) ≤ 9)=true:=decide_eq_true hle
   clear hBB hle
   have u0:=za HM9.out.2.2 0
   have u1:=za HM9.out.2.2 1
   have v0:=za HM9.out.2.1 0
   have v1:=za HM9.out.2.1 1
   change wa.cell? _=some (.int .i64 (xk:Nat)) at u0
   change wa.cell? _=some (.int .i64 (xs:Nat)) at u1
   change wa.cell? _=some (.int .i64 tk) at v0
   change wa.cell? _=some (.int .i64 ts) at v1
   rw [(HTT.out rfl).1] at v0
   rw [(HTT.out rfl).2] at v1
   go_upto_region 19 with fail
   have hsc:=zR wa.drew x (by omega)
   rw [HM8.out.2.2.1,HM8.out.2.2.2] at hsc
   apply zm (by kernel_rfl) [0,1,2,3,4,5,6,7] [(8,[9,10,11,12,13,14,15,16,17,18,19,20,21,22]),(23,[24,25,26,27])] true (by kernel_rfl) (fun y => y.cell? ⟨ub,0,none⟩ = some (.int .i64 (xk:Nat)) ∧ y.cell? ⟨ub,1,none⟩ = some (.int .i64 (xs:Nat)) ∧ y.cell? ⟨tb,0,none⟩ = some (.int .i64 (wk:Nat)) ∧ y.cell? ⟨tb,1,none⟩ = some (.int .i64 (ws:Nat)))
   case hC => exact ⟨u0,u1,v0,v1⟩
   case hwalk =>
    rintro y ⟨y0,y1,y2,y3⟩
    change wpQuiet _ _ _ _ [_,_,_,_,_,_,_,_] (Act.mk _ _)
    repeat (go_big_quiet_step (fail))
    refine wpQuiet_nil ?_
    exact rfl
   case hrun =>
    change segI _ _ _ _ _ [(_,[_,_,_,_,_,_,_,_,_,_,_,_,_,_]),(_,[_,_,_,_])] _ _
    refine zs fun R1 hR1 => ?_
    go_wp2_with fail
    (with_reducible refine hsc.mono ?_)
    rintro r wb ⟨rfl,hMb⟩
    clear hsc
    have hMab:=(Mods.refl [] wa).drew.trans hMb (by simp)
    replace u0:=hMab.cell u0 (by simp)
    replace u1:=hMab.cell u1 (by simp)
    replace v0:=hMab.cell v0 (by simp)
    replace v1:=hMab.cell v1 (by simp)
    have HMb:=Lib.hid (HM9.out.1.trans hMab (by simp))
    clear hMb hMab
    go_wp2_with fail
    refine zc ?_
    apply hR1 _ wb (.inr ⟨u0,u1,v0,v1⟩)
    ·rintro y ⟨y0,y1,y2,y3⟩
     change wpQuiet _ _ _ _ [_,_,_,_,_,_,_,_,_,_,_,_,_,_] (Act.mk _ _)
     repeat (go_big_quiet_step (fail))
     refine wpQuiet_nil ?_
     exact rfl
    ·clear hR1 R1
     refine zs fun R2 hR2 => ?_
     have hsd:=zR wb (sm) (by omega)
     rw [show (scaleT (sm)).k=wk from by rw [← HB.out.2.1,hWo],show (scaleT (sm)).s=ws from by rw [← HB.out.2.2.1,hWo]] at hsd
     clear hWo
     go_wp2_with fail
     (with_reducible refine hsd.mono ?_)
     rintro r wc ⟨rfl,hMc⟩
     clear hsd
     replace u0:=hMc.cell u0 (by simp)
     replace u1:=hMc.cell u1 (by simp)
     replace v0:=hMc.cell v0 (by simp)
     replace v1:=hMc.cell v1 (by simp)
     have HMc:=Lib.hid (HMb.out.trans hMc (by simp))
     clear hMc
     go_wp2_with fail
     refine zc ?_
     apply hR2 _ wc (.inr ⟨u0,u1,v0,v1⟩)
     ·rintro y ⟨y0,y1,y2,y3⟩
      change wpQuiet _ _ _ _ [_,_,_,_] (Act.mk _ _)
      repeat (go_big_quiet_step (fail))
      refine wpQuiet_nil ?_
      exact rfl
     ·clear hR2 R2
      refine zt ?_
      go_wp2_with fail
      go_ret
      exact ⟨rfl,HMc.out⟩
  | false =>
   have hle:¬ (sm:Int) ≤ 9:=by have:=of_decide_eq_false hBB; omega
   have hle2:decide ((sm:Int) ≤ 9)=false:=decide_eq_false hle
   clear hBB hle
   have u0:=za HM9.out.2.2 0
   have u1:=za HM9.out.2.2 1
   have v0:=za HM9.out.2.1 0
   have v1:=za HM9.out.2.1 1
   change wa.cell? _=some (.int .i64 (xk:Nat)) at u0
   change wa.cell? _=some (.int .i64 (xs:Nat)) at u1
   change wa.cell? _=some (.int .i64 tk) at v0
   change wa.cell? _=some (.int .i64 ts) at v1
   go_upto_region 19 with fail
   have hsc:=zR wa.drew x (by omega)
   rw [HM8.out.2.2.1,HM8.out.2.2.2] at hsc
   apply zm (by kernel_rfl) [0,1,2,3,4,5,6,7] [(8,[9,10,11,12,13,14,15,16,17,18,19,20,21,22]),(23,[24,25,26,27])] true (by kernel_rfl) (fun y => y.cell? ⟨ub,0,none⟩ = some (.int .i64 (xk:Nat)) ∧ y.cell? ⟨ub,1,none⟩ = some (.int .i64 (xs:Nat)) ∧ y.cell? ⟨tb,0,none⟩ = some (.int .i64 tk) ∧ y.cell? ⟨tb,1,none⟩ = some (.int .i64 ts))
   case hC => exact ⟨u0,u1,v0,v1⟩
   case hwalk =>
    rintro y ⟨y0,y1,y2,y3⟩
    change wpQuiet _ _ _ _ [_,_,_,_,_,_,_,_] (Act.mk _ _)
    repeat (go_big_quiet_step (fail))
    refine wpQuiet_nil ?_
    exact rfl
   case hrun =>
    change segI _ _ _ _ _ [(_,[_,_,_,_,_,_,_,_,_,_,_,_,_,_]),(_,[_,_,_,_])] _ _
    refine zs fun R1 hR1 => ?_
    go_wp2_with fail
    (with_reducible refine hsc.mono ?_)
    rintro r wb ⟨rfl,hMb⟩
    clear hsc
    have hMab:=(Mods.refl [] wa).drew.trans hMb (by simp)
    replace u0:=hMab.cell u0 (by simp)
    replace u1:=hMab.cell u1 (by simp)
    replace v0:=hMab.cell v0 (by simp)
    replace v1:=hMab.cell v1 (by simp)
    have HMb:=Lib.hid (HM9.out.1.trans hMab (by simp))
    clear hMb hMab
    go_wp2_with fail
    refine zc ?_
    apply hR1 _ wb (.inr ⟨u0,u1,v0,v1⟩)
    ·rintro y ⟨y0,y1,y2,y3⟩
     change wpQuiet _ _ _ _ [_,_,_,_,_,_,_,_,_,_,_,_,_,_] (Act.mk _ _)
     repeat (go_big_quiet_step (fail))
     refine wpQuiet_nil ?_
     exact rfl
    ·clear hR1 R1
     refine zs fun R2 hR2 => ?_
     clear hWo
     go_wp2_with fail
     have HMc:=HMb
     generalize wb=wc at *
     refine zc ?_
     apply hR2 _ wc (.inr ⟨u0,u1,v0,v1⟩)
     ·rintro y ⟨y0,y1,y2,y3⟩
      change wpQuiet _ _ _ _ [_,_,_,_] (Act.mk _ _)
      repeat (go_big_quiet_step (fail))
      refine wpQuiet_nil ?_
      exact rfl
     ·clear hR2 R2
      refine zt ?_
      go_wp2_with fail
      go_ret
      exact ⟨rfl,HMc.out⟩
 ·obtain rfl:OP = ⟨#[47]⟩:=by rw [← hOP]; rfl
  have hWo:wantN x y 3=x:=rfl
  have hBB:decide (y=0)=B:=by rw [← HB.out.1]; rfl
  clear hcat hNX hMw3 hOP HN hoz ho4 ho hmx
  cases B with
  | true =>
   have hle:((y:Int) == 0)=true:=by have:=of_decide_eq_true hBB; rw [beq_iff_eq]; omega
   have hle2:(y:Int)=0:=by have:=of_decide_eq_true hBB; omega
   clear hBB
   have u0:=za HM9.out.2.2 0
   have u1:=za HM9.out.2.2 1
   have v0:=za HM9.out.2.1 0
   have v1:=za HM9.out.2.1 1
   change wa.cell? _=some (.int .i64 (xk:Nat)) at u0
   change wa.cell? _=some (.int .i64 (xs:Nat)) at u1
   change wa.cell? _=some (.int .i64 tk) at v0
   change wa.cell? _=some (.int .i64 ts) at v1
   rw [(HTT.out rfl).1] at v0
   rw [(HTT.out rfl).2] at v1
   go_upto_region 19 with fail
   have hsc:=zR wa.drew x (by omega)
   rw [HM8.out.2.2.1,HM8.out.2.2.2] at hsc
   apply zm (by kernel_rfl) [0,1,2,3,4,5,6,7] [(8,[9,10,11,12,13,14,15,16,17,18,19,20,21,22]),(23,[24,25,26,27])] true (by kernel_rfl) (fun y => y.cell? ⟨ub,0,none⟩ = some (.int .i64 (xk:Nat)) ∧ y.cell? ⟨ub,1,none⟩ = some (.int .i64 (xs:Nat)) ∧ y.cell? ⟨tb,0,none⟩ = some (.int .i64 (wk:Nat)) ∧ y.cell? ⟨tb,1,none⟩ = some (.int .i64 (ws:Nat)))
   case hC => exact ⟨u0,u1,v0,v1⟩
   case hwalk =>
    rintro y ⟨y0,y1,y2,y3⟩
    change wpQuiet _ _ _ _ [_,_,_,_,_,_,_,_] (Act.mk _ _)
    repeat (go_big_quiet_step (fail))
    refine wpQuiet_nil ?_
    exact rfl
   case hrun =>
    change segI _ _ _ _ _ [(_,[_,_,_,_,_,_,_,_,_,_,_,_,_,_]),(_,[_,_,_,_])] _ _
    refine zs fun R1 hR1 => ?_
    go_wp2_with fail
    (with_reducible refine hsc.mono ?_)
    rintro r wb ⟨rfl,hMb⟩
    clear hsc
    have hMab:=(Mods.refl [] wa).drew.trans hMb (by simp)
    replace u0:=hMab.cell u0 (by simp)
    replace u1:=hMab.cell u1 (by simp)
    replace v0:=hMab.cell v0 (by simp)
    replace v1:=hMab.cell v1 (by simp)
    have HMb:=Lib.hid (HM9.out.1.trans hMab (by simp))
    clear hMb hMab
    go_wp2_with fail
    refine zc ?_
    apply hR1 _ wb (.inr ⟨u0,u1,v0,v1⟩)
    ·rintro y ⟨y0,y1,y2,y3⟩
     change wpQuiet _ _ _ _ [_,_,_,_,_,_,_,_,_,_,_,_,_,_] (Act.mk _ _)
     repeat (go_big_quiet_step (fail))
     refine wpQuiet_nil ?_
     exact rfl
    ·clear hR1 R1
     refine zs fun R2 hR2 => ?_
     have hsd:=zR wb (x) (by omega)
     rw [show (scaleT (x)).k=wk from by rw [← HB.out.2.1,hWo],show (scaleT (x)).s=ws from by rw [← HB.out.2.2.1,hWo]] at hsd
     clear hWo
     go_wp2_with fail
     (with_reducible refine hsd.mono ?_)
     rintro r wc ⟨rfl,hMc⟩
     clear hsd
     replace u0:=hMc.cell u0 (by simp)
     replace u1:=hMc.cell u1 (by simp)
     replace v0:=hMc.cell v0 (by simp)
     replace v1:=hMc.cell v1 (by simp)
     have HMc:=Lib.hid (HMb.out.trans hMc (by simp))
     clear hMc
     go_wp2_with fail
     refine zc ?_
     apply hR2 _ wc (.inr ⟨u0,u1,v0,v1⟩)
     ·rintro y ⟨y0,y1,y2,y3⟩
      change wpQuiet _ _ _ _ [_,_,_,_] (Act.mk _ _)
      repeat (go_big_quiet_step (fail))
      refine wpQuiet_nil ?_
      exact rfl
     ·clear hR2 R2
      refine zt ?_
      go_wp2_with fail
      go_ret
      exact ⟨rfl,HMc.out⟩
  | false =>
   have hle:((y:Int) == 0)=false:=by have:=of_decide_eq_false hBB; rw [beq_eq_false_iff_ne]; omega
   have hle2:¬ (y:Int)=0:=by have:=of_decide_eq_false hBB; omega
   clear hBB
   have u0:=za HM9.out.2.2 0
   have u1:=za HM9.out.2.2 1
   have v0:=za HM9.out.2.1 0
   have v1:=za HM9.out.2.1 1
   change wa.cell? _=some (.int .i64 (xk:Nat)) at u0
   change wa.cell? _=some (.int .i64 (xs:Nat)) at u1
   change wa.cell? _=some (.int .i64 tk) at v0
   change wa.cell? _=some (.int .i64 ts) at v1
   go_upto_region 19 with fail
   have hsc:=zR wa.drew x (by omega)
   rw [HM8.out.2.2.1,HM8.out.2.2.2] at hsc
   apply zm (by kernel_rfl) [0,1,2,3,4,5,6,7] [(8,[9,10,11,12,13,14,15,16,17,18,19,20,21,22]),(23,[24,25,26,27])] true (by kernel_rfl) (fun y => y.cell? ⟨ub,0,none⟩ = some (.int .i64 (xk:Nat)) ∧ y.cell? ⟨ub,1,none⟩ = some (.int .i64 (xs:Nat)) ∧ y.cell? ⟨tb,0,none⟩ = some (.int .i64 tk) ∧ y.cell? ⟨tb,1,none⟩ = some (.int .i64 ts))
   case hC => exact ⟨u0,u1,v0,v1⟩
   case hwalk =>
    rintro y ⟨y0,y1,y2,y3⟩
    change wpQuiet _ _ _ _ [_,_,_,_,_,_,_,_] (Act.mk _ _)
    repeat (go_big_quiet_step (fail))
    refine wpQuiet_nil ?_
    exact rfl
   case hrun =>
    change segI _ _ _ _ _ [(_,[_,_,_,_,_,_,_,_,_,_,_,_,_,_]),(_,[_,_,_,_])] _ _
    refine zs fun R1 hR1 => ?_
    go_wp2_with fail
    (with_reducible refine hsc.mono ?_)
    rintro r wb ⟨rfl,hMb⟩
    clear hsc
    have hMab:=(Mods.refl [] wa).drew.trans hMb (by simp)
    replace u0:=hMab.cell u0 (by simp)
    replace u1:=hMab.cell u1 (by simp)
    replace v0:=hMab.cell v0 (by simp)
    replace v1:=hMab.cell v1 (by simp)
    have HMb:=Lib.hid (HM9.out.1.trans hMab (by simp))
    clear hMb hMab
    go_wp2_with fail
    refine zc ?_
    apply hR1 _ wb (.inr ⟨u0,u1,v0,v1⟩)
    ·rintro y ⟨y0,y1,y2,y3⟩
     change wpQuiet _ _ _ _ [_,_,_,_,_,_,_,_,_,_,_,_,_,_] (Act.mk _ _)
     repeat (go_big_quiet_step (fail))
     refine wpQuiet_nil ?_
     exact rfl
    ·clear hR1 R1
     refine zs fun R2 hR2 => ?_
     clear hWo
     go_wp2_with fail
     have HMc:=HMb
     generalize wb=wc at *
     refine zc ?_
     apply hR2 _ wc (.inr ⟨u0,u1,v0,v1⟩)
     ·rintro y ⟨y0,y1,y2,y3⟩
      change wpQuiet _ _ _ _ [_,_,_,_] (Act.mk _ _)
      repeat (go_big_quiet_step (fail))
      refine wpQuiet_nil ?_
      exact rfl
     ·clear hR2 R2
      refine zt ?_
      go_wp2_with fail
      go_ret
      exact ⟨rfl,HMc.out⟩
end Go.Proofs.YtgdpaieechgahaaGreatDoor
