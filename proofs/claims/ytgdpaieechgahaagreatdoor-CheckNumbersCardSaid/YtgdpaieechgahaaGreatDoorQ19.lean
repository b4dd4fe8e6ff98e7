/-
  value.number, value.ArithType, check.number, walked. No condition but that the types are right.
-/
import Derived.Test.YtgdpaieechgahaaGreatDoorQ18
import Derived.Handy
import Derived.Test.YtgdpaieechgahaaGreatDoorQ02
import Derived.Test.YtgdpaieechgahaaGreatDoorQ05
import Derived.Deep.RegionLaw
import Derived.BigQuiet
import Derived.ChangeSame
namespace Go.Proofs.YtgdpaieechgahaaGreatDoor
open Go.RowKit
set_option linter.unusedVariables false
def tyA (t:Ty):Value:=.agg #[.int .i64 t.k,.int .i64 t.s]
theorem ziB {t:Ty} (h:t.Right):tyRight t.k t.s=true:=by
 obtain ⟨k,s⟩:=t
 unfold Ty.Right at h
 unfold tyRight
 simp only at h ⊢
 rcases h with ⟨rfl,h1,h2⟩ | ⟨rfl | rfl | rfl,rfl⟩
 ·have e1:decide ((1:Int) ≤ (s:Int))=true:=decide_eq_true (by omega)
  have e2:decide ((s:Int) ≤ 9)=true:=decide_eq_true (by omega)
  rw [e1,e2]; rfl
 ·rfl
 ·rfl
 ·rfl
theorem zhh {P:Program} (w:World) (t1 t2 ty:TypeId) (k:IntKind) (m n r:Int) (hr:(m ≤ n ∧ r=n) ∨ (n < m ∧ r=m)):(Builtin.max_ #[t1,t2] ty #[.int k m,.int k n]).run P w = .ok (.int k r) w:=by
 rcases hr with ⟨h1,rfl⟩ | ⟨h1,rfl⟩
 ·by_cases h:m=r
  ·subst h; simp [Builtin.max_,Builtin.max2]
  ·have h2:m < r:=by omega
   simp [Builtin.max_,Builtin.max2,h2]
 ·have h2:¬ r < n:=by omega
  simp [Builtin.max_,Builtin.max2,h2]
set_option maxRecDepth 100000 in
theorem za9 (t:Ty) (w:World):Calls Tryz.prog 113 #[tyA t] w fun e w' => e = .returned (.bool t.num) ∧ Mods [] w w':=by
 obtain ⟨k,s⟩:=t
 have hM:=(Mods.refl [] w).alloc (.cells #[.int .i64 k,.int .i64 s] 26)
 unfold tyA
 by_cases h1:k=1
 ·subst h1
  go_enter Tryz.func113, Tryz.ntmps113
  go_wp2_with fail
  go_ret
  exact ⟨rfl,hM⟩
 have z1:((k:Int) == 1)=false:=beq_eq_false_iff_ne.2 (by omega)
 by_cases h2:k=2
 ·subst h2
  go_enter Tryz.func113, Tryz.ntmps113
  go_wp2_with fail
  go_ret
  exact ⟨rfl,hM⟩
 have z2:((k:Int) == 2)=false:=beq_eq_false_iff_ne.2 (by omega)
 have hn:(⟨k,s⟩ : Ty).num=false:=by unfold Ty.num; rw [decide_eq_false h1,decide_eq_false h2]; rfl
 rw [hn]
 clear h1 h2 hn
 go_enter Tryz.func113, Tryz.ntmps113
 go_wp2_with fail
 go_ret
 exact ⟨rfl,hM⟩
set_option maxRecDepth 100000 in
theorem zcw (t:Ty) (ht:t.Right) (w:World):Calls Tryz.prog 144 #[tyA t] w fun e w' => e = .returned (.bool t.num) ∧ Mods [] w w':=by
 have hr:=ziB ht
 obtain ⟨k,s⟩:=t
 have hM:=(Mods.refl [] w).alloc (.cells #[.int .i64 k,.int .i64 s] 26)
 have hbn:=heap_alloc_new w (.cells #[.int .i64 k,.int .i64 s] 26)
 have hc:=fun W => za8 (k:Int) (s:Int) W
 simp only at hr
 rw [hr] at hc
 unfold tyA
 simp only
 obtain ⟨nb,hnb⟩ : ∃ nb,(⟨k,s⟩ : Ty).num=nb:=⟨_,rfl⟩
 rw [hnb]
 unfold Ty.num at hnb
 simp only at hnb
 go_enter Tryz.func144, Tryz.ntmps144
 go_upto_region 1 with fail
 generalize w.alloc (.cells #[.int .i64 k,.int .i64 s] 26)=w1 at *
 generalize w.heap.size=b at *
 have c0:=za hbn 0
 have c1:=za hbn 1
 change w1.cell? _=some (.int .i64 k) at c0
 change w1.cell? _=some (.int .i64 s) at c1
 have hc1:=hc w1
 clear hc
 by_cases h1:k=1
 ·have z1:((k:Int) == 1)=true:=by rw [h1]; rfl
  obtain rfl:nb=true:=by rw [← hnb,h1]; rfl
  clear hnb h1
  go_wp2_with fail
  (with_reducible refine hc1.mono ?_)
  rintro e w2 ⟨rfl,hM2⟩
  have d0:=hM2.cell c0 (by simp)
  clear hc1 c0 c1
  go_wp2_with fail
  go_ret
  exact ⟨rfl,hM.trans hM2 (by simp)⟩
 have z1:((k:Int) == 1)=false:=beq_eq_false_iff_ne.2 (by omega)
 by_cases h2:k=2
 ·have z2:((k:Int) == 2)=true:=by rw [h2]; rfl
  obtain rfl:nb=true:=by rw [← hnb,h2]; rfl
  clear hnb h2 h1
  go_wp2_with fail
  (with_reducible refine hc1.mono ?_)
  rintro e w2 ⟨rfl,hM2⟩
  have d0:=hM2.cell c0 (by simp)
  clear hc1 c0 c1
  go_wp2_with fail
  go_ret
  exact ⟨rfl,hM.trans hM2 (by simp)⟩
 have z2:((k:Int) == 2)=false:=beq_eq_false_iff_ne.2 (by omega)
 obtain rfl:nb=false:=by rw [← hnb,decide_eq_false h1,decide_eq_false h2]; rfl
 clear h1 h2 hnb
 go_wp2_with fail
 (with_reducible refine hc1.mono ?_)
 rintro e w2 ⟨rfl,hM2⟩
 have d0:=hM2.cell c0 (by simp)
 clear hc1 c0 c1
 go_wp2_with fail
 go_ret
 exact ⟨rfl,hM.trans hM2 (by simp)⟩
def scE (a b c d:Int):List MapEntry:=[{ key:=.int .u8 43,val:=.int .i64 a,born:=0 },{ key:=.int .u8 45,val:=.int .i64 b,born:=1 },{ key:=.int .u8 42,val:=.int .i64 c,born:=2 },{ key:=.int .u8 47,val:=.int .i64 d,born:=3 }]
theorem zf4 (a b c d:Int) (op:Nat) (r:Int) (h:(op=43 ∧ r=a) ∨ (op=45 ∧ r=b) ∨ (op=42 ∧ r=c) ∨ (op=47 ∧ r=d)):∃ i,Instr.findNow (.int .u8) (.int .u8 op) (scE a b c d) 0=some (some (i,.int .i64 r)):=by
 rcases h with ⟨rfl,rfl⟩ | ⟨rfl,rfl⟩ | ⟨rfl,rfl⟩ | ⟨rfl,rfl⟩
 ·exact ⟨0,rfl⟩
 ·exact ⟨1,rfl⟩
 ·exact ⟨2,rfl⟩
 ·exact ⟨3,rfl⟩
theorem zeh (a b c d:Int) (op:Nat) (r:Int) (h:(op=43 ∧ r=a) ∨ (op=45 ∧ r=b) ∨ (op=42 ∧ r=c) ∨ (op=47 ∧ r=d)) (w:World):(Instr.lookup 228 (.map (some w.heap.size)) (.int .u8 op) true).run Tryz.prog (w.alloc (.map (scE a b c d).toArray 4)) = .ok (.tuple #[.int .i64 r,.bool true]) (w.alloc (.map (scE a b c d).toArray 4)):=by
 obtain ⟨i,hi⟩:=zf4 a b c d op r h
 have:=zcO (P:= Tryz.prog) 228 5 3 (.int .u8) Tryz.underlying228 Tryz.underlying5 w (scE a b c d).toArray 4 (.int .u8 op) (.int .i64 0) (fun w => by kernel_rfl) (by simp [MapKept.IsKey]) (some (i,.int .i64 r)) (by simpa using hi)
 rw [this]; rfl
theorem zv (k s:Int):(#[.int .i64 k,.int .i64 s]:Array Value).all (·.oneCell')=true:=by simp [Value.oneCell']
theorem zj:(Tryz.prog.info? 26).map (·.size)=some 2:=by kernel_rfl
def arithA (a b:Ty) (op:Nat) (e:Ending):Prop:=e = .returned (match arithT (UInt8.ofNat op) a b with | none => .tuple #[tyA tyNone,.bool false] | some t => .tuple #[tyA t,.bool true])
def ArithCut (na nb:Bool) (sc:Nat) (d:Bool) (bs:Nat) (w5:World) (t:Value) (wx:World):Prop:=∃ g:Bool,t = .bool g ∧ (g=false ↔ (na=true ∧ nb=true ∧ sc ≤ 9 ∧ ¬ (d=true ∧ 0 < bs))) ∧ Mods [] w5 wx
set_option maxRecDepth 100000 in
set_option maxHeartbeats 4000000 in
theorem zhi (w:World) (op:Nat) (hop:op=43 ∨ op=45 ∨ op=42 ∨ op=47) (a b:Ty) (ha:a.Right) (hb:b.Right) :
  Calls Tryz.prog 119 #[.int .u8 op,tyA a,tyA b] w fun e w' => arithA a b op e ∧ Mods [] w w':=by
 have hA:=fun W => zcw a ha W
 have hB:=fun W => zcw b hb W
 have has:a.s ≤ 9:=by unfold Ty.Right at ha; omega
 have hbs:b.s ≤ 9:=by unfold Ty.Right at hb; omega
 obtain ⟨sc,hsc,hcase⟩ : ∃ sc:Nat,scaleA (UInt8.ofNat op) a b=some sc ∧ ((op=43 ∧ (sc:Int)=(max a.s b.s:Nat)) ∨ (op=45 ∧ (sc:Int)=(max a.s b.s:Nat)) ∨ (op=42 ∧ (sc:Int)=(a.s:Int) + b.s) ∨ (op=47 ∧ (sc:Int)=a.s)):=by
  rcases hop with rfl | rfl | rfl | rfl
  ·exact ⟨_,rfl,.inl ⟨rfl,rfl⟩⟩
  ·exact ⟨_,rfl,.inr (.inl ⟨rfl,rfl⟩)⟩
  ·exact ⟨a.s + b.s,rfl,.inr (.inr (.inl ⟨rfl,by omega⟩))⟩
  ·exact ⟨a.s,rfl,.inr (.inr (.inr ⟨rfl,rfl⟩))⟩
 obtain ⟨d,hd⟩ : ∃ d,((op:Int) == 47)=d:=⟨_,rfl⟩
 have hd2:UInt8.ofNat op=47 ↔ d=true:=by
  rw [← hd]
  rcases hop with rfl | rfl | rfl | rfl <;> decide
 have hop2:op < 256:=by omega
 have hRR:(match arithT (UInt8.ofNat op) a b with | none => Value.tuple #[tyA tyNone,.bool false] | some t => .tuple #[tyA t,.bool true])=if a.num=true ∧ b.num=true ∧ sc ≤ 9 ∧ ¬ (d=true ∧ 0 < b.s) then (if sc=0 then .tuple #[tyA tyInt,.bool true] else .tuple #[tyA ⟨2,sc⟩,.bool true]) else .tuple #[tyA tyNone,.bool false]:=by
  unfold arithT
  rw [hsc]
  simp only [hd2]
  split
  ·rename_i h
   split at h
   ·split at h <;> cases h
   ·rename_i hn; rw [if_neg hn]
  ·rename_i t h
   split at h
   ·rename_i hy
    rw [if_pos hy]
    split at h
    ·rename_i h0; cases h; rw [if_pos h0]
    ·rename_i h0; cases h; rw [if_neg h0]
   ·cases h
 have hmax:=fun W => zhh (P:= Tryz.prog) W 3 3 3 .i64 a.s b.s ((max a.s b.s:Nat):Int) (by omega)
 have hi:=fun (w:World) (es:Array MapEntry) (c:Nat) (k:Int) (v:Value) => zI (P:= Tryz.prog) 228 5 3 (.int .u8) Tryz.underlying228 Tryz.underlying5 w es c (.int .u8 k) v (by simp [MapKept.IsKey])
 have hmm:=@run_makeMap Tryz.prog
 have i1:=fun w => hi w #[] 0 43 (.int .i64 (max a.s b.s:Nat)) rfl
 have i2:=fun w => hi w ((scE (max a.s b.s:Nat) (max a.s b.s:Nat) ((a.s:Int) + b.s) a.s).take 1).toArray 1 45 (.int .i64 (max a.s b.s:Nat)) rfl
 have i3:=fun w => hi w ((scE (max a.s b.s:Nat) (max a.s b.s:Nat) ((a.s:Int) + b.s) a.s).take 2).toArray 2 42 (.int .i64 ((a.s:Int) + b.s)) rfl
 have i4:=fun w => hi w ((scE (max a.s b.s:Nat) (max a.s b.s:Nat) ((a.s:Int) + b.s) a.s).take 3).toArray 3 47 (.int .i64 a.s) rfl
 have hl:=fun W => zeh (max a.s b.s:Nat) (max a.s b.s:Nat) ((a.s:Int) + b.s) a.s op sc hcase W
 obtain ⟨mx,hmx⟩ : ∃ mx,((max a.s b.s:Nat):Int)=mx:=⟨_,rfl⟩
 rw [hmx] at hmax i1 i2 i3 i4
 simp only [hmx] at hl
 simp [scE] at i1 i2 i3 i4 hl
 have HRR:=Lib.hid (And.intro hRR (And.intro hA hB))
 have hsc9:sc ≤ 18:=by omega
 clear hi hRR hcase hmx hsc hd2 hop hA hB
 unfold arithA
 rw [HRR.out.1]
 obtain ⟨na,hna⟩ : ∃ n,a.num=n:=⟨_,rfl⟩
 obtain ⟨nb,hnb⟩ : ∃ n,b.num=n:=⟨_,rfl⟩
 rw [hna,hnb] at HRR ⊢
 have HA:=Lib.hid HRR.out.2.1
 have HB:=Lib.hid HRR.out.2.2
 clear HRR ha hb hna hnb
 obtain ⟨RV,hRV⟩ : ∃ RV,(if na=true ∧ nb=true ∧ sc ≤ 9 ∧ ¬ (d=true ∧ 0 < b.s) then (if sc=0 then Value.tuple #[tyA tyInt,.bool true] else .tuple #[tyA ⟨2,sc⟩,.bool true]) else .tuple #[tyA tyNone,.bool false])=RV:=⟨_,rfl⟩
 rw [hRV]
 have HRV:=Lib.hid hRV
 clear hRV
 unfold tyA at HA HB ⊢
 go_enter Tryz.func119, Tryz.ntmps119
 have hM1:=(Mods.refl [] w).alloc (.cells #[.int .i64 a.k,.int .i64 a.s] 26)
 have hM2:=(Mods.refl [] (w.alloc (.cells #[.int .i64 a.k,.int .i64 a.s] 26))).alloc (.cells #[.int .i64 b.k,.int .i64 b.s] 26)
 have hM3:=(Mods.refl [] ((w.alloc (.cells #[.int .i64 a.k,.int .i64 a.s] 26)).alloc (.cells #[.int .i64 b.k,.int .i64 b.s] 26))).alloc (.cells #[.int .i64 0,.int .i64 0] 26)
 have r1:=hM3.heap (hM2.heap (heap_alloc_new w (.cells #[.int .i64 a.k,.int .i64 a.s] 26)) (by simp)) (by simp)
 have r2:=hM3.heap (heap_alloc_new (w.alloc (.cells #[.int .i64 a.k,.int .i64 a.s] 26)) (.cells #[.int .i64 b.k,.int .i64 b.s] 26)) (by simp)
 have r3:=heap_alloc_new ((w.alloc (.cells #[.int .i64 a.k,.int .i64 a.s] 26)).alloc (.cells #[.int .i64 b.k,.int .i64 b.s] 26)) (.cells #[.int .i64 0,.int .i64 0] 26)
 rw [zk] at r2 r3
 rw [zk] at r3
 have hMw:=(hM1.trans hM2 (by simp)).trans hM3 (by simp)
 go_upto_region 1 with fail
 generalize ((w.alloc (.cells #[.int .i64 a.k,.int .i64 a.s] 26)).alloc (.cells #[.int .i64 b.k,.int .i64 b.s] 26)).alloc (.cells #[.int .i64 0,.int .i64 0] 26)=w4 at *
 clear hM1 hM2 hM3
 obtain ⟨ab,hab⟩ : ∃ x,w.heap.size=x:=⟨_,rfl⟩
 obtain ⟨bb,hbb⟩ : ∃ x,ab + 1=x:=⟨_,rfl⟩
 obtain ⟨cb,hcb⟩ : ∃ x,bb + 1=x:=⟨_,rfl⟩
 rw [hab] at r1 r2 r3
 rw [hbb] at r2 r3
 rw [hcb] at r3
 rw [hab,hbb,hcb]
 have HBB:=Lib.hid (And.intro hab (And.intro hbb hcb))
 clear hab hbb hcb
 have a0:=za r1 0
 have a1:=za r1 1
 have b0:=za r2 0
 have b1:=za r2 1
 change w4.cell? _=some (.int .i64 a.k) at a0
 change w4.cell? _=some (.int .i64 a.s) at a1
 change w4.cell? _=some (.int .i64 b.k) at b0
 change w4.cell? _=some (.int .i64 b.s) at b1
 have f1:∀ (es:Array MapEntry) (c:Nat),(w4.alloc (.map es c)).cell? ⟨ab,1,none⟩ = some (.int .i64 a.s):=fun es c => ((Mods.refl [] w4).alloc (.map es c)).cell a1 (by simp)
 have f2:∀ (es:Array MapEntry) (c:Nat),(w4.alloc (.map es c)).cell? ⟨bb,1,none⟩ = some (.int .i64 b.s):=fun es c => ((Mods.refl [] w4).alloc (.map es c)).cell b1 (by simp)
 go_upto_region 2 with fail
 clear i1 i2 i3 i4 hmax hmm f1 f2
 go_upto_region 3 with fail
 clear hl
 have hMm:=(Mods.refl [] w4).alloc (.map #[{ key:=.int .u8 43,val:=.int .i64 mx,born:=0 },{ key:=.int .u8 45,val:=.int .i64 mx,born:=1 },{ key:=.int .u8 42,val:=.int .i64 ((a.s:Int) + b.s),born:=2 },{ key:=.int .u8 47,val:=.int .i64 a.s,born:=3 }] 4)
 have x0:=hMm.cell a0 (by simp)
 have x1:=hMm.cell a1 (by simp)
 have y0:=hMm.cell b0 (by simp)
 have y1:=hMm.cell b1 (by simp)
 have r5:=hMm.heap r3 (by simp)
 have hMw5:=hMw.trans hMm (by simp)
 generalize w4.alloc (.map #[{ key:=.int .u8 43,val:=.int .i64 mx,born:=0 },{ key:=.int .u8 45,val:=.int .i64 mx,born:=1 },{ key:=.int .u8 42,val:=.int .i64 ((a.s:Int) + b.s),born:=2 },{ key:=.int .u8 47,val:=.int .i64 a.s,born:=3 }] 4)=w5 at *
 generalize w4.heap.size=mb at *
 clear hMm a0 a1 b0 b1 r1 r2 r3 hMw
 have hA:=HA.out w5
 have HB5:=HB.out
 go_cut [60] from 36 to 59 (fun t60 wx => ArithCut na nb sc d b.s w5 t60 wx)
 case first =>
  cases na with
  | false =>
   have hfin:∀ wx,Mods [] w5 wx → ArithCut false nb sc d b.s w5 (.bool true) wx:=fun wx h => ⟨true,rfl,by simp,h⟩
   have HFIN:=Lib.hid hfin
   clear hfin HB5
   go_wp2_with fail
   (with_reducible refine hA.mono ?_)
   rintro e w6 ⟨rfl,hM6⟩
   clear hA
   go_wp2_with fail
   go_meet
   exact HFIN.out w6 hM6
  | true =>
   cases nb with
   | false =>
    have hfin:∀ wx,Mods [] w5 wx → ArithCut true false sc d b.s w5 (.bool true) wx:=fun wx h => ⟨true,rfl,by simp,h⟩
    have HFIN:=Lib.hid hfin
    have HB5:=Lib.hid HB5
    clear hfin
    go_wp2_with fail
    (with_reducible refine hA.mono ?_)
    rintro e w6 ⟨rfl,hM6⟩
    have q0:=hM6.cell y0 (by simp)
    have q1:=hM6.cell y1 (by simp)
    have hB:=HB5.out w6
    clear hA x0 x1 y0 y1
    go_wp2_with fail
    (with_reducible refine hB.mono ?_)
    rintro e w7 ⟨rfl,hM7⟩
    clear hB
    go_wp2_with fail
    go_meet
    exact HFIN.out w7 (hM6.trans hM7 (by simp))
   | true =>
    have HB5:=Lib.hid HB5
    have hs:9 < sc ∨ (¬ 9 < sc ∧ d=false) ∨ (¬ 9 < sc ∧ d=true ∧ 0 < b.s) ∨ (¬ 9 < sc ∧ d=true ∧ ¬ 0 < b.s):=by
     cases d <;> simp <;> omega
    have hfin:∀ g wx,(g=false ↔ (sc ≤ 9 ∧ ¬ (d=true ∧ 0 < b.s))) → Mods [] w5 wx → ArithCut true true sc d b.s w5 (.bool g) wx:=fun g wx h1 h => ⟨g,rfl,by rw [h1]; simp,h⟩
    have HFIN:=Lib.hid hfin
    clear hfin
    go_wp2_with fail
    (with_reducible refine hA.mono ?_)
    rintro e w6 ⟨rfl,hM6⟩
    have q0:=hM6.cell y0 (by simp)
    have q1:=hM6.cell y1 (by simp)
    have hB:=HB5.out w6
    clear hA x0 x1 y0 y1
    go_wp2_with fail
    (with_reducible refine hB.mono ?_)
    rintro e w7 ⟨rfl,hM7⟩
    have s1:=hM7.cell q1 (by simp)
    have hM67:=hM6.trans hM7 (by simp)
    clear hB q0 q1 hM6 hM7
    rcases hs with h1 | ⟨h1,rfl⟩ | ⟨h1,rfl,h3⟩ | ⟨h1,rfl,h3⟩
    ·go_wp2_with fail
     go_meet
     exact HFIN.out true w7 (by constructor; (intro h; cases h); (intro h; omega)) hM67
    ·go_wp2_with fail
     go_meet
     rw [decide_eq_false (show ¬ (9:Int) < (sc:Int) by omega)]
     exact HFIN.out false w7 (by constructor; (intro _; exact ⟨by omega,fun h => by cases h.1⟩); (intro _; rfl)) hM67
    ·go_wp2_with fail
     go_meet
     exact HFIN.out true w7 (by constructor; (intro h; cases h); (intro h; exact absurd ⟨by trivial,by omega⟩ h.2)) hM67
    ·go_wp2_with fail
     go_meet
     rw [decide_eq_false (show ¬ (9:Int) < (sc:Int) by omega)]
     exact HFIN.out false w7 (by constructor; (intro _; exact ⟨by omega,fun h => by have:=h.2; omega⟩); (intro _; rfl)) hM67
 case rest =>
 obtain ⟨g,rfl,hg,hM6⟩:=hcut
 generalize wc=w6 at *
 have r6:=hM6.heap r5 (by simp)
 have hMw6:=hMw5.trans hM6 (by simp)
 have HG:=Lib.hid hg
 have HR6:=Lib.hid (And.intro r6 hMw6)
 clear hg hA HB5 x0 x1 y0 y1 r5 hM6 hMw5 r6 hMw6
 cases g with
 | true =>
  have hfin:RV = .tuple #[.agg #[.int .i64 0,.int .i64 0],.bool false]:=by
   rw [← HRV.out,if_neg (fun h => by have:=HG.out.2 h; cases this)]; rfl
  have HFIN:=Lib.hid (congrArg Ending.returned hfin).symm
  clear hfin
  go_wp2_with (refine wpList_store_row rfl 26 (.tmp 6) (.tmp 61) rfl cb #[.int .i64 0,.int .i64 0] rfl rfl 26 _ HR6.out.1 zj rfl (zv 0 0) ?_)
  refine bodyPost_ret (zg rfl _ _ cb 26 #[.int .i64 0,.int .i64 0] (0,0) _ rfl (zh _ HR6.out.1) Tryz.underlying26 rfl zj _ rfl) rfl ?_
  exact ⟨HFIN.out,HR6.out.2.setRow (.inr (by have:=HBB.out; omega)) _⟩
 | false =>
  have hfin:=HG.out.1 rfl
  by_cases h0:sc=0
  ·have hz:((sc:Int) == 0)=true:=by rw [h0]; rfl
   have hfin:RV = .tuple #[.agg #[.int .i64 1,.int .i64 0],.bool true]:=by
    rw [← HRV.out,if_pos hfin,if_pos h0]; rfl
   have HFIN:=Lib.hid (congrArg Ending.returned hfin).symm
   clear hfin h0
   go_wp2_with (refine wpList_store_row rfl 26 (.tmp 6) (.tmp 64) rfl cb #[.int .i64 1,.int .i64 0] rfl rfl 26 _ HR6.out.1 zj rfl (zv 1 0) ?_)
   refine bodyPost_ret (zg rfl _ _ cb 26 #[.int .i64 1,.int .i64 0] (0,0) _ rfl (zh _ HR6.out.1) Tryz.underlying26 rfl zj _ rfl) rfl ?_
   exact ⟨HFIN.out,HR6.out.2.setRow (.inr (by have:=HBB.out; omega)) _⟩
  ·have hz:((sc:Int) == 0)=false:=beq_eq_false_iff_ne.2 (by omega)
   have hfin:RV = .tuple #[.agg #[.int .i64 2,.int .i64 sc],.bool true]:=by
    rw [← HRV.out,if_pos hfin,if_neg h0]; rfl
   have HFIN:=Lib.hid (congrArg Ending.returned hfin).symm
   clear hfin h0
   go_wp2_with (refine wpList_store_row rfl 26 (.tmp 6) (.tmp 66) rfl cb #[.int .i64 2,.int .i64 sc] rfl rfl 26 _ HR6.out.1 zj rfl (zv 2 sc) ?_)
   refine bodyPost_ret (zg rfl _ _ cb 26 #[.int .i64 2,.int .i64 sc] (0,0) _ rfl (zh _ HR6.out.1) Tryz.underlying26 rfl zj _ rfl) rfl ?_
   exact ⟨HFIN.out,HR6.out.2.setRow (.inr (by have:=HBB.out; omega)) _⟩
open Go.RowKit
set_option linter.unusedVariables false
def CkVars (w:World):Prop:=(w.cell? ⟨0, 0,none⟩ = some (.int .i64 4) ∧ w.cell? ⟨0, 1,none⟩ = some (.int .i64 0)) ∧ (w.cell? ⟨2, 0,none⟩ = some (.int .i64 1) ∧ w.cell? ⟨2, 1,none⟩ = some (.int .i64 0))
theorem CkVars.later {w w':World} (h:CkVars w) (hM:Mods [] w w'):CkVars w':=⟨⟨hM.cell h.1.1 (by simp),hM.cell h.1.2 (by simp)⟩,hM.cell h.2.1 (by simp),hM.cell h.2.2 (by simp)⟩
def TwoT (w:World) (tb:Nat) (a b:Ty):Prop:=∃ sb,w.cell? ⟨tb,0,none⟩ = some (.slice (some ⟨sb,0,none⟩) 2 2) ∧ w.cell? ⟨sb,0,none⟩ = some (.int .i64 a.k) ∧ w.cell? ⟨sb,1,none⟩ = some (.int .i64 a.s) ∧ w.cell? ⟨sb,2,none⟩ = some (.int .i64 b.k) ∧ w.cell? ⟨sb,3,none⟩ = some (.int .i64 b.s)
theorem TwoT.later {w w':World} {tb:Nat} {a b:Ty} (h:TwoT w tb a b) (hM:Mods [] w w'):TwoT w' tb a b:=by
 obtain ⟨sb,h1,h2,h3,h4,h5⟩:=h
 exact ⟨sb,hM.cell h1 (by simp),hM.cell h2 (by simp),hM.cell h3 (by simp),hM.cell h4 (by simp),hM.cell h5 (by simp)⟩
set_option maxRecDepth 100000 in
set_option maxHeartbeats 4000000 in
theorem zfp (w:World) (hV:CkVars w):Calls Tryz.prog 111 #[] w fun e w' => e = .returned (.tuple #[tyA tyInt,.bool true]) ∧ Mods [] w w':=by
 have hz:=(Mods.refl [] w).alloc (.cells #[.int .i64 0,.int .i64 0] 26)
 have hr:=heap_alloc_new w (.cells #[.int .i64 0,.int .i64 0] 26)
 obtain ⟨-,v0,v1⟩:=hV.later hz
 go_enter Tryz.func111, Tryz.ntmps111
 go_wp2_with (refine wpList_store_row rfl 26 (.tmp 0) (.tmp 2) rfl w.heap.size #[.int .i64 1,.int .i64 0] rfl rfl 26 _ hr zj rfl (zv 1 0) ?_)
 refine bodyPost_ret (zg rfl _ _ w.heap.size 26 #[.int .i64 1,.int .i64 0] (0,0) _ rfl (zh _ hr) Tryz.underlying26 rfl zj _ rfl) rfl ?_
 exact ⟨rfl,hz.setRow (.inr (Nat.le_refl _)) _⟩
set_option maxRecDepth 100000 in
set_option maxHeartbeats 4000000 in
theorem zei (w:World) (hV:CkVars w):Calls Tryz.prog 115 #[] w fun e w' => e = .returned (.tuple #[tyA tyBool,.bool true]) ∧ Mods [] w w':=by
 have hz:=(Mods.refl [] w).alloc (.cells #[.int .i64 0,.int .i64 0] 26)
 have hr:=heap_alloc_new w (.cells #[.int .i64 0,.int .i64 0] 26)
 obtain ⟨⟨v0,v1⟩,-⟩:=hV.later hz
 go_enter Tryz.func115, Tryz.ntmps115
 go_wp2_with (refine wpList_store_row rfl 26 (.tmp 0) (.tmp 2) rfl w.heap.size #[.int .i64 4,.int .i64 0] rfl rfl 26 _ hr zj rfl (zv 4 0) ?_)
 refine bodyPost_ret (zg rfl _ _ w.heap.size 26 #[.int .i64 4,.int .i64 0] (0,0) _ rfl (zh _ hr) Tryz.underlying26 rfl zj _ rfl) rfl ?_
 exact ⟨rfl,hz.setRow (.inr (Nat.le_refl _)) _⟩
set_option maxRecDepth 100000 in
set_option maxHeartbeats 4000000 in
theorem zej (w:World) (tb:Nat) (a b:Ty) (h:TwoT w tb a b):Calls Tryz.prog 114 #[PtrV tb] w fun e w' => e = .returned (.tuple #[tyA a,.bool true]) ∧ Mods [] w w':=by
 have hz:=(Mods.refl [] w).alloc (.cells #[.int .i64 0,.int .i64 0] 26)
 have hr:=heap_alloc_new w (.cells #[.int .i64 0,.int .i64 0] 26)
 obtain ⟨sb,h1,h2,h3,-,-⟩:=h.later hz
 unfold PtrV
 go_enter Tryz.func114, Tryz.ntmps114
 go_wp2_with (refine wpList_store_row rfl 26 (.tmp 1) (.tmp 5) rfl w.heap.size #[.int .i64 a.k,.int .i64 a.s] rfl rfl 26 _ hr zj rfl (zv _ _) ?_)
 refine bodyPost_ret (zg rfl _ _ w.heap.size 26 #[.int .i64 a.k,.int .i64 a.s] (0,0) _ rfl (zh _ hr) Tryz.underlying26 rfl zj _ rfl) rfl ?_
 exact ⟨rfl,hz.setRow (.inr (Nat.le_refl _)) _⟩
set_option maxRecDepth 100000 in
set_option maxHeartbeats 4000000 in
theorem zfq (w:World) (tb:Nat) (a b:Ty) (h:TwoT w tb a b):Calls Tryz.prog 112 #[PtrV tb] w fun e w' => e = .returned (.tuple #[tyA a,.bool a.num]) ∧ Mods [] w w':=by
 have hz:=((Mods.refl [] w).alloc (.cells #[.int .i64 0,.int .i64 0] 26)).drew
 have hr:=heap_alloc_new w (.cells #[.int .i64 0,.int .i64 0] 26)
 obtain ⟨sb,h1,h2,h3,-,-⟩:=h.later hz
 have hc:=fun W => za9 a W
 have HSZ:Hid (w.heap.size=w.heap.size):=Lib.hid rfl
 unfold PtrV
 unfold tyA at *
 generalize a.num=nb at *
 go_enter Tryz.func112, Tryz.ntmps112
 go_upto_region 1 with fail
 go_region_law (go_simp; go_at_call 113; (with_reducible refine (hc _).mono ?_); rintro e w2 ⟨rfl,hM2⟩; have d1:=hM2.cell h1 (by simp); have d2:=hM2.cell h2 (by simp); have d3:=hM2.cell h3 (by simp); have hr2:=hM2.heap (show ((w.alloc (.cells #[.int .i64 0,.int .i64 0] 26)).drew).heap[w.heap.size]? = _ from hr) (by simp); have y0:w2.cell? ⟨w.heap.size,0,none⟩ = some (.int .i64 0):=za hr2 0; have y1:w2.cell? ⟨w.heap.size,1,none⟩ = some (.int .i64 0):=za hr2 1; have g0:=zd hr2 0; have g1:=zd hr2 1)
 all_goals
  have hr4:=zb (zb hr2 0 (.int .i64 a.k)) 1 (.int .i64 a.s)
  go_wp2_with fail
  refine bodyPost_ret (zg rfl _ _ w.heap.size 26 #[.int .i64 a.k,.int .i64 a.s] (0,0) _ rfl hr4 Tryz.underlying26 rfl zj _ rfl) rfl ?_
  exact ⟨rfl,((hz.trans hM2 (by simp)).setCell (.inr (Nat.le_refl _)) _).setCell (.inr (Nat.le_refl _)) _⟩
theorem zdB (a:Ty):((a.k:Int)=4 ∧ a.s=0 ∧ a=tyBool) ∨ ((a.k:Int)=4 ∧ ¬ a.s=0 ∧ a ≠ tyBool) ∨ (¬ (a.k:Int)=4 ∧ a ≠ tyBool):=by
 obtain ⟨k,s⟩:=a
 unfold tyBool
 simp only [Ty.mk.injEq,ne_eq]
 omega
set_option maxRecDepth 100000 in
set_option maxHeartbeats 4000000 in
theorem ziC (w:World) (hV:CkVars w) (tb:Nat) (a b:Ty) (h:TwoT w tb a b):Calls Tryz.prog 116 #[PtrV tb] w fun e w' => e = .returned (.tuple #[tyA tyBool,.bool (decide (a=tyBool))]) ∧ Mods [] w w':=by
 have hz:=((Mods.refl [] w).alloc (.cells #[.int .i64 0,.int .i64 0] 26)).drew
 have hr:=heap_alloc_new w (.cells #[.int .i64 0,.int .i64 0] 26)
 obtain ⟨sb,h1,h2,h3,-,-⟩:=h.later hz
 obtain ⟨⟨v0,v1⟩,-⟩:=hV.later hz
 have hcase:=zdB a
 have hz4:=(Mods.refl [] w).alloc (.cells #[.int .i64 4,.int .i64 0] 26)
 have hr4:((w.alloc (.cells #[.int .i64 4,.int .i64 0] 26)).drew).heap[w.heap.size]? = _:=heap_alloc_new w _
 have s0:=hz4.cell hV.1.1 (by simp)
 have s1:=hz4.cell hV.1.2 (by simp)
 obtain ⟨sb',q1,q2,q3,-,-⟩:=h.later hz4
 obtain rfl:sb=sb':=by
  have e1:=hz.cell (h.choose_spec.1) (by simp)
  have e2:=hz4.cell (h.choose_spec.1) (by simp)
  rw [h1] at e1
  rw [q1] at e2
  simp only [Option.some.injEq,Value.slice.injEq,Addr.mk.injEq,and_true] at e1 e2
  exact e1.trans e2.symm
 unfold PtrV
 rcases hcase with ⟨e1,e2,e3⟩ | ⟨e1,e2,e3⟩ | ⟨e1,e3⟩
 ·rw [decide_eq_true e3]
  clear e3
  go_enter Tryz.func116, Tryz.ntmps116
  go_upto_region 1 with fail
  go_region_law (refine step_store_row rfl 26 (.tmp 1) (.tmp 3) rfl w.heap.size #[.int .i64 4,.int .i64 0] rfl rfl 26 _ hr zj rfl (zv _ _) ?_)
  all_goals
   go_wp2_with fail
   refine bodyPost_ret (zg rfl _ _ w.heap.size 26 #[.int .i64 4,.int .i64 0] (0,0) _ rfl hr4 Tryz.underlying26 rfl zj _ rfl) rfl ?_
   exact ⟨rfl,hz4.drew⟩
 ·rw [decide_eq_false e3]
  clear e3
  go_enter Tryz.func116, Tryz.ntmps116
  go_upto_region 1 with fail
  go_region_law (refine step_store_row rfl 26 (.tmp 1) (.tmp 3) rfl w.heap.size #[.int .i64 4,.int .i64 0] rfl rfl 26 _ hr zj rfl (zv _ _) ?_)
  all_goals
   go_wp2_with fail
   refine bodyPost_ret (zg rfl _ _ w.heap.size 26 #[.int .i64 4,.int .i64 0] (0,0) _ rfl hr4 Tryz.underlying26 rfl zj _ rfl) rfl ?_
   exact ⟨rfl,hz4.drew⟩
 ·rw [decide_eq_false e3]
  clear e3
  go_enter Tryz.func116, Tryz.ntmps116
  go_upto_region 1 with fail
  go_region_law (refine step_store_row rfl 26 (.tmp 1) (.tmp 3) rfl w.heap.size #[.int .i64 4,.int .i64 0] rfl rfl 26 _ hr zj rfl (zv _ _) ?_)
  all_goals
   go_wp2_with fail
   refine bodyPost_ret (zg rfl _ _ w.heap.size 26 #[.int .i64 4,.int .i64 0] (0,0) _ rfl hr4 Tryz.underlying26 rfl zj _ rfl) rfl ?_
   exact ⟨rfl,hz4.drew⟩
open Go.ChangeShapes Go.WideShapes Go.ChangeAt Go.RowKit
set_option linter.unusedVariables false
theorem zaO {P:Program} {W:World} {name:String} {a b:Int} {rest:List (String × DataW Unit)} {g:Nat} {t:TypeId} {f0 f1:Field} (hg:P.globalNamed name=some g) (hty:(P.globals[g]?).map (·.type)=some t) (ht:P.underlying t=some (.struct #[f0,f1]))
  (h0:P.underlying f0.type=some (.int .i64)) (h1:P.underlying f1.type=some (.int .i64)) (o0:f0.offset=0) (o1:f1.offset=1) (c0:P.cellsOf f0.type=1) (c1:P.cellsOf f1.type=1) (ct:P.cellsOf t=2)
  (h:laidMet P ((name,.agg [.lit (.int .i64 a),.lit (.int .i64 b)]) :: rest) W):W.cell? ⟨g,0,none⟩ = some (.int .i64 a) ∧ W.cell? ⟨g,1,none⟩ = some (.int .i64 b):=by
 obtain ⟨ps,⟨g',t',cs,fuel,p,q,hg',ht',hvar,hd,_,_⟩,_⟩:=h
 obtain rfl:=Option.some.inj (hg.symm.trans hg')
 obtain rfl:=Option.some.inj (hty.symm.trans ht')
 obtain ⟨y0,y1,n,hx,hl,k0,k1⟩:=trod_struct2 ht hd
 rw [o0,c0] at k0
 rw [o1,c1] at k1
 rw [ct] at hl
 obtain ⟨z0,e0,hz0,-⟩:=DataW.trod_int h0 k0
 obtain ⟨z1,e1,hz1,-⟩:=DataW.trod_int h1 k1
 have hx1:=congrArg Prod.fst hx
 simp only [DataW.agg.injEq,List.cons.injEq,and_true] at hx1
 rw [hz0,hz1] at hx1
 simp only [DataW.lit.injEq,Lit.int.injEq,true_and] at hx1
 obtain ⟨rfl,rfl⟩:=hx1
 have hc:=World.var?_cell hg hvar
 have g0:=hc 0
 have g1:=hc 1
 obtain ⟨l⟩:=cs
 have x0:l[0]? = some (.int .i64 a):=by
  have:=congrArg (·[0]?) e0
  simpa [List.getElem?_take,List.getElem?_drop] using this
 have x1:l[1]? = some (.int .i64 b):=by
  have:=congrArg (·[0]?) e1
  simpa [List.getElem?_take,List.getElem?_drop] using this
 exact ⟨g0.trans (by simpa using x0),g1.trans (by simpa using x1)⟩
theorem zjj {W:World} (hL:laidMetH Tryz.prog laidL W):Tabs2 W ∧ CkVars W:=by
 refine ⟨ziA hL,?_⟩
 rw [MakeChecks.laidMetH_plain _ _ _ (by kernel_rfl)] at hL
 have h8:=hL.tail.tail.tail.tail.tail.tail.tail.tail
 have h9:=h8.tail
 exact ⟨zaO (g:= 0) (t:= 26) (by kernel_rfl) (by kernel_rfl) Tryz.underlying26 (by kernel_rfl) (by kernel_rfl) rfl rfl (by kernel_rfl) (by kernel_rfl) (by kernel_rfl) h9,
  zaO (g:= 2) (t:= 26) (by kernel_rfl) (by kernel_rfl) Tryz.underlying26 (by kernel_rfl) (by kernel_rfl) rfl rfl (by kernel_rfl) (by kernel_rfl) (by kernel_rfl) h8⟩
end Go.Proofs.YtgdpaieechgahaaGreatDoor
