/-
  The law CheckFits, walked. No condition but that Go's own variables hold what they were laid with.
-/
import Derived.Test.YtgdpaieechgahaaGreatDoorQ49
set_option linter.unusedVariables false
set_option maxRecDepth 100000
namespace Go.Proofs.YtgdpaieechgahaaGreatDoor
open Go.RowKit
def tk:Option Ty → Int
 | some t => (t.k:Nat)
 | none => 0
def ts:Option Ty → Int
 | some t => (t.s:Nat)
 | none => 0
def tb (o:Option Ty):Bool:=o.isSome
theorem zoJ (o:Option Ty):tyR o = .tuple #[.agg #[.int .i64 (tk o),.int .i64 (ts o)],.bool (tb o)]:=by cases o <;> rfl
def FitsD (x1 y1:Int) (B1:Bool) (x2 y2:Int) (B2:Bool) (x3 y3:Int) (B3:Bool) (x4 y4:Int) (B4:Bool) (x5 y5:Int) (B5:Bool) (x6 y6:Int) (B6:Bool):Prop:=
 (B1=false ∧ B2=false ∧ B3=false ∧ B4=false ∧ B5=false ∧ B6=false) ∨
 ((
  B1=true ∧ x2=4 ∧ y2=0 ∧ B2=true ∧ x3=4 ∧ y3=0 ∧ B3=true ∧ x6=1 ∧ y6=0 ∧ B6=true) ∧
  (
   (x1=4 ∧ y1=0 ∧ B4=true ∧ x4=4 ∧ y4=0 ∧ B5=false) ∨ (x1=1 ∧ B4=false ∧ B5=true ∧ x5=1 ∧ y5=y1) ∨ (x1=2 ∧ B4=false ∧ B5=true ∧ x5=2 ∧ y5=y1) ∨
   (x1=4 ∧ ¬ y1=0 ∧ B4=false ∧ B5=false) ∨ (¬ x1=1 ∧ ¬ x1=2 ∧ ¬ x1=4 ∧ B4=false ∧ B5=false)))
theorem zki (t:Option Ty):FitsD (tk t) (ts t) (tb t) (tk (t.map fun _ => tyBool)) (ts (t.map fun _ => tyBool)) (tb (t.map fun _ => tyBool)) (tk (t.map fun _ => tyBool)) (ts (t.map fun _ => tyBool)) (tb (t.map fun _ => tyBool))
  (tk (t.bind fun a => if a=tyBool then some tyBool else none)) (ts (t.bind fun a => if a=tyBool then some tyBool else none)) (tb (t.bind fun a => if a=tyBool then some tyBool else none))
  (tk (t.bind fun a => if a.num=true then some a else none)) (ts (t.bind fun a => if a.num=true then some a else none)) (tb (t.bind fun a => if a.num=true then some a else none))
  (tk (t.map fun _ => tyInt)) (ts (t.map fun _ => tyInt)) (tb (t.map fun _ => tyInt)):=by
 cases t with
 | none => exact .inl ⟨rfl,rfl,rfl,rfl,rfl,rfl⟩
 | some a =>
  refine .inr ⟨⟨rfl,rfl,rfl,rfl,rfl,rfl,rfl,rfl,rfl,rfl⟩,?_⟩;obtain ⟨k,s⟩:=a;by_cases h1:k=1
  ·subst h1;exact .inr (.inl ⟨rfl,rfl,rfl,rfl,rfl⟩)
  by_cases h2:k=2
  ·subst h2;exact .inr (.inr (.inl ⟨rfl,rfl,rfl,rfl,rfl⟩))
  have hn:Ty.num ⟨k,s⟩ = false:=by unfold Ty.num; simp [h1,h2]
  by_cases h4:k=4
  ·subst h4;by_cases h0:s=0
   ·subst h0;exact .inl ⟨rfl,rfl,rfl,rfl,rfl,rfl⟩
   ·have hne:¬ (⟨4,s⟩ : Ty)=tyBool:=fun h => h0 (by cases h; rfl);refine .inr (.inr (.inr (.inl ⟨rfl,fun h => h0 (Int.ofNat.inj h),?_,rfl⟩)));show tb (if _ then _ else none)=false;rw [if_neg hne];rfl
  ·have hne:¬ (⟨k,s⟩ : Ty)=tyBool:=fun h => h4 (by cases h; rfl);refine .inr (.inr (.inr (.inr ⟨fun h => h1 (Int.ofNat.inj h),fun h => h2 (Int.ofNat.inj h),fun h => h4 (Int.ofNat.inj h),?_,?_⟩)))
   ·show tb (if _ then _ else none)=false;rw [if_neg hne];rfl
   ·show tb (if Ty.num ⟨k,s⟩ = true then _ else none)=false;rw [hn];rfl
def CallT (w:World) (S:ByteArray) (x y:Int) (B:Bool):Prop:=∀ W,Mods [] w W → Calls Tryz.prog 9 #[.string S] W fun e w' => e = .returned (.tuple #[.agg #[.int .i64 x,.int .i64 y],.bool B]) ∧ Mods [] W w'
theorem CallT.of {w:World} (hT:Tabs3 w) {L:Bs} {S:ByteArray} {o:Option Ty} (hS:S = ⟨L.toArray⟩) (hl:L.length ≤ 4000) (hb:zaR L=o):CallT w S (tk o) (ts o) (tb o):=by unfold CallT;intro W hM;have h:=ziy W (hT.later hM) L hl;rw [hb,← hS] at h;refine h.mono ?_;intro e w' h2;obtain ⟨h3,h4⟩:=h2;exact ⟨by rw [h3,zoJ],h4⟩
set_option maxHeartbeats 8000000 in
theorem zfC (w:World) (hT:Tabs3 w) (a:Option Addr) (l:List zbc) (cap:Nat) (hP:PartsIn w a l) (hl:l.length ≤ 9223372036854775807) (hok:∀ p ∈ l,PartOk p) :
  Calls Tryz.prog 3 #[.slice a l.length cap] w fun e w' => e = .returned (.bool true) ∧ Mods [] w w':=by
 have hex:=zb4 w hT;obtain ⟨t,f1,f2,f3,f4,f5,f6⟩:=zny l;have hsm:=zfq l;obtain ⟨E,hE⟩:=EX ((⟨(zc8 l).toArray⟩ : ByteArray):ByteArray);have hEs:E.size ≤ 352:=by rw [← hE]; exact hsm
 have hexp:∀ W,Mods [] w W → Calls Tryz.prog 8 #[.slice a l.length cap] W fun e w' => e = .returned (.string E) ∧ Mods [] W w':=fun W hM => by rw [← hE]; exact zkb W a l cap (hP.mods hM) hl hok
 have hbl:(brk (zc8 l)).length ≤ 354:=by unfold brk; simp; omega
 obtain ⟨S,hS⟩ : ∃ S:ByteArray,(⟨#[40]⟩ : ByteArray) ++ E ++ ⟨#[41]⟩ = S:=⟨_,rfl⟩;have hSb:S = ⟨(brk (zc8 l)).toArray⟩:=by rw [← hS,← hE]; exact cat3 [40] (zc8 l) [41]
 have hSs:S.size ≤ 354:=by rw [hSb]; exact hbl
 have g1:=CallT.of hT hSb (by omega) f1;have g2:=CallT.of hT (S:=S ++ ⟨#[32,73,83,32,78,85,76,76]⟩) (by rw [hSb]; exact cat2 _ _) (by rw [List.length_append]; simp; omega) f2;have g3:=CallT.of hT (S:=S ++ ⟨#[32,61,32]⟩ ++ S) (by rw [hSb]; exact cat3 _ [32,61,32] _) (by rw [List.length_append,List.length_append]; simp; omega) f3;have g4:=CallT.of hT (S:=⟨#[78,79,84,32]⟩ ++ S) (by rw [hSb]; exact cat2 [78,79,84,32] _) (by rw [List.length_append]; simp; omega) f4;have g5:=CallT.of hT (S:=⟨#[45,32]⟩ ++ S) (by rw [hSb]; exact cat2 [45,32] _) (by rw [List.length_append]; simp; omega) f5;have g6:=CallT.of hT (S:=⟨#[67,79,85,78,84]⟩ ++ S) (by rw [hSb]; exact cat2 [67,79,85,78,84] _) (by rw [List.length_append]; simp; omega) f6;have hfd:=zki t;obtain ⟨x1,hx1⟩:=EX (tk t);obtain ⟨y1,hy1⟩:=EX (ts t);obtain ⟨B1,hB1⟩:=EX (tb t);rw [hx1,hy1,hB1] at g1;obtain ⟨x2,hx2⟩:=EX (tk (t.map fun _ => tyBool));obtain ⟨y2,hy2⟩:=EX (ts (t.map fun _ => tyBool));obtain ⟨B2,hB2⟩:=EX (tb (t.map fun _ => tyBool));rw [hx2,hy2,hB2] at g2;obtain ⟨x3,hx3⟩:=EX (tk (t.map fun _ => tyBool));obtain ⟨y3,hy3⟩:=EX (ts (t.map fun _ => tyBool));obtain ⟨B3,hB3⟩:=EX (tb (t.map fun _ => tyBool));rw [hx3,hy3,hB3] at g3;obtain ⟨x4,hx4⟩:=EX (tk (t.bind fun a => if a=tyBool then some tyBool else none));obtain ⟨y4,hy4⟩:=EX (ts (t.bind fun a => if a=tyBool then some tyBool else none));obtain ⟨B4,hB4⟩:=EX (tb (t.bind fun a => if a=tyBool then some tyBool else none));rw [hx4,hy4,hB4] at g4;obtain ⟨x5,hx5⟩:=EX (tk (t.bind fun a => if a.num=true then some a else none));obtain ⟨y5,hy5⟩:=EX (ts (t.bind fun a => if a.num=true then some a else none));obtain ⟨B5,hB5⟩:=EX (tb (t.bind fun a => if a.num=true then some a else none));rw [hx5,hy5,hB5] at g5;obtain ⟨x6,hx6⟩:=EX (tk (t.map fun _ => tyInt));obtain ⟨y6,hy6⟩:=EX (ts (t.map fun _ => tyInt));obtain ⟨B6,hB6⟩:=EX (tb (t.map fun _ => tyInt));rw [hx6,hy6,hB6] at g6;have hfd:FitsD x1 y1 B1 x2 y2 B2 x3 y3 B3 x4 y4 B4 x5 y5 B5 x6 y6 B6:=by rw [← hx1,← hy1,← hB1,← hx2,← hy2,← hB2,← hx3,← hy3,← hB3,← hx4,← hy4,← hB4,← hx5,← hy5,← hB5,← hx6,← hy6,← hB6]; exact hfd
 clear hx1 hy1 hB1 hx2 hy2 hB2 hx3 hy3 hB3 hx4 hy4 hB4 hx5 hy5 hB5 hx6 hy6 hB6;have HF:=QH hfd;have m0:¬ 9223372036854775807 < 1 + E.size:=by omega
 have m1:¬ 9223372036854775807 < 1 + E.size + 1:=by omega
 have m2:¬ 9223372036854775807 < S.size + 8:=by omega
 have m3:¬ 9223372036854775807 < S.size + 3:=by omega
 have m4:¬ 9223372036854775807 < S.size + 3 + S.size:=by omega
 have m5:¬ 9223372036854775807 < 4 + S.size:=by omega
 have m6:¬ 9223372036854775807 < 2 + S.size:=by omega
 have m7:¬ 9223372036854775807 < 5 + S.size:=by omega
 clear hfd hEs hSs hSb hbl hsm hT hP hok f1 f2 f3 f4 f5 f6 hE;go_enter Tryz.func3, Tryz.ntmps3;go_wp2_with fail;(with_reducible refine hex.mono ?_);rintro e w1 ⟨rfl,hM1⟩;clear hex;go_wp2_with fail;(refine (hexp w1 hM1).mono ?_);rintro e v0 ⟨rfl,hM⟩;have h0:=hM1.trans hM;clear hexp hM1 hM;go_upto_region 5 with fail;have H0:=QH h0;clear h0 hS m0 m1;go_wp2_with fail;(refine (g1 _ H0.out).mono ?_);rintro e u1 ⟨rfl,hM⟩;have hz:=(QM [] u1).alloc (.cells #[.int .i64 x1,.int .i64 y1] 26);have hn:=QN u1 (.cells #[.int .i64 x1,.int .i64 y1] 26);have hMz:=hM.trans hz;have H1:=QH (AI (H0.out.trans hMz) hn);clear H0;clear g1 hM hz hn hMz;go_upto_region 6 with fail;generalize u1.alloc (.cells #[.int .i64 x1,.int .i64 y1] 26)=v1 at *;generalize u1.heap.size=b1 at *;have hMz:=(QM [] v1).alloc (.cells #[.int .i64 4,.int .i64 0] 26);have hn:=QN v1 (.cells #[.int .i64 4,.int .i64 0] 26);have H7:=QH (AI (H1.out.1.trans hMz) (AI (hMz.heap H1.out.2) hn));clear H1;clear hMz hn;go_upto_region 7 with fail;generalize v1.alloc (.cells #[.int .i64 4,.int .i64 0] 26)=v7 at *;generalize v1.heap.size=b7 at *;go_wp2_with fail;(refine (g2 _ H7.out.1).mono ?_);rintro e u2 ⟨rfl,hM⟩;have hz:=(QM [] u2).alloc (.cells #[.int .i64 x2,.int .i64 y2] 26);have hn:=QN u2 (.cells #[.int .i64 x2,.int .i64 y2] 26);have hMz:=hM.trans hz;have H2:=QH (AI (H7.out.1.trans hMz) (AI (hMz.heap H7.out.2.1) (AI (hMz.heap H7.out.2.2) hn)));clear H7;clear g2 hM hz hn hMz;go_upto_region 8 with fail;generalize u2.alloc (.cells #[.int .i64 x2,.int .i64 y2] 26)=v2 at *;generalize u2.heap.size=b2 at *;go_wp2_with fail;(refine (g3 _ H2.out.1).mono ?_);rintro e u3 ⟨rfl,hM⟩;have hz:=(QM [] u3).alloc (.cells #[.int .i64 x3,.int .i64 y3] 26);have hn:=QN u3 (.cells #[.int .i64 x3,.int .i64 y3] 26);have hMz:=hM.trans hz;have H3:=QH (AI (H2.out.1.trans hMz) (AI (hMz.heap H2.out.2.1) (AI (hMz.heap H2.out.2.2.1) (AI (hMz.heap H2.out.2.2.2) hn))));clear H2;clear g3 hM hz hn hMz;go_upto_region 9 with fail;generalize u3.alloc (.cells #[.int .i64 x3,.int .i64 y3] 26)=v3 at *;generalize u3.heap.size=b3 at *;go_wp2_with fail;(refine (g4 _ H3.out.1).mono ?_);rintro e u4 ⟨rfl,hM⟩;have hz:=(QM [] u4).alloc (.cells #[.int .i64 x4,.int .i64 y4] 26);have hn:=QN u4 (.cells #[.int .i64 x4,.int .i64 y4] 26);have hMz:=hM.trans hz;have H4:=QH (AI (H3.out.1.trans hMz) (AI (hMz.heap H3.out.2.1) (AI (hMz.heap H3.out.2.2.1) (AI (hMz.heap H3.out.2.2.2.1) (AI (hMz.heap H3.out.2.2.2.2) hn)))));clear H3;clear g4 hM hz hn hMz;go_upto_region 10 with fail;generalize u4.alloc (.cells #[.int .i64 x4,.int .i64 y4] 26)=v4 at *;generalize u4.heap.size=b4 at *;go_wp2_with fail;(refine (g5 _ H4.out.1).mono ?_);rintro e u5 ⟨rfl,hM⟩;have hz:=(QM [] u5).alloc (.cells #[.int .i64 x5,.int .i64 y5] 26);have hn:=QN u5 (.cells #[.int .i64 x5,.int .i64 y5] 26);have hMz:=hM.trans hz;have H5:=QH (AI (H4.out.1.trans hMz) (AI (hMz.heap H4.out.2.1) (AI (hMz.heap H4.out.2.2.1) (AI (hMz.heap H4.out.2.2.2.1) (AI (hMz.heap H4.out.2.2.2.2.1) (AI (hMz.heap H4.out.2.2.2.2.2) hn))))));clear H4;clear g5 hM hz hn hMz;go_upto_region 11 with fail;generalize u5.alloc (.cells #[.int .i64 x5,.int .i64 y5] 26)=v5 at *;generalize u5.heap.size=b5 at *;go_wp2_with fail;(refine (g6 _ H5.out.1).mono ?_);rintro e u6 ⟨rfl,hM⟩;have hz:=(QM [] u6).alloc (.cells #[.int .i64 x6,.int .i64 y6] 26);have hn:=QN u6 (.cells #[.int .i64 x6,.int .i64 y6] 26);have hMz:=hM.trans hz;have H6:=QH (AI (H5.out.1.trans hMz) (AI (hMz.heap H5.out.2.1) (AI (hMz.heap H5.out.2.2.1) (AI (hMz.heap H5.out.2.2.2.1) (AI (hMz.heap H5.out.2.2.2.2.1) (AI (hMz.heap H5.out.2.2.2.2.2.1) (AI (hMz.heap H5.out.2.2.2.2.2.2) hn)))))));clear H5;clear g6 hM hz hn hMz;go_upto_region 12 with fail;generalize u6.alloc (.cells #[.int .i64 x6,.int .i64 y6] 26)=v6 at *;generalize u6.heap.size=b6 at *;obtain ⟨hfin,k1,k7,k2,k3,k4,k5,k6⟩:=H6.out;have HFIN:=QH hfin;have d1:=za k1 0;have e1:=za k1 1;change v6.cell? _=some (.int .i64 x1) at d1;change v6.cell? _=some (.int .i64 y1) at e1;have d7:=za k7 0;have e7:=za k7 1;change v6.cell? _=some (.int .i64 4) at d7;change v6.cell? _=some (.int .i64 0) at e7;have d2:=za k2 0;have e2:=za k2 1;change v6.cell? _=some (.int .i64 x2) at d2;change v6.cell? _=some (.int .i64 y2) at e2;have d3:=za k3 0;have e3:=za k3 1;change v6.cell? _=some (.int .i64 x3) at d3;change v6.cell? _=some (.int .i64 y3) at e3;have d4:=za k4 0;have e4:=za k4 1;change v6.cell? _=some (.int .i64 x4) at d4;change v6.cell? _=some (.int .i64 y4) at e4;have d5:=za k5 0;have e5:=za k5 1;change v6.cell? _=some (.int .i64 x5) at d5;change v6.cell? _=some (.int .i64 y5) at e5;have d6:=za k6 0;have e6:=za k6 1;change v6.cell? _=some (.int .i64 x6) at d6;change v6.cell? _=some (.int .i64 y6) at e6;have HD:=HF.out;clear HF H6 hfin k1 k7 k2 k3 k4 k5 k6 m2 m3 m4 m5 m6 m7;unfold FitsD at HD;rcases HD with ⟨rfl,rfl,rfl,rfl,rfl,rfl⟩ | ⟨⟨rfl,rfl,rfl,rfl,rfl,rfl,rfl,rfl,rfl,rfl⟩,HD⟩
 ·go_wp2_with fail;go_ret;exact ⟨rfl,HFIN.out⟩
 ·rcases HD with ⟨rfl,rfl,rfl,rfl,rfl,rfl⟩ | ⟨rfl,rfl,rfl,rfl,rfl⟩ | ⟨rfl,rfl,rfl,rfl,rfl⟩ | ⟨rfl,n0,rfl,rfl⟩ | ⟨n1,n2,n4,rfl,rfl⟩
  ·go_wp2_with fail;go_ret;exact ⟨rfl,HFIN.out⟩
  ·go_wp2_with fail;go_ret;exact ⟨rfl,HFIN.out⟩
  ·go_wp2_with fail;go_ret;exact ⟨rfl,HFIN.out⟩
  ·have n0b:(y1 == 0)=false:=beq_eq_false_iff_ne.2 n0;go_wp2_with fail;go_ret;exact ⟨rfl,HFIN.out⟩
  ·have n1b:(x1 == 1)=false:=beq_eq_false_iff_ne.2 n1;have n2b:(x1 == 2)=false:=beq_eq_false_iff_ne.2 n2;have n4b:(x1 == 4)=false:=beq_eq_false_iff_ne.2 n4;go_wp2_with fail;go_ret;exact ⟨rfl,HFIN.out⟩
end Go.Proofs.YtgdpaieechgahaaGreatDoor
