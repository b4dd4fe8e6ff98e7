/-
  check.arity and check.formed, walked: of exprs that are formed. No condition.
-/
import Derived.Test.YtebljciefhfgbaaGreatDoorQ20
set_option linter.unusedVariables false
set_option maxRecDepth 100000
set_option maxHeartbeats 8000000
namespace Go.Proofs.YtebljciefhfgbaaGreatDoor
open Go.RowKit
theorem BK {p:Prop} (h:p:=by unfold zd5; decide):p:=h
theorem yaZ {p:Prop} (h:p:=by
  have HR:=QH hr;clear hb hr;go_wp2_with fail;(with_reducible refine hc.mono ?_);rintro e w5 ⟨rfl,rfl⟩;clear hc;go_wp2_with fail;go_ret;exact ⟨zdQ (by rw [← HAK.out,HR.out]),hM⟩
 ):p:=h
theorem ybI {p:Prop} (h:p:=by
  refine zcK AC AC ?_;(repeat go_big_quiet_step (exact HK.out _));refine QW ?_;rintro _ ⟨kk,rfl⟩;go_wp2_with fail
  go_meet
  exact ⟨rfl,kk.mods⟩
 ):p:=h
theorem ybL {p:Prop} (h:p:=by
  simp only;split
  ·intro _; exact ⟨hq.items,hq.on,hq.whr,hq.group⟩
  ·intro _; exact hq
 ):p:=h
def za7 (l:List Bs):List ByteArray:=l.map fun x => ⟨x.toArray⟩
theorem zgQ (l:List Bs) (op:Bs):Lib.containsS (za7 l) ⟨op.toArray⟩ = l.contains op:=by
 rw [Bool.eq_iff_iff,Lib.containsS_iff];unfold za7;rw [List.contains_iff_mem,List.mem_map];constructor
 ·rintro ⟨x,hx,he⟩;obtain rfl:x=op:=by simpa using he
  exact hx
 ·intro hm;exact ⟨op,hm,rfl⟩
def zcs (op:Bs):Int:=if ops0.contains op=true then 0 else if ops1.contains op=true then 1 else if ops2.contains op=true then 2 else -1
def notIn (op:Bs) (i:Nat):Prop:=(0 < i → ops0.contains op=false) ∧ (1 < i → ops1.contains op=false) ∧ (2 < i → ops2.contains op=false)
theorem zln (w:World) (op:Bs):Calls Tryz.prog 95 #[.string ⟨op.toArray⟩] w fun e w' => e = .returned (.int .i64 (zcs op)) ∧ Mods [] w w':=by
 have hM:=((((QM [] w).alloc (.cells #[.string ⟨#[110,117,109,98,101,114]⟩,.string ⟨#[116,101,120,116]⟩,.string ⟨#[98,111,111,108]⟩,.string ⟨#[110,117,108,108]⟩,.string ⟨#[99,111,108,117,109,110]⟩,.string ⟨#[99,111,117,110,116,97,108,108]⟩] 9)).alloc (.cells #[.string ⟨#[110,101,103]⟩,.string ⟨#[110,111,116]⟩,.string ⟨#[105,115,110,117,108,108]⟩,.string ⟨#[110,111,116,110,117,108,108]⟩,.string ⟨#[99,111,117,110,116]⟩,.string ⟨#[115,117,109]⟩,.string ⟨#[109,105,110]⟩,.string ⟨#[109,97,120]⟩] 9)).alloc (.cells #[.string ⟨#[111,114]⟩,.string ⟨#[97,110,100]⟩,.string ⟨#[61]⟩,.string ⟨#[60,62]⟩,.string ⟨#[60]⟩,.string ⟨#[60,61]⟩,.string ⟨#[62]⟩,.string ⟨#[62,61]⟩,.string ⟨#[43]⟩,.string ⟨#[45]⟩,.string ⟨#[42]⟩,.string ⟨#[47]⟩] 9)).alloc (.cells #[.slice (some ⟨w.heap.size,0,none⟩) 6 6,.slice (some ⟨w.heap.size + 1,0,none⟩) 8 8,.slice (some ⟨w.heap.size + 1 + 1,0,none⟩) 12 12] 56);have b0:=((((QM [] (w.alloc (.cells #[.string ⟨#[110,117,109,98,101,114]⟩,.string ⟨#[116,101,120,116]⟩,.string ⟨#[98,111,111,108]⟩,.string ⟨#[110,117,108,108]⟩,.string ⟨#[99,111,108,117,109,110]⟩,.string ⟨#[99,111,117,110,116,97,108,108]⟩] 9))).alloc (.cells #[.string ⟨#[110,101,103]⟩,.string ⟨#[110,111,116]⟩,.string ⟨#[105,115,110,117,108,108]⟩,.string ⟨#[110,111,116,110,117,108,108]⟩,.string ⟨#[99,111,117,110,116]⟩,.string ⟨#[115,117,109]⟩,.string ⟨#[109,105,110]⟩,.string ⟨#[109,97,120]⟩] 9)).alloc (.cells #[.string ⟨#[111,114]⟩,.string ⟨#[97,110,100]⟩,.string ⟨#[61]⟩,.string ⟨#[60,62]⟩,.string ⟨#[60]⟩,.string ⟨#[60,61]⟩,.string ⟨#[62]⟩,.string ⟨#[62,61]⟩,.string ⟨#[43]⟩,.string ⟨#[45]⟩,.string ⟨#[42]⟩,.string ⟨#[47]⟩] 9)).alloc (.cells #[.slice (some ⟨w.heap.size,0,none⟩) 6 6,.slice (some ⟨w.heap.size + 1,0,none⟩) 8 8,.slice (some ⟨w.heap.size + 1 + 1,0,none⟩) 12 12] 56)).heap (QN w _);have b1:=(((QM [] ((w.alloc (.cells #[.string ⟨#[110,117,109,98,101,114]⟩,.string ⟨#[116,101,120,116]⟩,.string ⟨#[98,111,111,108]⟩,.string ⟨#[110,117,108,108]⟩,.string ⟨#[99,111,108,117,109,110]⟩,.string ⟨#[99,111,117,110,116,97,108,108]⟩] 9)).alloc (.cells #[.string ⟨#[110,101,103]⟩,.string ⟨#[110,111,116]⟩,.string ⟨#[105,115,110,117,108,108]⟩,.string ⟨#[110,111,116,110,117,108,108]⟩,.string ⟨#[99,111,117,110,116]⟩,.string ⟨#[115,117,109]⟩,.string ⟨#[109,105,110]⟩,.string ⟨#[109,97,120]⟩] 9))).alloc (.cells #[.string ⟨#[111,114]⟩,.string ⟨#[97,110,100]⟩,.string ⟨#[61]⟩,.string ⟨#[60,62]⟩,.string ⟨#[60]⟩,.string ⟨#[60,61]⟩,.string ⟨#[62]⟩,.string ⟨#[62,61]⟩,.string ⟨#[43]⟩,.string ⟨#[45]⟩,.string ⟨#[42]⟩,.string ⟨#[47]⟩] 9)).alloc (.cells #[.slice (some ⟨w.heap.size,0,none⟩) 6 6,.slice (some ⟨w.heap.size + 1,0,none⟩) 8 8,.slice (some ⟨w.heap.size + 1 + 1,0,none⟩) 12 12] 56)).heap (QN (w.alloc (.cells #[.string ⟨#[110,117,109,98,101,114]⟩,.string ⟨#[116,101,120,116]⟩,.string ⟨#[98,111,111,108]⟩,.string ⟨#[110,117,108,108]⟩,.string ⟨#[99,111,108,117,109,110]⟩,.string ⟨#[99,111,117,110,116,97,108,108]⟩] 9)) _) AB;have b2:=((QM [] (((w.alloc (.cells #[.string ⟨#[110,117,109,98,101,114]⟩,.string ⟨#[116,101,120,116]⟩,.string ⟨#[98,111,111,108]⟩,.string ⟨#[110,117,108,108]⟩,.string ⟨#[99,111,108,117,109,110]⟩,.string ⟨#[99,111,117,110,116,97,108,108]⟩] 9)).alloc (.cells #[.string ⟨#[110,101,103]⟩,.string ⟨#[110,111,116]⟩,.string ⟨#[105,115,110,117,108,108]⟩,.string ⟨#[110,111,116,110,117,108,108]⟩,.string ⟨#[99,111,117,110,116]⟩,.string ⟨#[115,117,109]⟩,.string ⟨#[109,105,110]⟩,.string ⟨#[109,97,120]⟩] 9)).alloc (.cells #[.string ⟨#[111,114]⟩,.string ⟨#[97,110,100]⟩,.string ⟨#[61]⟩,.string ⟨#[60,62]⟩,.string ⟨#[60]⟩,.string ⟨#[60,61]⟩,.string ⟨#[62]⟩,.string ⟨#[62,61]⟩,.string ⟨#[43]⟩,.string ⟨#[45]⟩,.string ⟨#[42]⟩,.string ⟨#[47]⟩] 9))).alloc (.cells #[.slice (some ⟨w.heap.size,0,none⟩) 6 6,.slice (some ⟨w.heap.size + 1,0,none⟩) 8 8,.slice (some ⟨w.heap.size + 1 + 1,0,none⟩) 12 12] 56)).heap (QN ((w.alloc (.cells #[.string ⟨#[110,117,109,98,101,114]⟩,.string ⟨#[116,101,120,116]⟩,.string ⟨#[98,111,111,108]⟩,.string ⟨#[110,117,108,108]⟩,.string ⟨#[99,111,108,117,109,110]⟩,.string ⟨#[99,111,117,110,116,97,108,108]⟩] 9)).alloc (.cells #[.string ⟨#[110,101,103]⟩,.string ⟨#[110,111,116]⟩,.string ⟨#[105,115,110,117,108,108]⟩,.string ⟨#[110,111,116,110,117,108,108]⟩,.string ⟨#[99,111,117,110,116]⟩,.string ⟨#[115,117,109]⟩,.string ⟨#[109,105,110]⟩,.string ⟨#[109,97,120]⟩] 9)) _) AB;have b3:=QN (((w.alloc (.cells #[.string ⟨#[110,117,109,98,101,114]⟩,.string ⟨#[116,101,120,116]⟩,.string ⟨#[98,111,111,108]⟩,.string ⟨#[110,117,108,108]⟩,.string ⟨#[99,111,108,117,109,110]⟩,.string ⟨#[99,111,117,110,116,97,108,108]⟩] 9)).alloc (.cells #[.string ⟨#[110,101,103]⟩,.string ⟨#[110,111,116]⟩,.string ⟨#[105,115,110,117,108,108]⟩,.string ⟨#[110,111,116,110,117,108,108]⟩,.string ⟨#[99,111,117,110,116]⟩,.string ⟨#[115,117,109]⟩,.string ⟨#[109,105,110]⟩,.string ⟨#[109,97,120]⟩] 9)).alloc (.cells #[.string ⟨#[111,114]⟩,.string ⟨#[97,110,100]⟩,.string ⟨#[61]⟩,.string ⟨#[60,62]⟩,.string ⟨#[60]⟩,.string ⟨#[60,61]⟩,.string ⟨#[62]⟩,.string ⟨#[62,61]⟩,.string ⟨#[43]⟩,.string ⟨#[45]⟩,.string ⟨#[42]⟩,.string ⟨#[47]⟩] 9)) (.cells #[.slice (some ⟨w.heap.size,0,none⟩) 6 6,.slice (some ⟨w.heap.size + 1,0,none⟩) 8 8,.slice (some ⟨w.heap.size + 1 + 1,0,none⟩) 12 12] 56);simp only [zl] at b1 b2 b3;obtain ⟨S,hS⟩:=EX ((⟨op.toArray⟩ : ByteArray):ByteArray);have HS:=QH hS;rw [hS];clear hS;obtain ⟨ak,hak⟩:=EX (zcs op);rw [hak];have HAK:=QH hak;clear hak;have HB:=QH (AI hM (AI b0 (AI b1 (AI b2 b3))));clear hM b0 b1 b2 b3;go_enter Tryz.func95, Tryz.ntmps95;go_wp2_with fail;obtain ⟨hM,b0,b1,b2,b3⟩:=HB.out;clear HB;generalize (((w.alloc (.cells #[.string ⟨#[110,117,109,98,101,114]⟩,.string ⟨#[116,101,120,116]⟩,.string ⟨#[98,111,111,108]⟩,.string ⟨#[110,117,108,108]⟩,.string ⟨#[99,111,108,117,109,110]⟩,.string ⟨#[99,111,117,110,116,97,108,108]⟩] 9)).alloc (.cells #[.string ⟨#[110,101,103]⟩,.string ⟨#[110,111,116]⟩,.string ⟨#[105,115,110,117,108,108]⟩,.string ⟨#[110,111,116,110,117,108,108]⟩,.string ⟨#[99,111,117,110,116]⟩,.string ⟨#[115,117,109]⟩,.string ⟨#[109,105,110]⟩,.string ⟨#[109,97,120]⟩] 9)).alloc (.cells #[.string ⟨#[111,114]⟩,.string ⟨#[97,110,100]⟩,.string ⟨#[61]⟩,.string ⟨#[60,62]⟩,.string ⟨#[60]⟩,.string ⟨#[60,61]⟩,.string ⟨#[62]⟩,.string ⟨#[62,61]⟩,.string ⟨#[43]⟩,.string ⟨#[45]⟩,.string ⟨#[42]⟩,.string ⟨#[47]⟩] 9)).alloc (.cells #[.slice (some ⟨w.heap.size,0,none⟩) 6 6,.slice (some ⟨w.heap.size + 1,0,none⟩) 8 8,.slice (some ⟨w.heap.size + 1 + 1,0,none⟩) 12 12] 56)=w4 at *;have k0:=za b3 0;have k1:=za b3 1;have k2:=za b3 2;change w4.cell? _=some (.slice (some ⟨w.heap.size,0,none⟩) 6 6) at k0;change w4.cell? _=some (.slice (some ⟨w.heap.size + 1,0,none⟩) 8 8) at k1;change w4.cell? _=some (.slice (some ⟨w.heap.size + 1 + 1,0,none⟩) 12 12) at k2
 have c0:= Tryz.slices_Contains_string w.heap.size 0 6 6 (za7 ops0) S w4 AD AD (fun j hj => by
  rw [Nat.zero_add,za b0 j];have h5:j=0 ∨ j=1 ∨ j=2 ∨ j=3 ∨ j=4 ∨ j=5:=by simp [za7,ops0] at hj; omega
  rcases h5 with rfl | rfl | rfl | rfl | rfl | rfl <;> rfl)
 have c1:= Tryz.slices_Contains_string (w.heap.size + 1) 0 8 8 (za7 ops1) S w4 AD AD (fun j hj => by
  rw [Nat.zero_add,za b1 j];have h5:j=0 ∨ j=1 ∨ j=2 ∨ j=3 ∨ j=4 ∨ j=5 ∨ j=6 ∨ j=7:=by simp [za7,ops1] at hj; omega
  rcases h5 with rfl | rfl | rfl | rfl | rfl | rfl | rfl | rfl <;> rfl)
 have c2:= Tryz.slices_Contains_string (w.heap.size + 1 + 1) 0 12 12 (za7 ops2) S w4 AD AD (fun j hj => by
  rw [Nat.zero_add,za b2 j];have h5:j=0 ∨ j=1 ∨ j=2 ∨ j=3 ∨ j=4 ∨ j=5 ∨ j=6 ∨ j=7 ∨ j=8 ∨ j=9 ∨ j=10 ∨ j=11:=by simp [za7,ops2] at hj; omega
  rcases h5 with rfl | rfl | rfl | rfl | rfl | rfl | rfl | rfl | rfl | rfl | rfl | rfl <;> rfl)
 rw [show (za7 ops0).take 6=za7 ops0 from rfl,← HS.out,zgQ] at c0;rw [show (za7 ops1).take 8=za7 ops1 from rfl,← HS.out,zgQ] at c1;rw [show (za7 ops2).take 12=za7 ops2 from rfl,← HS.out,zgQ] at c2;rw [HS.out] at c0 c1 c2;have HC:=QH (AI c0 (AI c1 c2));clear c0 c1 c2 b0 b1 b2 b3;generalize w.heap.size=sz at *;go_loopg [10] 3 (fun gk t10 wr => ∃ i:Nat,i + gk=3 ∧ t10 = .int .i64 i ∧ notIn op i ∧ w4=wr)
 case atStart => exact ⟨0,by omega,rfl,⟨fun h => by omega,fun h => by omega,fun h => by omega⟩,rfl⟩
 obtain ⟨i,hi,rfl,hN,rfl⟩:=hrel;have hi4:i=0 ∨ i=1 ∨ i=2 ∨ i=3:=by omega
 have HN:=QH hN;clear hN;rcases hi4 with rfl | rfl | rfl | rfl
 ·have hc:=HC.out.1
  cases hb:ops0.contains op with
  | true =>
   rw [hb] at hc;have hr:zcs op=0:=by unfold zcs; rw [hb]; rfl
   exact yaZ
  | false =>
   rw [hb] at hc;have HNN:Hid (notIn op 1):=QH ⟨fun _ => hb,fun h => by omega,fun h => by omega⟩;clear hb;go_wp2_with fail;(with_reducible refine hc.mono ?_);rintro e w5 ⟨rfl,rfl⟩;clear hc;go_wp2_with fail;go_roundg (3 - (0 + 1))
   case measure => omega
   case rel => exact ⟨1,by omega,by go_num,HNN.out,rfl⟩
 ·have hc:=HC.out.2.1
  cases hb:ops1.contains op with
  | true =>
   rw [hb] at hc;have hr:zcs op=1:=by unfold zcs; rw [HN.out.1 AA]; rw [hb]; rfl
   exact yaZ
  | false =>
   rw [hb] at hc;have HNN:Hid (notIn op 2):=QH ⟨fun _ => HN.out.1 AA,fun _ => hb,fun h => by omega⟩;clear hb;go_wp2_with fail;(with_reducible refine hc.mono ?_);rintro e w5 ⟨rfl,rfl⟩;clear hc;go_wp2_with fail;go_roundg (3 - (1 + 1))
   case measure => omega
   case rel => exact ⟨2,by omega,by go_num,HNN.out,rfl⟩
 ·have hc:=HC.out.2.2
  cases hb:ops2.contains op with
  | true =>
   rw [hb] at hc;have hr:zcs op=2:=by unfold zcs; rw [HN.out.1 AA,HN.out.2.1 AA]; rw [hb]; rfl
   exact yaZ
  | false =>
   rw [hb] at hc;have HNN:Hid (notIn op 3):=QH ⟨fun _ => HN.out.1 AA,fun _ => HN.out.2.1 AA,fun _ => hb⟩;clear hb;go_wp2_with fail;(with_reducible refine hc.mono ?_);rintro e w5 ⟨rfl,rfl⟩;clear hc;go_wp2_with fail;go_roundg (3 - (2 + 1))
   case measure => omega
   case rel => exact ⟨3,by omega,by go_num,HNN.out,rfl⟩
 ·have hr:zcs op = -1:=by unfold zcs; rw [HN.out.1 AA,HN.out.2.1 AA,HN.out.2.2 AA]; rfl
  have HR:=QH hr;clear hr;go_wp2_with fail;go_ret;exact ⟨zdQ (by rw [← HAK.out,HR.out]),hM⟩
theorem zm0 {h:Hd} {k:Nat} (hf:zT h k=true):zcs h.op=(k:Int) ∧ (h.op ≠ oBool ∨ h.n ≤ 1) ∧ h.scale ≤ 9 ∧ h.s.length ≤ 200:=by
 unfold zT at hf;simp only [Bool.and_eq_true,decide_eq_true_eq,Bool.not_eq_true',Bool.and_eq_false_iff,decide_eq_false_iff_not] at hf;obtain ⟨⟨⟨h1,h2⟩,h3⟩,h4⟩:=hf;refine ⟨?_,by rcases h2 with h2 | h2; exact .inl h2; exact .inr AA,h3,h4⟩;unfold zcs;split at h1
 ·rename_i hc; rw [if_pos hc]; have:k=0:=by simpa using h1
  rw [this]; rfl
 ·rename_i hc
  rw [if_neg hc];split at h1
  ·rename_i hc2; rw [if_pos hc2]; have:k=1:=by simpa using h1
   rw [this]; rfl
  ·rename_i hc2
   rw [if_neg hc2];split at h1
   ·rename_i hc3; rw [if_pos hc3]; have:k=2:=by simpa using h1
    rw [this]; rfl
   ·cases h1
def FormOk (t:Tree):Prop:=∀ (w:World) (L:List Nat) (v:Value),ExprAt 175 107 w L v t → Calls Tryz.prog 66 #[v] w fun e w' => e = .returned (.bool true) ∧ Mods [] w w'
theorem zdi (w:World) (xb:Nat) (h:Hd) (n:Nat) (us:List Value) (hun:us.length=n) (hn2:n ≤ 2) (ao:Option Addr) (hx:w.heap[xb]? = some (.cells (hdC h (.slice ao n n)).toArray 175 (0,0))) (hf:zT h n=true)
  (hao:0 < n → ∃ c,ao=some ⟨c,0,none⟩ ∧ ∀ i (hi:i < us.length),w.cell? ⟨c,i,none⟩ = some us[i])
  (hsub:∀ i (hi:i < us.length) W,Mods [] w W → Calls Tryz.prog 66 #[us[i]] W fun e w' => e = .returned (.bool true) ∧ Mods [] W w') :
  Calls Tryz.prog 66 #[zh xb] w fun e w' => e = .returned (.bool true) ∧ Mods [] w w':=by
 obtain ⟨har,hbn,hsc,hsl⟩:=zm0 hf;have x0:=za hx 0;have x4:=za hx 4;have x5:=za hx 5;have x6:=za hx 6;have x7:=za hx 7;change w.cell? _=some (.string ⟨h.op.toArray⟩) at x0;change w.cell? _=some (.int .i64 h.n) at x4;change w.cell? _=some (.int .i64 h.scale) at x5;change w.cell? _=some (.string ⟨h.s.toArray⟩) at x6;change w.cell? _=some (.slice ao n n) at x7;have hka:=fun (k:zay w) => (zln k.val h.op).mono fun e w' hh => (show e = .returned (.int .i64 n) ∧ ∃ k':zay w,w'=k'.val from ⟨by rw [hh.1,har],⟨w',k.mods.trans hh.2⟩,rfl⟩);obtain ⟨S,hS⟩:=EX ((⟨h.op.toArray⟩ : ByteArray):ByteArray);obtain ⟨V,hVs⟩:=EX ((⟨h.s.toArray⟩ : ByteArray):ByteArray);have hVl:V.size ≤ 200:=by rw [← hVs]; show h.s.toArray.size ≤ 200; simpa using hsl
 have hSb:S = ⟨#[98,111,111,108]⟩ ∨ S ≠ ⟨#[98,111,111,108]⟩:=Classical.em _;have hSn:S = ⟨#[98,111,111,108]⟩ → h.n ≤ 1:=fun hs => hbn.resolve_left (fun hb => hb (show h.op=([98,111,111,108]:List UInt8) from by have:=congrArg (fun b:ByteArray => b.data.toList) (hS.trans hs); simpa using this));rw [hS] at hka x0;rw [hVs] at x6;have F0:∀ k:zay w,k.val.cell? ⟨xb,0,none⟩ = some (.string S):=fun k => k.mods.cell x0;have F4:∀ k:zay w,k.val.cell? ⟨xb,4,none⟩ = some (.int .i64 h.n):=fun k => k.mods.cell x4;have F5:∀ k:zay w,k.val.cell? ⟨xb,5,none⟩ = some (.int .i64 h.scale):=fun k => k.mods.cell x5;have F6:∀ k:zay w,k.val.cell? ⟨xb,6,none⟩ = some (.string V):=fun k => k.mods.cell x6;have F7:∀ k:zay w,k.val.cell? ⟨xb,7,none⟩ = some (.slice ao n n):=fun k => k.mods.cell x7;have d1:decide (9 < h.scale)=false:=decide_eq_false AA;have d2:decide (200 < V.size)=false:=decide_eq_false AA;have d3:¬ 9 < h.scale:=by omega
 have d4:¬ 200 < V.size:=by omega
 have d5:decide ((9:Int) < (h.scale:Int))=false:=decide_eq_false AA;have d6:decide ((200:Int) < (V.size:Int))=false:=decide_eq_false AA;have d7:decide ((h.n:Int) < 0)=false:=decide_eq_false AA;have d8:decide ((h.scale:Int) < 0)=false:=decide_eq_false AA;have HH:=QH (AI hao (AI hsub hun));have HK:=QH hka;have HX:=QH x7;clear hao hsub hun hka hx hf har hbn hsc hsl x0 x4 x5 x6 x7 hS hVs;unfold zh;go_enter Tryz.func66, Tryz.ntmps66;go_upto_region 1 with fail;go_cut [62] from 5 to 61 (fun s62 wx => s62 = .bool false ∧ Mods [] w wx)
 case first =>
  rcases hSb with hs | hs
  ·have hn1:=hSn hs;clear hSn;subst hs;have e1:decide (1 < h.n)=false:=decide_eq_false AA;have e2:¬ 1 < h.n:=by omega
   have e3:decide ((1:Int) < (h.n:Int))=false:=decide_eq_false AA;exact ybI
  ·clear hSn;have e1:¬ S.toList=[98,111,111,108]:=fun hh => hs (by rw [ByteArray.toList_eq] at hh; exact ByteArray.ext (Array.toList_inj.1 hh));have e2:(S.toList == [98,111,111,108])=false:=by rw [beq_eq_false_iff_ne]; exact e1
   exact ybI
 case rest =>
 obtain ⟨rfl,hM⟩:=hcut;have x7:=hM.cell HX.out;clear F0 F4 F5 F6 F7 HK d1 d2 d3 d4 d5 d6 d7 d8 hSb hSn;go_wp2_with fail;go_loopg [68] n (fun gk t68 wr => ∃ i:Nat,i + gk=n ∧ t68 = .int .i64 i ∧ Mods [] w wr)
 case atStart => exact ⟨0,by omega,rfl,hM⟩
 obtain ⟨i,hi,rfl,hMr⟩:=hrel;by_cases hlt:i < n
 ·obtain ⟨c,rfl,hcells⟩:=HH.out.1 AA;have hiu:i < us.length:=by rw [HH.out.2.2]; exact hlt
  have k0:=hMr.cell (hcells i hiu);have hc:=HH.out.2.1 i hiu wr hMr;obtain ⟨u,hu⟩:=EX (us[i]);rw [hu] at k0 hc;clear hcells hu;go_wp2_with fail;(with_reducible refine hc.mono ?_);rintro e w5 ⟨rfl,hM5⟩;clear hc;go_wp2_with fail;go_roundg (n - (i + 1))
  case measure => omega
  case rel => exact ⟨i + 1,by omega,by go_num,hMr.trans hM5⟩
 ·obtain rfl:i=n:=by omega
  go_wp2_with fail;go_ret;exact ⟨rfl,hMr⟩
theorem zd1:∀ (t:Tree),formedT t=true → FormOk t:=by
 intro t
 induction t with
 | leaf h =>rintro hf w L v ⟨b,rfl,-,hb⟩;exact zdi w b h 0 [] rfl AA none hb hf (fun h0 => by omega) (fun i hi => by simp at hi)
 | un h a ih =>
  rintro hf w L v ⟨b,c,u,rfl,hbL,hcL,hb,hc,ha⟩;have hf:(zT h 1 && formedT a)=true:=hf;simp only [Bool.and_eq_true] at hf
  exact zdi w b h 1 [u] rfl AA _ hb hf.1 (fun _ => ⟨c,rfl,fun i hi => by
   obtain rfl:i=0:=by simp at hi; omega
   exact za hc 0⟩) (fun i hi W hM => by
   obtain rfl:i=0:=by simp at hi; omega
   exact ih hf.2 W L u (ha.mods (hM.mono)))
 | bin h a d iha ihd =>
  rintro hf w L v ⟨b,c,u,x,rfl,hbL,hcL,hb,hc,ha,hd⟩;have hf:(zT h 2 && (formedT a && formedT d))=true:=hf;simp only [Bool.and_eq_true] at hf
  exact zdi w b h 2 [u,x] rfl AA _ hb hf.1 (fun _ => ⟨c,rfl,fun i hi => by
   have hi2:i=0 ∨ i=1:=by simp at hi; omega
   rcases hi2 with rfl | rfl
   ·exact za hc 0
   ·exact za hc 1⟩) (fun i hi W hM => by
   have hi2:i=0 ∨ i=1:=by simp at hi; omega
   rcases hi2 with rfl | rfl
   ·exact iha hf.2.1 W L u (ha.mods (hM.mono))
   ·exact ihd hf.2.2 W L x (hd.mods (hM.mono)))
def TxtOk (s:PS):Prop:=∀ t ∈ s.rest,t.scale ≤ 9 ∧ (t.kind=4 → t.s.length ≤ 200)
theorem TxtOk.aft {s s':PS} (h:TxtOk s) (hA:Aft s s'):TxtOk s':=fun t ht => h t (hA.suf.subset ht)
theorem TxtOk.now {s:PS} (h:TxtOk s):s.now.scale ≤ 9 ∧ (s.now.kind=4 → s.now.s.length ≤ 200):=by
 unfold PS.now
 cases hr:s.rest with
 | nil => exact ⟨Nat.le_of_ble_eq_true rfl,fun _ => Nat.le_of_ble_eq_true rfl⟩
 | cons t r => exact h t BO
theorem TxtOk.nextk {s:PS} (h:TxtOk s):TxtOk s.next:=fun t ht => h t (List.mem_of_mem_tail ht)
theorem zag {a b:PS} (h:Aft a b) (hb:b.e=0):a.e=0:=by
 by_cases ha:a.e=0
 ·exact ha
 ·rw [h.err ha] at hb; exact hb
theorem zgR (s:PS) (k:Nat) (hk:k ≠ 0):(s.fail k).e ≠ 0:=by
 unfold PS.fail;split
 ·exact hk
 ·assumption
theorem zbb {h:Hd} {k:Nat} (ha:(if ops0.contains h.op=true then decide (k=0) else if ops1.contains h.op=true then decide (k=1) else if ops2.contains h.op=true then decide (k=2) else false)=true)
  (hb:h.op ≠ oBool ∨ h.n ≤ 1) (hs:h.scale ≤ 9) (hl:h.s.length ≤ 200):zT h k=true:=by
 unfold zT;rw [ha,decide_eq_true hs,decide_eq_true hl];rcases hb with h1 | h1
 ·rw [decide_eq_false h1]; rfl
 ·rw [decide_eq_false (by omega:¬ 1 < h.n),Bool.and_false]; rfl
def zb1 (F:PF):Prop:=∀ s,TxtOk s → (F s).2.e=0 → formedT (F s).1=true
theorem zfk:zb1 zY:=by
 intro s h he;unfold zY;simp only;split
 ·exact zbb (h:={ op:=oColumn,pos:=s.now.pos,table:=s.name.1,name:=(s.name.2.takes wPoint).2.name.1 }) (k:=0) rfl (.inl (by show oColumn ≠ oBool; decide)) (Nat.zero_le _) (Nat.zero_le _)
 ·exact zbb (h:={ op:=oColumn,pos:=s.now.pos,name:=s.name.1 }) (k:=0) rfl (.inl (by show oColumn ≠ oBool; decide)) (Nat.zero_le _) (Nat.zero_le _)
theorem zil (s:PS):∃ h,(zY s).1 = .leaf h ∧ h.op=oColumn:=by
 unfold zY;simp only;split
 ·exact ⟨_,rfl,rfl⟩
 ·exact ⟨_,rfl,rfl⟩
theorem zim {sub:Option Lvl} {body:Lvl → PF} {d:Tree} {s:PS} (hs:TxtOk s) (h:∀ L,sub=some L → ∀ s1,TxtOk s1 → (body L s1).2.e=0 → formedT (body L s1).1=true):(inF sub body d s).2.e=0 → formedT (inF sub body d s).1=true:=by
 unfold inF;split
 ·intro he; exact absurd he (zgR s 9 AD)
 ·rename_i L
  split
  ·exact h L rfl s.next hs.nextk
  ·rename_i hn; intro he; exact absurd he hn
structure LvlForm (L:Lvl):Prop where
 minus:zb1 L.minus
 not:zb1 L.not
 expr:zb1 L.expr
def SubForm (sub:Option Lvl):Prop:=∀ L,sub=some L → LvlForm L
theorem zfH {sub:Option Lvl} (hg:zaF sub) (h:SubForm sub) {s:PS} (hs:TxtOk s) (ho:s.now.s=wCount ∨ s.now.s=wSum ∨ s.now.s=wMin ∨ s.now.s=wMax):(zK sub s).2.e=0 → formedT (zK sub s).1=true:=by
 have hop:ops1.contains (s.now.s.map zb5)=true ∧ ops0.contains (s.now.s.map zb5)=false ∧ s.now.s.map zb5 ≠ oBool:=by rcases ho with h1 | h1 | h1 | h1 <;> rw [h1] <;> decide
 have hF:zT { op:=s.now.s.map zb5,pos:=s.now.pos } 1=true:=zbb (by
  show (if ops0.contains (s.now.s.map zb5)=true then _ else if ops1.contains (s.now.s.map zb5)=true then _ else _)=true
  rw [hop.1,hop.2.1]; rfl) (.inl hop.2.2) (Nat.zero_le _) (Nat.zero_le _)
 unfold zK;generalize s.now.s.map zb5=op at *;refine zim hs fun L hL s1 h1 => ?_;simp only;have w1:=Aft.wants [wOpen] s1;have w2:=Aft.takes (s1.wants [wOpen]) wStar;split
 ·intro _;exact zbb (h:={ op:=oAll,pos:=s.now.pos }) (k:=0) rfl (.inl (by show oAll ≠ oBool; decide)) (Nat.zero_le _) (Nat.zero_le _)
 ·split
  ·intro he;have a:=(h L hL).expr _ ((h1.aft w1).aft w2) (zag (Aft.wants [wShut] _) he);show (_ && _)=true;rw [hF,a]; rfl
  ·intro he;have a:=(h L hL).expr _ (h1.aft w1) (zag (Aft.wants [wShut] _) he);show (_ && _)=true;rw [hF,a]; rfl
theorem zhA {sub:Option Lvl} (hg:zaF sub) (h:SubForm sub):zb1 (zo sub):=by
 intro s hs;have hnow:=hs.now;unfold zo;split
 ·rename_i hn; intro he; exact absurd he hn
 split
 ·intro _;exact zbb (h:={ op:=oNumber,pos:=s.now.pos,n:=s.now.n,scale:=s.now.scale }) (k:=0) rfl (.inl (by show oNumber ≠ oBool; decide)) hnow.1 (Nat.zero_le _)
 split
 ·rename_i h4; intro _
  exact zbb (h:={ op:=oText,pos:=s.now.pos,s:=s.now.s }) (k:=0) rfl (.inl (by show oText ≠ oBool; decide)) (Nat.zero_le _) (hnow.2 h4)
 split
 ·exact zfk s hs
 split
 ·intro _;exact zbb (h:={ op:=oBool,pos:=s.now.pos,n:=1 }) (k:=0) rfl (.inr (LR _)) (Nat.zero_le _) (Nat.zero_le _)
 split
 ·intro _;exact zbb (h:={ op:=oBool,pos:=s.now.pos }) (k:=0) rfl (.inr (Nat.zero_le _)) (Nat.zero_le _) (Nat.zero_le _)
 split
 ·intro _;exact zbb (h:={ op:=oNull,pos:=s.now.pos }) (k:=0) rfl (.inl (by show oNull ≠ oBool; decide)) (Nat.zero_le _) (Nat.zero_le _)
 split
 ·exact zim hs fun L hL s1 h1 he => (h L hL).expr s1 h1 (zag (Aft.wants [wShut] _) he)
 split
 ·rename_i hk; exact zfH hg h hs hk.2
 ·intro he; exact absurd he (zgR s 8 AD)
theorem zlo {op:Bs} {p:Nat} {a:Tree} (ho:op=oNeg ∨ op=oNot ∨ op=oIs ∨ op=oIsNot) (ha:formedT a=true):formedT (.un { op:=op,pos:=p } a)=true:=by
 have h1:zT { op:=op,pos:=p } 1=true:=by
  rcases ho with rfl | rfl | rfl | rfl
  ·exact zbb (h:={ op:=oNeg,pos:=p }) (k:=1) rfl (.inl (by show oNeg ≠ oBool; decide)) (Nat.zero_le _) (Nat.zero_le _)
  ·exact zbb (h:={ op:=oNot,pos:=p }) (k:=1) rfl (.inl (by show oNot ≠ oBool; decide)) (Nat.zero_le _) (Nat.zero_le _)
  ·exact zbb (h:={ op:=oIs,pos:=p }) (k:=1) rfl (.inl (by show oIs ≠ oBool; decide)) (Nat.zero_le _) (Nat.zero_le _)
  ·exact zbb (h:={ op:=oIsNot,pos:=p }) (k:=1) rfl (.inl (by show oIsNot ≠ oBool; decide)) (Nat.zero_le _) (Nat.zero_le _)
 show (_ && _)=true;rw [h1,ha]; rfl
theorem zfl {sub:Option Lvl} {w op:Bs} {own:Lvl → PF} {rest:PF} (ho:op=oNeg ∨ op=oNot ∨ op=oIs ∨ op=oIsNot) (h1:∀ L,sub=some L → zb1 (own L)) (h2:zb1 rest):zb1 (zR sub w op own rest):=by
 intro s hs;unfold zR;split
 ·exact zim hs fun L hL s1 h1s he => zlo ho (h1 L hL s1 h1s he)
 ·exact h2 s hs
def zd5 (ws:List Bs):Prop:=∀ w ∈ ws,ops2.contains w=true ∧ ops1.contains w=false ∧ ops0.contains w=false ∧ w ≠ oBool
theorem zi4 {op:Bs} {p:Nat} {a b:Tree} {ws:List Bs} (hw:zd5 ws) (ho:op ∈ ws) (ha:formedT a=true) (hb:formedT b=true):formedT (.bin { op:=op,pos:=p } a b)=true:=by
 obtain ⟨q1,q2,q3,q4⟩:=hw op ho
 have h1:zT { op:=op,pos:=p } 2=true:=zbb (by
  show (if ops0.contains op=true then _ else if ops1.contains op=true then _ else if ops2.contains op=true then _ else _)=true
  rw [q1,q2,q3]; rfl) (.inl q4) (Nat.zero_le _) (Nat.zero_le _)
 show (_ && (_ && _))=true;rw [h1,ha,hb]; rfl
theorem zlp {s:PS} {l:List Bs} (h:s.is l=true):s.now.s ∈ l:=by exact ycp
theorem zjU {part:PF} (hg:zbn part) (h:zb1 part) {ws:List Bs} (hw:zd5 (ws.map (·.map zb5))):∀ (n:Nat) (x:Tree) (s:PS),TxtOk s → formedT x=true → (zaq part ws n x s).2.e=0 → formedT (zaq part ws n x s).1=true:=by
 intro n
 induction n with
 | zero => intro x s h1 h2 h3; exact h2
 | succ n ih =>
  intro x s h1 h2;unfold zaq;split
  ·rename_i hi
   intro he;have a:=h s.next h1.nextk (zag (zdV hg ws n _ _) he);exact ih _ _ (h1.nextk.aft (hg _)) (zi4 hw (List.mem_map.2 ⟨_,zlp hi,rfl⟩) h2 a) he
  ·intro _; exact h2
theorem zdE {part:PF} (hg:zbn part) (h:zb1 part) {ws:List Bs} (hw:zd5 (ws.map (·.map zb5))):zb1 (zac part ws):=fun s hs he =>
 zjU hg h hw _ _ _ (hs.aft (hg s)) (h s hs (zag (zdV hg ws _ _ _) he)) he
theorem zlq {sub:Option Lvl} (hg:zbn (zc6 sub)) (h:zb1 (zc6 sub)):zb1 (zbg sub):=by
 intro s hs;have h1:=hs.aft (hg s);have hx:=h s hs;unfold zbg;generalize hp:zc6 sub s=p at *;simp only;split
 ·rename_i hi
  intro he;have b:=h _ h1.nextk he;have a:=hx (zag ((Aft.next (zQ hi).1 (zQ hi).2).trans (hg _)) he);exact zi4 (ws:=relWords) BK (zlp hi) a b
 split
 ·intro he;have a:=hx (zag (((Aft.takes _ wIs).trans (Aft.takes _ wNot)).trans (Aft.wants [wNull] _)) he);exact zlo (by split <;> simp) a
 ·intro he; exact hx he
theorem zlr {sub:Option Lvl} (hg:zaF sub) (h:SubForm sub):LvlForm (mkLvl sub):=by have h1:zb1 (zbo sub):=zfl (.inl rfl) (fun L hL => (h L hL).minus) (zhA hg h);have h2:zb1 (zc6 sub):=zdE (zdr hg) (zdE (zbG hg) h1 BK) BK;have h3:zb1 (notF sub):=zfl (.inr (.inl rfl)) (fun L hL => (h L hL).not) (zlq (zes hg) h2);exact ⟨h1,h3,zdE (zet hg) (zdE (zcO hg) h3 BK) BK⟩
theorem zm1 (f:Nat):LvlForm (lvl f):=by
 induction f with
 | zero => exact zlr (fun L h => by cases h) (fun L h => by cases h)
 | succ f ih => exact zlr (fun L h => by cases h; exact zcP f) (fun L h => by cases h; exact ih)
structure FormQ (q:zt):Prop where
 items:∀ i ∈ q.items,formedT i.e=true
 on:∀ t,q.on=some t → formedT t=true
 whr:∀ t,q.whr=some t → formedT t=true
 group:∀ t ∈ q.group,formedT t=true ∧ ∃ h,t = .leaf h ∧ h.op=oColumn
theorem zjV {α:Type} {one:PS → α × PS} (hg:zcW one) {P:α → Prop} (h:∀ s,TxtOk s → (one s).2.e=0 → P (one s).1):∀ (n:Nat) (l:List α) (s:PS),TxtOk s → (∀ x ∈ l,P x) → (za3 one n l s).2.e=0 → ∀ x ∈ (za3 one n l s).1,P x:=by
 intro n
 induction n with
 | zero => intro l s h1 h3 _; exact h3
 | succ n ih =>
  intro l s h1 h3;unfold za3;split
  ·intro he;have hA:=Aft.takes s wComma;have ha:=h _ (h1.aft hA) (zag (zdX hg n _ _) he)
   exact ih (l ++ [(one (s.takes wComma).2).1]) (one (s.takes wComma).2).2 ((h1.aft hA).aft (hg _)) (fun x hx => by
    rcases List.mem_append.1 hx with hx | hx
    ·exact h3 x hx
    ·simp at hx; rw [hx]; exact ha) he
  ·intro _; exact h3
theorem zf1 {α:Type} {one:PS → α × PS} (hg:zcW one) {P:α → Prop} (h:∀ s,TxtOk s → (one s).2.e=0 → P (one s).1) {s:PS} (h1:TxtOk s) (he:(zad one s).2.e=0):∀ x ∈ (zad one s).1,P x:=
 zjV hg h _ _ _ (h1.aft (hg s)) (fun x hx => by
  simp at hx; rw [hx]
  exact h s h1 (zag (zdX hg _ _ _) he)) he
theorem zls {E:PF} (hg:zbn E) (h:zb1 E) (s:PS) (h1:TxtOk s):(zbv E s).2.e=0 → formedT (zbv E s).1.e=true:=by
 unfold zbv;split
 ·intro he; exact h s h1 (zag ((Aft.takes _ wAs).trans (Aft.name _)) he)
 ·intro he; exact h s h1 (zag (Aft.takes _ wAs) he)
def zcZ (x:QS):Prop:=TxtOk x.2 ∧ (x.2.e=0 → FormQ x.1)
theorem zof {E:PF} (hg:zbn E) (h:zb1 E) {s:PS} (h1:TxtOk s):zcZ (q1 E s):=by
 refine ⟨h1.aft (znJ hg s),?_⟩;unfold q1;simp only;split
 ·intro _; exact ⟨by simp,by simp,by simp,by simp⟩
 ·intro he;exact ⟨zf1 (zca hg) (P:=fun i => formedT i.e=true) (zls hg h) ((h1.aft (Aft.wants _ _)).aft (Aft.takes _ _)) he,by simp,by simp,by simp⟩
theorem zog {x:QS} (h:zcZ x):zcZ (q2 x):=by refine ⟨h.1.aft (ziO x),fun he => ?_⟩;have hq:=h.2 (zag (ziO x) he);exact ⟨hq.items,hq.on,hq.whr,hq.group⟩
theorem zoh {E:PF} (hg:zbn E) (hE:zb1 E) {x:QS} (h:zcZ x):zcZ (q3 E x):=by
 refine ⟨h.1.aft (zkL hg x),fun he => ?_⟩;have hq:=h.2 (zag (zkL hg x) he)
 revert he
 unfold q3;simp only;split
 ·intro he;have a:=hE _ (((h.1.aft (Aft.takes _ wJoin)).aft (Aft.name _)).aft (Aft.wants [wOn] _)) he;exact ⟨hq.items,fun t ht => by cases ht; exact a,hq.whr,hq.group⟩
 ·intro _; exact hq
theorem zoi {E:PF} (hg:zbn E) (hE:zb1 E) {x:QS} (h:zcZ x):zcZ (q4 E x):=by
 refine ⟨h.1.aft (zkM hg x),fun he => ?_⟩;have hq:=h.2 (zag (zkM hg x) he)
 revert he
 unfold q4;simp only;split
 ·intro he;have a:=hE _ (h.1.aft (Aft.takes _ wWhere)) he;exact ⟨hq.items,hq.on,fun t ht => by cases ht; exact a,hq.group⟩
 ·intro _; exact hq
theorem zoj {x:QS} (h:zcZ x):zcZ (q5 x):=by
 refine ⟨h.1.aft (zkN x),fun he => ?_⟩;have hq:=h.2 (zag (zkN x) he)
 revert he
 unfold q5;simp only;split
 ·intro he;exact ⟨hq.items,hq.on,hq.whr,zf1 zaV (P:=fun t => formedT t=true ∧ ∃ h,t = .leaf h ∧ h.op=oColumn) (fun s h1 h2 => ⟨zfk s h1 h2,zil s⟩) ((h.1.aft (Aft.takes _ wGroup)).aft (Aft.wants [wBy] _)) he⟩
 ·intro _; exact hq
theorem zok {x:QS} (h:zcZ x):zcZ (q6 x):=by
 refine ⟨h.1.aft (zkO x),fun he => ?_⟩;have hq:=h.2 (zag (zkO x) he)
 revert he
 unfold q6;exact ybL
theorem zol {x:QS} (h:zcZ x):zcZ (q7 x):=by
 refine ⟨h.1.aft (zkP x),fun he => ?_⟩;have hq:=h.2 (zag (zkP x) he)
 revert he
 unfold q7;exact ybL
theorem zom {x:QS} (h:zcZ x):zcZ (q8 x):=by
 refine ⟨h.1.aft (zkQ x),fun he => ?_⟩;have hq:=h.2 (zag (zkQ x) he)
 revert he
 unfold q8;exact ybL
theorem zin {E:PF} (hg:zbn E) (h:zb1 E) {s:PS} (h1:TxtOk s):zcZ (zcz E s):=
 zom (zol (zok (zoj (zoi hg h (zoh hg h (zog (zof hg h h1)))))))
theorem zm2 {l:List UInt8} {t:TokC} {n:Nat} (h:zc3 l=some (t,n)):t.kind=4 → t.s.length ≤ 200:=by
 cases l with
 | nil => simp [zc3] at h
 | cons c r =>
  unfold zc3 at h;simp only at h;split at h
  ·unfold wordL at h;split at h
   ·simp at h; obtain ⟨rfl,-⟩:=h; intro h; cases h
   ·split at h
    ·simp at h
    ·simp at h; obtain ⟨rfl,-⟩:=h; intro h; cases h
  ·split at h
   ·unfold zbt at h;split at h
    ·simp at h
    ·simp only [Option.some.injEq,Prod.mk.injEq] at h; obtain ⟨rfl,-⟩:=h; intro h; cases h
   ·split at h
    ·unfold zcV at h;split at h
     ·simp at h
     ·rename_i x hx
      split at h
      ·simp at h
      ·rename_i h2
       simp at h; obtain ⟨rfl,-⟩:=h;intro _;show x.1.length ≤ 200;omega
    ·unfold zcv at h;split at h
     ·simp at h; obtain ⟨rfl,-⟩:=h; intro h; cases h
     ·simp only at h;split at h
      ·simp at h; obtain ⟨rfl,-⟩:=h; intro h; cases h
      ·simp at h
theorem zm3:∀ (f:Nat) (l:List UInt8) (p:Nat) (L:List Tok),lexF f l p = .good L → ∀ t ∈ L,t.kind=4 → t.s.length ≤ 200:=by
 intro f
 induction f with
 | zero => intro l p L h; cases h
 | succ f ih =>
  intro l p L h
  cases l with
  | nil => cases h; intro t ht; simp at ht; subst ht; intro h; cases h
  | cons c r =>
   unfold lexF at h;simp only at h
   cases ht:zc3 (c :: r) with
   | none => rw [ht] at h; cases h
   | some x =>
    obtain ⟨t,n⟩:=x;rw [ht] at h;simp only at h
    cases hr:lexF f (((c :: r).drop n).dropWhile zbs) (p + n + (((c :: r).drop n).takeWhile zbs).length) with
    | bad q => rw [hr] at h; cases h
    | good L2 =>
     rw [hr] at h;simp only [Lexed.pre,Lexed.good.injEq] at h;intro u hu;rw [← h] at hu;rcases MC hu with rfl | hu
     ·exact zm2 ht
     ·exact ih _ _ _ hr u hu
theorem zon {s:PS} {k:Nat} (h:(s.of k).2.2.e=0):s.e=0:=by
 unfold PS.of at h;split at h
 ·rename_i h1; exact h1.1
 ·exact absurd h (zgR s 8 AD)
theorem zjW {l:Bs} {q:zt} (h:zcg l = .good q):FormQ q:=by
 unfold zcg at h
 cases hl:za4 l with
 | bad p => rw [hl] at h; cases h
 | good ts =>
  rw [hl] at h;simp only at h;obtain ⟨p,I,hI,hok⟩:=zeX hl;have ht:TxtOk ⟨ts ++ ts.drop (ts.length - 1),0,0⟩:=by
   intro t ht;have hm:t ∈ ts:=by
    rcases List.mem_append.1 ht with h1 | h1
    ·exact h1
    ·exact List.mem_of_mem_drop h1
   refine ⟨?_,zm3 _ _ _ _ hl t hm⟩;rw [hI] at hm;rcases List.mem_append.1 hm with h1 | h1
   ·exact (hok t h1).1.2.2.2
   ·simp at h1; subst h1; exact Nat.zero_le _
  have hq:=zin (zcP 64).expr (zm1 64).expr ht;unfold parseT at h;simp only at h;split at h
  ·rename_i he
   simp only [Parsed.good.injEq] at h;rw [← h];exact hq.2 (zon he)
  ·cases h
end Go.Proofs.YtebljciefhfgbaaGreatDoor
