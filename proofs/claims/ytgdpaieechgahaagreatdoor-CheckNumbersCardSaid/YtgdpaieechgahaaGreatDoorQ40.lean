/-
  Groups' columns in memory, and nodes that check.items has put together, read. No condition.
-/
import Derived.Test.YtgdpaieechgahaaGreatDoorQ39
import Derived.Test.YtgdpaieechgahaaGreatDoorShelf
import Derived.Test.YtgdpaieechgahaaGreatDoorQ24
import Derived.Test.YtgdpaieechgahaaGreatDoorQ18
namespace Go.Proofs.YtgdpaieechgahaaGreatDoor
open Go.RowKit
set_option linter.unusedVariables false
def GroupAt (w:World) (L:List Nat) (v:Value) (l:List Nat):Prop:=
 ∃ ao cap,v = .slice ao l.length cap ∧ (0 < l.length → ∃ g,ao=some ⟨g,0,none⟩ ∧ g ∉ L ∧ ∀ i (hi:i < l.length),w.cell? ⟨g,i,none⟩ = some (.int .i64 (l[i]:Nat)))
theorem GroupAt.mods {w w':World} {L:List Nat} {v:Value} {l:List Nat} (h:GroupAt w L v l) (hM:Mods L w w'):GroupAt w' L v l:=by
 obtain ⟨ao,cap,rfl,h⟩:=h
 exact ⟨ao,cap,rfl,fun h0 => by
  obtain ⟨g,h1,h2,h3⟩:=h h0
  exact ⟨g,h1,h2,fun i hi => hM.cell (h3 i hi) h2⟩⟩
theorem zbQ (c:Nat):∀ (l:List Nat),(l.map fun x:Nat => (x:Int)).contains (c:Int)=decide (c ∈ l)
 | [] => by simp
 | x :: l => by
  rw [List.map_cons,List.contains_cons,zbQ c l]
  by_cases h:c=x
  ·simp [h]
  ·have:((c:Int) == (x:Int))=false:=beq_eq_false_iff_ne.2 (by omega)
   rw [this]
   simp [h]
theorem za0 (w:World) {L:List Nat} {v:Value} {l:List Nat} (h:GroupAt w L v l) (hl:l.length ≤ 1000000) (c:Nat) :
  Calls Tryz.prog 59 #[v,.int .i64 (c:Nat)] w fun e w' => e = .returned (.bool (decide (c ∈ l))) ∧ Mods [] w w':=by
 obtain ⟨ao,cap,rfl,h⟩:=h
 rcases Nat.eq_zero_or_pos l.length with h0 | h0
 ·have hl:l=[]:=List.length_eq_zero_iff.1 h0
  subst hl
  exact (Tryz.slices_Contains_int_empty ao cap c w).mono fun e w' ⟨h1,h2⟩ => ⟨by rw [h1]; simp,by rw [h2]; exact Mods.refl _ _⟩
 ·obtain ⟨g,rfl,-,hc⟩:=h h0
  refine (Tryz.slices_Contains_int g 0 l.length cap (l.map fun x:Nat => (x:Int)) c w (by simp) (by omega) (fun j hj => ?_)).mono fun e w' ⟨h1,h2⟩ => ⟨?_,by rw [h2]; exact Mods.refl _ _⟩
  ·have hj':j < l.length:=by simpa using hj
   rw [Nat.zero_add,hc j hj']
   simp [List.getD_eq_getElem?_getD,List.getElem?_eq_getElem hj']
  ·rw [h1,List.take_of_length_le (by simp),zbQ]
theorem Coll.nodeAt {w W:World} {its nms:Value} {ns:List NT} {ss:List Bs} (h:Coll w W its nms ns ss) {k:Nat} {n:NT} (hk:ns[k]? = some n) :
  ∃ g cap b,its = .slice (some ⟨g,0,none⟩) ns.length cap ∧ w.heap.size ≤ g ∧ W.cell? ⟨g,k,none⟩ = some (PtrV b) ∧ NAt W [] (PtrV b) n ∧ ∀ L:List Nat,(∀ x ∈ L,x < w.heap.size) → NAt W L (PtrV b) n:=by
 have hkl:k < ns.length:=(List.getElem?_eq_some_iff.1 hk).1
 have hkn:ns[k]=n:=(List.getElem?_eq_some_iff.1 hk).2
 obtain ⟨css,h1,h2⟩:=h.rowI
 have hlen:∀ (L:List Nat) (c:List Value) (x:NT),NodR W L c x → c.length=1:=fun L c x ⟨b,h,_⟩ => by rw [h]; rfl
 have hr:=fun L (hL:∀ x ∈ L,Far w its nms x) => AllR.at (k:=1) (hlen L) (h2 L hL) k hkl
 obtain ⟨c,⟨b,rfl,-⟩,h4⟩:=hr [] (by simp)
 have h5:=h4 0 (PtrV b) rfl
 rw [hkn] at hr
 rcases h1.2 with ⟨hv,h0⟩ | hx
 ·omega
 ·obtain ⟨g,cap,cur,rfl,hx⟩:=hx
  have hb:=(h.apart g rfl).1
  have hall:∀ L:List Nat,(∀ x ∈ L,x < w.heap.size) → NAt W L (PtrV b) n:=fun L hL => by
   obtain ⟨c,⟨b',rfl,h6⟩,h7⟩:=hr L (fun x hx => .inl (hL x hx))
   have h8:=h7 0 (PtrV b') rfl
   rw [h5] at h8
   cases h8
   exact h6
  refine ⟨g,cap,b,rfl,hb,?_,hall [] (by simp),hall⟩
  have:=(zS h1).2.2 _ _ h5
  simpa using this
open Go.RowKit
set_option linter.unusedVariables false
def arBytes (l:List Bs):List ByteArray:=l.map fun x => ⟨x.toArray⟩
theorem zdQ (l:List Bs) (op:Bs):Lib.containsS (arBytes l) ⟨op.toArray⟩ = l.contains op:=by
 rw [Bool.eq_iff_iff,Lib.containsS_iff]
 unfold arBytes
 rw [List.contains_iff_mem,List.mem_map]
 constructor
 ·rintro ⟨x,hx,he⟩
  obtain rfl:x=op:=by simpa using he
  exact hx
 ·intro hm
  exact ⟨op,hm,rfl⟩
def arityK (op:Bs):Int:=if ops0.contains op=true then 0 else if ops1.contains op=true then 1 else if ops2.contains op=true then 2 else -1
def notIn (op:Bs) (i:Nat):Prop:=(0 < i → ops0.contains op=false) ∧ (1 < i → ops1.contains op=false) ∧ (2 < i → ops2.contains op=false)
set_option maxRecDepth 100000 in
set_option maxHeartbeats 8000000 in
theorem zhD (w:World) (op:Bs):Calls Tryz.prog 83 #[.string ⟨op.toArray⟩] w fun e w' => e = .returned (.int .i64 (arityK op)) ∧ Mods [] w w':=by
 have hM:=((((Mods.refl [] w).alloc (.cells #[.string ⟨#[110,117,109,98,101,114]⟩,.string ⟨#[116,101,120,116]⟩,.string ⟨#[98,111,111,108]⟩,.string ⟨#[110,117,108,108]⟩,.string ⟨#[99,111,108,117,109,110]⟩,.string ⟨#[99,111,117,110,116,97,108,108]⟩] 9)).alloc (.cells #[.string ⟨#[110,101,103]⟩,.string ⟨#[110,111,116]⟩,.string ⟨#[105,115,110,117,108,108]⟩,.string ⟨#[110,111,116,110,117,108,108]⟩,.string ⟨#[99,111,117,110,116]⟩,.string ⟨#[115,117,109]⟩,.string ⟨#[109,105,110]⟩,.string ⟨#[109,97,120]⟩] 9)).alloc (.cells #[.string ⟨#[111,114]⟩,.string ⟨#[97,110,100]⟩,.string ⟨#[61]⟩,.string ⟨#[60,62]⟩,.string ⟨#[60]⟩,.string ⟨#[60,61]⟩,.string ⟨#[62]⟩,.string ⟨#[62,61]⟩,.string ⟨#[43]⟩,.string ⟨#[45]⟩,.string ⟨#[42]⟩,.string ⟨#[47]⟩] 9)).alloc (.cells #[.slice (some ⟨w.heap.size,0,none⟩) 6 6,.slice (some ⟨w.heap.size + 1,0,none⟩) 8 8,.slice (some ⟨w.heap.size + 1 + 1,0,none⟩) 12 12] 44)
 have b0:=((((Mods.refl [] (w.alloc (.cells #[.string ⟨#[110,117,109,98,101,114]⟩,.string ⟨#[116,101,120,116]⟩,.string ⟨#[98,111,111,108]⟩,.string ⟨#[110,117,108,108]⟩,.string ⟨#[99,111,108,117,109,110]⟩,.string ⟨#[99,111,117,110,116,97,108,108]⟩] 9))).alloc (.cells #[.string ⟨#[110,101,103]⟩,.string ⟨#[110,111,116]⟩,.string ⟨#[105,115,110,117,108,108]⟩,.string ⟨#[110,111,116,110,117,108,108]⟩,.string ⟨#[99,111,117,110,116]⟩,.string ⟨#[115,117,109]⟩,.string ⟨#[109,105,110]⟩,.string ⟨#[109,97,120]⟩] 9)).alloc (.cells #[.string ⟨#[111,114]⟩,.string ⟨#[97,110,100]⟩,.string ⟨#[61]⟩,.string ⟨#[60,62]⟩,.string ⟨#[60]⟩,.string ⟨#[60,61]⟩,.string ⟨#[62]⟩,.string ⟨#[62,61]⟩,.string ⟨#[43]⟩,.string ⟨#[45]⟩,.string ⟨#[42]⟩,.string ⟨#[47]⟩] 9)).alloc (.cells #[.slice (some ⟨w.heap.size,0,none⟩) 6 6,.slice (some ⟨w.heap.size + 1,0,none⟩) 8 8,.slice (some ⟨w.heap.size + 1 + 1,0,none⟩) 12 12] 44)).heap (heap_alloc_new w _) (by simp)
 have b1:=(((Mods.refl [] ((w.alloc (.cells #[.string ⟨#[110,117,109,98,101,114]⟩,.string ⟨#[116,101,120,116]⟩,.string ⟨#[98,111,111,108]⟩,.string ⟨#[110,117,108,108]⟩,.string ⟨#[99,111,108,117,109,110]⟩,.string ⟨#[99,111,117,110,116,97,108,108]⟩] 9)).alloc (.cells #[.string ⟨#[110,101,103]⟩,.string ⟨#[110,111,116]⟩,.string ⟨#[105,115,110,117,108,108]⟩,.string ⟨#[110,111,116,110,117,108,108]⟩,.string ⟨#[99,111,117,110,116]⟩,.string ⟨#[115,117,109]⟩,.string ⟨#[109,105,110]⟩,.string ⟨#[109,97,120]⟩] 9))).alloc (.cells #[.string ⟨#[111,114]⟩,.string ⟨#[97,110,100]⟩,.string ⟨#[61]⟩,.string ⟨#[60,62]⟩,.string ⟨#[60]⟩,.string ⟨#[60,61]⟩,.string ⟨#[62]⟩,.string ⟨#[62,61]⟩,.string ⟨#[43]⟩,.string ⟨#[45]⟩,.string ⟨#[42]⟩,.string ⟨#[47]⟩] 9)).alloc (.cells #[.slice (some ⟨w.heap.size,0,none⟩) 6 6,.slice (some ⟨w.heap.size + 1,0,none⟩) 8 8,.slice (some ⟨w.heap.size + 1 + 1,0,none⟩) 12 12] 44)).heap (heap_alloc_new (w.alloc (.cells #[.string ⟨#[110,117,109,98,101,114]⟩,.string ⟨#[116,101,120,116]⟩,.string ⟨#[98,111,111,108]⟩,.string ⟨#[110,117,108,108]⟩,.string ⟨#[99,111,108,117,109,110]⟩,.string ⟨#[99,111,117,110,116,97,108,108]⟩] 9)) _) (by simp)
 have b2:=((Mods.refl [] (((w.alloc (.cells #[.string ⟨#[110,117,109,98,101,114]⟩,.string ⟨#[116,101,120,116]⟩,.string ⟨#[98,111,111,108]⟩,.string ⟨#[110,117,108,108]⟩,.string ⟨#[99,111,108,117,109,110]⟩,.string ⟨#[99,111,117,110,116,97,108,108]⟩] 9)).alloc (.cells #[.string ⟨#[110,101,103]⟩,.string ⟨#[110,111,116]⟩,.string ⟨#[105,115,110,117,108,108]⟩,.string ⟨#[110,111,116,110,117,108,108]⟩,.string ⟨#[99,111,117,110,116]⟩,.string ⟨#[115,117,109]⟩,.string ⟨#[109,105,110]⟩,.string ⟨#[109,97,120]⟩] 9)).alloc (.cells #[.string ⟨#[111,114]⟩,.string ⟨#[97,110,100]⟩,.string ⟨#[61]⟩,.string ⟨#[60,62]⟩,.string ⟨#[60]⟩,.string ⟨#[60,61]⟩,.string ⟨#[62]⟩,.string ⟨#[62,61]⟩,.string ⟨#[43]⟩,.string ⟨#[45]⟩,.string ⟨#[42]⟩,.string ⟨#[47]⟩] 9))).alloc (.cells #[.slice (some ⟨w.heap.size,0,none⟩) 6 6,.slice (some ⟨w.heap.size + 1,0,none⟩) 8 8,.slice (some ⟨w.heap.size + 1 + 1,0,none⟩) 12 12] 44)).heap (heap_alloc_new ((w.alloc (.cells #[.string ⟨#[110,117,109,98,101,114]⟩,.string ⟨#[116,101,120,116]⟩,.string ⟨#[98,111,111,108]⟩,.string ⟨#[110,117,108,108]⟩,.string ⟨#[99,111,108,117,109,110]⟩,.string ⟨#[99,111,117,110,116,97,108,108]⟩] 9)).alloc (.cells #[.string ⟨#[110,101,103]⟩,.string ⟨#[110,111,116]⟩,.string ⟨#[105,115,110,117,108,108]⟩,.string ⟨#[110,111,116,110,117,108,108]⟩,.string ⟨#[99,111,117,110,116]⟩,.string ⟨#[115,117,109]⟩,.string ⟨#[109,105,110]⟩,.string ⟨#[109,97,120]⟩] 9)) _) (by simp)
 have b3:=heap_alloc_new (((w.alloc (.cells #[.string ⟨#[110,117,109,98,101,114]⟩,.string ⟨#[116,101,120,116]⟩,.string ⟨#[98,111,111,108]⟩,.string ⟨#[110,117,108,108]⟩,.string ⟨#[99,111,108,117,109,110]⟩,.string ⟨#[99,111,117,110,116,97,108,108]⟩] 9)).alloc (.cells #[.string ⟨#[110,101,103]⟩,.string ⟨#[110,111,116]⟩,.string ⟨#[105,115,110,117,108,108]⟩,.string ⟨#[110,111,116,110,117,108,108]⟩,.string ⟨#[99,111,117,110,116]⟩,.string ⟨#[115,117,109]⟩,.string ⟨#[109,105,110]⟩,.string ⟨#[109,97,120]⟩] 9)).alloc (.cells #[.string ⟨#[111,114]⟩,.string ⟨#[97,110,100]⟩,.string ⟨#[61]⟩,.string ⟨#[60,62]⟩,.string ⟨#[60]⟩,.string ⟨#[60,61]⟩,.string ⟨#[62]⟩,.string ⟨#[62,61]⟩,.string ⟨#[43]⟩,.string ⟨#[45]⟩,.string ⟨#[42]⟩,.string ⟨#[47]⟩] 9)) (.cells #[.slice (some ⟨w.heap.size,0,none⟩) 6 6,.slice (some ⟨w.heap.size + 1,0,none⟩) 8 8,.slice (some ⟨w.heap.size + 1 + 1,0,none⟩) 12 12] 44)
 simp only [zk] at b1 b2 b3
 obtain ⟨S,hS⟩ : ∃ S:ByteArray,(⟨op.toArray⟩ : ByteArray)=S:=⟨_,rfl⟩
 have HS:=Lib.hid hS
 rw [hS]
 clear hS
 obtain ⟨ak,hak⟩ : ∃ ak,arityK op=ak:=⟨_,rfl⟩
 rw [hak]
 have HAK:=Lib.hid hak
 clear hak
 have HB:=Lib.hid (And.intro hM (And.intro b0 (And.intro b1 (And.intro b2 b3))))
 clear hM b0 b1 b2 b3
 go_enter Tryz.func83, Tryz.ntmps83
 go_wp2_with fail
 obtain ⟨hM,b0,b1,b2,b3⟩:=HB.out
 clear HB
 generalize (((w.alloc (.cells #[.string ⟨#[110,117,109,98,101,114]⟩,.string ⟨#[116,101,120,116]⟩,.string ⟨#[98,111,111,108]⟩,.string ⟨#[110,117,108,108]⟩,.string ⟨#[99,111,108,117,109,110]⟩,.string ⟨#[99,111,117,110,116,97,108,108]⟩] 9)).alloc (.cells #[.string ⟨#[110,101,103]⟩,.string ⟨#[110,111,116]⟩,.string ⟨#[105,115,110,117,108,108]⟩,.string ⟨#[110,111,116,110,117,108,108]⟩,.string ⟨#[99,111,117,110,116]⟩,.string ⟨#[115,117,109]⟩,.string ⟨#[109,105,110]⟩,.string ⟨#[109,97,120]⟩] 9)).alloc (.cells #[.string ⟨#[111,114]⟩,.string ⟨#[97,110,100]⟩,.string ⟨#[61]⟩,.string ⟨#[60,62]⟩,.string ⟨#[60]⟩,.string ⟨#[60,61]⟩,.string ⟨#[62]⟩,.string ⟨#[62,61]⟩,.string ⟨#[43]⟩,.string ⟨#[45]⟩,.string ⟨#[42]⟩,.string ⟨#[47]⟩] 9)).alloc (.cells #[.slice (some ⟨w.heap.size,0,none⟩) 6 6,.slice (some ⟨w.heap.size + 1,0,none⟩) 8 8,.slice (some ⟨w.heap.size + 1 + 1,0,none⟩) 12 12] 44)=w4 at *
 have k0:=za b3 0
 have k1:=za b3 1
 have k2:=za b3 2
 change w4.cell? _=some (.slice (some ⟨w.heap.size,0,none⟩) 6 6) at k0
 change w4.cell? _=some (.slice (some ⟨w.heap.size + 1,0,none⟩) 8 8) at k1
 change w4.cell? _=some (.slice (some ⟨w.heap.size + 1 + 1,0,none⟩) 12 12) at k2
 have c0:= Tryz.slices_Contains_string w.heap.size 0 6 6 (arBytes ops0) S w4 (by decide) (by decide) (fun j hj => by
  rw [Nat.zero_add,za b0 j]
  have h5:j=0 ∨ j=1 ∨ j=2 ∨ j=3 ∨ j=4 ∨ j=5:=by simp [arBytes,ops0] at hj; omega
  rcases h5 with rfl | rfl | rfl | rfl | rfl | rfl <;> rfl)
 have c1:= Tryz.slices_Contains_string (w.heap.size + 1) 0 8 8 (arBytes ops1) S w4 (by decide) (by decide) (fun j hj => by
  rw [Nat.zero_add,za b1 j]
  have h5:j=0 ∨ j=1 ∨ j=2 ∨ j=3 ∨ j=4 ∨ j=5 ∨ j=6 ∨ j=7:=by simp [arBytes,ops1] at hj; omega
  rcases h5 with rfl | rfl | rfl | rfl | rfl | rfl | rfl | rfl <;> rfl)
 have c2:= Tryz.slices_Contains_string (w.heap.size + 1 + 1) 0 12 12 (arBytes ops2) S w4 (by decide) (by decide) (fun j hj => by
  rw [Nat.zero_add,za b2 j]
  have h5:j=0 ∨ j=1 ∨ j=2 ∨ j=3 ∨ j=4 ∨ j=5 ∨ j=6 ∨ j=7 ∨ j=8 ∨ j=9 ∨ j=10 ∨ j=11:=by simp [arBytes,ops2] at hj; omega
  rcases h5 with rfl | rfl | rfl | rfl | rfl | rfl | rfl | rfl | rfl | rfl | rfl | rfl <;> rfl)
 rw [show (arBytes ops0).take 6=arBytes ops0 from rfl,← HS.out,zdQ] at c0
 rw [show (arBytes ops1).take 8=arBytes ops1 from rfl,← HS.out,zdQ] at c1
 rw [show (arBytes ops2).take 12=arBytes ops2 from rfl,← HS.out,zdQ] at c2
 rw [HS.out] at c0 c1 c2
 have HC:=Lib.hid (And.intro c0 (And.intro c1 c2))
 clear c0 c1 c2 b0 b1 b2 b3
 generalize w.heap.size=sz at *
 go_loopg [10] 3 (fun gk t10 wr => ∃ i:Nat,i + gk=3 ∧ t10 = .int .i64 i ∧ notIn op i ∧ w4=wr)
 case atStart => exact ⟨0,by omega,rfl,⟨fun h => by omega,fun h => by omega,fun h => by omega⟩,rfl⟩
 obtain ⟨i,hi,rfl,hN,rfl⟩:=hrel
 have hi4:i=0 ∨ i=1 ∨ i=2 ∨ i=3:=by omega
 have HN:=Lib.hid hN
 clear hN
 rcases hi4 with rfl | rfl | rfl | rfl
 ·have hc:=HC.out.1
  cases hb:ops0.contains op with
  | true =>
   rw [hb] at hc
   have hr:arityK op=0:=by unfold arityK; rw [hb]; rfl
   have HR:=Lib.hid hr
   clear hb hr
   go_wp2_with fail
   (with_reducible refine hc.mono ?_)
   rintro e w5 ⟨rfl,rfl⟩
   clear hc
   go_wp2_with fail
   go_ret
   exact ⟨zbv (by rw [← HAK.out,HR.out]),hM⟩
  | false =>
   rw [hb] at hc
   have HNN:Hid (notIn op 1):=Lib.hid ⟨fun _ => hb,fun h => by omega,fun h => by omega⟩
   clear hb
   go_wp2_with fail
   (with_reducible refine hc.mono ?_)
   rintro e w5 ⟨rfl,rfl⟩
   clear hc
   go_wp2_with fail
   go_roundg (3 - (0 + 1))
   case measure => omega
   case rel => exact ⟨1,by omega,by go_num,HNN.out,rfl⟩
 ·have hc:=HC.out.2.1
  cases hb:ops1.contains op with
  | true =>
   rw [hb] at hc
   have hr:arityK op=1:=by unfold arityK; rw [HN.out.1 (by omega)]; rw [hb]; rfl
   have HR:=Lib.hid hr
   clear hb hr
   go_wp2_with fail
   (with_reducible refine hc.mono ?_)
   rintro e w5 ⟨rfl,rfl⟩
   clear hc
   go_wp2_with fail
   go_ret
   exact ⟨zbv (by rw [← HAK.out,HR.out]),hM⟩
  | false =>
   rw [hb] at hc
   have HNN:Hid (notIn op 2):=Lib.hid ⟨fun _ => HN.out.1 (by omega),fun _ => hb,fun h => by omega⟩
   clear hb
   go_wp2_with fail
   (with_reducible refine hc.mono ?_)
   rintro e w5 ⟨rfl,rfl⟩
   clear hc
   go_wp2_with fail
   go_roundg (3 - (1 + 1))
   case measure => omega
   case rel => exact ⟨2,by omega,by go_num,HNN.out,rfl⟩
 ·have hc:=HC.out.2.2
  cases hb:ops2.contains op with
  | true =>
   rw [hb] at hc
   have hr:arityK op=2:=by unfold arityK; rw [HN.out.1 (by omega),HN.out.2.1 (by omega)]; rw [hb]; rfl
   have HR:=Lib.hid hr
   clear hb hr
   go_wp2_with fail
   (with_reducible refine hc.mono ?_)
   rintro e w5 ⟨rfl,rfl⟩
   clear hc
   go_wp2_with fail
   go_ret
   exact ⟨zbv (by rw [← HAK.out,HR.out]),hM⟩
  | false =>
   rw [hb] at hc
   have HNN:Hid (notIn op 3):=Lib.hid ⟨fun _ => HN.out.1 (by omega),fun _ => HN.out.2.1 (by omega),fun _ => hb⟩
   clear hb
   go_wp2_with fail
   (with_reducible refine hc.mono ?_)
   rintro e w5 ⟨rfl,rfl⟩
   clear hc
   go_wp2_with fail
   go_roundg (3 - (2 + 1))
   case measure => omega
   case rel => exact ⟨3,by omega,by go_num,HNN.out,rfl⟩
 ·have hr:arityK op = -1:=by unfold arityK; rw [HN.out.1 (by omega),HN.out.2.1 (by omega),HN.out.2.2 (by omega)]; rfl
  have HR:=Lib.hid hr
  clear hr
  go_wp2_with fail
  go_ret
  exact ⟨zbv (by rw [← HAK.out,HR.out]),hM⟩
theorem ziM {h:Hd} {k:Nat} (hf:formedH h k=true):arityK h.op=(k:Int) ∧ (h.op ≠ oBool ∨ h.n ≤ 1) ∧ h.scale ≤ 9 ∧ h.s.length ≤ 200:=by
 unfold formedH at hf
 simp only [Bool.and_eq_true,decide_eq_true_eq,Bool.not_eq_true',Bool.and_eq_false_iff,decide_eq_false_iff_not] at hf
 obtain ⟨⟨⟨h1,h2⟩,h3⟩,h4⟩:=hf
 refine ⟨?_,by rcases h2 with h2 | h2; exact .inl h2; exact .inr (by omega),h3,h4⟩
 unfold arityK
 split at h1
 ·rename_i hc; rw [if_pos hc]; have:k=0:=by simpa using h1
  rw [this]; rfl
 ·rename_i hc
  rw [if_neg hc]
  split at h1
  ·rename_i hc2; rw [if_pos hc2]; have:k=1:=by simpa using h1
   rw [this]; rfl
  ·rename_i hc2
   rw [if_neg hc2]
   split at h1
   ·rename_i hc3; rw [if_pos hc3]; have:k=2:=by simpa using h1
    rw [this]; rfl
   ·cases h1
def FormOk (t:Tree):Prop:=∀ (w:World) (L:List Nat) (v:Value),ExprAt 133 82 w L v t → Calls Tryz.prog 53 #[v] w fun e w' => e = .returned (.bool true) ∧ Mods [] w w'
set_option maxRecDepth 100000 in
set_option maxHeartbeats 8000000 in
theorem zba (w:World) (xb:Nat) (h:Hd) (n:Nat) (us:List Value) (hun:us.length=n) (hn2:n ≤ 2) (ao:Option Addr) (hx:w.heap[xb]? = some (.cells (hdC h (.slice ao n n)).toArray 133 (0,0))) (hf:formedH h n=true)
  (hao:0 < n → ∃ c,ao=some ⟨c,0,none⟩ ∧ ∀ i (hi:i < us.length),w.cell? ⟨c,i,none⟩ = some us[i])
  (hsub:∀ i (hi:i < us.length) W,Mods [] w W → Calls Tryz.prog 53 #[us[i]] W fun e w' => e = .returned (.bool true) ∧ Mods [] W w') :
  Calls Tryz.prog 53 #[PtrV xb] w fun e w' => e = .returned (.bool true) ∧ Mods [] w w':=by
 obtain ⟨har,hbn,hsc,hsl⟩:=ziM hf
 have x0:=za hx 0
 have x4:=za hx 4
 have x5:=za hx 5
 have x6:=za hx 6
 have x7:=za hx 7
 change w.cell? _=some (.string ⟨h.op.toArray⟩) at x0
 change w.cell? _=some (.int .i64 h.n) at x4
 change w.cell? _=some (.int .i64 h.scale) at x5
 change w.cell? _=some (.string ⟨h.s.toArray⟩) at x6
 change w.cell? _=some (.slice ao n n) at x7
 have hka:=fun (k:Later w) => (zhD k.val h.op).mono fun e w' hh => (show e = .returned (.int .i64 n) ∧ ∃ k':Later w,w'=k'.val from ⟨by rw [hh.1,har],⟨w',k.mods.trans hh.2 (by simp)⟩,rfl⟩)
 obtain ⟨S,hS⟩ : ∃ S:ByteArray,(⟨h.op.toArray⟩ : ByteArray)=S:=⟨_,rfl⟩
 obtain ⟨V,hVs⟩ : ∃ V:ByteArray,(⟨h.s.toArray⟩ : ByteArray)=V:=⟨_,rfl⟩
 have hVl:V.size ≤ 200:=by rw [← hVs]; show h.s.toArray.size ≤ 200; simpa using hsl
 have hSb:S = ⟨#[98,111,111,108]⟩ ∨ S ≠ ⟨#[98,111,111,108]⟩:=Classical.em _
 have hSn:S = ⟨#[98,111,111,108]⟩ → h.n ≤ 1:=fun hs => hbn.resolve_left (fun hb => hb (show h.op=([98,111,111,108]:List UInt8) from by have:=congrArg (fun b:ByteArray => b.data.toList) (hS.trans hs); simpa using this))
 rw [hS] at hka x0
 rw [hVs] at x6
 have F0:∀ k:Later w,k.val.cell? ⟨xb,0,none⟩ = some (.string S):=fun k => k.mods.cell x0 (by simp)
 have F4:∀ k:Later w,k.val.cell? ⟨xb,4,none⟩ = some (.int .i64 h.n):=fun k => k.mods.cell x4 (by simp)
 have F5:∀ k:Later w,k.val.cell? ⟨xb,5,none⟩ = some (.int .i64 h.scale):=fun k => k.mods.cell x5 (by simp)
 have F6:∀ k:Later w,k.val.cell? ⟨xb,6,none⟩ = some (.string V):=fun k => k.mods.cell x6 (by simp)
 have F7:∀ k:Later w,k.val.cell? ⟨xb,7,none⟩ = some (.slice ao n n):=fun k => k.mods.cell x7 (by simp)
 have d1:decide (9 < h.scale)=false:=decide_eq_false (by omega)
 have d2:decide (200 < V.size)=false:=decide_eq_false (by omega)
 have d3:¬ 9 < h.scale:=by omega
 have d4:¬ 200 < V.size:=by omega
 have d5:decide ((9:Int) < (h.scale:Int))=false:=decide_eq_false (by omega)
 have d6:decide ((200:Int) < (V.size:Int))=false:=decide_eq_false (by omega)
 have d7:decide ((h.n:Int) < 0)=false:=decide_eq_false (by omega)
 have d8:decide ((h.scale:Int) < 0)=false:=decide_eq_false (by omega)
 have HH:=Lib.hid (And.intro hao (And.intro hsub hun))
 have HK:=Lib.hid hka
 have HX:=Lib.hid x7
 clear hao hsub hun hka hx hf har hbn hsc hsl x0 x4 x5 x6 x7 hS hVs
 unfold PtrV
 go_enter Tryz.func53, Tryz.ntmps53
 go_upto_region 1 with fail
 go_cut [62] from 5 to 61 (fun s62 wx => s62 = .bool false ∧ Mods [] w wx)
 case first =>
  rcases hSb with hs | hs
  ·have hn1:=hSn hs
   clear hSn
   subst hs
   have e1:decide (1 < h.n)=false:=decide_eq_false (by omega)
   have e2:¬ 1 < h.n:=by omega
   have e3:decide ((1:Int) < (h.n:Int))=false:=decide_eq_false (by omega)
   refine zbP (by kernel_rfl) (by kernel_rfl) ?_
   repeat (go_big_quiet_step (exact HK.out _))
   refine wpQuiet_nil ?_
   rintro _ ⟨kk,rfl⟩
   go_wp2_with fail
   go_meet
   exact ⟨rfl,kk.mods⟩
  ·clear hSn
   have e1:¬ S.toList=[98,111,111,108]:=fun hh => hs (by rw [ByteArray.toList_eq] at hh; exact ByteArray.ext (Array.toList_inj.1 hh))
   have e2:(S.toList == [98,111,111,108])=false:=by rw [beq_eq_false_iff_ne]; exact e1
   refine zbP (by kernel_rfl) (by kernel_rfl) ?_
   repeat (go_big_quiet_step (exact HK.out _))
   refine wpQuiet_nil ?_
   rintro _ ⟨kk,rfl⟩
   go_wp2_with fail
   go_meet
   exact ⟨rfl,kk.mods⟩
 case rest =>
 obtain ⟨rfl,hM⟩:=hcut
 have x7:=hM.cell HX.out (by simp)
 clear F0 F4 F5 F6 F7 HK d1 d2 d3 d4 d5 d6 d7 d8 hSb hSn
 go_wp2_with fail
 go_loopg [68] n (fun gk t68 wr => ∃ i:Nat,i + gk=n ∧ t68 = .int .i64 i ∧ Mods [] w wr)
 case atStart => exact ⟨0,by omega,rfl,hM⟩
 obtain ⟨i,hi,rfl,hMr⟩:=hrel
 by_cases hlt:i < n
 ·obtain ⟨c,rfl,hcells⟩:=HH.out.1 (by omega)
  have hiu:i < us.length:=by rw [HH.out.2.2]; exact hlt
  have k0:=hMr.cell (hcells i hiu) (by simp)
  have hc:=HH.out.2.1 i hiu wr hMr
  obtain ⟨u,hu⟩ : ∃ u,us[i]=u:=⟨_,rfl⟩
  rw [hu] at k0 hc
  clear hcells hu
  go_wp2_with fail
  (with_reducible refine hc.mono ?_)
  rintro e w5 ⟨rfl,hM5⟩
  clear hc
  go_wp2_with fail
  go_roundg (n - (i + 1))
  case measure => omega
  case rel => exact ⟨i + 1,by omega,by go_num,hMr.trans hM5 (by simp)⟩
 ·obtain rfl:i=n:=by omega
  go_wp2_with fail
  go_ret
  exact ⟨rfl,hMr⟩
theorem zbH:∀ (t:Tree),formedT t=true → FormOk t:=by
 intro t
 induction t with
 | leaf h =>
  rintro hf w L v ⟨b,rfl,-,hb⟩
  exact zba w b h 0 [] rfl (by omega) none hb hf (fun h0 => by omega) (fun i hi => by simp at hi)
 | un h a ih =>
  rintro hf w L v ⟨b,c,u,rfl,hbL,hcL,hb,hc,ha⟩
  have hf:(formedH h 1 && formedT a)=true:=hf
  simp only [Bool.and_eq_true] at hf
  exact zba w b h 1 [u] rfl (by omega) _ hb hf.1 (fun _ => ⟨c,rfl,fun i hi => by
   obtain rfl:i=0:=by simp at hi; omega
   exact za hc 0⟩) (fun i hi W hM => by
   obtain rfl:i=0:=by simp at hi; omega
   exact ih hf.2 W L u (ha.mods (hM.mono (by simp))))
 | bin h a d iha ihd =>
  rintro hf w L v ⟨b,c,u,x,rfl,hbL,hcL,hb,hc,ha,hd⟩
  have hf:(formedH h 2 && (formedT a && formedT d))=true:=hf
  simp only [Bool.and_eq_true] at hf
  exact zba w b h 2 [u,x] rfl (by omega) _ hb hf.1 (fun _ => ⟨c,rfl,fun i hi => by
   have hi2:i=0 ∨ i=1:=by simp at hi; omega
   rcases hi2 with rfl | rfl
   ·exact za hc 0
   ·exact za hc 1⟩) (fun i hi W hM => by
   have hi2:i=0 ∨ i=1:=by simp at hi; omega
   rcases hi2 with rfl | rfl
   ·exact iha hf.2.1 W L u (ha.mods (hM.mono (by simp)))
   ·exact ihd hf.2.2 W L x (hd.mods (hM.mono (by simp))))
end Go.Proofs.YtgdpaieechgahaaGreatDoor
