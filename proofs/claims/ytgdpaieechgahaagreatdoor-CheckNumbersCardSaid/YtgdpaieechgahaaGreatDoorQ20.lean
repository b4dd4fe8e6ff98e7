/-
  check's scope in memory; fail, aggregate, walked. No condition.
-/
import Derived.Test.YtgdpaieechgahaaGreatDoorQ19
import Derived.Test.YtgdpaieechgahaaGreatDoorShelf
import Derived.BigQuiet
import Derived.Test.YtgdpaieechgahaaGreatDoorQ18
import Derived.DeepKeys4
import Derived.Maps.Keyed
import Derived.Test.YtgdpaieechgahaaGreatDoorQ01
import Derived.Test.YtgdpaieechgahaaGreatDoorQ11
import Derived.Test.YtgdpaieechgahaaGreatDoorQ05
namespace Go.Proofs.YtgdpaieechgahaaGreatDoor
open Go.RowKit
set_option linter.unusedVariables false
def ScSt (w:World) (sb:Nat) (cv:Value) (mb:Nat) (d pos e:Nat):Prop:=
 w.heap[sb]? = some (.cells #[cv,.map (some mb),.int .i64 d,.int .i64 pos,.int .i64 e] 80 (0,0))
def failE (b:Bool) (k p:Nat) (pos e:Nat):Nat × Nat:=if b=true ∧ e=0 then (p,k) else (pos,e)
set_option maxRecDepth 100000 in
set_option maxHeartbeats 4000000 in
theorem zx (w:World) (sb:Nat) (cv:Value) (mb:Nat) (d pos e:Nat) (h:ScSt w sb cv mb d pos e) (b:Bool) (k p:Nat) :
  Calls Tryz.prog 28 #[PtrV sb,.bool b,.int .i64 k,.int .i64 p] w fun r w' => r = .returned (.tuple #[]) ∧ Mods [sb] w w' ∧ ScSt w' sb cv mb d (failE b k p pos e).1 (failE b k p pos e).2:=by
 have c4:=za h 4
 have c3:=za h 3
 have g4:=zd h 4
 have g3:=zd h 3
 change w.cell? _=some (.int .i64 e) at c4
 change w.cell? _=some (.int .i64 pos) at c3
 have hM3:Mods [sb] w ((w.setCell ⟨sb,4,none⟩ (.int .i64 k)).setCell ⟨sb,3,none⟩ (.int .i64 p)):=((Mods.refl _ _).setCell (.inl (by simp)) _).setCell (.inl (by simp)) _
 have hb3:=zb (zb h 4 (.int .i64 k)) 3 (.int .i64 p)
 have HH:=Lib.hid (And.intro h (And.intro hM3 hb3))
 unfold PtrV
 clear h hM3 hb3
 cases b with
 | false =>
  have hf:failE false k p pos e=(pos,e):=by unfold failE; rw [if_neg (fun h => by cases h.1)]
  rw [hf]
  clear hf
  go_enter Tryz.func28, Tryz.ntmps28
  go_wp2_with fail
  exact bodyPost_end (results_none rfl _ _ _) rfl ⟨rfl,Mods.refl _ _,HH.out.1⟩
 | true =>
  by_cases he:e=0
  ·have hf:failE true k p pos e=(p,k):=by unfold failE; rw [if_pos ⟨rfl,he⟩]
   rw [hf]
   have z:((e:Int) == 0)=true:=by rw [beq_iff_eq]; omega
   clear hf he
   go_enter Tryz.func28, Tryz.ntmps28
   go_wp2_with fail
   go_end0
   exact ⟨rfl,HH.out.2.1,HH.out.2.2⟩
  ·have hf:failE true k p pos e=(pos,e):=by unfold failE; rw [if_neg (fun h => he h.2)]
   rw [hf]
   have z:((e:Int) == 0)=false:=by rw [beq_eq_false_iff_ne]; omega
   clear hf he
   go_enter Tryz.func28, Tryz.ntmps28
   go_wp2_with fail
   exact bodyPost_end (results_none rfl _ _ _) rfl ⟨rfl,Mods.refl _ _,HH.out.1⟩
def aggBytes:List ByteArray:=[⟨#[99,111,117,110,116,97,108,108]⟩,⟨#[99,111,117,110,116]⟩,⟨#[115,117,109]⟩,⟨#[109,105,110]⟩,⟨#[109,97,120]⟩]
theorem zhj (op:Bs):Lib.containsS aggBytes ⟨op.toArray⟩ = aggOpB op:=by
 rw [Bool.eq_iff_iff,Lib.containsS_iff]
 have h:aggBytes=aggOps.map fun l => ⟨l.toArray⟩:=rfl
 unfold aggOpB
 rw [h,List.contains_iff_mem,List.mem_map]
 constructor
 ·rintro ⟨l,hl,he⟩
  obtain rfl:l=op:=by simpa using he
  exact hl
 ·intro hm
  exact ⟨op,hm,rfl⟩
set_option maxRecDepth 100000 in
theorem zQ (w:World) (op:Bs):Calls Tryz.prog 58 #[.string ⟨op.toArray⟩] w fun e w' => e = .returned (.bool (aggOpB op)) ∧ Mods [] w w':=by
 have hz:=(Mods.refl [] w).alloc (.cells #[.string ⟨#[99,111,117,110,116,97,108,108]⟩,.string ⟨#[99,111,117,110,116]⟩,.string ⟨#[115,117,109]⟩,.string ⟨#[109,105,110]⟩,.string ⟨#[109,97,120]⟩] 9)
 have hb:=heap_alloc_new w (.cells #[.string ⟨#[99,111,117,110,116,97,108,108]⟩,.string ⟨#[99,111,117,110,116]⟩,.string ⟨#[115,117,109]⟩,.string ⟨#[109,105,110]⟩,.string ⟨#[109,97,120]⟩] 9)
 have hc:= Tryz.slices_Contains_string w.heap.size 0 5 5 aggBytes ⟨op.toArray⟩ (w.alloc (.cells #[.string ⟨#[99,111,117,110,116,97,108,108]⟩,.string ⟨#[99,111,117,110,116]⟩,.string ⟨#[115,117,109]⟩,.string ⟨#[109,105,110]⟩,.string ⟨#[109,97,120]⟩] 9)) (by decide) (by decide) (fun j hj => by
  rw [Nat.zero_add,za hb j]
  have h5:j=0 ∨ j=1 ∨ j=2 ∨ j=3 ∨ j=4:=by simp [aggBytes] at hj; omega
  rcases h5 with rfl | rfl | rfl | rfl | rfl <;> rfl)
 have e5:aggBytes.take 5=aggBytes:=rfl
 rw [e5,zhj] at hc
 generalize (⟨op.toArray⟩ : ByteArray)=S at *
 go_enter Tryz.func58, Tryz.ntmps58
 go_wp2_with fail
 (with_reducible refine hc.mono ?_)
 rintro e w2 ⟨rfl,rfl⟩
 go_wp2_with fail
 go_ret
 exact ⟨rfl,hz⟩
open Go.RowKit
open Go.Maps
set_option linter.unusedVariables false
theorem ziD:laidOutB Tryz.prog=true:=by kernel_rfl
theorem zhk:WideMaps.KeyLaw Tryz.prog 193:=deep_law_laid ziD (m:=3) (by decide) (of_decide_eq_true (by kernel_rfl)) (by kernel_rfl) (by kernel_rfl)
theorem place_keyed:Keyed Tryz.prog 193:=Keyed.of_law zhk
def placeV (t:Int) (s:ByteArray):Value:=.agg #[.int .i64 t,.string s]
theorem zhl (t:Int) (ht : -9223372036854775808 ≤ t ∧ t ≤ 9223372036854775807) (s:ByteArray) (hs:s.size ≤ 9223372036854775807):∃ l,keyOf Tryz.prog 193 (placeV t s)=some l:=by
 have h1 : Tryz.prog.keyType 193 = true:=by kernel_rfl
 have h2:Value.formed Tryz.prog 193 (placeV t s)=true:=by kernel_rfl
 have hi:(Lit.int .i64 t).wf=true:=by simp [Lit.wf]; exact ⟨ht.1,ht.2⟩
 have hc:(placeV t s).cells.toList=[.int .i64 t,.string s]:=by simp [placeV,Value.cells]
 have hs2:s.size ≤ maxLen:=by unfold maxLen; omega
 have k1 : Tryz.prog.cellsOf 193 = 2:=by kernel_rfl
 have k2 : Tryz.prog.cellsOf 3 = 1:=by kernel_rfl
 have k3 : Tryz.prog.cellsOf 9 = 1:=by kernel_rfl
 obtain ⟨m,hm⟩ : ∃ m,Tryz.prog.types.size=m + 1:=⟨Tryz.prog.types.size - 1,by have:0 < Tryz.prog.types.size:=of_decide_eq_true (by kernel_rfl); omega⟩
 unfold keyOf
 rw [Tryz.underlying193, hc,hm]
 simp only [h1,h2,Bool.and_self,if_true]
 simp [Program.keyLits,Tryz.underlying193, Tryz.underlying3, Tryz.underlying9, k1,k2,k3,hi,hs2]
open Go.RowKit
open Go.Maps
set_option linter.unusedVariables false
theorem zM {P:Program} {T kt et:TypeId} (K:Keyed P kt) (hT:P.underlying T=some (.map kt et)) {w:World} {mb:Nat} {es:Array MapEntry} {clock:Nat} (hb:w.heap[mb]? = some (.map es clock)) {k:Value} {l:Lit} (hk:keyOf P kt k=some l) {z:Value}
  (hz:∀ w,(zeroValue et).run P w = .ok z w) (r:Option (Nat × Value)) (hf:(Instr.findKey kt k es.toList).run P w = .ok r w) :
  (Instr.lookup T (.map (some mb)) k false).run P w = .ok ((r.map (·.2)).getD z) w:=by
 have hc:(Instr.checkKey es.isEmpty 10000 kt k).run P w = .ok () w:=K.check w _ hk
 cases r <;> simp [Instr.lookup,run_underlying hT,MapKept.run_getObj_map hb,hc,hf,hz,Result.andThen]
theorem zbS {P:Program} {T kt et:TypeId} (K:Keyed P kt) (hT:P.underlying T=some (.map kt et)) {w:World} {mb:Nat} {es:Array MapEntry} {clock:Nat} (hb:w.heap[mb]? = some (.map es clock)) {k:Value} {l:Lit} (hk:keyOf P kt k=some l) {z:Value}
  (hz:∀ w,(zeroValue et).run P w = .ok z w) (hf:(Instr.findKey kt k es.toList).run P w = .ok none w) :
  (Instr.mapEntry T (.map (some mb)) k).run P w = .ok (.tuple #[z,.int .i64 clock]) (setHeap w mb (.map (es.push { key:=k,val:=z,born:=clock }) (clock + 1))):=by
 have hc:(Instr.checkKey false 10000 kt k).run P w = .ok () w:=K.check w _ hk
 simp [Instr.mapEntry,run_underlying hT,MapKept.run_getObj_map hb,hc,hf,hz,MapKept.run_setObj_map _ hb,Result.andThen]
 exact ⟨rfl,rfl⟩
theorem zbT {P:Program} {T kt et:TypeId} (K:Keyed P kt) (hT:P.underlying T=some (.map kt et)) {w:World} {mb:Nat} {es:Array MapEntry} {clock:Nat} (hb:w.heap[mb]? = some (.map es clock)) {k:Value} {l:Lit} (hk:keyOf P kt k=some l)
  {j:Nat} {e:MapEntry} (hf:(Instr.findKey kt k es.toList).run P w = .ok (some (j,e.val)) w) (he:es[j]? = some e) (hek:e.key=k) :
  (Instr.mapEntry T (.map (some mb)) k).run P w = .ok (.tuple #[e.val,.int .i64 e.born]) (setHeap w mb (.map (es.modify j fun e => { e with key:=k }) clock)):=by
 have hc:(Instr.checkKey false 10000 kt k).run P w = .ok () w:=K.check w _ hk
 have hs:(Instr.keyThatStays k k).run P w = .ok k w:=K.stays w hk
 simp [Instr.mapEntry,run_underlying hT,MapKept.run_getObj_map hb,hc,hf,he,hek,hs,MapKept.run_setObj_map _ hb,Result.andThen]
 exact ⟨rfl,rfl⟩
theorem zaE {P:Program} (T:TypeId) {w:World} {mb:Nat} {es:Array MapEntry} {clock:Nat} (hb:w.heap[mb]? = some (.map es clock)) (b:Int) (v:Value) {i:Nat} (hi:es.findIdx? (fun e => (e.born:Int) == b)=some i) :
  (Instr.entryStore T (.map (some mb)) (.int .i64 b) v).run P w = .ok () (setHeap w mb (.map (es.modify i fun e => { e with val:=v }) clock)):=by
 have h1:(asIntOf (.int .i64 b)).run P w = .ok (.i64,b) w:=rfl
 simp [Instr.entryStore,MapKept.run_getObj_map hb,asInt,h1,hi,MapKept.run_setObj_map _ hb,Result.andThen]
 rfl
open Go.RowKit
open Go.Maps
set_option linter.unusedVariables false
theorem zf5:laidOutB Tryz.prog=true:=by kernel_rfl
theorem zhm:WideMaps.KeyLaw Tryz.prog 139:=deep_law_laid zf5 (m:=3) (by decide) (of_decide_eq_true (by kernel_rfl)) (by kernel_rfl) (by kernel_rfl)
theorem named_keyed:Keyed Tryz.prog 139:=Keyed.of_law zhm
abbrev namV (t n:Bs):Value:=.agg #[.string ⟨t.toArray⟩,.string ⟨n.toArray⟩]
theorem zaU (t n:Bs) (ht:t.length ≤ 9223372036854775807) (hn:n.length ≤ 9223372036854775807):∃ l,keyOf Tryz.prog 139 (namV t n)=some l:=by
 have h1 : Tryz.prog.keyType 139 = true:=by kernel_rfl
 have h2:Value.formed Tryz.prog 139 (namV t n)=true:=by kernel_rfl
 have hc:(namV t n).cells.toList=[.string ⟨t.toArray⟩,.string ⟨n.toArray⟩]:=by simp [Value.cells]
 have hs1:(⟨t.toArray⟩ : ByteArray).size ≤ maxLen:=by unfold maxLen; show t.toArray.size ≤ _; simp; omega
 have hs2:(⟨n.toArray⟩ : ByteArray).size ≤ maxLen:=by unfold maxLen; show n.toArray.size ≤ _; simp; omega
 have k1 : Tryz.prog.cellsOf 139 = 2:=by kernel_rfl
 have k3 : Tryz.prog.cellsOf 9 = 1:=by kernel_rfl
 obtain ⟨m,hm⟩ : ∃ m,Tryz.prog.types.size=m + 1:=⟨Tryz.prog.types.size - 1,by have:0 < Tryz.prog.types.size:=of_decide_eq_true (by kernel_rfl); omega⟩
 unfold keyOf
 rw [Tryz.underlying139, hc,hm]
 simp only [h1,h2,Bool.and_self,if_true]
 simp [Program.keyLits,Tryz.underlying139, Tryz.underlying9, k1,k3,hs1,hs2]
theorem zdC {t n t' n':Bs} (h:namV t n=namV t' n'):t=t' ∧ n=n':=by
 simp only [namV,Value.agg.injEq,Array.mk.injEq,List.cons.injEq,Value.string.injEq,and_true] at h
 have h1:=congrArg (fun b => b.data.toList) h.1
 have h2:=congrArg (fun b => b.data.toList) h.2
 exact ⟨by simpa using h1,by simpa using h2⟩
def EnvMap (w:World) (L:List Nat) (mb:Nat) (env:List EC):Prop:=
 ∃ es c,w.heap[mb]? = some (.map es c) ∧ mb ∉ L ∧ (∀ e ∈ es.toList,∃ t n i b cap,e.key=namV t n ∧ t.length ≤ 9223372036854775807 ∧ n.length ≤ 9223372036854775807 ∧ e.val = .slice (some ⟨b,0,none⟩) 1 cap ∧ (1 ≤ cap ∧ cap ≤ 9223372036854775807) ∧ b ∉ L ∧ w.cell? ⟨b,0,none⟩ = some (.int .i64 (i:Nat)) ∧ colsOf env t n=[i]) ∧
  (∀ t n,colsOf env t n ≠ [] → ∃ e ∈ es.toList,e.key=namV t n) ∧ ∀ e ∈ es.toList,∀ e' ∈ es.toList,e.key=e'.key → e.val=e'.val
theorem EnvMap.mods {w w':World} {L:List Nat} {mb:Nat} {env:List EC} (h:EnvMap w L mb env) (hM:Mods L w w'):EnvMap w' L mb env:=by
 obtain ⟨es,c,h1,h2,h3,h4⟩:=h
 refine ⟨es,c,hM.heap h1 h2,h2,fun e he => ?_,h4⟩
 obtain ⟨t,n,i,b,cap,q1,q2,q3,q4,q5,q6,q7,q8⟩:=h3 e he
 exact ⟨t,n,i,b,cap,q1,q2,q3,q4,q5,q6,hM.cell q7 q6,q8⟩
theorem EnvMap.weaken {w:World} {L L':List Nat} {mb:Nat} {env:List EC} (h:EnvMap w L mb env) (hL:∀ x ∈ L',x ∈ L):EnvMap w L' mb env:=by
 obtain ⟨es,c,h1,h2,h3,h4⟩:=h
 refine ⟨es,c,h1,fun hm => h2 (hL _ hm),fun e he => ?_,h4⟩
 obtain ⟨t,n,i,b,cap,q1,q2,q3,q4,q5,q6,q7,q8⟩:=h3 e he
 exact ⟨t,n,i,b,cap,q1,q2,q3,q4,q5,fun hm => q6 (hL _ hm),q7,q8⟩
theorem EnvMap.look {w:World} {L:List Nat} {mb:Nat} {env:List EC} (h:EnvMap w L mb env) (t n:Bs) (ht:t.length ≤ 9223372036854775807) (hn:n.length ≤ 9223372036854775807) :
  (colsOf env t n=[] ∧ ∀ w',w'.heap=w.heap → (Instr.lookup 77 (.map (some mb)) (namV t n) false).run Tryz.prog w' = .ok (.slice none 0 0) w') ∨
  ∃ i b cap,colsOf env t n=[i] ∧ (1 ≤ cap ∧ cap ≤ 9223372036854775807) ∧ b ∉ L ∧ w.cell? ⟨b,0,none⟩ = some (.int .i64 (i:Nat)) ∧ ∀ w',w'.heap=w.heap → (Instr.lookup 77 (.map (some mb)) (namV t n) false).run Tryz.prog w' = .ok (.slice (some ⟨b,0,none⟩) 1 cap) w':=by
 obtain ⟨es,c,h1,h2,h3,h4,h5⟩:=h
 obtain ⟨k,hk⟩:=zaU t n ht hn
 have hall:∀ e ∈ es.toList,∃ l,keyOf Tryz.prog 139 e.key=some l:=fun e he => by
  obtain ⟨t,n,i,b,cap,q1,q2,q3,-⟩:=h3 e he
  rw [q1]; exact zaU t n q2 q3
 rcases named_keyed.find w hk es.toList hall with ⟨hf,hno⟩ | ⟨j,e,hf,he,hek⟩
 ·refine .inl ⟨?_,fun w' hw' => ?_⟩
  ·by_cases hc:colsOf env t n=[]
   ·exact hc
   ·obtain ⟨e,he,hke⟩:=h4 t n hc
    exact absurd hke (hno e he)
  ·rcases named_keyed.find w' hk es.toList hall with ⟨hf',-⟩ | ⟨j,e,hf',he,hek⟩
   ·exact zM named_keyed Tryz.underlying77 (by rw [hw']; exact h1) hk (fun w => by kernel_rfl) none hf'
   ·exact absurd hek (hno e (List.mem_of_getElem? he))
 ·obtain ⟨t',n',i,b,cap,q1,q2,q3,q4,q5,q6,q7,q8⟩:=h3 e (List.mem_of_getElem? he)
  have hk2:namV t' n'=namV t n:=by rw [← q1]; exact hek
  obtain ⟨rfl,rfl⟩:=zdC hk2
  refine .inr ⟨i,b,cap,q8,q5,q6,q7,fun w' hw' => ?_⟩
  rcases named_keyed.find w' hk es.toList hall with ⟨hf',hno⟩ | ⟨j',e',hf',he',hek'⟩
  ·exact absurd hek (hno e (List.mem_of_getElem? he))
  ·obtain ⟨t2,n2,i2,b2,cap2,p1,p2,p3,p4,p5,p6,p7,p8⟩:=h3 e' (List.mem_of_getElem? he')
   have hj:e'.val=e.val:=h5 e' (List.mem_of_getElem? he') e (List.mem_of_getElem? he) (hek'.trans hek.symm)
   have:=zM named_keyed Tryz.underlying77 (z:=.slice none 0 0) (by rw [hw']; exact h1) hk (fun w => by kernel_rfl) (some (j',e'.val)) hf'
   rw [hj,q4] at this
   exact this
theorem zeJ (t n:Bs):∀ (l:List EC) (i k:Nat),k ∈ colsFrom t n i l → i ≤ k ∧ k < i + l.length:=by
 intro l
 induction l with
 | nil => intro i k h; cases h
 | cons e l ih =>
  intro i k h
  unfold colsFrom at h
  split at h
  ·rcases List.mem_cons.1 h with rfl | h
   ·simp
   ·have:=ih _ _ h
    simp only [List.length_cons]
    omega
  ·have:=ih _ _ h
   simp only [List.length_cons]
   omega
theorem zeK {env:List EC} {h:Hd} {k:Nat} (hq:colQ env h = .ok k):k < env.length:=by
 unfold colQ at hq
 split at hq
 ·cases hq
 ·rename_i k' hk
  cases hq
  have:=zeJ h.table h.name env 0 k (by unfold colsOf at hk; rw [hk]; simp)
  omega
 ·cases hq
theorem zdD {env:List EC} {h:Hd} {p k:Nat} (hq:colQ env h = .bad p k):k ≠ 0:=by
 unfold colQ at hq
 split at hq
 ·cases hq; decide
 ·cases hq
 ·cases hq; decide
def chkE {α:Type} (r:Chk α) (pos e:Nat):Nat × Nat:=if e ≠ 0 then (pos,e) else match r with | .ok _ => (pos,e) | .bad p k => (p,k)
def colK (env:List EC) (h:Hd) (e:Nat):Nat:=if e ≠ 0 then 0 else match colQ env h with | .ok k => k | .bad _ _ => 0
def ColRes (w:World) (sb:Nat) (cv:Value) (mb d pos e:Nat) (env:List EC) (h:Hd) (r:Ending) (w':World):Prop:=
 r = .returned (.int .i64 (colK env h e:Nat)) ∧ Mods [sb] w w' ∧ ScSt w' sb cv mb d (chkE (colQ env h) pos e).1 (chkE (colQ env h) pos e).2
theorem zU (k p pos e:Nat):failE false k p pos e=(pos,e):=by unfold failE; rw [if_neg (fun h => by cases h.1)]
set_option maxRecDepth 100000 in
set_option maxHeartbeats 4000000 in
theorem zcx (w:World) (sb:Nat) (cv:Value) (mb d pos e:Nat) (hS:ScSt w sb cv mb d pos e) (env:List EC) (hE:EnvMap w [sb] mb env) (xb:Nat) (h:Hd) (va:Value) (hx:w.heap[xb]? = some (.cells (hdC h va).toArray 133 (0,0))) (hne:xb ≠ sb)
  (ht:h.table.length ≤ 9223372036854775807) (hn:h.name.length ≤ 9223372036854775807) :
  Calls Tryz.prog 25 #[PtrV sb,PtrV xb] w (ColRes w sb cv mb d pos e env h):=by
 have s1:=za hS 1
 change w.cell? _=some (.map (some mb)) at s1
 have x1:=za hx 1
 change w.cell? _=some (.int .i64 h.pos) at x1
 have x2:=za hx 2
 change w.cell? _=some (.string ⟨h.table.toArray⟩) at x2
 have x3:=za hx 3
 change w.cell? _=some (.string ⟨h.name.toArray⟩) at x3
 obtain ⟨PP,hPP⟩ : ∃ PP,ColRes w sb cv mb d pos e env h=PP:=⟨_,rfl⟩
 rw [hPP]
 have HPP:=Lib.hid hPP
 have HX:=Lib.hid hx
 clear hPP hx
 unfold namV at *
 rcases hE.look h.table h.name ht hn with ⟨hc,hl⟩ | ⟨i,b,cap,hc,hcap,hb,hci,hl⟩
 ·have hq:colQ env h = .bad h.pos 13:=by unfold colQ; rw [hc]
  have L0:∀ n,(Instr.lookup 77 (.map (some mb)) (.agg #[.string ⟨h.table.toArray⟩,.string ⟨h.name.toArray⟩]) false).run Tryz.prog (w.drewN n) = .ok (.slice none 0 0) (w.drewN n):=fun n => hl _ rfl
  have HQ:=Lib.hid (And.intro hq hS)
  clear hl hc hq hS hE ht hn
  unfold PtrV
  go_enter Tryz.func25, Tryz.ntmps25
  go_upto_region 1 with fail
  go_quiet (fail)
  clear L0 s1 x2 x3
  have hS1:ScSt (w.drewN nq) sb cv mb d pos e:=HQ.out.2
  have y1:(w.drewN nq).cell? ⟨xb,1,none⟩ = some (.int .i64 h.pos):=x1
  have hM1:Mods [sb] w (w.drewN nq):=(Mods.refl _ _).drewN nq
  generalize w.drewN nq=w1 at *
  have f1:=zx w1 sb cv mb d pos e hS1 true 13 h.pos
  change Calls _ _ #[.pointer (some ⟨sb,0,none⟩),.bool true,.int .i64 13,.int .i64 h.pos] _ _ at f1
  clear hS1 x1
  go_wp2_with fail
  (with_reducible refine f1.mono ?_)
  rintro r w2 ⟨rfl,hM2,hS2⟩
  have z1:=hM2.cell y1 (by simpa using hne)
  have f2:=zx w2 sb cv mb d _ _ hS2 false 4 h.pos
  rw [zU] at f2
  change Calls _ _ #[.pointer (some ⟨sb,0,none⟩),.bool false,.int .i64 4,.int .i64 h.pos] _ _ at f2
  clear f1 y1
  go_wp2_with fail
  (with_reducible refine f2.mono ?_)
  rintro r w3 ⟨rfl,hM3,hS3⟩
  have hM4:=(hM1.trans hM2 (by simp)).trans hM3 (by simp)
  clear f2 hS2 z1
  have hfe:failE true 13 h.pos pos e=chkE (colQ env h) pos e:=by
   rw [HQ.out.1]; unfold failE chkE
   by_cases he:e=0
   ·rw [if_pos ⟨rfl,he⟩,if_neg (by omega)]
   ·rw [if_neg (fun h => he h.2),if_pos he]
  have c4:=za hS3 4
  change w3.cell? _=some (.int .i64 ((failE true 13 h.pos pos e).2:Nat)) at c4
  have hnz:(failE true 13 h.pos pos e).2 ≠ 0:=by
   unfold failE
   by_cases he:e=0
   ·rw [if_pos ⟨rfl,he⟩]; show (13:Nat) ≠ 0; decide
   ·rw [if_neg (fun h => he h.2)]; exact he
  have hfin:PP (.returned (.int .i64 0)) w3:=by
   rw [← HPP.out]
   refine ⟨?_,hM4,by rw [← hfe]; exact hS3⟩
   have:colK env h e=0:=by unfold colK; rw [HQ.out.1]; split <;> rfl
   rw [this]; rfl
  have HFIN:=Lib.hid hfin
  obtain ⟨q,hq⟩ : ∃ q,(failE true 13 h.pos pos e).2=q:=⟨_,rfl⟩
  rw [hq] at c4 hnz
  have z0:((q:Int) != 0)=true:=bne_iff_ne.2 (by omega)
  clear hfin hfe hS3 hq hnz
  go_wp2_with fail
  exact HFIN.out
 ·have hq:colQ env h = .ok i:=by unfold colQ; rw [hc]
  have L0:∀ n,(Instr.lookup 77 (.map (some mb)) (.agg #[.string ⟨h.table.toArray⟩,.string ⟨h.name.toArray⟩]) false).run Tryz.prog (w.drewN n) = .ok (.slice (some ⟨b,0,none⟩) 1 cap) (w.drewN n):=fun n => hl _ rfl
  have HQ:=Lib.hid (And.intro hq hS)
  have hbs:b ≠ sb:=by simpa using hb
  clear hl hc hq hS hE ht hn hb
  unfold PtrV
  go_enter Tryz.func25, Tryz.ntmps25
  go_upto_region 1 with fail
  go_quiet (fail)
  clear L0 s1 x2 x3
  have hS1:ScSt (w.drewN nq) sb cv mb d pos e:=HQ.out.2
  have y1:(w.drewN nq).cell? ⟨xb,1,none⟩ = some (.int .i64 h.pos):=x1
  have b1:(w.drewN nq).cell? ⟨b,0,none⟩ = some (.int .i64 (i:Nat)):=hci
  have hM1:Mods [sb] w (w.drewN nq):=(Mods.refl _ _).drewN nq
  generalize w.drewN nq=w1 at *
  have f1:=zx w1 sb cv mb d pos e hS1 false 13 h.pos
  rw [zU] at f1
  change Calls _ _ #[.pointer (some ⟨sb,0,none⟩),.bool false,.int .i64 13,.int .i64 h.pos] _ _ at f1
  clear hS1 x1 hci
  go_wp2_with fail
  (with_reducible refine f1.mono ?_)
  rintro r w2 ⟨rfl,hM2,hS2⟩
  have z1:=hM2.cell y1 (by simpa using hne)
  have b2:=hM2.cell b1 (by simpa using hbs)
  have f2:=zx w2 sb cv mb d _ _ hS2 false 4 h.pos
  rw [zU] at f2
  change Calls _ _ #[.pointer (some ⟨sb,0,none⟩),.bool false,.int .i64 4,.int .i64 h.pos] _ _ at f2
  clear f1 y1 b1
  go_wp2_with fail
  (with_reducible refine f2.mono ?_)
  rintro r w3 ⟨rfl,hM3,hS3⟩
  have b3:=hM3.cell b2 (by simpa using hbs)
  have hM4:=(hM1.trans hM2 (by simp)).trans hM3 (by simp)
  clear f2 hS2 z1 b2
  have hce:chkE (colQ env h) pos e=(pos,e):=by
   rw [HQ.out.1]; unfold chkE
   split <;> rfl
  have c4:=za hS3 4
  change w3.cell? _=some (.int .i64 (e:Nat)) at c4
  by_cases he:e=0
  ·have hfin:PP (.returned (.int .i64 i)) w3:=by
    rw [← HPP.out]
    refine ⟨?_,hM4,by rw [hce]; exact hS3⟩
    have:colK env h e=i:=by unfold colK; rw [HQ.out.1,if_neg (by omega)]
    rw [this]
   have HFIN:=Lib.hid hfin
   have z0:((e:Int) != 0)=false:=bne_eq_false_iff_eq.2 (by omega)
   clear hfin hce hS3 he
   go_wp2_with fail
   exact HFIN.out
  ·have hfin:PP (.returned (.int .i64 0)) w3:=by
    rw [← HPP.out]
    refine ⟨?_,hM4,by rw [hce]; exact hS3⟩
    have:colK env h e=0:=by unfold colK; rw [if_pos he]
    rw [this]; rfl
   have HFIN:=Lib.hid hfin
   have z0:((e:Int) != 0)=true:=bne_iff_ne.2 (by omega)
   clear hfin hce hS3 he
   go_wp2_with fail
   exact HFIN.out
end Go.Proofs.YtgdpaieechgahaaGreatDoor
