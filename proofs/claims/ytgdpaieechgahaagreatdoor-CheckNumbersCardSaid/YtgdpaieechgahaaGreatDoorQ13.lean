/-
  parse's primary, walked whole; then all levels of the expressions' parser, by induction on how deep may yet be nested. No condition.
-/
import Derived.Test.YtgdpaieechgahaaGreatDoorQ10
import Derived.Test.YtgdpaieechgahaaGreatDoorPsR
import Derived.Test.YtgdpaieechgahaaGreatDoorQ05
namespace Go.Proofs.YtgdpaieechgahaaGreatDoor
open Go.RowKit
set_option linter.unusedVariables false
theorem zip {sub:Option Lvl} {s:PS} (h:s.e ≠ 0):primaryF sub s=(emp,s):=by unfold primaryF; rw [if_pos h]
theorem ziq {sub:Option Lvl} {s:PS} (h:s.e=0) (k:s.now.kind=3):primaryF sub s=(.leaf { op:=oNumber,pos:=s.now.pos,n:=s.now.n,scale:=s.now.scale },s.next):=by unfold primaryF; rw [if_neg (by simpa using h),if_pos k]
theorem zgW {sub:Option Lvl} {s:PS} (h:s.e=0) (k:s.now.kind=4):primaryF sub s=(.leaf { op:=oText,pos:=s.now.pos,s:=s.now.s },s.next):=by unfold primaryF; rw [if_neg (by simpa using h),if_neg (by omega),if_pos k]
theorem zgX {sub:Option Lvl} {s:PS} (h:s.e=0) (k:s.now.kind=2):primaryF sub s=columnF s:=by unfold primaryF; rw [if_neg (by simpa using h),if_neg (by omega),if_neg (by omega),if_pos k]
set_option maxRecDepth 100000 in
set_option maxHeartbeats 4000000 in
theorem zeF (w:World) (pb tg:Nat) (f:Nat) (s:PS) (h:PSt w pb tg s f)
  (hexpr:∀ f',f=f' + 1 → ∀ W s1,PSt W pb tg s1 f' → Calls Tryz.prog 45 #[PtrV pb] W (PRes pb tg f' (lvl f').expr s1 W)) :
  Calls Tryz.prog 182 #[PtrV pb] w (PRes pb tg f (primaryF (subOf f)) s w):=by
 by_cases hmap:s.e=0 ∧ s.now.kind ≠ 3 ∧ s.now.kind ≠ 4 ∧ s.now.kind ≠ 2
 ·obtain ⟨he,k1,k2,k3⟩:=hmap
  exact zet w pb tg f s h he k1 k2 k3 (fun hk W hP => zea W pb tg f s hP he hk hexpr) (fun hk hl ha W hP => zdw W pb tg f s hP he hk hl ha hexpr)
 ·have hpw:=h.lt
  have hnow:=zZ w pb tg s f h
  obtain ⟨off,cap,hb,-⟩:=h.tok
  have e3:w.cell? ⟨pb,3,none⟩ = some (.int .i64 s.e):=za hb 3
  have HP:=Lib.hid h
  unfold PtrV at *
  clear h hb hexpr
  go_enter Tryz.func182, Tryz.ntmps182
  go_wp2_with fail
  (with_reducible refine hnow.mono ?_)
  rintro e w1 ⟨rfl,hM1⟩
  clear hnow
  obtain ⟨t,ht⟩ : ∃ t,s.now=t:=⟨_,rfl⟩
  rw [ht] at hmap ⊢
  have HT:=Lib.hid ht
  clear ht
  have ht1:=heap_alloc_new w1 (.cells #[.int .i64 t.kind,.int .i64 t.pos,.string ⟨t.s.toArray⟩,.int .i64 t.n,.int .i64 t.scale] 68)
  have hMt:=(Mods.refl [] w1).alloc (.cells #[.int .i64 t.kind,.int .i64 t.pos,.string ⟨t.s.toArray⟩,.int .i64 t.n,.int .i64 t.scale] 68)
  have hMw:=hM1.trans hMt (by simp)
  have e3':=hMw.cell e3 (by simp)
  go_upto_region 2 with fail
  generalize w1.alloc (.cells #[.int .i64 t.kind,.int .i64 t.pos,.string ⟨t.s.toArray⟩,.int .i64 t.n,.int .i64 t.scale] 68)=w2 at *
  have htw:=hM1.size
  generalize w1.heap.size=tb at *
  have hP2:=HP.out.later hMw
  have x0:w2.cell? ⟨tb,0,none⟩ = some (.int .i64 t.kind):=za ht1 0
  clear hMt hM1
  by_cases he:s.e=0
  ·have z0:((s.e:Int) != 0)=false:=by rw [bne_eq_false_iff_eq]; omega
   by_cases h3:t.kind=3
   ·have hF:=ziq (sub:=subOf f) he (by rw [HT.out]; exact h3)
    have hnx:=zah w2 pb tg s f hP2 (hP2.wfTail (by rw [HT.out]; omega))
    have z3:((t.kind:Int) == 3)=true:=by rw [beq_iff_eq]; omega
    have HF:=Lib.hid hF
    unfold PtrV at hnx
    clear hF hP2 hmap h3 e3
    go_wp2_with fail
    (with_reducible refine hnx.mono ?_)
    rintro e w5 ⟨rfl,hM5,hP5⟩
    clear hnx
    have ht5:=hM5.heap ht1 (by simp; omega)
    have x1:w5.cell? ⟨tb,1,none⟩ = some (.int .i64 t.pos):=za ht5 1
    have x3:w5.cell? ⟨tb,3,none⟩ = some (.int .i64 t.n):=za ht5 3
    have x4:w5.cell? ⟨tb,4,none⟩ = some (.int .i64 t.scale):=za ht5 4
    have hz:=(Mods.refl [] w5).alloc (.cells #[.string ⟨#[110,117,109,98,101,114]⟩,.int .i64 t.pos,.string ⟨#[]⟩,.string ⟨#[]⟩,.int .i64 t.n,.int .i64 t.scale,.string ⟨#[]⟩,.slice none 0 0] 133)
    have hn:=heap_alloc_new w5 (.cells #[.string ⟨#[110,117,109,98,101,114]⟩,.int .i64 t.pos,.string ⟨#[]⟩,.string ⟨#[]⟩,.int .i64 t.n,.int .i64 t.scale,.string ⟨#[]⟩,.slice none 0 0] 133)
    have hM9:Mods [pb] w w5:=(hMw.mono (L':=[pb]) (by simp)).trans hM5 (by simp)
    have hs9:=hM9.size
    have hfin:PRes pb tg f (primaryF (subOf f)) s w (.returned (.pointer (some ⟨w5.heap.size,0,none⟩))) _:=⟨w5.heap.size,rfl,hM9.trans (hz.mono (L':=[pb]) (by simp)) (by simp),by rw [HF.out]; exact hP5.later hz,by rw [HF.out,HT.out]; exact fun _ L hL => ⟨w5.heap.size,rfl,fun hm => by have:=hL _ hm; omega,hn⟩⟩
    have HFIN:=Lib.hid hfin
    clear hfin hz hP5 hM5 hn hM9 ht5
    go_wp2_with fail
    go_ret
    exact HFIN.out
   have z3:((t.kind:Int) == 3)=false:=by rw [beq_eq_false_iff_ne]; omega
   by_cases h4:t.kind=4
   ·have hF:=zgW (sub:=subOf f) he (by rw [HT.out]; exact h4)
    have hnx:=zah w2 pb tg s f hP2 (hP2.wfTail (by rw [HT.out]; omega))
    have z4:((t.kind:Int) == 4)=true:=by rw [beq_iff_eq]; omega
    have HF:=Lib.hid hF
    unfold PtrV at hnx
    clear hF hP2 hmap h3 h4 e3
    go_wp2_with fail
    (with_reducible refine hnx.mono ?_)
    rintro e w5 ⟨rfl,hM5,hP5⟩
    clear hnx
    have ht5:=hM5.heap ht1 (by simp; omega)
    have x1:w5.cell? ⟨tb,1,none⟩ = some (.int .i64 t.pos):=za ht5 1
    have x3:w5.cell? ⟨tb,2,none⟩ = some (.string ⟨t.s.toArray⟩):=za ht5 2
    have hz:=(Mods.refl [] w5).alloc (.cells #[.string ⟨#[116,101,120,116]⟩,.int .i64 t.pos,.string ⟨#[]⟩,.string ⟨#[]⟩,.int .i64 0,.int .i64 0,.string ⟨t.s.toArray⟩,.slice none 0 0] 133)
    have hn:=heap_alloc_new w5 (.cells #[.string ⟨#[116,101,120,116]⟩,.int .i64 t.pos,.string ⟨#[]⟩,.string ⟨#[]⟩,.int .i64 0,.int .i64 0,.string ⟨t.s.toArray⟩,.slice none 0 0] 133)
    have hM9:Mods [pb] w w5:=(hMw.mono (L':=[pb]) (by simp)).trans hM5 (by simp)
    have hs9:=hM9.size
    have hfin:PRes pb tg f (primaryF (subOf f)) s w (.returned (.pointer (some ⟨w5.heap.size,0,none⟩))) _:=⟨w5.heap.size,rfl,hM9.trans (hz.mono (L':=[pb]) (by simp)) (by simp),by rw [HF.out]; exact hP5.later hz,by rw [HF.out,HT.out]; exact fun _ L hL => ⟨w5.heap.size,rfl,fun hm => by have:=hL _ hm; omega,hn⟩⟩
    have HFIN:=Lib.hid hfin
    clear hfin hz hP5 hM5 hn hM9 ht5
    go_wp2_with fail
    go_ret
    exact HFIN.out
   have z4:((t.kind:Int) == 4)=false:=by rw [beq_eq_false_iff_ne]; omega
   by_cases h2:t.kind=2
   ·have hF:columnF s=primaryF (subOf f) s:=(zgX (sub:=subOf f) he (by rw [HT.out]; exact h2)).symm
    have hcl:=zbA w2 pb tg s f hP2
    have z2:((t.kind:Int) == 2)=true:=by rw [beq_iff_eq]; omega
    have HF:=Lib.hid (And.intro hF hMw)
    unfold PtrV at hcl
    clear hF hP2 hmap h3 h4 h2 e3 hMw
    go_wp2_with fail
    (with_reducible refine hcl.mono ?_)
    rintro e w5 ⟨b,rfl,hr⟩
    unfold PtrV
    go_wp2_with fail
    go_ret
    exact (PRes.congr HF.out.1 ⟨b,rfl,hr⟩).earlier HF.out.2
   ·exact absurd ⟨he,h3,h4,h2⟩ hmap
  ·have hF:=zip (sub:=subOf f) he
   have z0:((s.e:Int) != 0)=true:=by rw [bne_iff_ne]; omega
   have hz:=(Mods.refl [] w2).alloc (.cells #[.string ⟨#[]⟩,.int .i64 0,.string ⟨#[]⟩,.string ⟨#[]⟩,.int .i64 0,.int .i64 0,.string ⟨#[]⟩,.slice none 0 0] 133)
   have hfin:PRes pb tg f (primaryF (subOf f)) s w (.returned (.pointer (some ⟨w2.heap.size,0,none⟩))) _:=⟨w2.heap.size,rfl,(hMw.trans hz (by simp)).mono (L':=[pb]) (by simp),by rw [hF]; exact hP2.later hz,by rw [hF]; exact fun h => absurd h he⟩
   have HFIN:=Lib.hid hfin
   clear hfin hz hF hP2 hmap
   go_wp2_with fail
   go_ret
   exact HFIN.out
structure LvlC (f:Nat):Prop where
 minus:∀ (W:World) (pb tg:Nat) (s:PS),PSt W pb tg s f → Calls Tryz.prog 181 #[PtrV pb] W (PRes pb tg f (lvl f).minus s W)
 not:∀ (W:World) (pb tg:Nat) (s:PS),PSt W pb tg s f → Calls Tryz.prog 109 #[PtrV pb] W (PRes pb tg f (lvl f).not s W)
 expr:∀ (W:World) (pb tg:Nat) (s:PS),PSt W pb tg s f → Calls Tryz.prog 45 #[PtrV pb] W (PRes pb tg f (lvl f).expr s W)
theorem zgY {f:Nat} (h:∀ f',f=f' + 1 → LvlC f'):LvlC f:=by
 have hs:=zij f
 have hprim:∀ (W:World) (pb tg:Nat) (s:PS),PSt W pb tg s f → Calls Tryz.prog 182 #[PtrV pb] W (PRes pb tg f (primaryF (subOf f)) s W):=
  fun W pb tg s hP => zeF W pb tg f s hP (fun f' hf W2 s2 hP2 => (h f' hf).expr W2 pb tg s2 hP2)
 have hminus:∀ (W:World) (pb tg:Nat) (s:PS),PSt W pb tg s f → Calls Tryz.prog 181 #[PtrV pb] W (PRes pb tg f (minusF (subOf f)) s W):=
  fun W pb tg s hP => zgS W pb tg f s hP (fun W2 hP2 => hprim W2 pb tg s hP2) (fun f' hf W2 s2 hP2 => (h f' hf).minus W2 pb tg s2 hP2)
 have hterm:∀ (W:World) (pb tg:Nat) (s:PS),PSt W pb tg s f → Calls Tryz.prog 179 #[PtrV pb] W (PRes pb tg f (termF (subOf f)) s W):=
  fun W pb tg s hP => zil W pb tg f s hP (zat hs) (fun W2 s2 hP2 => hminus W2 pb tg s2 hP2)
 have hsum:∀ (W:World) (pb tg:Nat) (s:PS),PSt W pb tg s f → Calls Tryz.prog 166 #[PtrV pb] W (PRes pb tg f (sumF (subOf f)) s W):=
  fun W pb tg s hP => zjd W pb tg f s hP (zbg hs) (fun W2 s2 hP2 => hterm W2 pb tg s2 hP2)
 have htest:∀ (W:World) (pb tg:Nat) (s:PS),PSt W pb tg s f → Calls Tryz.prog 143 #[PtrV pb] W (PRes pb tg f (testF (subOf f)) s W):=
  fun W pb tg s hP => zin W pb tg f s hP (zb2 hs) (fun W2 s2 hP2 => hsum W2 pb tg s2 hP2)
 have hnot:∀ (W:World) (pb tg:Nat) (s:PS),PSt W pb tg s f → Calls Tryz.prog 109 #[PtrV pb] W (PRes pb tg f (notF (subOf f)) s W):=
  fun W pb tg s hP => zjc W pb tg f s hP (fun W2 hP2 => htest W2 pb tg s hP2) (fun f' hf W2 s2 hP2 => (h f' hf).not W2 pb tg s2 hP2)
 have hand:∀ (W:World) (pb tg:Nat) (s:PS),PSt W pb tg s f → Calls Tryz.prog 80 #[PtrV pb] W (PRes pb tg f (andF (subOf f)) s W):=
  fun W pb tg s hP => zje W pb tg f s hP (zaV hs) (fun W2 s2 hP2 => hnot W2 pb tg s2 hP2)
 have hexpr:∀ (W:World) (pb tg:Nat) (s:PS),PSt W pb tg s f → Calls Tryz.prog 45 #[PtrV pb] W (PRes pb tg f (exprF (subOf f)) s W):=
  fun W pb tg s hP => zim W pb tg f s hP (zb3 hs) (fun W2 s2 hP2 => hand W2 pb tg s2 hP2)
 have e:=zjG f
 exact ⟨by rw [e]; exact hminus,by rw [e]; exact hnot,by rw [e]; exact hexpr⟩
theorem lvlC:∀ f,LvlC f:=by
 intro f
 induction f with
 | zero => exact zgY fun f' hf => by omega
 | succ f ih => exact zgY fun f' hf => by
                        obtain rfl:f=f':=by omega
                        exact ih
theorem zfj (w:World) (pb tg f:Nat) (s:PS) (h:PSt w pb tg s f):Calls Tryz.prog 45 #[PtrV pb] w (PRes pb tg f (lvl f).expr s w):=(lvlC f).expr w pb tg s h
open Go.RowKit
set_option linter.unusedVariables false
def wSelect:Bs:=[83,69,76,69,67,84]
def wFrom:Bs:=[70,82,79,77]
def wJoin:Bs:=[74,79,73,78]
def wOn:Bs:=[79,78]
def wWhere:Bs:=[87,72,69,82,69]
def wGroup:Bs:=[71,82,79,85,80]
def wBy:Bs:=[66,89]
def wOrder:Bs:=[79,82,68,69,82]
def wLimit:Bs:=[76,73,77,73,84]
def wOffset:Bs:=[79,70,70,83,69,84]
def wAs:Bs:=[65,83]
def wDesc:Bs:=[68,69,83,67]
def wAsc:Bs:=[65,83,67]
structure ItemT where
 e:Tree
 name:Bs
deriving DecidableEq
structure KeyT where
 pos:Nat
 item:Int
 name:Bs
 desc:Bool
deriving DecidableEq
structure QueryT where
 star:Bool:=false
 items:List ItemT:=[]
 src:Bs:=[]
 join:Bs:=[]
 srcAt:Nat:=0
 joinAt:Nat:=0
 on:Option Tree:=none
 whr:Option Tree:=none
 group:List Tree:=[]
 order:List KeyT:=[]
 limit:Int:=-1
 offset:Int:=-1
deriving DecidableEq
def listG {α:Type} (one:PS → α × PS):Nat → List α → PS → List α × PS
 | 0,l,s => (l,s)
 | n + 1,l,s => if (s.takes wComma).1=true then listG one n (l ++ [(one (s.takes wComma).2).1]) (one (s.takes wComma).2).2 else (l,(s.takes wComma).2)
def listF {α:Type} (one:PS → α × PS) (s:PS):List α × PS:=listG one (one s).2.rest.length [(one s).1] (one s).2
def itemF (E:PF) (s:PS):ItemT × PS:=
 if ((E s).2.takes wAs).1=true then (⟨(E s).1,((E s).2.takes wAs).2.name.1⟩,((E s).2.takes wAs).2.name.2) else (⟨(E s).1,[]⟩,((E s).2.takes wAs).2)
def keyHead (s:PS):(Int × Bs) × PS:=if s.now.kind=2 then ((0,s.name.1),s.name.2) else ((s.count.1,[]),s.count.2)
def keyF (s:PS):KeyT × PS:=
 (⟨s.now.pos,(keyHead s).1.1,(keyHead s).1.2,((keyHead s).2.takes wDesc).1⟩,if ((keyHead s).2.takes wDesc).1=true then ((keyHead s).2.takes wDesc).2 else (((keyHead s).2.takes wDesc).2.takes wAsc).2)
abbrev QS:=QueryT × PS
def q1 (E:PF) (s:PS):QS:=
 let t:=(s.wants [wSelect]).takes wStar
 if t.1=true then ({ star:=true },t.2) else ({ items:=(listF (itemF E) t.2).1 },(listF (itemF E) t.2).2)
def q2 (x:QS):QS:=
 let s1:=x.2.wants [wFrom]
 ({ x.1 with srcAt:=s1.now.pos,src:=s1.name.1 },s1.name.2)
def q3 (E:PF) (x:QS):QS:=
 let t:=x.2.takes wJoin
 if t.1=true then
  let s2:=t.2.name.2.wants [wOn]
  ({ x.1 with joinAt:=t.2.now.pos,join:=t.2.name.1,on:=some (E s2).1 },(E s2).2)
 else (x.1,t.2)
def q4 (E:PF) (x:QS):QS:=
 let t:=x.2.takes wWhere
 if t.1=true then ({ x.1 with whr:=some (E t.2).1 },(E t.2).2) else (x.1,t.2)
def q5 (x:QS):QS:=
 let t:=x.2.takes wGroup
 if t.1=true then ({ x.1 with group:=(listF columnF (t.2.wants [wBy])).1 },(listF columnF (t.2.wants [wBy])).2) else (x.1,t.2)
def q6 (x:QS):QS:=
 let t:=x.2.takes wOrder
 if t.1=true then ({ x.1 with order:=(listF keyF (t.2.wants [wBy])).1 },(listF keyF (t.2.wants [wBy])).2) else (x.1,t.2)
def q7 (x:QS):QS:=
 let t:=x.2.takes wLimit
 if t.1=true then ({ x.1 with limit:=t.2.count.1 },t.2.count.2) else (x.1,t.2)
def q8 (x:QS):QS:=
 let t:=x.2.takes wOffset
 if t.1=true then ({ x.1 with offset:=t.2.count.1 },t.2.count.2) else (x.1,t.2)
def queryF (E:PF) (s:PS):QS:=q8 (q7 (q6 (q5 (q4 E (q3 E (q2 (q1 E s)))))))
inductive Parsed where
 | good (q:QueryT)
 | bad (pos e:Nat)
deriving DecidableEq
def parseT (ts:List Tok):Parsed:=
 let x:=queryF (lvl 64).expr ⟨ts ++ ts.drop (ts.length - 1),0,0⟩
 let s:=(x.2.of 0).2.2
 if s.e=0 then .good x.1 else .bad s.pos s.e
def parseAll (l:Bs):Parsed:=match lexAll l with | .bad p => .bad p 8 | .good ts => parseT ts
def GoesA {α:Type} (F:PS → α × PS):Prop:=∀ s,Aft s (F s).2
theorem zav (s:PS):Aft s s.count.2:=by
 unfold PS.count
 simp only
 have h:Aft s (if 0 < s.now.scale then s.fail 8 else s):=by split; exact Aft.fail s 8; exact Aft.refl s
 generalize (if 0 < s.now.scale then s.fail 8 else s)=s1 at *
 have h2:=h.trans (Aft.of s1 3 (by decide))
 by_cases hb:(s1.of 3).2.1=true
 ·rw [if_pos hb]; exact h2
 ·rw [if_neg hb]; exact h2
theorem zbC {α:Type} {one:PS → α × PS} (h:GoesA one):∀ (n:Nat) (l:List α),GoesA (listG one n l):=by
 intro n
 induction n with
 | zero => intro l s; exact Aft.refl s
 | succ n ih =>
  intro l s
  unfold listG
  split
  ·exact ((Aft.takes s wComma).trans (h _)).trans (ih _ _)
  ·exact Aft.takes s wComma
theorem zai {α:Type} {one:PS → α × PS} (h:GoesA one):GoesA (listF one):=fun s => (h s).trans (zbC h _ _ _)
theorem zaD {E:PF} (h:Goes E):GoesA (itemF E):=by
 intro s
 unfold itemF
 split
 ·exact ((h s).trans (Aft.takes _ _)).trans (Aft.name _)
 ·exact (h s).trans (Aft.takes _ _)
theorem zbN:GoesA keyHead:=by
 intro s
 unfold keyHead
 split
 ·exact Aft.name s
 ·exact zav s
theorem zbm:GoesA keyF:=by
 intro s
 unfold keyF
 simp only
 split
 ·exact (zbN s).trans (Aft.takes _ _)
 ·exact ((zbN s).trans (Aft.takes _ _)).trans (Aft.takes _ _)
theorem ziZ {E:PF} (h:Goes E) (s:PS):Aft s (q1 E s).2:=by
 unfold q1
 simp only
 split
 ·exact (Aft.wants _ _).trans (Aft.takes _ _)
 ·exact ((Aft.wants _ _).trans (Aft.takes _ _)).trans (zai (zaD h) _)
theorem zfk (x:QS):Aft x.2 (q2 x).2:=(Aft.wants _ _).trans (Aft.name _)
theorem zgZ {E:PF} (h:Goes E) (x:QS):Aft x.2 (q3 E x).2:=by
 unfold q3
 simp only
 split
 ·exact (((Aft.takes _ _).trans (Aft.name _)).trans (Aft.wants _ _)).trans (h _)
 ·exact Aft.takes _ _
theorem zg0 {E:PF} (h:Goes E) (x:QS):Aft x.2 (q4 E x).2:=by
 unfold q4
 simp only
 split
 ·exact (Aft.takes _ _).trans (h _)
 ·exact Aft.takes _ _
theorem zg1 (x:QS):Aft x.2 (q5 x).2:=by
 unfold q5
 simp only
 split
 ·exact ((Aft.takes _ _).trans (Aft.wants _ _)).trans (zai zac _)
 ·exact Aft.takes _ _
theorem zg2 (x:QS):Aft x.2 (q6 x).2:=by
 unfold q6
 simp only
 split
 ·exact ((Aft.takes _ _).trans (Aft.wants _ _)).trans (zai zbm _)
 ·exact Aft.takes _ _
theorem zg3 (x:QS):Aft x.2 (q7 x).2:=by
 unfold q7
 simp only
 split
 ·exact (Aft.takes _ _).trans (zav _)
 ·exact Aft.takes _ _
theorem zg4 (x:QS):Aft x.2 (q8 x).2:=by
 unfold q8
 simp only
 split
 ·exact (Aft.takes _ _).trans (zav _)
 ·exact Aft.takes _ _
theorem zg5 {E:PF} (h:Goes E) (s:PS):Aft s (queryF E s).2:=
 (ziZ h s).trans ((zfk _).trans ((zgZ h _).trans ((zg0 h _).trans ((zg1 _).trans ((zg2 _).trans ((zg3 _).trans (zg4 _)))))))
theorem zf0 {α:Type} {one:PS → α × PS} (h:GoesA one):∀ (n m:Nat) (l:List α) (s:PS),WfT s.rest → s.rest.length ≤ n → s.rest.length ≤ m → listG one n l s=listG one m l s:=by
 intro n
 induction n with
 | zero =>
  intro m l s hw hn hm
  exact absurd (List.length_eq_zero_iff.1 (by omega)) hw.ne
 | succ n ih =>
  intro m l s hw hn hm
  cases m with
  | zero => exact absurd (List.length_eq_zero_iff.1 (by omega)) hw.ne
  | succ m =>
   unfold listG
   by_cases ht:(s.takes wComma).1=true
   ·rw [if_pos ht,if_pos ht]
    have hi:s.is [wComma]=true:=by
     unfold PS.takes at ht
     split at ht
     ·assumption
     ·simp at ht
    have hT:s.takes wComma=(true,s.next):=by unfold PS.takes; rw [if_pos hi]
    have hA:=Aft.next (zC hi).1 (zC hi).2
    have hB:=h s.next
    have hl:s.next.rest.length + 1=s.rest.length:=by
     unfold PS.next
     cases hr:s.rest with
     | nil => exact absurd hr hw.ne
     | cons t r => simp
    rw [hT]
    exact ih m _ _ (hB.wf (hA.wf hw)) (by have:=hB.len; show (one s.next).2.rest.length ≤ n; omega) (by have:=hB.len; show (one s.next).2.rest.length ≤ m; omega)
   ·rw [if_neg ht,if_neg ht]
open Go.RowKit
set_option linter.unusedVariables false
abbrev RepR (α:Type):=World → List Nat → List Value → α → Prop
structure Rep {α:Type} (R:RepR α):Prop where
 mods:∀ {w w':World} {L:List Nat} {cs:List Value} {a:α},R w L cs a → Mods L w w' → R w' L cs a
 weaken:∀ {w:World} {L L':List Nat} {cs:List Value} {a:α},(∀ x ∈ L',x ∈ L) → R w L cs a → R w L' cs a
 fresh:∀ {w:World} {L:List Nat} {cs:List Value} {a:α} {g:Nat},w.heap.size ≤ g → R w L cs a → R w (g :: L) cs a
def AllR {α:Type} (R:RepR α) (w:World) (L:List Nat):List (List Value) → List α → Prop
 | [],[] => True
 | c :: cs,x :: xs => R w L c x ∧ AllR R w L cs xs
 | _,_ => False
theorem AllR.map {α:Type} {R:RepR α} {w w':World} {L L':List Nat} (h:∀ c x,R w L c x → R w' L' c x):∀ {css:List (List Value)} {xs:List α},AllR R w L css xs → AllR R w' L' css xs:=by
 intro css
 induction css with
 | nil => intro xs hx; cases xs with
  | nil => trivial
  | cons x xs => exact hx.elim
 | cons c cs ih => intro xs hx; cases xs with
  | nil => exact hx.elim
  | cons x xs => exact ⟨h _ _ hx.1,ih hx.2⟩
theorem AllR.snoc {α:Type} {R:RepR α} {w:World} {L:List Nat} {c:List Value} {x:α} (hc:R w L c x):∀ {css:List (List Value)} {xs:List α},AllR R w L css xs → AllR R w L (css ++ [c]) (xs ++ [x]):=by
 intro css
 induction css with
 | nil => intro xs hx; cases xs with
  | nil => exact ⟨hc,trivial⟩
  | cons x xs => exact hx.elim
 | cons c cs ih => intro xs hx; cases xs with
  | nil => exact hx.elim
  | cons x xs => exact ⟨hx.1,ih hx.2⟩
theorem ExprAt.fresh {T T2:TypeId} {w:World} {L:List Nat} {g:Nat} (hg:w.heap.size ≤ g):∀ {t:Tree} {v:Value},ExprAt T T2 w L v t → ExprAt T T2 w (g :: L) v t:=by
 intro t
 induction t with
 | leaf h =>
  rintro v ⟨b,h1,h2,h3⟩
  have:=zi h3
  exact ⟨b,h1,by simp; exact ⟨by omega,h2⟩,h3⟩
 | un h a ih =>
  rintro v ⟨b,c,u,h1,h2,h3,h4,h5,h6⟩
  have:=zi h4
  have:=zi h5
  exact ⟨b,c,u,h1,by simp; exact ⟨by omega,h2⟩,by simp; exact ⟨by omega,h3⟩,h4,h5,ih h6⟩
 | bin h a d iha ihd =>
  rintro v ⟨b,c,u,x,h1,h2,h3,h4,h5,h6,h7⟩
  have:=zi h4
  have:=zi h5
  exact ⟨b,c,u,x,h1,by simp; exact ⟨by omega,h2⟩,by simp; exact ⟨by omega,h3⟩,h4,h5,iha h6,ihd h7⟩
def TreeR:RepR Tree:=fun w L cs t => ∃ b,cs=[PtrV b] ∧ ExprAt 133 82 w L (PtrV b) t
def ItemR:RepR ItemT:=fun w L cs i => ∃ b,cs=[PtrV b,.string ⟨i.name.toArray⟩] ∧ ExprAt 133 82 w L (PtrV b) i.e
def KeyR:RepR KeyT:=fun w L cs k => cs=[.int .i64 k.pos,.int .i64 k.item,.string ⟨k.name.toArray⟩,.bool k.desc]
theorem treeRep:Rep TreeR:=⟨fun ⟨b,h1,h2⟩ hM => ⟨b,h1,h2.mods hM⟩,fun hL ⟨b,h1,h2⟩ => ⟨b,h1,h2.weaken hL⟩,fun hg ⟨b,h1,h2⟩ => ⟨b,h1,h2.fresh hg⟩⟩
theorem itemRep:Rep ItemR:=⟨fun ⟨b,h1,h2⟩ hM => ⟨b,h1,h2.mods hM⟩,fun hL ⟨b,h1,h2⟩ => ⟨b,h1,h2.weaken hL⟩,fun hg ⟨b,h1,h2⟩ => ⟨b,h1,h2.fresh hg⟩⟩
theorem keyRep:Rep KeyR:=⟨fun h _ => h,fun _ h => h,fun _ h => h⟩
def ListRes {α:Type} (R:RepR α) (pb tg f:Nat) (F:PS → List α × PS) (s:PS) (w:World) (e:Ending) (w':World):Prop:=
 ∃ g cap css,e = .returned (.slice (some ⟨g,0,none⟩) (F s).1.length cap) ∧ Mods [pb] w w' ∧ PSt w' pb tg (F s).2 f ∧ w.heap.size ≤ g ∧ g < w'.heap.size ∧ (F s).1.length ≤ cap ∧ (∀ j u,css.flatten[j]? = some u → w'.cell? ⟨g,j,none⟩ = some u) ∧
  ((F s).2.e=0 → ∀ L:List Nat,(∀ x ∈ L,x < w.heap.size) → AllR R w' (g :: L) css (F s).1)
theorem za6 {s:PS} {x:Bs} (h:(s.takes x).1=false):(s.takes x).2=s:=by
 unfold PS.takes at h ⊢
 split
 ·rename_i hi; rw [if_pos hi] at h; cases h
 ·rfl
theorem zbD {s:PS} {x:Bs} (h:(s.takes x).1=true):s.is [x]=true ∧ s.takes x=(true,s.next):=by
 unfold PS.takes at h ⊢
 split
 ·rename_i hi; exact ⟨hi,rfl⟩
 ·rename_i hi; rw [if_neg hi] at h; cases h
theorem zcp {α:Type} {R:RepR α} (hR:Rep R) {T:TypeId} {size:Nat} {w wr w2 w3 w5:World} {pb tg f:Nat} {F:PS → α × PS} {s s1:PS} {l:List α} {css:List (List Value)} {c:List Value} {g cap g' cap':Nat} {o:Obj}
  (hgo:GoesA F) (hpb:pb < w.heap.size) (htg:tg < w.heap.size) (hM:Mods [pb] w wr) (h2:Mods [pb] wr w2) (h3:Mods [pb] w2 w3) (hP3:PSt w3 pb tg (F s1.next).2 f) (hi:s1.is [wComma]=true) (hlen:s1.next.rest.length + 1=s1.rest.length)
  (ho3:wr.ownsRow 0 T size (.slice (some ⟨g,0,none⟩) l.length cap) l.length css.flatten) (hg:w.heap.size ≤ g)
  (hE:s1.e=0 → ∀ L:List Nat,(∀ z ∈ L,z < w.heap.size) → AllR R wr (g :: L) css l) (hE3:(F s1.next).2.e=0 → ∀ L:List Nat,(∀ z ∈ L,z < w2.heap.size) → R w3 L c (F s1.next).1)
  (hJ:∀ m,s1.rest.length=m + 1 → listF F s=listG F m (l ++ [(F s1.next).1]) (F s1.next).2)
  (h5:w5.ownsRow 0 T size (.slice (some ⟨g',0,none⟩) (l.length + 1) cap') (l.length + 1) (css.flatten ++ c)) (hM5:Mods [g] (w3.alloc o) w5) (hg':g'=g ∨ (w3.alloc o).heap.size ≤ g') :
  (F s1.next).2.rest.length < s1.rest.length ∧ Mods [pb] w w5 ∧ PSt w5 pb tg (F s1.next).2 f ∧ w.heap.size ≤ g' ∧
   Hid (listF F s=listG F (F s1.next).2.rest.length (l ++ [(F s1.next).1]) (F s1.next).2) ∧
   w5.ownsRow 0 T size (.slice (some ⟨g',0,none⟩) (l ++ [(F s1.next).1]).length cap') (l ++ [(F s1.next).1]).length (css ++ [c]).flatten ∧
   Hid ((F s1.next).2.e=0 → ∀ L:List Nat,(∀ z ∈ L,z < w.heap.size) → AllR R w5 (g' :: L) (css ++ [c]) (l ++ [(F s1.next).1])):=by
 have hl:=(hgo s1.next).len
 have hwf:WfT (F s1.next).2.rest:=by obtain ⟨l,-,-,h3,-⟩:=hP3; exact h3
 have hz:=(Mods.refl [] w3).alloc o
 have hgl:g < wr.heap.size:=ho3.lt g rfl |>.2
 have hs1:=hM.size
 have hs2:=h2.size
 have hs3:=h3.size
 have hM3:Mods [pb] w w3:=(hM.trans h2 (by simp)).trans h3 (by simp)
 have hgp:g ≠ pb:=by omega
 have hgt:g ≠ tg:=by omega
 refine ⟨by omega,((hM3.trans (hz.mono (L':=[pb]) (by simp)) (by simp)).trans hM5 (fun x hx => .inr (by simp at hx; omega))),(hP3.later hz).mods hM5 (by simpa using hgp.symm) (by simpa using hgt.symm),?_,Lib.hid ?_,?_,Lib.hid fun he L hL => ?_⟩
 ·rcases hg' with rfl | h
  ·exact hg
  ·rw [zk] at h; omega
 ·rw [hJ s1.next.rest.length hlen.symm]
  exact zf0 hgo _ _ _ _ hwf hl (Nat.le_refl _)
 ·rw [List.length_append,List.flatten_append]
  simpa using h5
 ·have h1e:s1.e=0:=(zC hi).1
  have hL1:∀ z ∈ (pb :: L),z < w.heap.size:=fun z hz => by
   rcases List.mem_cons.1 hz with rfl | hz
   ·exact hpb
   ·exact hL _ hz
  have a1:AllR R w3 (g :: pb :: L) css l:=(hE h1e (pb :: L) hL1).map fun c x h => hR.mods h (((h2.trans h3 (by simp)).mono (L':=g :: pb :: L) (by simp)))
  have a2:R w3 (g :: pb :: L) c (F s1.next).1:=hE3 he (g :: pb :: L) fun z hz => by
   rcases List.mem_cons.1 hz with rfl | hz
   ·omega
   ·have:=hL1 z hz; omega
  have a3:=AllR.snoc a2 a1
  have a4:AllR R (w3.alloc o) (g :: pb :: L) (css ++ [c]) (l ++ [(F s1.next).1]):=a3.map fun c x h => hR.mods h (hz.mono (by simp))
  rcases hg' with rfl | h
  ·exact (a4.map fun c x h => hR.mods h (hM5.mono (by simp))).map fun c x h => hR.weaken (fun z hz => by
    rcases List.mem_cons.1 hz with rfl | hz
    ·exact List.mem_cons_self
    ·exact List.mem_cons_of_mem _ (List.mem_cons_of_mem _ hz)) h
  ·have a5:AllR R (w3.alloc o) (g' :: g :: pb :: L) (css ++ [c]) (l ++ [(F s1.next).1]):=a4.map fun c x hx => hR.fresh h hx
   exact (a5.map fun c x h => hR.mods h (hM5.mono (by simp))).map fun c x h => hR.weaken (fun z hz => by
    rcases List.mem_cons.1 hz with rfl | hz
    ·exact List.mem_cons_self
    ·exact List.mem_cons_of_mem _ (List.mem_cons_of_mem _ (List.mem_cons_of_mem _ hz))) h
theorem zS {w:World} {T:TypeId} {size g n cap:Nat} {xs:List Value} (h:w.ownsRow 0 T size (.slice (some ⟨g,0,none⟩) n cap) n xs):g < w.heap.size ∧ n ≤ cap ∧ ∀ j u,xs[j]? = some u → w.cell? ⟨g,j,none⟩ = some u:=by
 refine ⟨(h.lt g rfl).2,?_,fun j u hj => ?_⟩
 ·rcases h.2 with ⟨hv,-⟩ | ⟨g',cap',cur,hv,-,-,hc,-⟩
  ·cases hv
  ·simp only [Value.slice.injEq] at hv
   rw [hv.2.2]; exact hc
 ·have:=h.cells (g:=g) rfl j u hj
  rw [zbZ,Nat.zero_add] at this
  exact this
theorem zbn (w:World) (cs:Array Value) (T:TypeId):∀ j u,cs.toList[j]? = some u → (w.alloc (.cells cs T)).cell? ((⟨w.heap.size,0,none⟩ : Addr).add j)=some u:=by
 intro j u hj
 rw [zbZ,Nat.zero_add,za (heap_alloc_new w _) j]
 simpa using hj
end Go.Proofs.YtgdpaieechgahaaGreatDoor
