/-
  schema's names.fresh, walked (under way). No condition.
-/
import Derived.Test.YtgdpaieechgahaaGreatDoorQ35
namespace Go.Proofs.YtgdpaieechgahaaGreatDoor
open Go.RowKit
open Go.Maps
set_option linter.unusedVariables false
theorem zaL (w:World):(zeroValue 3).run Tryz.prog w = .ok (.int .i64 0) w:=by kernel_rfl
theorem zcD {es:Array MapEntry} {clock:Nat} {met:List (Int × List UInt8)} (h:NRow es clock met) {p:Int × List UInt8} (hp:okP p) (hn:p ∉ met) (v:Value) (c:Nat) (w:World) :
  ∃ j,(Instr.findKey 193 (keyP p) (es.push { key:=keyP p,val:=v,born:=c }).toList).run Tryz.prog w = .ok (some (j,v)) w:=by
 obtain ⟨l,hl⟩:=hp.key
 have hall:∀ e ∈ (es.push { key:=keyP p,val:=v,born:=c }).toList,∃ l,keyOf Tryz.prog 193 e.key=some l:=fun e he => by
  simp at he
  rcases he with he | rfl
  ·obtain ⟨q,hq,hk,-⟩:=h.sub e (by simpa using he)
   rw [hk]; exact (h.ok q hq).key
  ·exact ⟨l,hl⟩
 rcases place_keyed.find w hl _ hall with ⟨h1,h2⟩ | ⟨j,e,h1,h2,h3⟩
 ·exact absurd rfl (h2 { key:=keyP p,val:=v,born:=c } (by simp))
 ·have he:=List.mem_of_getElem? h2
  simp at he
  rcases he with he | rfl
  ·obtain ⟨q,hq,hk,-⟩:=h.sub e (by simpa using he)
   exact absurd (zdN (h3.symm.trans hk) ▸ hq) hn
  ·exact ⟨j,h1⟩
theorem zhq {es:Array MapEntry} {clock:Nat} (h:MapKept.Stamped es clock) (x:MapEntry) (hx:x.born=clock):(es.push x).findIdx? (fun e => (e.born:Int) == (clock:Int))=some es.size:=by
 rw [Array.findIdx?_push]
 have:es.findIdx? (fun e => (e.born:Int) == (clock:Int))=none:=by
  rw [Array.findIdx?_eq_none_iff]
  intro e he
  have:=h.1 e (by simpa using he)
  rw [beq_eq_false_iff_ne]; omega
 rw [this]
 simp [hx]
set_option maxRecDepth 100000 in
set_option maxHeartbeats 1000000 in
theorem zhr (w0 w:World) (hT:Tabs w0) (hM0:Mods [] w0 w) (mb:Nat) (hmb:w0.heap.size ≤ mb) (es:Array MapEntry) (clock:Nat) (hb:w.heap[mb]? = some (.map es clock)) (met:List (Int × List UInt8)) (hN:NRow es clock met) (t:Int) (s:ByteArray) (hp:okP (t,s.data.toList)) (hn:(t,s.data.toList) ∉ met) :
  Calls Tryz.prog 81 #[.map (some mb),.int .i64 t,.string s] w fun e w' => e = .returned (.bool (nameL s.data.toList)) ∧ Mods [mb] w w' ∧ ∃ es' clock',w'.heap[mb]? = some (.map es' clock') ∧ NRow es' clock' ((t,s.data.toList) :: met):=by
 obtain ⟨l,hl⟩:=hp.key
 have hf:(Instr.findKey 193 (placeV t s) es.toList).run Tryz.prog w.drew = .ok none w.drew:=by
  rcases hN.find hp w.drew with ⟨-,h⟩ | ⟨h,-⟩
  ·exact h
  ·exact absurd h hn
 have hb1:w.drew.heap[mb]? = some (.map es clock):=hb
 have e1:=zM (T:= 129) place_keyed Tryz.underlying129 hb1 hl zaL none hf
 have e2:=zbS (T:= 129) place_keyed Tryz.underlying129 hb1 hl zaL hf
 have hb2:=zJ (o':=.map (es.push { key:=keyP (t,s.data.toList),val:=.int .i64 0,born:=clock }) (clock + 1)) hb1
 obtain ⟨j,hf2⟩:=zcD hN hp hn (.int .i64 0) clock (setHeap w.drew mb (.map (es.push { key:=keyP (t,s.data.toList),val:=.int .i64 0,born:=clock }) (clock + 1)))
 have e3:=zM (T:= 129) place_keyed Tryz.underlying129 hb2 hl zaL _ hf2
 have e4:=zaE (P:= Tryz.prog) 129 hb2 (clock:Int) (.int .i64 1) (zhq hN.stamped _ rfl)
 have hpush:(es.push { key:=keyP (t,s.data.toList),val:=.int .i64 0,born:=clock }).modify es.size (fun e => { e with val:=.int .i64 1 })=es.push { key:=keyP (t,s.data.toList),val:=.int .i64 1,born:=clock }:=by
  apply Array.ext_getElem?
  intro i
  rw [Array.getElem?_modify]
  by_cases h:es.size=i
  ·subst h; simp
  ·rw [if_neg h,Array.getElem?_push,Array.getElem?_push,if_neg (Ne.symm h),if_neg (Ne.symm h)]
 rw [hpush] at e4
 have hkv:keyP (t,s.data.toList) = .agg #[.int .i64 t,.string s]:=rfl
 simp only [Option.map_none,Option.getD_none,Option.map_some,Option.getD_some] at e1 e3
 have hMw1:=(((Mods.refl [mb] w).drew).setHeap (r:=mb) (.inl (by simp)) (.map (es.push { key:=keyP (t,s.data.toList),val:=.int .i64 0,born:=clock }) (clock + 1)))
 have hb3:=zJ (o':=.map (es.push { key:=keyP (t,s.data.toList),val:=.int .i64 1,born:=clock }) (clock + 1)) hb2
 have hM2:=hMw1.setHeap (r:=mb) (.inl (by simp)) (.map (es.push { key:=keyP (t,s.data.toList),val:=.int .i64 1,born:=clock }) (clock + 1))
 obtain ⟨j5,hf5⟩:=zcD hN hp hn (.int .i64 1) clock (setHeap (setHeap w.drew mb (.map (es.push { key:=keyP (t,s.data.toList),val:=.int .i64 0,born:=clock }) (clock + 1))) mb (.map (es.push { key:=keyP (t,s.data.toList),val:=.int .i64 1,born:=clock }) (clock + 1)))
 have e5:=zM (T:= 129) place_keyed Tryz.underlying129 hb3 hl zaL _ hf5
 simp only [Option.map_some,Option.getD_some] at e5
 have hNN:=Lib.hid (hN.push hp hn)
 rw [hkv] at e1 e2 e3 e4 e5 hb3 hM2
 generalize setHeap w.drew mb (.map (es.push { key:=.agg #[.int .i64 t,.string s],val:=.int .i64 0,born:=clock }) (clock + 1))=w1 at *
 clear hb2 hf2 hpush hf hf5 hMw1 hb1
 go_enter Tryz.func81, Tryz.ntmps81
 go_wp2_with fail
 go_region
 clear e1 e2 e3 e4
 generalize setHeap w1 mb (.map (es.push { key:=.agg #[.int .i64 t,.string s],val:=.int .i64 1,born:=clock }) (clock + 1))=w2 at *
 have hT2:=hT.mods (hM0.trans hM2 (fun x hx => .inr (by simp at hx; omega)))
 have hnm:=zdA w2 hT2 s hp.2
 go_wp2_with fail
 (with_reducible refine hnm.mono ?_)
 rintro e w3 ⟨rfl,hM3⟩
 clear hnm
 go_wp2_with fail
 go_ret
 exact ⟨rfl,hM2.trans hM3 (by simp),_,_,hM3.heap hb3 (by simp),hNN.out⟩
open Go.RowKit
open Go.Maps
set_option linter.unusedVariables false
theorem zjn {es:Array MapEntry} {clock:Nat} (h:MapKept.Stamped es clock) {j:Nat} {e:MapEntry} (he:es[j]? = some e):es.findIdx? (fun x => (x.born:Int) == (e.born:Int))=some j:=by
 obtain ⟨hj,hje⟩:=Array.getElem?_eq_some_iff.1 he
 rw [Array.findIdx?_eq_some_iff_getElem]
 refine ⟨hj,by rw [hje]; simp,fun i hi => ?_⟩
 have hnd:=h.2.1
 intro hc
 rw [beq_iff_eq] at hc
 have hij:(es.toList.map (·.born))[i]? = (es.toList.map (·.born))[j]?:=by
  simp only [List.getElem?_map,Array.getElem?_toList,Array.getElem?_eq_getElem hj,Array.getElem?_eq_getElem (show i < es.size by omega),Option.map_some]
  congr 1
  rw [hje]; omega
 have:=(List.getElem?_inj (by simp; omega) hnd).1 hij
 omega
theorem zeS {es:Array MapEntry} {j:Nat} {e:MapEntry} {k:Value} (he:es[j]? = some e) (hk:e.key=k):es.modify j (fun e => { e with key:=k })=es:=by
 apply Array.ext_getElem?
 intro i
 rw [Array.getElem?_modify]
 by_cases h:j=i
 ·subst h
  rw [if_pos rfl,he]
  simp [← hk]
 ·rw [if_neg h]
theorem zeT {es:Array MapEntry} {clock:Nat} {met:List (Int × List UInt8)} (h:NRow es clock met) {p:Int × List UInt8} (hp:okP p) {j:Nat} {e:MapEntry} (he:es[j]? = some e) (hk:e.key=keyP p) (v:Value) (w:World) :
  ∃ i,(Instr.findKey 193 (keyP p) (es.modify j fun x => { x with val:=v }).toList).run Tryz.prog w = .ok (some (i,v)) w:=by
 obtain ⟨l,hl⟩:=hp.key
 have hget:∀ i x,(es.modify j fun x => { x with val:=v })[i]? = some x → ∃ y,es[i]? = some y ∧ x.key=y.key ∧ (i=j → x.val=v):=by
  intro i x hx
  rw [Array.getElem?_modify] at hx
  by_cases hij:j=i
  ·rw [if_pos hij] at hx
   obtain ⟨y,hy,rfl⟩:=Option.map_eq_some_iff.1 hx
   exact ⟨y,hy,rfl,fun _ => rfl⟩
  ·rw [if_neg hij] at hx
   exact ⟨x,hx,rfl,fun h => absurd h.symm hij⟩
 have hall:∀ x ∈ (es.modify j fun x => { x with val:=v }).toList,∃ l,keyOf Tryz.prog 193 x.key=some l:=fun x hx => by
  obtain ⟨i,hi⟩:=List.mem_iff_getElem?.1 hx
  rw [Array.getElem?_toList] at hi
  obtain ⟨y,hy,hky,-⟩:=hget i x hi
  obtain ⟨q,hq,hkq,-⟩:=h.sub y (List.mem_of_getElem? (by rw [Array.getElem?_toList]; exact hy))
  rw [hky,hkq]; exact (h.ok q hq).key
 rcases place_keyed.find w hl _ hall with ⟨h1,h2⟩ | ⟨i,x,h1,h2,h3⟩
 ·have hm:(es.modify j fun x => { x with val:=v })[j]? = some { e with val:=v }:=by rw [Array.getElem?_modify,if_pos rfl,he]; rfl
  exact absurd hk (h2 { e with val:=v } (List.mem_of_getElem? (by rw [Array.getElem?_toList]; exact hm)))
 ·rw [Array.getElem?_toList] at h2
  obtain ⟨y,hy,hky,hv⟩:=hget i x h2
  have hij:(es.toList.map (·.key))[i]? = (es.toList.map (·.key))[j]?:=by
   simp only [List.getElem?_map,Array.getElem?_toList,hy,he,Option.map_some]
   rw [← hky,h3,hk]
  have hlt:i < (es.toList.map (·.key)).length:=by
   have:=(Array.getElem?_eq_some_iff.1 hy).1
   simpa using this
  have:=(List.getElem?_inj hlt h.stamped.2.2).1 hij
  rw [hv this] at h1
  exact ⟨i,h1⟩
set_option maxRecDepth 100000 in
set_option maxHeartbeats 1000000 in
theorem zhs (w:World) (mb:Nat) (es:Array MapEntry) (clock:Nat) (hb:w.heap[mb]? = some (.map es clock)) (met:List (Int × List UInt8)) (hN:NRow es clock met) (t:Int) (s:ByteArray) (hp:okP (t,s.data.toList)) (hn:(t,s.data.toList) ∈ met) :
  Calls Tryz.prog 81 #[.map (some mb),.int .i64 t,.string s] w fun e w' => e = .returned (.bool false) ∧ Mods [mb] w w':=by
 obtain ⟨l,hl⟩:=hp.key
 have hfa:∀ W,∃ j e,(Instr.findKey 193 (keyP (t,s.data.toList)) es.toList).run Tryz.prog W = .ok (some (j,e.val)) W ∧ es[j]? = some e ∧ e.key=keyP (t,s.data.toList) ∧ e.val = .int .i64 1:=fun W => by
  rcases hN.find hp W with ⟨h,-⟩ | ⟨-,h⟩
  ·exact absurd hn h
  ·exact h
 have hb1:w.drew.heap[mb]? = some (.map es clock):=hb
 obtain ⟨j,e,hf,he,hk,hv⟩:=hfa w.drew
 have e1:=zM (T:= 129) place_keyed Tryz.underlying129 hb1 hl zaL _ hf
 have e2:=zbT (T:= 129) place_keyed Tryz.underlying129 hb1 hl hf he hk
 have hsame:=zeS he hk
 rw [hsame] at e2
 have hb2:=zJ (o':=.map es clock) hb1
 obtain ⟨j2,e',hf2,-,-,hv2⟩:=hfa (setHeap w.drew mb (.map es clock))
 have e3:=zM (T:= 129) place_keyed Tryz.underlying129 hb2 hl zaL _ hf2
 have e4:=zaE (P:= Tryz.prog) 129 hb2 (e.born:Int) (.int .i64 2) (zjn hN.stamped he)
 have hb3:=zJ (o':=.map (es.modify j fun x => { x with val:=.int .i64 2 }) clock) hb2
 obtain ⟨j5,hf5⟩:=zeT hN hp he hk (.int .i64 2) (setHeap (setHeap w.drew mb (.map es clock)) mb (.map (es.modify j fun x => { x with val:=.int .i64 2 }) clock))
 have e5:=zM (T:= 129) place_keyed Tryz.underlying129 hb3 hl zaL _ hf5
 have hM2:=(((Mods.refl [mb] w).drew).setHeap (r:=mb) (.inl (by simp)) (.map es clock)).setHeap (r:=mb) (.inl (by simp)) (.map (es.modify j fun x => { x with val:=.int .i64 2 }) clock)
 have hkv:keyP (t,s.data.toList) = .agg #[.int .i64 t,.string s]:=rfl
 simp only [Option.map_some,Option.getD_some,hv,hv2] at e1 e2 e3 e5
 rw [hkv] at e1 e2 e3 e5
 generalize setHeap w.drew mb (.map es clock)=w1 at *
 generalize setHeap w1 mb (.map (es.modify j fun x => { x with val:=.int .i64 2 }) clock)=w2 at *
 clear hb2 hf2 hf hf5 hb1 hb3 hb hfa he hk hv hv2 hsame hkv hN hp hn
 go_enter Tryz.func81, Tryz.ntmps81
 go_wp2_with fail
 go_region
 clear e1 e2 e3 e4
 go_wp2_with fail
 go_ret
 exact ⟨rfl,hM2⟩
open Go.RowKit
set_option linter.unusedVariables false
structure Col where
 name:ByteArray
 k:Int
 s:Int
 null:Bool
def Col.nm (c:Col):List UInt8:=c.name.data.toList
def Col.good (c:Col):Bool:=nameL c.nm && tyRight c.k c.s
structure Tbl where
 name:ByteArray
 cols:List Col
def Tbl.nm (t:Tbl):List UInt8:=t.name.data.toList
abbrev Met:=List (Int × List UInt8)
def colsK (k:Int):Met → List Col → Option Met
 | met,[] => some met
 | met,c :: cs => if (k,c.nm) ∈ met then none else if nameL c.nm=true then (if tyRight c.k c.s=true then colsK k ((k,c.nm) :: met) cs else none) else none
def tblK (k:Int) (met:Met) (t:Tbl):Option Met:=
 match colsK k met t.cols with
 | none => none
 | some m => if (-1,t.nm) ∈ m then none else if nameL t.nm=true ∧ 1 ≤ t.cols.length ∧ t.cols.length ≤ 16 then some ((-1,t.nm) :: m) else none
def tblsK:Int → Met → List Tbl → Option Met
 | _,met,[] => some met
 | k,met,t :: ts => if 16 < t.cols.length then none else match tblK k met t with
  | none => none
  | some m => tblsK (k + 1) m ts
def tblOK (t:Tbl):Bool:=nameL t.nm && (decide (1 ≤ t.cols.length) && (decide (t.cols.length ≤ 16) && (t.cols.all Col.good && decide (t.cols.map Col.nm).Nodup)))
def tblsOK (l:List Tbl):Bool:=l.all tblOK && (decide (l.map Tbl.nm).Nodup && decide (l.length ≤ 16))
theorem zc6 (k:Int) (cs:List Col):∀ (met m:Met),colsK k met cs=some m ↔ (∀ c ∈ cs,c.good=true) ∧ (cs.map Col.nm).Nodup ∧ (∀ c ∈ cs,(k,c.nm) ∉ met) ∧ m=(cs.map fun c => (k,c.nm)).reverse ++ met:=by
 induction cs with
 | nil => intro met m; simp [colsK]; exact eq_comm
 | cons c cs ih =>
  intro met m
  unfold colsK
  by_cases h1:(k,c.nm) ∈ met
  ·rw [if_pos h1]
   constructor
   ·intro h; cases h
   ·intro h; exact absurd h1 (h.2.2.1 c List.mem_cons_self)
  rw [if_neg h1]
  by_cases h2:nameL c.nm=true
  ·rw [if_pos h2]
   by_cases h3:tyRight c.k c.s=true
   ·rw [if_pos h3,ih]
    have hg:c.good=true:=by simp [Col.good,h2,h3]
    constructor
    ·rintro ⟨a1,a2,a3,a4⟩
     refine ⟨fun x hx => ?_,?_,fun x hx => ?_,?_⟩
     ·rcases List.mem_cons.1 hx with rfl | hx
      ·exact hg
      ·exact a1 x hx
     ·rw [List.map_cons,List.nodup_cons]
      refine ⟨fun hm => ?_,a2⟩
      obtain ⟨x,hx,hxe⟩:=List.mem_map.1 hm
      exact a3 x hx (by rw [hxe]; exact List.mem_cons_self)
     ·rcases List.mem_cons.1 hx with rfl | hx
      ·exact h1
      ·exact fun hm => a3 x hx (List.mem_cons_of_mem _ hm)
     ·rw [a4]; simp
    ·rintro ⟨a1,a2,a3,a4⟩
     rw [List.map_cons,List.nodup_cons] at a2
     refine ⟨fun x hx => a1 x (List.mem_cons_of_mem _ hx),a2.2,fun x hx hm => ?_,by rw [a4]; simp⟩
     rcases List.mem_cons.1 hm with h | h
     ·have:x.nm=c.nm:=by simpa using h
      exact a2.1 (List.mem_map.2 ⟨x,hx,this⟩)
     ·exact a3 x (List.mem_cons_of_mem _ hx) h
   ·rw [if_neg h3]
    constructor
    ·intro h; cases h
    ·intro h
     have:=h.1 c List.mem_cons_self
     simp [Col.good,h3] at this
  ·rw [if_neg h2]
   constructor
   ·intro h; cases h
   ·intro h
    have:=h.1 c List.mem_cons_self
    simp [Col.good,h2] at this
theorem zen {k:Int} (hk:0 ≤ k) {met:Met} (hm:∀ p ∈ met,p.1 < k) (t:Tbl) (m:Met):tblK k met t=some m ↔ tblOK t=true ∧ (-1,t.nm) ∉ met ∧ m=(-1,t.nm) :: ((t.cols.map fun c => (k,c.nm)).reverse ++ met):=by
 unfold tblK
 cases hc:colsK k met t.cols with
 | none =>
  constructor
  ·intro h; cases h
  ·rintro ⟨h1,h2,h3⟩
   simp only [tblOK,Bool.and_eq_true,decide_eq_true_eq,List.all_eq_true] at h1
   have:=(zc6 k t.cols met _).2 ⟨h1.2.2.2.1,h1.2.2.2.2,fun c hc hx => by have:=hm _ hx; simp at this,rfl⟩
   rw [hc] at this; cases this
 | some m0 =>
  obtain ⟨a1,a2,a3,a4⟩:=(zc6 k t.cols met m0).1 hc
  have hmem:(-1,t.nm) ∈ m0 ↔ (-1,t.nm) ∈ met:=by
   rw [a4,List.mem_append]
   constructor
   ·rintro (h | h)
    ·rw [List.mem_reverse,List.mem_map] at h
     obtain ⟨c,-,hc⟩:=h
     have:=congrArg Prod.fst hc
     simp at this; omega
    ·exact h
   ·exact .inr
  have hok:tblOK t=true ↔ (nameL t.nm=true ∧ 1 ≤ t.cols.length ∧ t.cols.length ≤ 16):=by
   simp only [tblOK,Bool.and_eq_true,decide_eq_true_eq,List.all_eq_true]
   exact ⟨fun h => ⟨h.1,h.2.1,h.2.2.1⟩,fun h => ⟨h.1,h.2.1,h.2.2,a1,a2⟩⟩
  rw [hok]
  simp only
  by_cases h1:(-1,t.nm) ∈ m0
  ·rw [if_pos h1]
   constructor
   ·intro h; cases h
   ·intro h; exact absurd (hmem.1 h1) h.2.1
  ·rw [if_neg h1]
   by_cases h2:nameL t.nm=true ∧ 1 ≤ t.cols.length ∧ t.cols.length ≤ 16
   ·rw [if_pos h2,Option.some.injEq]
    constructor
    ·intro h
     exact ⟨h2,fun hx => h1 (hmem.2 hx),by rw [← h,a4]⟩
    ·intro h
     rw [h.2.2,a4]
   ·rw [if_neg h2]
    constructor
    ·intro h; cases h
    ·intro h; exact absurd h.1 h2
theorem zf9 (ts:List Tbl):∀ {k:Int} (hk:0 ≤ k) {met:Met} (hm:∀ p ∈ met,p.1 < k),(tblsK k met ts).isSome=true ↔ (∀ t ∈ ts,tblOK t=true) ∧ (ts.map Tbl.nm).Nodup ∧ (∀ t ∈ ts,(-1,t.nm) ∉ met):=by
 induction ts with
 | nil => intro k hk met hm; simp [tblsK]
 | cons t ts ih =>
  intro k hk met hm
  unfold tblsK
  by_cases h16:16 < t.cols.length
  ·rw [if_pos h16]
   constructor
   ·intro h; cases h
   ·intro h
    have:=h.1 t List.mem_cons_self
    simp only [tblOK,Bool.and_eq_true,decide_eq_true_eq,List.all_eq_true] at this
    omega
  rw [if_neg h16]
  cases ht:tblK k met t with
  | none =>
   simp only [Option.isSome_none]
   constructor
   ·intro h; cases h
   ·intro h
    have:=(zen hk hm t _).2 ⟨h.1 t List.mem_cons_self,h.2.2 t List.mem_cons_self,rfl⟩
    rw [ht] at this; cases this
  | some m =>
   obtain ⟨b1,b2,b3⟩:=(zen hk hm t m).1 ht
   have hm':∀ p ∈ m,p.1 < k + 1:=by
    intro p hp
    rw [b3] at hp
    rcases List.mem_cons.1 hp with rfl | hp
    ·simp; omega
    ·rcases List.mem_append.1 hp with hp | hp
     ·rw [List.mem_reverse,List.mem_map] at hp
      obtain ⟨c,-,rfl⟩:=hp
      simp; omega
     ·have:=hm p hp; omega
   have hmem:∀ x:List UInt8,(-1,x) ∈ m ↔ x=t.nm ∨ (-1,x) ∈ met:=by
    intro x
    rw [b3,List.mem_cons,List.mem_append]
    constructor
    ·rintro (h | h | h)
     ·left; simpa using h
     ·rw [List.mem_reverse,List.mem_map] at h
      obtain ⟨c,-,hc⟩:=h
      have:=congrArg Prod.fst hc
      simp at this; omega
     ·exact .inr h
    ·rintro (h | h)
     ·left; rw [h]
     ·exact .inr (.inr h)
   simp only
   rw [ih (by omega) hm']
   constructor
   ·rintro ⟨a1,a2,a3⟩
    refine ⟨fun x hx => ?_,?_,fun x hx => ?_⟩
    ·rcases List.mem_cons.1 hx with rfl | hx
     ·exact b1
     ·exact a1 x hx
    ·rw [List.map_cons,List.nodup_cons]
     refine ⟨fun hx => ?_,a2⟩
     obtain ⟨x,hx,hxe⟩:=List.mem_map.1 hx
     exact a3 x hx ((hmem x.nm).2 (.inl hxe))
    ·rcases List.mem_cons.1 hx with rfl | hx
     ·exact b2
     ·exact fun h => a3 x hx ((hmem x.nm).2 (.inr h))
   ·rintro ⟨a1,a2,a3⟩
    rw [List.map_cons,List.nodup_cons] at a2
    refine ⟨fun x hx => a1 x (List.mem_cons_of_mem _ hx),a2.2,fun x hx h => ?_⟩
    rcases (hmem x.nm).1 h with h | h
    ·exact a2.1 (List.mem_map.2 ⟨x,hx,h⟩)
    ·exact a3 x (List.mem_cons_of_mem _ hx) h
theorem zht (l:List Tbl):tblsOK l=((tblsK 0 [] l).isSome && decide (l.length ≤ 16)):=by
 have h:=zf9 l (k:=0) (by omega) (met:=[]) (by simp)
 rw [Bool.eq_iff_iff]
 simp only [tblsOK,Bool.and_eq_true,decide_eq_true_eq,List.all_eq_true,h]
 constructor
 ·rintro ⟨h1,h2,h3⟩; exact ⟨⟨h1,h2,by simp⟩,h3⟩
 ·rintro ⟨⟨h1,h2,-⟩,h3⟩; exact ⟨h1,h2,h3⟩
def Col.ok (c:Col):Prop:=((-9223372036854775808 ≤ c.k ∧ c.k ≤ 9223372036854775807) ∧ (-9223372036854775808 ≤ c.s ∧ c.s ≤ 9223372036854775807)) ∧ c.name.size ≤ 9223372036854775807
def Tbl.ok (t:Tbl):Prop:=t.name.size ≤ 9223372036854775807 ∧ t.cols.length ≤ 9223372036854775807 ∧ ∀ c ∈ t.cols,c.ok
def colC (c:Col):List Value:=[.string c.name,.int .i64 c.k,.int .i64 c.s,.bool c.null]
def ColsIn (w:World) (ao:Option Addr) (cs:List Col) (L:List Nat):Prop:=
 cs ≠ [] → ∃ b off,ao=some ⟨b,off,none⟩ ∧ b ∉ L ∧ ∀ i (h:i < cs.length),w.cell? ⟨b,off + i * 4,none⟩ = some (.string cs[i].name) ∧ w.cell? ⟨b,off + i * 4 + 1,none⟩ = some (.int .i64 cs[i].k) ∧ w.cell? ⟨b,off + i * 4 + 2,none⟩ = some (.int .i64 cs[i].s) ∧ w.cell? ⟨b,off + i * 4 + 3,none⟩ = some (.bool cs[i].null)
def TblsIn (w:World) (ao:Option Addr) (ts:List Tbl) (L:List Nat):Prop:=
 ts ≠ [] → ∃ b off,ao=some ⟨b,off,none⟩ ∧ b ∉ L ∧ ∀ i (h:i < ts.length),w.cell? ⟨b,off + i * 2,none⟩ = some (.string ts[i].name) ∧ ∃ co c,w.cell? ⟨b,off + i * 2 + 1,none⟩ = some (.slice co ts[i].cols.length c) ∧ ColsIn w co ts[i].cols L
theorem ColsIn.mods {w w':World} {ao:Option Addr} {cs:List Col} {L:List Nat} (h:ColsIn w ao cs L) (hM:Mods L w w'):ColsIn w' ao cs L:=by
 intro h0
 obtain ⟨tb,off,h1,h2,h3⟩:=h h0
 exact ⟨tb,off,h1,h2,fun i hi => ⟨hM.cell (h3 i hi).1 h2,hM.cell (h3 i hi).2.1 h2,hM.cell (h3 i hi).2.2.1 h2,hM.cell (h3 i hi).2.2.2 h2⟩⟩
theorem TblsIn.mods {w w':World} {ao:Option Addr} {ts:List Tbl} {L:List Nat} (h:TblsIn w ao ts L) (hM:Mods L w w'):TblsIn w' ao ts L:=by
 intro h0
 obtain ⟨tb,off,h1,h2,h3⟩:=h h0
 refine ⟨tb,off,h1,h2,fun i hi => ?_⟩
 obtain ⟨q1,co,c,q2,q3⟩:=h3 i hi
 exact ⟨hM.cell q1 h2,co,c,hM.cell q2 h2,q3.mods hM⟩
theorem ColsIn.apart {w:World} {ao:Option Addr} {cs:List Col} (h:ColsIn w ao cs []) {L:List Nat} (hL:∀ k ∈ L,w.heap.size ≤ k):ColsIn w ao cs L:=by
 intro h0
 obtain ⟨tb,off,h1,h2,h3⟩:=h h0
 refine ⟨tb,off,h1,fun hm => ?_,h3⟩
 have h4:tb < w.heap.size:=zz (h3 0 (List.length_pos_iff.2 h0)).1
 have:=hL tb hm
 omega
theorem TblsIn.apart {w:World} {ao:Option Addr} {ts:List Tbl} (h:TblsIn w ao ts []) {L:List Nat} (hL:∀ k ∈ L,w.heap.size ≤ k):TblsIn w ao ts L:=by
 intro h0
 obtain ⟨tb,off,h1,h2,h3⟩:=h h0
 refine ⟨tb,off,h1,fun hm => ?_,fun i hi => ?_⟩
 ·have h4:tb < w.heap.size:=zz (h3 0 (List.length_pos_iff.2 h0)).1
  have:=hL tb hm
  omega
 ·obtain ⟨q1,co,c,q2,q3⟩:=h3 i hi
  exact ⟨q1,co,c,q2,q3.apart hL⟩
structure V where
 z:Bool
 n:Int
 s:ByteArray
def V.ok (v:V):Prop:=(-9223372036854775808 ≤ v.n ∧ v.n ≤ 9223372036854775807) ∧ v.s.size ≤ 9223372036854775807
def ValsIn (w:World) (ao:Option Addr) (vs:List V) (L:List Nat):Prop:=
 vs ≠ [] → ∃ tb off,ao=some ⟨tb,off,none⟩ ∧ tb ∉ L ∧ ∀ i (h:i < vs.length),w.cell? ⟨tb,off + i * 3,none⟩ = some (.bool vs[i].z) ∧ w.cell? ⟨tb,off + i * 3 + 1,none⟩ = some (.int .i64 vs[i].n) ∧ w.cell? ⟨tb,off + i * 3 + 2,none⟩ = some (.string vs[i].s)
def RowsIn (w:World) (ao:Option Addr) (rs:List (List V)) (L:List Nat):Prop:=
 rs ≠ [] → ∃ rb off,ao=some ⟨rb,off,none⟩ ∧ rb ∉ L ∧ ∀ i (h:i < rs.length),∃ vo c,rs[i].length ≤ c ∧ w.cell? ⟨rb,off + i,none⟩ = some (.slice vo rs[i].length c) ∧ ValsIn w vo rs[i] L
end Go.Proofs.YtgdpaieechgahaaGreatDoor
