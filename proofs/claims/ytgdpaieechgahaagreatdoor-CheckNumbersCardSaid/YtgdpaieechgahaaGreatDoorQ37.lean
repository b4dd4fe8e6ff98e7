/-
  schema's names.fresh and names.right, walked: a table's names are noted. No condition but that Go's own variables hold what they were laid with.
-/
import Derived.Test.YtgdpaieechgahaaGreatDoorQ36
namespace Go.Proofs.YtgdpaieechgahaaGreatDoor
open Go.RowKit
open Go.Maps
set_option linter.unusedVariables false
def NMap (w:World) (mb:Nat) (met:Met):Prop:=∃ es clock,w.heap[mb]? = some (.map es clock) ∧ NRow es clock met
theorem NMap.mods {w w':World} {mb:Nat} {met:Met} {L:List Nat} (h:NMap w mb met) (hM:Mods L w w') (hn:mb ∉ L):NMap w' mb met:=by
 obtain ⟨es,c,h1,h2⟩:=h
 exact ⟨es,c,hM.heap h1 hn,h2⟩
theorem zeo (w0 w:World) (hT:Tabs w0) (hM0:Mods [] w0 w) (mb:Nat) (hmb:w0.heap.size ≤ mb) (met:Met) (hN:NMap w mb met) (t:Int) (s:ByteArray) (hp:okP (t,s.data.toList)) :
  Calls Tryz.prog 81 #[.map (some mb),.int .i64 t,.string s] w fun e w' => e = .returned (.bool (!decide ((t,s.data.toList) ∈ met) && nameL s.data.toList)) ∧ Mods [mb] w w' ∧ ((t,s.data.toList) ∉ met → NMap w' mb ((t,s.data.toList) :: met)):=by
 obtain ⟨es,clock,hb,hR⟩:=hN
 by_cases hn:(t,s.data.toList) ∈ met
 ·refine (zhs w mb es clock hb met hR t s hp hn).mono fun e w' h => ⟨?_,h.2,fun h2 => absurd hn h2⟩
  rw [h.1]; simp [hn]
 ·refine (zhr w0 w hT hM0 mb hmb es clock hb met hR t s hp hn).mono fun e w' h => ⟨?_,h.2.1,fun _ => h.2.2⟩
  rw [h.1]; simp [hn]
theorem zft {α:Type} {l:List α} {i:Nat} (h:i < l.length):l.drop i=l[i] :: l.drop (i + 1):=List.drop_eq_getElem_cons h
theorem zga (k:Int) (met:Met) (c:Col) (cs:List Col):colsK k met (c :: cs)=if (k,c.nm) ∈ met then none else if nameL c.nm=true then (if tyRight c.k c.s=true then colsK k ((k,c.nm) :: met) cs else none) else none:=rfl
set_option maxRecDepth 100000 in
set_option maxHeartbeats 1000000 in
theorem zhu (w0 w:World) (hT:Tabs w0) (hM0:Mods [] w0 w) (mb:Nat) (hmb:w0.heap.size ≤ mb) (hmw:mb < w.heap.size) (met:Met) (hN:NMap w mb met) (k:Int) (hk : -9223372036854775808 ≤ k ∧ k ≤ 9223372036854775807) (t:Tbl) (ht:t.ok) (n:Nat) (hn:t.cols.length=n) (co:Option Addr) (cap:Nat) (hC:ColsIn w co t.cols [mb]) :
  Calls Tryz.prog 52 #[.map (some mb),.int .i64 k,.agg #[.string t.name,.slice co n cap]] w fun e w' => e = .returned (.bool (tblK k met t).isSome) ∧ Mods [mb] w w' ∧ ∀ m,tblK k met t=some m → NMap w' mb m:=by
 obtain ⟨hnm,hcl,hco⟩:=ht
 have hMA:=((Mods.refl [mb] w).alloc (.cells #[.string t.name,.slice co n cap] 98))
 have hb5:=heap_alloc_new w (.cells #[.string t.name,.slice co n cap] 98)
 have hNA:=hN.mods ((Mods.refl [] w).alloc (.cells #[.string t.name,.slice co n cap] 98)) (by simp)
 have hneq:w.heap.size ≠ mb:=by omega
 have hmw1:mb < (w.alloc (.cells #[.string t.name,.slice co n cap] 98)).heap.size:=by rw [zk]; omega
 have HC:=Lib.hid hC
 have HN:=Lib.hid hn
 have HCO:=Lib.hid hco
 have HRES:Hid (∀ x w',tblK k met t=x → Mods [mb] w w' → (∀ m,x=some m → NMap w' mb m) → (Ending.returned (.bool x.isSome):Ending) = .returned (.bool (tblK k met t).isSome) ∧ Mods [mb] w w' ∧ ∀ m,tblK k met t=some m → NMap w' mb m):=Lib.hid (fun x w' h1 h2 h3 => ⟨by rw [h1],h2,fun m hm => h3 m (by rw [← h1,hm])⟩)
 clear hC hn hN hco
 go_enter Tryz.func52, Tryz.ntmps52
 go_wp2_with fail
 generalize w.alloc (.cells #[.string t.name,.slice co n cap] 98)=w1 at *
 generalize w.heap.size=tb at *
 go_loopw [12] (fun t12 wr => ∃ (i:Nat) (m:Met),i ≤ n ∧ t12 = .int .i64 i ∧ Mods [mb] w1 wr ∧ NMap wr mb m ∧ Hid (colsK k met t.cols=colsK k m (t.cols.drop i))) (fun t12 _ => n - (intOf t12).toNat)
 case atStart => exact ⟨0,met,by omega,rfl,Mods.refl _ _,hNA,Lib.hid rfl⟩
 case round =>
  clear hNA
  obtain ⟨i,m,hi,rfl,hM,hN,HK⟩:=hrel
  by_cases hlt:i < n
  ·have hil:i < t.cols.length:=by rw [HN.out]; exact hlt
   have hne:t.cols ≠ []:=fun h => by rw [h] at hil; simp at hil
   obtain ⟨cb,off,rfl,hcb,hcells⟩:=HC.out hne
   obtain ⟨c0,c1,c2,c3⟩:=hcells i hil
   have hMx:=hMA.trans hM (by simp)
   have d0:=hMx.cell c0 hcb
   have d1:=hMx.cell c1 hcb
   have d2:=hMx.cell c2 hcb
   have d3:=hMx.cell c3 hcb
   have hK:=HK.out
   rw [zft hil,zga] at hK
   have hcok:=HCO.out _ (List.getElem_mem hil)
   obtain ⟨c,hc⟩ : ∃ c,t.cols[i]=c:=⟨_,rfl⟩
   rw [hc] at d0 d1 d2 d3 hK hcok
   clear c0 c1 c2 c3 hc hcells HK
   have hp:okP (k,c.name.data.toList):=⟨hk,hcok.2⟩
   have hMB:=(Mods.refl [] wr).alloc (.cells #[.string c.name,.int .i64 c.k,.int .i64 c.s,.bool c.null] 96)
   have hM0r:Mods [] w0 (wr.alloc (.cells #[.string c.name,.int .i64 c.k,.int .i64 c.s,.bool c.null] 96)):=(hM0.trans (hMx.trans hMB (by simp)) (fun x hx => .inr (by simp at hx; omega)))
   have hfr:=zeo w0 _ hT hM0r mb hmb m (hN.mods hMB (by simp)) k c.name hp
   have hty:=fun W => za8 c.k c.s W
   have hKK:=Lib.hid hK
   clear hM0r hK hp hcok
   go_wp2_with fail
   (with_reducible refine hfr.mono ?_)
   rintro e w2 ⟨rfl,hM2,hN2⟩
   clear hfr
   have hM2x:=hMx.trans (hMB.mono (L':=[mb]) (by simp)) (by simp)
   have hM3:=hM2x.trans hM2 (by simp)
   have hlt2:=hM.size
   have hne2:wr.heap.size ≠ mb:=by omega
   have hb9:=hM2.heap (heap_alloc_new wr (.cells #[.string c.name,.int .i64 c.k,.int .i64 c.s,.bool c.null] 96)) (by simpa using hne2)
   have e1:=za hb9 1
   have e2:=za hb9 2
   change w2.cell? _=some (.int .i64 c.k) at e1
   change w2.cell? _=some (.int .i64 c.s) at e2
   generalize wr.heap.size=cbk at *
   cases hb:(!decide ((k,c.name.data.toList) ∈ m) && nameL c.name.data.toList) with
   | false =>
    have hno:tblK k met t=none:=by
     unfold tblK
     rw [hKK.out]
     by_cases h1:(k,c.nm) ∈ m
     ·rw [if_pos h1]
     ·rw [if_neg h1]
      have:¬ nameL c.nm=true:=by
       intro h2
       have:(!decide ((k,c.nm) ∈ m) && nameL c.nm)=true:=by rw [h2]; simp [h1]
       rw [show (!decide ((k,c.nm) ∈ m) && nameL c.nm)=false from hb] at this
       cases this
      rw [if_neg this]
    have fin:=Lib.hid (fun w' h => HRES.out none w' hno h (fun m hm => by cases hm))
    clear hno hKK HRES hN2 hM2 hM2x hb
    go_wp2_with fail
    go_ret
    exact fin.out _ hM3
   | true =>
    simp only [Bool.and_eq_true,Bool.not_eq_true',decide_eq_false_iff_not] at hb
    obtain ⟨hb1,hb2⟩:=hb
    have hN3:=hN2 hb1
    have hK:=hKK.out
    rw [if_neg (show ¬ (k,c.nm) ∈ m from hb1),if_pos (show nameL c.nm=true from hb2)] at hK
    clear hKK hN2 hb1 hb2
    cases htr:tyRight c.k c.s with
    | false =>
     rw [htr] at hK hty
     rw [if_neg (by decide)] at hK
     have hno:tblK k met t=none:=by
      unfold tblK
      rw [hK]
     have fin:=Lib.hid (fun w' h => HRES.out none w' hno h (fun m hm => by cases hm))
     clear hno hK HRES hM2 hM2x htr hN3
     go_wp2_with fail
     (with_reducible refine (hty _).mono ?_)
     rintro e w3 ⟨rfl,hM4⟩
     go_wp2_with fail
     go_ret
     exact fin.out _ (hM3.trans hM4 (by simp))
    | true =>
     rw [htr] at hK hty
     rw [if_pos rfl] at hK
     have hKn:=Lib.hid hK
     have hM12:=(hM.trans (hMB.mono (L':=[mb]) (by simp)) (by simp)).trans hM2 (by simp)
     clear hK HRES hM2 hM2x htr
     go_wp2_with fail
     (with_reducible refine (hty _).mono ?_)
     rintro e w3 ⟨rfl,hM4⟩
     have hM1:Mods [mb] w1 w3:=hM12.trans hM4 (by simp)
     go_wp2_with fail
     go_roundw
     case measure => simp [intOf]; omega
     case rel => exact ⟨i + 1,_,by omega,by go_num,hM1,hN3.mods hM4 (by simp),hKn⟩
  ·obtain rfl:n=i:=by omega
   have hK:=HK.out
   have hnl:t.cols.length=n:=HN.out
   rw [List.drop_of_length_le (by omega)] at hK
   change colsK k met t.cols=some m at hK
   have hMx:=hMA.trans hM (by simp)
   have hbr:=hM.heap hb5 (by simpa using hneq)
   have hM0r:Mods [] w0 wr:=hM0.trans hMx (fun x hx => .inr (by simp at hx; omega))
   have hp:okP (-1,t.name.data.toList):=⟨⟨by show (-9223372036854775808:Int) ≤ -1; omega,by show (-1:Int) ≤ _; omega⟩,hnm⟩
   have hfr:=zeo w0 _ hT hM0r mb hmb m hN (-1) t.name hp
   have hT1:tblK k met t=if (-1,t.nm) ∈ m then none else if nameL t.nm=true ∧ 1 ≤ t.cols.length ∧ t.cols.length ≤ 16 then some ((-1,t.nm) :: m) else none:=by
    unfold tblK
    rw [hK]
   rw [hnl] at hT1
   have HT1:=Lib.hid hT1
   clear hT1 hK HK hM0r hp hnl
   have e0:=za hbr 0
   have e1:=za hbr 1
   change wr.cell? _=some (.string t.name) at e0
   change wr.cell? _=some (.slice co n cap) at e1
   go_wp2_with fail
   (with_reducible refine hfr.mono ?_)
   rintro e w2 ⟨rfl,hM2,hN2⟩
   clear hfr
   have g1:=hM2.cell e1 (by simpa using hneq)
   have hM3:=hMx.trans hM2 (by simp)
   cases hb:(!decide ((-1,t.name.data.toList) ∈ m) && nameL t.name.data.toList) with
   | false =>
    have hno:tblK k met t=none:=by
     rw [HT1.out]
     by_cases h1:(-1,t.nm) ∈ m
     ·rw [if_pos h1]
     ·rw [if_neg h1]
      have:¬ nameL t.nm=true:=by
       intro h2
       have:(!decide ((-1,t.nm) ∈ m) && nameL t.nm)=true:=by rw [h2]; simp [h1]
       rw [show (!decide ((-1,t.nm) ∈ m) && nameL t.nm)=false from hb] at this
       cases this
      rw [if_neg (fun h => this h.1)]
    have fin:=Lib.hid (fun w' h => HRES.out none w' hno h (fun m hm => by cases hm))
    clear hno HT1 HRES hN2 hM2 hb
    go_wp2_with fail
    go_ret
    exact fin.out _ hM3
   | true =>
    simp only [Bool.and_eq_true,Bool.not_eq_true',decide_eq_false_iff_not] at hb
    obtain ⟨hb1,hb2⟩:=hb
    have hN3:=hN2 hb1
    have hK:=HT1.out
    rw [if_neg (show ¬ (-1,t.nm) ∈ m from hb1)] at hK
    by_cases hrng:1 ≤ n ∧ n ≤ 16
    ·rw [if_pos ⟨hb2,hrng⟩] at hK
     have fin:=Lib.hid (fun w' h h2 => HRES.out _ w' hK h h2)
     clear hK HT1 HRES hN2 hM2 hb1 hb2
     have z1:(1:Int) ≤ n:=by omega
     have z2:(n:Int) ≤ 16:=by omega
     go_wp2_with fail
     go_ret
     exact fin.out _ hM3 (fun m' hm => by cases hm; exact hN3)
    ·rw [if_neg (fun h => hrng h.2)] at hK
     have fin:=Lib.hid (fun w' h => HRES.out none w' hK h (fun m hm => by cases hm))
     clear hK HT1 HRES hN2 hM2 hb1 hb2
     by_cases z1:(1:Int) ≤ n
     ·have z2:=decide_eq_false (show ¬ (n:Int) ≤ 16 by omega)
      go_wp2_with fail
      go_ret
      exact fin.out _ hM3
     ·have z3:=decide_eq_false z1
      go_wp2_with fail
      go_ret
      exact fin.out _ hM3
open Go.RowKit
open Go.Maps
set_option linter.unusedVariables false
theorem zgb (k:Int) (met:Met) (t:Tbl) (ts:List Tbl):tblsK k met (t :: ts)=if 16 < t.cols.length then none else match tblK k met t with
  | none => none
  | some m => tblsK (k + 1) m ts:=rfl
theorem ziG:NRow #[] 0 []:=⟨⟨by simp,by simp,by simp⟩,by simp,by simp,by simp⟩
set_option maxRecDepth 100000 in
set_option maxHeartbeats 1000000 in
theorem zgc (w:World) (hT:Tabs w) (l:List Tbl) (hl:∀ t ∈ l,t.ok) (n:Nat) (hn:l.length=n) (hn63:n ≤ 9223372036854775807) (ao:Option Addr) (cap:Nat) (hI:TblsIn w ao l []) :
  Calls Tryz.prog 21 #[.slice ao n cap] w fun e w' => e = .returned (.bool (tblsOK l)) ∧ Mods [] w w':=by
 have hN0:NMap (w.alloc (.map #[] 0)) w.heap.size []:=⟨#[],0,heap_alloc_new w _,ziG⟩
 have hMA:=(Mods.refl [] w).alloc (.map #[] 0)
 have hsz:=zk w (.map #[] 0)
 have FIN:Hid (∀ x w',(tblsK 0 [] l).isSome=x → Mods [] w w' → (x && decide (n ≤ 16))=tblsOK l ∧ Mods [] w w'):=Lib.hid (fun x w' h1 h2 => ⟨by rw [zht,h1,hn],h2⟩)
 have HN:=Lib.hid hn
 have HI:=Lib.hid (And.intro hI hl)
 clear hn hI hl
 have hmm:=@run_makeMap Tryz.prog
 go_enter Tryz.func21, Tryz.ntmps21
 go_wp2_with fail
 clear hmm
 obtain ⟨mb,hmb⟩ : ∃ mb,w.heap.size=mb:=⟨_,rfl⟩
 rw [hmb] at hN0 hsz ⊢
 have hge:w.heap.size ≤ mb:=by omega
 generalize w.alloc (.map #[] 0)=w1 at *
 go_loopw [9] (fun t9 wr => ∃ (i:Nat) (m:Met),i ≤ n ∧ t9 = .int .i64 i ∧ Mods [mb] w1 wr ∧ NMap wr mb m ∧ Hid (tblsK 0 [] l=tblsK i m (l.drop i))) (fun t9 _ => n - (intOf t9).toNat)
 case atStart => exact ⟨0,[],by omega,rfl,Mods.refl _ _,hN0,Lib.hid rfl⟩
 case round =>
  clear hN0
  obtain ⟨i,m,hi,rfl,hM,hN,HK⟩:=hrel
  have hMx:Mods [] w wr:=hMA.trans hM (fun x hx => .inr (by simp at hx; omega))
  have hsr:=hM.size
  by_cases hlt:i < n
  ·have hil:i < l.length:=by rw [HN.out]; exact hlt
   have hne:l ≠ []:=fun h => by rw [h] at hil; simp at hil
   obtain ⟨lb,off,rfl,hlb,hcells⟩:=HI.out.1 hne
   obtain ⟨c0,co,cc,c1,hC⟩:=hcells i hil
   have d0:=hMx.cell c0 (by simp)
   have d1:=hMx.cell c1 (by simp)
   have hC2:=(hC.apart (L:=[mb]) (fun x hx => by simp at hx; omega)).mods (hMx.mono (by simp))
   have htok:=HI.out.2 _ (List.getElem_mem hil)
   have hK:=HK.out
   rw [zft hil,zgb] at hK
   obtain ⟨t,ht⟩ : ∃ t,l[i]=t:=⟨_,rfl⟩
   rw [ht] at d0 d1 hC2 htok hK
   obtain ⟨nc,hnc⟩ : ∃ nc,t.cols.length=nc:=⟨_,rfl⟩
   rw [hnc] at d1 hK
   have hnc63:nc ≤ 9223372036854775807:=by rw [← hnc]; exact htok.2.1
   clear c0 c1 hC ht hcells HK
   have hMB:=(Mods.refl [] wr).alloc (.cells #[.string t.name,.slice co nc cc] 98)
   have hrg:=zhu w _ hT (hMx.trans hMB (by simp)) mb hge (by rw [zk]; omega) m (hN.mods hMB (by simp)) i (by omega) t htok nc hnc co cc (hC2.mods (hMB.mono (by simp)))
   have HKK:=Lib.hid hK
   have hMB1:=hM.trans (hMB.mono (L':=[mb]) (by simp)) (by simp)
   clear hK hC2 htok hN hnc hMB
   by_cases h16:16 < nc
   ·have hno:(tblsK 0 [] l).isSome=false:=by rw [HKK.out,if_pos h16]; rfl
    have fin:=Lib.hid (fun w' h => FIN.out false w' hno h)
    have z1:(16:Int) < nc:=by omega
    clear hno HKK FIN hrg
    go_wp2_with fail
    go_ret
    exact ⟨zar (fin.out _ hMx).1,hMx.alloc _⟩
   ·have z1:¬ (16:Int) < nc:=by omega
    have z2:=decide_eq_false z1
    have hK2:=HKK.out
    rw [if_neg h16] at hK2
    go_wp2_with fail
    (with_reducible refine hrg.mono ?_)
    rintro e w2 ⟨rfl,hM2,hN2⟩
    clear hrg
    have hM3:=hMB1.trans hM2 (by simp)
    cases htb:tblK i m t with
    | none =>
     rw [htb] at hK2
     have hno:(tblsK 0 [] l).isSome=false:=by rw [hK2]; rfl
     have fin:=Lib.hid (fun w' h => FIN.out false w' hno h)
     have hMf:Mods [] w w2:=hMA.trans hM3 (fun x hx => .inr (by simp at hx; omega))
     clear hno HKK FIN hK2
     go_wp2_with fail
     go_ret
     exact ⟨zar (fin.out _ hMf).1,hMf⟩
    | some m2 =>
     rw [htb] at hK2
     have HK3:=Lib.hid hK2
     have hN3:=hN2 m2 htb
     clear HKK hK2 hN2 FIN
     go_wp2_with fail
     go_roundw
     case measure => simp [intOf]; omega
     case rel => exact ⟨i + 1,m2,by omega,by go_num,hM3,hN3,Lib.hid (by rw [HK3.out]; congr 1)⟩
  ·obtain rfl:n=i:=by omega
   have hK:=HK.out
   rw [List.drop_of_length_le (by have:=HN.out; omega)] at hK
   change tblsK 0 [] l=some m at hK
   have hyes:(tblsK 0 [] l).isSome=true:=by rw [hK]; rfl
   have fin:=Lib.hid (fun w' h => FIN.out true w' hyes h)
   clear hK HK hyes FIN
   go_wp2_with fail
   go_ret
   refine ⟨zar ?_,hMx⟩
   rw [← (fin.out _ hMx).1,Bool.true_and,decide_eq_decide]
   omega
open Go.RowKit
open Go.Maps
set_option linter.unusedVariables false
def findV (l:List ByteArray) (s:ByteArray):Value:=
 match l.findIdx? (fun x => decide (x=s)) with
 | some i => .tuple #[.int .i64 i,.bool true]
 | none => .tuple #[.int .i64 0,.bool false]
theorem zgd {l:List ByteArray} {s:ByteArray} {i:Nat} (hi:i < l.length) (h:l[i]=s) (hb:∀ j (hj:j < l.length),j < i → l[j] ≠ s):findV l s = .tuple #[.int .i64 i,.bool true]:=by
 have:l.findIdx? (fun x => decide (x=s))=some i:=by
  rw [List.findIdx?_eq_some_iff_getElem]
  exact ⟨hi,by simp [h],fun j hj => by simpa using hb j (by omega) hj⟩
 unfold findV
 rw [this]
theorem zge {l:List ByteArray} {s:ByteArray} (hb:∀ j (hj:j < l.length),l[j] ≠ s):findV l s = .tuple #[.int .i64 0,.bool false]:=by
 have:l.findIdx? (fun x => decide (x=s))=none:=by
  rw [List.findIdx?_eq_none_iff]
  intro x hx
  obtain ⟨j,hj,rfl⟩:=List.getElem_of_mem hx
  simpa using hb j hj
 unfold findV
 rw [this]
def NotYet (l:List ByteArray) (s:ByteArray) (i:Nat):Prop:=∀ j (hj:j < l.length),j < i → l[j] ≠ s
theorem NotYet.next {l:List ByteArray} {s:ByteArray} {i:Nat} (h:NotYet l s i) (hi:i < l.length) (hn:l[i] ≠ s):NotYet l s (i + 1):=by
 intro j hj hji
 by_cases he:j=i
 ·subst he; exact hn
 ·exact h j hj (by omega)
set_option maxRecDepth 100000 in
theorem zcE (w:World) (x:ByteArray) (v:Value) (hv:v.oneCell'=true):Calls Tryz.prog 85 #[.agg #[.string x,v]] w fun e w' => e = .returned (.string x) ∧ Mods [] w w':=by
 have hM:=(Mods.refl [] w).alloc (.cells #[.string x,v] 98)
 go_enter Tryz.func85, Tryz.ntmps85
 go_wp2_with fail
 go_ret
 exact ⟨rfl,hM⟩
set_option maxRecDepth 100000 in
set_option maxHeartbeats 1000000 in
theorem zeU (w:World) (l:List Tbl) (n:Nat) (hn:l.length=n) (hn63:n ≤ 9223372036854775807) (ao:Option Addr) (cap:Nat) (hI:TblsIn w ao l []) (s:ByteArray) :
  Calls Tryz.prog 84 #[.slice ao n cap,.string s,.func (.func 85) #[] #[]] w fun e w' => e = .returned (findV (l.map Tbl.name) s) ∧ Mods [] w w':=by
 have HN:=Lib.hid hn
 have HI:=Lib.hid hI
 clear hn hI
 go_enter Tryz.func84, Tryz.ntmps84
 go_wp2_with fail
 go_loopw [12] (fun t12 wr => ∃ (i:Nat),i ≤ n ∧ t12 = .int .i64 i ∧ Mods [] w wr ∧ NotYet (l.map Tbl.name) s i) (fun t12 _ => n - (intOf t12).toNat)
 case atStart => exact ⟨0,by omega,rfl,Mods.refl _ _,fun j _ h => by omega⟩
 case round =>
  obtain ⟨i,hi,rfl,hM,hY⟩:=hrel
  by_cases hlt:i < n
  ·have hil:i < l.length:=by rw [HN.out]; exact hlt
   have hne:l ≠ []:=fun h => by rw [h] at hil; simp at hil
   obtain ⟨cb,off,rfl,hcb,hcells⟩:=HI.out hne
   obtain ⟨c0,co,cc,c1,hC⟩:=hcells i hil
   have d0:=hM.cell c0 (by simp)
   have d1:=hM.cell c1 (by simp)
   have hml:i < (l.map Tbl.name).length:=by simpa using hil
   have hme:(l.map Tbl.name)[i]=l[i].name:=by simp
   obtain ⟨c,hc⟩ : ∃ c,l[i]=c:=⟨_,rfl⟩
   rw [hc] at d0 d1 hme
   obtain ⟨nc,hnc⟩ : ∃ nc,c.cols.length=nc:=⟨_,rfl⟩
   rw [hnc] at d1
   clear c0 c1 hC hc hcells hcb hnc
   have hMB:=(Mods.refl [] wr).alloc (.cells #[.string c.name,.slice co nc cc] 98)
   have hMx:=hM.trans hMB (by simp)
   by_cases heq:c.name=s
   ·have fin:Hid (findV (l.map Tbl.name) s = .tuple #[.int .i64 i,.bool true]):=Lib.hid (zgd hml (by rw [hme,heq]) hY)
    obtain rfl:=heq
    clear hY hme hml
    go_wp2_with fail
    (with_reducible refine (zcE _ _ _ rfl).mono ?_)
    rintro e w2 ⟨rfl,hM2⟩
    go_wp2_with fail
    go_ret2
    exact ⟨by rw [fin.out]; rfl,hMx.trans hM2 (by simp)⟩
   ·have hY2:NotYet (l.map Tbl.name) s (i + 1):=hY.next hml (by rw [hme]; exact heq)
    have z2:¬ c.name.toList=s.toList:=by
     rw [ByteArray.toList_eq,ByteArray.toList_eq]
     intro h
     exact heq (ByteArray.ext (Array.toList_inj.1 h))
    have z1:(c.name.toList == s.toList)=false:=by rw [beq_eq_false_iff_ne]; exact z2
    clear hY hme hml
    go_wp2_with fail
    (with_reducible refine (zcE _ _ _ rfl).mono ?_)
    rintro e w2 ⟨rfl,hM2⟩
    go_wp2_with fail
    go_roundw
    case measure => simp [intOf]; omega
    case rel => exact ⟨i + 1,by omega,by go_num,hMx.trans hM2 (by simp),hY2⟩
  ·obtain rfl:n=i:=by omega
   have fin:Hid (findV (l.map Tbl.name) s = .tuple #[.int .i64 0,.bool false]):=Lib.hid (zge (fun j hj => hY j hj (by have:=HN.out; simp at hj; omega)))
   clear hY
   go_wp2_with fail
   go_ret2
   exact ⟨by rw [fin.out]; rfl,hM⟩
theorem zc7 (l:List ByteArray) (s:ByteArray):∃ (i:Nat) (b:Bool),findV l s = .tuple #[.int .i64 i,.bool b]:=by
 unfold findV
 split
 ·exact ⟨_,_,rfl⟩
 ·exact ⟨0,false,rfl⟩
set_option maxRecDepth 100000 in
theorem zcF (w:World) (l:List Tbl) (n:Nat) (hn:l.length=n) (hn63:n ≤ 9223372036854775807) (ao:Option Addr) (cap:Nat) (hI:TblsIn w ao l []) (s:ByteArray) :
  Calls Tryz.prog 54 #[.slice ao n cap,.string s] w fun e w' => e = .returned (findV (l.map Tbl.name) s) ∧ Mods [] w w':=by
 have hf:=zeU w l n hn hn63 ao cap hI s
 obtain ⟨i,b,hib⟩:=zc7 (l.map Tbl.name) s
 rw [hib] at hf ⊢
 clear hib
 go_enter Tryz.func54, Tryz.ntmps54
 go_wp2_with fail
 (with_reducible refine hf.mono ?_)
 rintro e w2 ⟨rfl,hM2⟩
 go_wp2_with fail
 go_ret2
 exact ⟨rfl,hM2⟩
end Go.Proofs.YtgdpaieechgahaaGreatDoor
