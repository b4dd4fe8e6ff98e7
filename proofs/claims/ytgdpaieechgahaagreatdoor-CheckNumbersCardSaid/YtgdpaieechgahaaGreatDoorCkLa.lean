/-
  check.typed, walked: some operators. No condition but that Go's own variables hold what they were laid with.
-/
import Derived.Test.YtgdpaieechgahaaGreatDoorQ25
namespace Go.Proofs.YtgdpaieechgahaaGreatDoor
open Go.RowKit
set_option linter.unusedVariables false
set_option maxRecDepth 100000 in
set_option maxHeartbeats 4000000 in
theorem zcb (w:World) (hV:CkVars w) (op:Bs) (us:List Value) (ts:List Ty) (n:Nat) (hn:us.length=n) (htn:ts.length=n) (hn2:n ≤ 2) (ao:Option Addr) (cap:Nat)
  (hao:0 < n → ∃ c,ao=some ⟨c,0,none⟩ ∧ ∀ i (hi:i < us.length),w.cell? ⟨c,i,none⟩ = some us[i])
  (hop:op=oAll ∨ op=oCount ∨ op=oNeg ∨ op=oSum ∨ op=oMin)
  (har:(op=oPlus ∨ op=oMinus ∨ op=oTimes ∨ op=oOver) → (ts.getD 0 tyNone).Right ∧ (ts.getD 1 tyNone).Right)
  (hts:∀ i (hi:i < us.length) (hx:i < ts.length),∃ nb,us[i]=PtrV nb ∧ w.cell? ⟨nb,1,none⟩ = some (.int .i64 ts[i].k) ∧ w.cell? ⟨nb,2,none⟩ = some (.int .i64 ts[i].s)) :
  Calls Tryz.prog 87 #[.string ⟨op.toArray⟩,.slice ao n cap] w (RuleRes (typedV op (ts.getD 0 tyNone) (ts.getD 1 tyNone)) w):=by
 obtain ⟨S,hS⟩ : ∃ S:ByteArray,(⟨op.toArray⟩ : ByteArray)=S:=⟨_,rfl⟩
 rw [hS]
 obtain ⟨RR,hRR⟩ : ∃ RR,RuleRes (typedV op (ts.getD 0 tyNone) (ts.getD 1 tyNone)) w=RR:=⟨_,rfl⟩
 rw [hRR]
 have HRR:=Lib.hid hRR
 clear hRR
 have HH:=Lib.hid (And.intro hV (And.intro hn (And.intro htn (And.intro hao (And.intro hts hS)))))
 have HP:=Lib.hid (And.intro hop har)
 clear hV hn htn hao hts hS hop har
 have hmk:=zdL
 go_enter Tryz.func87, Tryz.ntmps87
 go_wp2_with fail
 have hM1:=(((Mods.refl [] w).alloc (.cells #[.string S] 9)).alloc (.cells #[.int .i64 0,.int .i64 0] 26)).alloc (.cells #[.int .i64 0,.int .i64 0,.int .i64 0,.int .i64 0] 26)
 have hM3:=hM1.alloc (.cells #[.slice (some ⟨w.heap.size + 1 + 1,0,none⟩) 2 2] 195)
 have k0:=((((Mods.refl [] (w.alloc (.cells #[.string S] 9))).alloc (.cells #[.int .i64 0,.int .i64 0] 26)).alloc (.cells #[.int .i64 0,.int .i64 0,.int .i64 0,.int .i64 0] 26)).alloc (.cells #[.slice (some ⟨w.heap.size + 1 + 1,0,none⟩) 2 2] 195)).heap (heap_alloc_new w _) (by simp)
 have k1:=(((Mods.refl [] ((w.alloc (.cells #[.string S] 9)).alloc (.cells #[.int .i64 0,.int .i64 0] 26))).alloc (.cells #[.int .i64 0,.int .i64 0,.int .i64 0,.int .i64 0] 26)).alloc (.cells #[.slice (some ⟨w.heap.size + 1 + 1,0,none⟩) 2 2] 195)).heap (heap_alloc_new (w.alloc (.cells #[.string S] 9)) _) (by simp)
 have k2:=((Mods.refl [] (((w.alloc (.cells #[.string S] 9)).alloc (.cells #[.int .i64 0,.int .i64 0] 26)).alloc (.cells #[.int .i64 0,.int .i64 0,.int .i64 0,.int .i64 0] 26))).alloc (.cells #[.slice (some ⟨w.heap.size + 1 + 1,0,none⟩) 2 2] 195)).heap (heap_alloc_new ((w.alloc (.cells #[.string S] 9)).alloc (.cells #[.int .i64 0,.int .i64 0] 26)) _) (by simp)
 have k3:=heap_alloc_new (((w.alloc (.cells #[.string S] 9)).alloc (.cells #[.int .i64 0,.int .i64 0] 26)).alloc (.cells #[.int .i64 0,.int .i64 0,.int .i64 0,.int .i64 0] 26)) (.cells #[.slice (some ⟨w.heap.size + 1 + 1,0,none⟩) 2 2] 195)
 simp only [zk] at k1 k2 k3
 generalize (((w.alloc (.cells #[.string S] 9)).alloc (.cells #[.int .i64 0,.int .i64 0] 26)).alloc (.cells #[.int .i64 0,.int .i64 0,.int .i64 0,.int .i64 0] 26)).alloc (.cells #[.slice (some ⟨w.heap.size + 1 + 1,0,none⟩) 2 2] 195)=w3 at *
 clear hM1 hmk
 obtain ⟨ob,hob⟩ : ∃ x,w.heap.size=x:=⟨_,rfl⟩
 obtain ⟨rb,hrb⟩ : ∃ x,ob + 1=x:=⟨_,rfl⟩
 obtain ⟨sb,hsb⟩ : ∃ x,rb + 1=x:=⟨_,rfl⟩
 obtain ⟨tb,htb⟩ : ∃ x,sb + 1=x:=⟨_,rfl⟩
 simp only [hob,hrb,hsb,htb] at k0 k1 k2 k3
 rw [hob,hrb,hsb,htb]
 have HB:=Lib.hid (And.intro hob (And.intro hrb (And.intro hsb htb)))
 have HK:=Lib.hid (And.intro hM3 (And.intro k0 (And.intro k1 (And.intro k2 k3))))
 have n1:sb ≠ ob:=by omega
 have n2:sb ≠ rb:=by omega
 have n3:sb ≠ tb:=by omega
 clear hob hrb hsb htb hM3 k0 k1 k2 k3
 go_loopg [19] n (fun gk t19 wr => ∃ i:Nat,i + gk=n ∧ t19 = .int .i64 i ∧ wr.heap[sb]? = some (.cells (tRow ts i) 26 (0,0)) ∧ Mods [sb] w3 wr)
 case atStart => exact ⟨0,by omega,rfl,HK.out.2.2.2.1,Mods.refl _ _⟩
 obtain ⟨i,hin,rfl,hrow,hMr⟩:=hrel
 by_cases hlt:i < n
 ·obtain ⟨c,rfl,hcells⟩:=HH.out.2.2.2.1 (by omega)
  have hiu:i < us.length:=by rw [HH.out.2.1]; exact hlt
  have hit:i < ts.length:=by rw [HH.out.2.2.1]; exact hlt
  have hw3:Mods [] w w3:=HK.out.1
  have hMw:Mods [sb] w wr:=(hw3.mono (L':=[sb]) (by simp)).trans hMr (by simp)
  have hold:∀ p v,w.cell? p=some v → wr.cell? p=some v:=fun p v h => hMw.cell h (by
   have:=zz h
   have:=HB.out
   simp; omega)
  have e0:=hold _ _ (hcells i hiu)
  obtain ⟨nb,hu,e1,e2⟩:=HH.out.2.2.2.2.1 i hiu hit
  rw [hu] at e0
  have e1:=hold _ _ e1
  have e2:=hold _ _ e2
  have e3:wr.cell? ⟨tb,0,none⟩ = some (.slice (some ⟨sb,0,none⟩) 2 2):=za (hMr.heap HK.out.2.2.2.2 (by simp; omega)) 0
  have hg:ts[i]=ts.getD i tyNone:=by simp [hit]
  rw [hg] at e1 e2
  unfold PtrV at e0
  clear hold hcells hu hg hw3 hMw
  have q0:=za hrow 0
  have q1:=za hrow 1
  have q2:=za hrow 2
  have q3:=za hrow 3
  have f0:=zd hrow 0
  have f1:=zd hrow 1
  have f2:=zd hrow 2
  have f3:=zd hrow 3
  have hi2:i=0 ∨ i=1:=by omega
  obtain ⟨T,hT⟩ : ∃ T,ts.getD i tyNone=T:=⟨_,rfl⟩
  rw [hT] at e1 e2
  have HR:=Lib.hid (And.intro hrow (And.intro hMr hT))
  clear hrow hMr hT
  rcases hi2 with rfl | rfl
  ·go_upto_region 5 with fail
   go_still_tail 7,(by kernel_rfl)
   change wpList _ _ _ _ _ wr.drew
   have hz:wr.drew.heap=wr.heap:=rfl
   have HZ:=Lib.hid (And.intro hz (show Mods [sb] wr wr.drew from (Mods.refl _ _).drew))
   have HT:wr.drew.there sb 0 2:=fun j hj => by
    have hj2:j=0 ∨ j=1:=by omega
    rcases hj2 with rfl | rfl
    ·exact ⟨(congrArg Option.isSome q0).trans rfl,f0⟩
    ·exact ⟨(congrArg Option.isSome q1).trans rfl,f1⟩
   generalize wr.drew=wd at *
   clear hz e0 e1 e2 e3
   refine wpList_store_mid rfl 26 (.tmp 30) (.tmp 29) rfl sb 0 #[.int .i64 T.k,.int .i64 T.s] rfl rfl HT zj (zv _ _) ?_
   go_wp2_with fail
   go_roundg (n - (0 + 1))
   case measure => omega
   case rel =>
    refine ⟨0 + 1,by omega,by go_num,?_,((HR.out.2.1.trans HZ.out.2 (by simp)).setCell (.inl (by simp)) _).setCell (.inl (by simp)) _⟩
    have h0:=HR.out.1
    rw [← HZ.out.1] at h0
    have h2:=zb (zb h0 0 (.int .i64 T.k)) 1 (.int .i64 T.s)
    exact h2.trans (by rw [← HR.out.2.2]; rfl)
  ·go_upto_region 5 with fail
   go_still_tail 7,(by kernel_rfl)
   change wpList _ _ _ _ _ wr.drew
   have hz:wr.drew.heap=wr.heap:=rfl
   have HZ:=Lib.hid (And.intro hz (show Mods [sb] wr wr.drew from (Mods.refl _ _).drew))
   have HT:wr.drew.there sb 2 2:=fun j hj => by
    have hj2:j=0 ∨ j=1:=by omega
    rcases hj2 with rfl | rfl
    ·exact ⟨(congrArg Option.isSome q2).trans rfl,f2⟩
    ·exact ⟨(congrArg Option.isSome q3).trans rfl,f3⟩
   generalize wr.drew=wd at *
   clear hz e0 e1 e2 e3
   refine wpList_store_mid rfl 26 (.tmp 30) (.tmp 29) rfl sb 2 #[.int .i64 T.k,.int .i64 T.s] rfl rfl HT zj (zv _ _) ?_
   go_wp2_with fail
   go_roundg (n - (1 + 1))
   case measure => omega
   case rel =>
    refine ⟨1 + 1,by omega,by go_num,?_,((HR.out.2.1.trans HZ.out.2 (by simp)).setCell (.inl (by simp)) _).setCell (.inl (by simp)) _⟩
    have h0:=HR.out.1
    rw [← HZ.out.1] at h0
    have h2:=zb (zb h0 2 (.int .i64 T.k)) 3 (.int .i64 T.s)
    exact h2.trans (by rw [← HR.out.2.2]; rfl)
 ·obtain rfl:n=i:=by omega
  have hw3:Mods [] w w3:=HK.out.1
  have hMw:Mods [sb] w wr:=(hw3.mono (L':=[sb]) (by simp)).trans hMr (by simp)
  have hold:∀ p v,w.cell? p=some v → wr.cell? p=some v:=fun p v h => hMw.cell h (by
   have:=zz h
   have:=HB.out
   simp; omega)
  have hV:CkVars wr:=⟨⟨hold _ _ HH.out.1.1.1,hold _ _ HH.out.1.1.2⟩,hold _ _ HH.out.1.2.1,hold _ _ HH.out.1.2.2⟩
  have hw0:Mods [] w wr:=hMw.mono (by have:=HB.out; simp; omega)
  rw [zb6 HH.out.2.2.1 hn2] at hrow
  have htc:wr.cell? ⟨tb,0,none⟩ = some (.slice (some ⟨sb,0,none⟩) 2 2):=za (hMr.heap HK.out.2.2.2.2 (by simp; omega)) 0
  have hTT:TwoT wr tb (ts.getD 0 tyNone) (ts.getD 1 tyNone):=⟨sb,za (hMr.heap HK.out.2.2.2.2 (by simp; omega)) 0,za hrow 0,za hrow 1,za hrow 2,za hrow 3⟩
  have hO:=hMr.heap HK.out.2.1 (by simp; omega)
  have hR:=hMr.heap HK.out.2.2.1 (by simp; omega)
  have c0:wr.cell? ⟨ob,0,none⟩ = some (.string S):=za hO 0
  have hmm:=@run_makeMap Tryz.prog
  have hu:=fun (w:World) (es:Array MapEntry) (c:Nat) (k:ByteArray) (v:Value) => zI (P:= Tryz.prog) 198 9 196 .string Tryz.underlying198 Tryz.underlying9 w es c (.string k) v (by simp [MapKept.IsKey])
  have i1:=fun w => hu w #[] 0 ⟨oAll.toArray⟩ (.func (.func 111) #[] #[]) rfl
  have i2:=fun w => hu w ((rulesE ob tb).take 1).toArray 1 ⟨oNeg.toArray⟩ (.func (.func 112) #[] #[PtrV tb]) rfl
  have i3:=fun w => hu w ((rulesE ob tb).take 2).toArray 2 ⟨oMin.toArray⟩ (.func (.func 114) #[] #[PtrV tb]) rfl
  have i4:=fun w => hu w ((rulesE ob tb).take 3).toArray 3 ⟨oIs.toArray⟩ (.func (.func 115) #[] #[]) rfl
  have i5:=fun w => hu w ((rulesE ob tb).take 4).toArray 4 ⟨oNot.toArray⟩ (.func (.func 116) #[] #[PtrV tb]) rfl
  have i6:=fun w => hu w ((rulesE ob tb).take 5).toArray 5 ⟨oAnd.toArray⟩ (.func (.func 117) #[] #[PtrV tb]) rfl
  have i7:=fun w => hu w ((rulesE ob tb).take 6).toArray 6 ⟨oPlus.toArray⟩ (.func (.func 118) #[] #[PtrV ob,PtrV tb]) rfl
  simp [rulesE,bstr,PtrV,oAll,oNeg,oMin,oIs,oNot,oAnd,oPlus] at i1 i2 i3 i4 i5 i6 i7
  have HQ:=Lib.hid (And.intro hV (And.intro hw0 (And.intro hTT (And.intro hO (And.intro hR (And.intro hrow htc))))))
  clear hold hw3 hMw hMr hrow hV hw0 hTT hO hR hu htc
  go_upto_region 8 with fail
  clear i1 i2 i3 i4 i5 i6 i7
  have hMm:=(Mods.refl [] wr).alloc (.map (rulesE ob tb).toArray 7)
  have hm1:=heap_alloc_new wr (.map (rulesE ob tb).toArray 7)
  have c1:=hMm.cell c0 (by simp)
  change Code.wp _ _ _ _ (wr.alloc (.map (rulesE ob tb).toArray 7))
  generalize wr.alloc (.map (rulesE ob tb).toArray 7)=w6 at *
  obtain ⟨m1,hm1e⟩ : ∃ m1,wr.heap.size=m1:=⟨_,rfl⟩
  rw [hm1e] at hm1 ⊢
  have hu:=fun (w:World) (es:Array MapEntry) (c:Nat) (k:ByteArray) (v:Value) => zI (P:= Tryz.prog) 199 9 9 .string Tryz.underlying199 Tryz.underlying9 w es c (.string k) v (by simp [MapKept.IsKey])
  have j1:=fun w => hu w #[] 0 ⟨oCount.toArray⟩ (bstr oAll) rfl
  have j2:=fun w => hu w (sameE.take 1).toArray 1 ⟨oSum.toArray⟩ (bstr oNeg) rfl
  have j3:=fun w => hu w (sameE.take 2).toArray 2 ⟨oMax.toArray⟩ (bstr oMin) rfl
  have j4:=fun w => hu w (sameE.take 3).toArray 3 ⟨oIsNot.toArray⟩ (bstr oIs) rfl
  have j5:=fun w => hu w (sameE.take 4).toArray 4 ⟨oOr.toArray⟩ (bstr oAnd) rfl
  have j6:=fun w => hu w (sameE.take 5).toArray 5 ⟨oMinus.toArray⟩ (bstr oPlus) rfl
  have j7:=fun w => hu w (sameE.take 6).toArray 6 ⟨oTimes.toArray⟩ (bstr oPlus) rfl
  have j8:=fun w => hu w (sameE.take 7).toArray 7 ⟨oOver.toArray⟩ (bstr oPlus) rfl
  simp [sameE,bstr,oCount,oAll,oSum,oNeg,oMax,oMin,oIsNot,oIs,oOr,oAnd,oMinus,oPlus,oTimes,oOver] at j1 j2 j3 j4 j5 j6 j7 j8
  have HM:=Lib.hid (And.intro hMm (And.intro hm1 hm1e))
  have d0:=((Mods.refl [] w6).alloc (.map sameE.toArray 8)).cell c1 (by simp)
  clear hMm hm1 hu hm1e c0
  go_upto_region 9 with fail
  clear j1 j2 j3 j4 j5 j6 j7 j8 hmm
  have hMn:=(Mods.refl [] w6).alloc (.map sameE.toArray 8)
  have hm2:=heap_alloc_new w6 (.map sameE.toArray 8)
  change Code.wp _ _ _ _ (w6.alloc (.map sameE.toArray 8))
  generalize w6.alloc (.map sameE.toArray 8)=w7 at *
  generalize w6.heap.size=m2 at *
  clear c1
  have hMx:Mods [] wr w7:=HM.out.1.trans hMn (by simp)
  have hm1:=hMn.heap HM.out.2.1 (by simp)
  have hV7:=HQ.out.1.later hMx
  have hT7:=HQ.out.2.2.1.later hMx
  have hR7:=hMx.heap HQ.out.2.2.2.2.1 (by simp)
  have hw7:=HQ.out.2.1.trans hMx (by simp)
  obtain ⟨hop,har⟩:=HP.out
  generalize ts.getD 0 tyNone=A at hT7 har HRR HQ
  generalize ts.getD 1 tyNone=B at hT7 har HRR HQ
  have hrbw:w.heap.size ≤ rb:=by have:=HB.out; omega
  rcases hop with rfl | rfl | rfl | rfl | rfl
  ·obtain rfl:S = ⟨#[99,111,117,110,116,97,108,108]⟩:=HH.out.2.2.2.2.2.symm
   have l1:(Instr.lookup 199 (.map (some m2)) (.string ⟨#[99,111,117,110,116,97,108,108]⟩) true).run Tryz.prog w7 = .ok (.tuple #[.string ⟨#[]⟩,.bool false]) w7:=zo 199 9 9 .string Tryz.underlying199 Tryz.underlying9 hm2 (.string ⟨#[99,111,117,110,116,97,108,108]⟩) (.string ⟨#[]⟩) (fun w => by kernel_rfl) (by simp [MapKept.IsKey]) none rfl
   have l2:(Instr.lookup 198 (.map (some m1)) (.string ⟨#[99,111,117,110,116,97,108,108]⟩) true).run Tryz.prog w7 = .ok (.tuple #[.func (.func 111) #[] #[],.bool true]) w7:=zo 198 9 196 .string Tryz.underlying198 Tryz.underlying9 hm1 (.string ⟨#[99,111,117,110,116,97,108,108]⟩) .nilFunc (fun w => by kernel_rfl) (by simp [MapKept.IsKey]) (some (0,.func (.func 111) #[] #[])) rfl
   have hcall:Calls Tryz.prog 111 #[] w7 (RuleRes (typedV oAll A B) w7):=(zfp w7 hV7).mono fun e w9 h => RuleRes.of (t:=tyInt) rfl (fun u h => by cases h; rfl) h
   obtain ⟨ok,hok⟩ : ∃ ok,(typedV oAll A B).isSome=ok:=⟨_,rfl⟩
   unfold PtrV at hcall
   have HOK:=Lib.hid hok
   clear hok har hm1 hm2 hV7 hT7
   go_wp2_with fail
   (with_reducible refine hcall.mono ?_)
   intro e w8 hres
   obtain ⟨⟨t,he,htu⟩,hM8⟩:=hres
   rw [HOK.out] at he
   subst he
   unfold tyA
   have hr8:=hM8.heap hR7 (by simp)
   have HT:=Lib.hid htu
   clear hcall l1 l2 htu
   go_wp2_with (refine wpList_store_row rfl 26 (.tmp 4) (.tmp 80) rfl rb #[.int .i64 t.k,.int .i64 t.s] rfl rfl 26 _ hr8 zj rfl (zv _ _) ?_)
   refine bodyPost_ret (zg rfl _ _ rb 26 #[.int .i64 t.k,.int .i64 t.s] (0,0) _ rfl (zh _ hr8) Tryz.underlying26 rfl zj _ rfl) rfl ?_
   rw [← HRR.out]
   exact ⟨⟨t,by rw [HOK.out]; rfl,HT.out⟩,(hw7.trans hM8 (by simp)).setRow (.inr hrbw) _⟩
  ·obtain rfl:S = ⟨#[99,111,117,110,116]⟩:=HH.out.2.2.2.2.2.symm
   have l1:(Instr.lookup 199 (.map (some m2)) (.string ⟨#[99,111,117,110,116]⟩) true).run Tryz.prog w7 = .ok (.tuple #[.string ⟨#[99,111,117,110,116,97,108,108]⟩,.bool true]) w7:=zo 199 9 9 .string Tryz.underlying199 Tryz.underlying9 hm2 (.string ⟨#[99,111,117,110,116]⟩) (.string ⟨#[]⟩) (fun w => by kernel_rfl) (by simp [MapKept.IsKey]) (some (0,bstr oAll)) rfl
   have l2:(Instr.lookup 198 (.map (some m1)) (.string ⟨#[99,111,117,110,116,97,108,108]⟩) true).run Tryz.prog w7 = .ok (.tuple #[.func (.func 111) #[] #[],.bool true]) w7:=zo 198 9 196 .string Tryz.underlying198 Tryz.underlying9 hm1 (.string ⟨#[99,111,117,110,116,97,108,108]⟩) .nilFunc (fun w => by kernel_rfl) (by simp [MapKept.IsKey]) (some (0,.func (.func 111) #[] #[])) rfl
   have hcall:Calls Tryz.prog 111 #[] w7 (RuleRes (typedV oCount A B) w7):=(zfp w7 hV7).mono fun e w9 h => RuleRes.of (t:=tyInt) rfl (fun u h => by cases h; rfl) h
   obtain ⟨ok,hok⟩ : ∃ ok,(typedV oCount A B).isSome=ok:=⟨_,rfl⟩
   unfold PtrV at hcall
   have HOK:=Lib.hid hok
   clear hok har hm1 hm2 hV7 hT7
   go_wp2_with fail
   (with_reducible refine hcall.mono ?_)
   intro e w8 hres
   obtain ⟨⟨t,he,htu⟩,hM8⟩:=hres
   rw [HOK.out] at he
   subst he
   unfold tyA
   have hr8:=hM8.heap hR7 (by simp)
   have HT:=Lib.hid htu
   clear hcall l1 l2 htu
   go_wp2_with (refine wpList_store_row rfl 26 (.tmp 4) (.tmp 80) rfl rb #[.int .i64 t.k,.int .i64 t.s] rfl rfl 26 _ hr8 zj rfl (zv _ _) ?_)
   refine bodyPost_ret (zg rfl _ _ rb 26 #[.int .i64 t.k,.int .i64 t.s] (0,0) _ rfl (zh _ hr8) Tryz.underlying26 rfl zj _ rfl) rfl ?_
   rw [← HRR.out]
   exact ⟨⟨t,by rw [HOK.out]; rfl,HT.out⟩,(hw7.trans hM8 (by simp)).setRow (.inr hrbw) _⟩
  ·obtain rfl:S = ⟨#[110,101,103]⟩:=HH.out.2.2.2.2.2.symm
   have l1:(Instr.lookup 199 (.map (some m2)) (.string ⟨#[110,101,103]⟩) true).run Tryz.prog w7 = .ok (.tuple #[.string ⟨#[]⟩,.bool false]) w7:=zo 199 9 9 .string Tryz.underlying199 Tryz.underlying9 hm2 (.string ⟨#[110,101,103]⟩) (.string ⟨#[]⟩) (fun w => by kernel_rfl) (by simp [MapKept.IsKey]) none rfl
   have l2:(Instr.lookup 198 (.map (some m1)) (.string ⟨#[110,101,103]⟩) true).run Tryz.prog w7 = .ok (.tuple #[.func (.func 112) #[] #[.pointer (some ⟨tb,0,none⟩)],.bool true]) w7:=zo 198 9 196 .string Tryz.underlying198 Tryz.underlying9 hm1 (.string ⟨#[110,101,103]⟩) .nilFunc (fun w => by kernel_rfl) (by simp [MapKept.IsKey]) (some (1,.func (.func 112) #[] #[.pointer (some ⟨tb,0,none⟩)])) rfl
   have hcall:Calls Tryz.prog 112 #[PtrV tb] w7 (RuleRes (typedV oNeg A B) w7):=(zfq w7 tb A B hT7).mono fun e w9 h => RuleRes.of (o:=if A.num=true then some A else none) (t:=A) (by rw [zV]; cases A.num <;> rfl) zbV h
   obtain ⟨ok,hok⟩ : ∃ ok,(typedV oNeg A B).isSome=ok:=⟨_,rfl⟩
   unfold PtrV at hcall
   have HOK:=Lib.hid hok
   clear hok har hm1 hm2 hV7 hT7
   go_wp2_with fail
   (with_reducible refine hcall.mono ?_)
   intro e w8 hres
   obtain ⟨⟨t,he,htu⟩,hM8⟩:=hres
   rw [HOK.out] at he
   subst he
   unfold tyA
   have hr8:=hM8.heap hR7 (by simp)
   have HT:=Lib.hid htu
   clear hcall l1 l2 htu
   go_wp2_with (refine wpList_store_row rfl 26 (.tmp 4) (.tmp 80) rfl rb #[.int .i64 t.k,.int .i64 t.s] rfl rfl 26 _ hr8 zj rfl (zv _ _) ?_)
   refine bodyPost_ret (zg rfl _ _ rb 26 #[.int .i64 t.k,.int .i64 t.s] (0,0) _ rfl (zh _ hr8) Tryz.underlying26 rfl zj _ rfl) rfl ?_
   rw [← HRR.out]
   exact ⟨⟨t,by rw [HOK.out]; rfl,HT.out⟩,(hw7.trans hM8 (by simp)).setRow (.inr hrbw) _⟩
  ·obtain rfl:S = ⟨#[115,117,109]⟩:=HH.out.2.2.2.2.2.symm
   have l1:(Instr.lookup 199 (.map (some m2)) (.string ⟨#[115,117,109]⟩) true).run Tryz.prog w7 = .ok (.tuple #[.string ⟨#[110,101,103]⟩,.bool true]) w7:=zo 199 9 9 .string Tryz.underlying199 Tryz.underlying9 hm2 (.string ⟨#[115,117,109]⟩) (.string ⟨#[]⟩) (fun w => by kernel_rfl) (by simp [MapKept.IsKey]) (some (1,bstr oNeg)) rfl
   have l2:(Instr.lookup 198 (.map (some m1)) (.string ⟨#[110,101,103]⟩) true).run Tryz.prog w7 = .ok (.tuple #[.func (.func 112) #[] #[.pointer (some ⟨tb,0,none⟩)],.bool true]) w7:=zo 198 9 196 .string Tryz.underlying198 Tryz.underlying9 hm1 (.string ⟨#[110,101,103]⟩) .nilFunc (fun w => by kernel_rfl) (by simp [MapKept.IsKey]) (some (1,.func (.func 112) #[] #[.pointer (some ⟨tb,0,none⟩)])) rfl
   have hcall:Calls Tryz.prog 112 #[PtrV tb] w7 (RuleRes (typedV oSum A B) w7):=(zfq w7 tb A B hT7).mono fun e w9 h => RuleRes.of (o:=if A.num=true then some A else none) (t:=A) (by rw [zV]; cases A.num <;> rfl) zbV h
   obtain ⟨ok,hok⟩ : ∃ ok,(typedV oSum A B).isSome=ok:=⟨_,rfl⟩
   unfold PtrV at hcall
   have HOK:=Lib.hid hok
   clear hok har hm1 hm2 hV7 hT7
   go_wp2_with fail
   (with_reducible refine hcall.mono ?_)
   intro e w8 hres
   obtain ⟨⟨t,he,htu⟩,hM8⟩:=hres
   rw [HOK.out] at he
   subst he
   unfold tyA
   have hr8:=hM8.heap hR7 (by simp)
   have HT:=Lib.hid htu
   clear hcall l1 l2 htu
   go_wp2_with (refine wpList_store_row rfl 26 (.tmp 4) (.tmp 80) rfl rb #[.int .i64 t.k,.int .i64 t.s] rfl rfl 26 _ hr8 zj rfl (zv _ _) ?_)
   refine bodyPost_ret (zg rfl _ _ rb 26 #[.int .i64 t.k,.int .i64 t.s] (0,0) _ rfl (zh _ hr8) Tryz.underlying26 rfl zj _ rfl) rfl ?_
   rw [← HRR.out]
   exact ⟨⟨t,by rw [HOK.out]; rfl,HT.out⟩,(hw7.trans hM8 (by simp)).setRow (.inr hrbw) _⟩
  ·obtain rfl:S = ⟨#[109,105,110]⟩:=HH.out.2.2.2.2.2.symm
   have l1:(Instr.lookup 199 (.map (some m2)) (.string ⟨#[109,105,110]⟩) true).run Tryz.prog w7 = .ok (.tuple #[.string ⟨#[]⟩,.bool false]) w7:=zo 199 9 9 .string Tryz.underlying199 Tryz.underlying9 hm2 (.string ⟨#[109,105,110]⟩) (.string ⟨#[]⟩) (fun w => by kernel_rfl) (by simp [MapKept.IsKey]) none rfl
   have l2:(Instr.lookup 198 (.map (some m1)) (.string ⟨#[109,105,110]⟩) true).run Tryz.prog w7 = .ok (.tuple #[.func (.func 114) #[] #[.pointer (some ⟨tb,0,none⟩)],.bool true]) w7:=zo 198 9 196 .string Tryz.underlying198 Tryz.underlying9 hm1 (.string ⟨#[109,105,110]⟩) .nilFunc (fun w => by kernel_rfl) (by simp [MapKept.IsKey]) (some (2,.func (.func 114) #[] #[.pointer (some ⟨tb,0,none⟩)])) rfl
   have hcall:Calls Tryz.prog 114 #[PtrV tb] w7 (RuleRes (typedV oMin A B) w7):=(zej w7 tb A B hT7).mono fun e w9 h => RuleRes.of (t:=A) rfl (fun u h => by cases h; rfl) h
   obtain ⟨ok,hok⟩ : ∃ ok,(typedV oMin A B).isSome=ok:=⟨_,rfl⟩
   unfold PtrV at hcall
   have HOK:=Lib.hid hok
   clear hok har hm1 hm2 hV7 hT7
   go_wp2_with fail
   (with_reducible refine hcall.mono ?_)
   intro e w8 hres
   obtain ⟨⟨t,he,htu⟩,hM8⟩:=hres
   rw [HOK.out] at he
   subst he
   unfold tyA
   have hr8:=hM8.heap hR7 (by simp)
   have HT:=Lib.hid htu
   clear hcall l1 l2 htu
   go_wp2_with (refine wpList_store_row rfl 26 (.tmp 4) (.tmp 80) rfl rb #[.int .i64 t.k,.int .i64 t.s] rfl rfl 26 _ hr8 zj rfl (zv _ _) ?_)
   refine bodyPost_ret (zg rfl _ _ rb 26 #[.int .i64 t.k,.int .i64 t.s] (0,0) _ rfl (zh _ hr8) Tryz.underlying26 rfl zj _ rfl) rfl ?_
   rw [← HRR.out]
   exact ⟨⟨t,by rw [HOK.out]; rfl,HT.out⟩,(hw7.trans hM8 (by simp)).setRow (.inr hrbw) _⟩
end Go.Proofs.YtgdpaieechgahaaGreatDoor
