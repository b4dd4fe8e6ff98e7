/-
  check.typed, walked: what compares. No condition but that Go's own variables hold what they were laid with.
-/
import Derived.Test.YtcabeljiobiojaaGreatDoorCkLa
import Derived.Test.YtcabeljiobiojaaGreatDoorCkLb
import Derived.Test.YtcabeljiobiojaaGreatDoorCkLc
set_option linter.unusedVariables false
namespace Go.Proofs.YtcabeljiobiojaaGreatDoor
open Go.RowKit
theorem AR {p:Prop} (h:p:=by simp [h]):p:=h
theorem yfK {p:Prop} (h:p:=by
  apply zz AC 20 _ rfl 59 (.tmp 4) (.tmp 58) rfl rfl rfl AC AC rb #[.int .i64 4,.int .i64 0] _ _ hR7 zk rfl (zA 4 0)
  case hwalk =>exact yct
  case hxa => rfl
  case hya => rfl
  first
  |guard_hyp gGa
   case hend =>have gFR:=QH trivial;exact yfD
  |guard_hyp gGb
   case hend =>have gFS:=QH trivial;exact yfD
  |guard_hyp gGc
   case hend =>have gFT:=QH trivial;exact yfD
  |guard_hyp gGd
   case hend =>have gFU:=QH trivial;exact yfD
 ):p:=h
theorem yfD {p:Prop} (h:p:=by
  intro wz hMz;have hr4:=hMz.heap (zi (w:=w7.drew) #[.int .i64 4,.int .i64 0] hR7);have hfin:Mods [] w wz:=((HW.out.2.drew).setRow (.inr hrbw) #[.int .i64 4,.int .i64 0]).trans hMz;clear hMz FF hR7;go_wp2_with fail;refine bodyPost_ret (zg rfl _ _ rb 59 #[.int .i64 4,.int .i64 0] (0,0) _ rfl hr4 Tryz.underlying59 rfl zk _ rfl) rfl ?_;rw [← HRR.out,HW.out.1];refine ⟨⟨tyBool,?_,zej⟩,hfin⟩
  first
  |guard_hyp gFR
   rw [zaz,decide_eq_false (fun h => h.elim hne (fun h => by have q1:=h.1; have q2:=HN.out.1; first | (rw [q1] at q2; cases q2) | cases q1))];rfl
  |guard_hyp gFS
   rw [zaz,decide_eq_false (fun h => h.elim hne (fun h => by have q1:=h.2; have q2:=HN.out.2; first | (rw [q1] at q2; cases q2) | cases q1))];rfl
  |guard_hyp gFT
   rw [zaz,decide_eq_true (by first | exact .inr ⟨HN.out.1,HN.out.2⟩ | exact .inr ⟨rfl,rfl⟩ | exact .inr ⟨trivial,trivial⟩ | exact .inr trivial | simp)];rfl
  |guard_hyp gFU
   rw [zaz,decide_eq_true (by first | exact .inl rfl | exact .inl trivial)];rfl
 ):p:=h
theorem yct {p:Prop} (h:p:=by
  intro bb;obtain ⟨F1,F2,F3,F4,F5,F6,F7,K1,K2⟩:=FF.out bb;have HK1:=QH K1;have HK2:=QH K2;clear K1 K2;dsimp only [nop,List.set];(repeat go_big_quiet_step (first | with_reducible exact HK1.out _ | with_reducible exact HK2.out _));refine QW ?_;exact rfl
 ):p:=h
theorem yaf {p:Prop} (h:p:=by
  cases na with
  | false =>have gGa:=QH trivial;exact yfK
  | true =>
   cases nb with
   | false =>have gGb:=QH trivial;exact yfK
   | true =>have gGc:=QH trivial;exact yfK
 ):p:=h
set_option maxRecDepth 100000 in
set_option maxHeartbeats 16000000 in
theorem zoa (w:World) (hV:CkVars w) (op:Bs) (us:List Value) (ts:List Ty) (n:Nat) (hn:us.length=n) (htn:ts.length=n) (hn2:n ≤ 2) (ao:Option Addr) (cap:Nat)
  (hao:0 < n → ∃ c,ao=some ⟨c,0,none⟩ ∧ ∀ i (hi:i < us.length),w.cell? ⟨c,i,none⟩ = some us[i])
  (hrel:op ∈ rels)
  (har:(op=oPlus ∨ op=oMinus ∨ op=oTimes ∨ op=oOver) → (ts.getD 0 tyNone).Right ∧ (ts.getD 1 tyNone).Right)
  (hts:∀ i (hi:i < us.length) (hx:i < ts.length),∃ nb,us[i]=zh nb ∧ w.cell? ⟨nb,1,none⟩ = some (.int .i64 ts[i].k) ∧ w.cell? ⟨nb,2,none⟩ = some (.int .i64 ts[i].s)) :
  Calls Tryz.prog 97 #[.string ⟨op.toArray⟩,.slice ao n cap] w (RuleRes (zx op (ts.getD 0 tyNone) (ts.getD 1 tyNone)) w):=by
 obtain ⟨S,hS⟩:=EX ((⟨op.toArray⟩ : ByteArray):ByteArray);rw [hS];obtain ⟨RR,hRR⟩:=EX (RuleRes (zx op (ts.getD 0 tyNone) (ts.getD 1 tyNone)) w);rw [hRR];have HRR:=QH hRR;clear hRR;have HH:=QH (AI hV (AI hn (AI htn (AI hao (AI hts hS)))));have HP:=QH (AI hrel har);clear hV hn htn hao hts hS hrel har;have hmk:=zgL;go_enter Tryz.func97, Tryz.ntmps97;go_wp2_with fail;have hM1:=(((QM [] w).alloc (.cells #[.string S] 9)).alloc (.cells #[.int .i64 0,.int .i64 0] 59)).alloc (.cells #[.int .i64 0,.int .i64 0,.int .i64 0,.int .i64 0] 59);have hM3:=hM1.alloc (.cells #[.slice (some ⟨w.heap.size + 1 + 1,0,none⟩) 2 2] 249);have k0:=((((QM [] (w.alloc (.cells #[.string S] 9))).alloc (.cells #[.int .i64 0,.int .i64 0] 59)).alloc (.cells #[.int .i64 0,.int .i64 0,.int .i64 0,.int .i64 0] 59)).alloc (.cells #[.slice (some ⟨w.heap.size + 1 + 1,0,none⟩) 2 2] 249)).heap (QN w _);have k1:=(((QM [] ((w.alloc (.cells #[.string S] 9)).alloc (.cells #[.int .i64 0,.int .i64 0] 59))).alloc (.cells #[.int .i64 0,.int .i64 0,.int .i64 0,.int .i64 0] 59)).alloc (.cells #[.slice (some ⟨w.heap.size + 1 + 1,0,none⟩) 2 2] 249)).heap (QN (w.alloc (.cells #[.string S] 9)) _) AB;have k2:=((QM [] (((w.alloc (.cells #[.string S] 9)).alloc (.cells #[.int .i64 0,.int .i64 0] 59)).alloc (.cells #[.int .i64 0,.int .i64 0,.int .i64 0,.int .i64 0] 59))).alloc (.cells #[.slice (some ⟨w.heap.size + 1 + 1,0,none⟩) 2 2] 249)).heap (QN ((w.alloc (.cells #[.string S] 9)).alloc (.cells #[.int .i64 0,.int .i64 0] 59)) _) AB;have k3:=QN (((w.alloc (.cells #[.string S] 9)).alloc (.cells #[.int .i64 0,.int .i64 0] 59)).alloc (.cells #[.int .i64 0,.int .i64 0,.int .i64 0,.int .i64 0] 59)) (.cells #[.slice (some ⟨w.heap.size + 1 + 1,0,none⟩) 2 2] 249);simp only [zl] at k1 k2 k3;generalize (((w.alloc (.cells #[.string S] 9)).alloc (.cells #[.int .i64 0,.int .i64 0] 59)).alloc (.cells #[.int .i64 0,.int .i64 0,.int .i64 0,.int .i64 0] 59)).alloc (.cells #[.slice (some ⟨w.heap.size + 1 + 1,0,none⟩) 2 2] 249)=w3 at *;clear hM1 hmk;obtain ⟨ob,hob⟩:=EX (w.heap.size);obtain ⟨rb,hrb⟩:=EX (ob + 1);obtain ⟨sb,hsb⟩:=EX (rb + 1);obtain ⟨tb,htb⟩:=EX (sb + 1);simp only [hob,hrb,hsb,htb] at k0 k1 k2 k3;rw [hob,hrb,hsb,htb];have HB:=QH (AI hob (AI hrb (AI hsb htb)));have HK:=QH (AI hM3 (AI k0 (AI k1 (AI k2 k3))));have n1:sb ≠ ob:=by omega
 have n2:sb ≠ rb:=by omega
 have n3:sb ≠ tb:=by omega
 clear hob hrb hsb htb hM3 k0 k1 k2 k3;go_loopg [19] n (fun gk t19 wr => ∃ i:Nat,i + gk=n ∧ t19 = .int .i64 i ∧ wr.heap[sb]? = some (.cells (tRow ts i) 59 (0,0)) ∧ Mods [sb] w3 wr)
 case atStart => exact ⟨0,by omega,rfl,HK.out.2.2.2.1,QM _ _⟩
 obtain ⟨i,hin,rfl,hrow,hMr⟩:=hrel;by_cases hlt:i < n
 ·obtain ⟨c,rfl,hcells⟩:=HH.out.2.2.2.1 AA;have hiu:i < us.length:=by rw [HH.out.2.1]; exact hlt
  have hit:i < ts.length:=by rw [HH.out.2.2.1]; exact hlt
  have hw3:Mods [] w w3:=HK.out.1;have hMw:Mods [sb] w wr:=(hw3.mono (L':=[sb])).trans hMr
  have hold:∀ p v,w.cell? p=some v → wr.cell? p=some v:=fun p v h => hMw.cell h (by
   have:=zD h;have:=HB.out
   simp; omega)
  have e0:=hold _ _ (hcells i hiu);obtain ⟨nb,hu,e1,e2⟩:=HH.out.2.2.2.2.1 i hiu hit;rw [hu] at e0;have e1:=hold _ _ e1;have e2:=hold _ _ e2;have e3:wr.cell? ⟨tb,0,none⟩ = some (.slice (some ⟨sb,0,none⟩) 2 2):=za (hMr.heap HK.out.2.2.2.2 AE) 0;have hg:ts[i]=ts.getD i tyNone:=by simp [hit]
  rw [hg] at e1 e2;unfold zh at e0;clear hold hcells hu hg hw3 hMw;have q0:=za hrow 0;have q1:=za hrow 1;have q2:=za hrow 2;have q3:=za hrow 3;have f0:=zc hrow 0;have f1:=zc hrow 1;have f2:=zc hrow 2;have f3:=zc hrow 3;have hi2:i=0 ∨ i=1:=by omega
  obtain ⟨T,hT⟩:=EX (ts.getD i tyNone);rw [hT] at e1 e2;have HR:=QH (AI hrow (AI hMr hT));clear hrow hMr hT;rcases hi2 with rfl | rfl
  ·go_upto_region 5 with fail;go_still_tail 7,AC;change wpList _ _ _ _ _ wr.drew;have hz:wr.drew.heap=wr.heap:=rfl;have HZ:=QH (AI hz (show Mods [sb] wr wr.drew from (QM _ _).drew));have HT:wr.drew.there sb 0 2:=fun j hj => by
    have hj2:j=0 ∨ j=1:=by omega
    rcases hj2 with rfl | rfl
    ·exact ⟨(congrArg Option.isSome q0).trans rfl,f0⟩
    ·exact ⟨(congrArg Option.isSome q1).trans rfl,f1⟩
   generalize wr.drew=wd at *;clear hz e0 e1 e2 e3;refine wpList_store_mid rfl 59 (.tmp 30) (.tmp 29) rfl sb 0 #[.int .i64 T.k,.int .i64 T.s] rfl rfl HT zk (zA _ _) ?_;go_wp2_with fail;go_roundg (n - (0 + 1))
   case measure => omega
   case rel =>refine ⟨0 + 1,by omega,by go_num,?_,((HR.out.2.1.trans HZ.out.2).setCell (.inl AB) _).setCell (.inl AB) _⟩;have h0:=HR.out.1;rw [← HZ.out.1] at h0;have h2:=zb (zb h0 0 (.int .i64 T.k)) 1 (.int .i64 T.s);exact h2.trans (by rw [← HR.out.2.2]; rfl)
  ·go_upto_region 5 with fail;go_still_tail 7,AC;change wpList _ _ _ _ _ wr.drew;have hz:wr.drew.heap=wr.heap:=rfl;have HZ:=QH (AI hz (show Mods [sb] wr wr.drew from (QM _ _).drew));have HT:wr.drew.there sb 2 2:=fun j hj => by
    have hj2:j=0 ∨ j=1:=by omega
    rcases hj2 with rfl | rfl
    ·exact ⟨(congrArg Option.isSome q2).trans rfl,f2⟩
    ·exact ⟨(congrArg Option.isSome q3).trans rfl,f3⟩
   generalize wr.drew=wd at *;clear hz e0 e1 e2 e3;refine wpList_store_mid rfl 59 (.tmp 30) (.tmp 29) rfl sb 2 #[.int .i64 T.k,.int .i64 T.s] rfl rfl HT zk (zA _ _) ?_;go_wp2_with fail;go_roundg (n - (1 + 1))
   case measure => omega
   case rel =>refine ⟨1 + 1,by omega,by go_num,?_,((HR.out.2.1.trans HZ.out.2).setCell (.inl AB) _).setCell (.inl AB) _⟩;have h0:=HR.out.1;rw [← HZ.out.1] at h0;have h2:=zb (zb h0 2 (.int .i64 T.k)) 3 (.int .i64 T.s);exact h2.trans (by rw [← HR.out.2.2]; rfl)
 ·obtain rfl:n=i:=by omega
  have hw3:Mods [] w w3:=HK.out.1;have hMw:Mods [sb] w wr:=(hw3.mono (L':=[sb])).trans hMr
  have hold:∀ p v,w.cell? p=some v → wr.cell? p=some v:=fun p v h => hMw.cell h (by
   have:=zD h;have:=HB.out
   simp; omega)
  have hV:CkVars wr:=⟨⟨hold _ _ HH.out.1.1.1,hold _ _ HH.out.1.1.2⟩,hold _ _ HH.out.1.2.1,hold _ _ HH.out.1.2.2⟩;have hw0:Mods [] w wr:=hMw.mono (by have:=HB.out; simp; omega);rw [zew HH.out.2.2.1 hn2] at hrow;have htc:wr.cell? ⟨tb,0,none⟩ = some (.slice (some ⟨sb,0,none⟩) 2 2):=za (hMr.heap HK.out.2.2.2.2 AE) 0;have hTT:TwoT wr tb (ts.getD 0 tyNone) (ts.getD 1 tyNone):=⟨sb,za (hMr.heap HK.out.2.2.2.2 AE) 0,za hrow 0,za hrow 1,za hrow 2,za hrow 3⟩;have hO:=hMr.heap HK.out.2.1 AE;have hR:=hMr.heap HK.out.2.2.1 AE;have c0:wr.cell? ⟨ob,0,none⟩ = some (.string S):=za hO 0;have hmm:=@run_makeMap Tryz.prog;have hu:=fun (w:World) (es:Array MapEntry) (c:Nat) (k:ByteArray) (v:Value) => zZ (P:= Tryz.prog) 251 9 250 .string Tryz.underlying251 Tryz.underlying9 w es c (.string k) v AG;have i1:=fun w => hu w #[] 0 ⟨oAll.toArray⟩ (.func (.func 132) #[] #[]) rfl;have i2:=fun w => hu w ((zO ob tb).take 1).toArray 1 ⟨oNeg.toArray⟩ (.func (.func 133) #[] #[zh tb]) rfl;have i3:=fun w => hu w ((zO ob tb).take 2).toArray 2 ⟨oMin.toArray⟩ (.func (.func 135) #[] #[zh tb]) rfl;have i4:=fun w => hu w ((zO ob tb).take 3).toArray 3 ⟨oIs.toArray⟩ (.func (.func 136) #[] #[]) rfl;have i5:=fun w => hu w ((zO ob tb).take 4).toArray 4 ⟨oNot.toArray⟩ (.func (.func 137) #[] #[zh tb]) rfl;have i6:=fun w => hu w ((zO ob tb).take 5).toArray 5 ⟨oAnd.toArray⟩ (.func (.func 138) #[] #[zh tb]) rfl;have i7:=fun w => hu w ((zO ob tb).take 6).toArray 6 ⟨oPlus.toArray⟩ (.func (.func 139) #[] #[zh ob,zh tb]) rfl;simp [zO,zaH,zh,oAll,oNeg,oMin,oIs,oNot,oAnd,oPlus] at i1 i2 i3 i4 i5 i6 i7;have HQ:=QH (AI hV (AI hw0 (AI hTT (AI hO (AI hR (AI hrow htc))))));clear hold hw3 hMw hMr hrow hV hw0 hTT hO hR hu htc;go_upto_region 8 with fail;clear i1 i2 i3 i4 i5 i6 i7;have hMm:=(QM [] wr).alloc (.map (zO ob tb).toArray 7);have hm1:=QN wr (.map (zO ob tb).toArray 7);have c1:=hMm.cell c0;change Code.wp _ _ _ _ (wr.alloc (.map (zO ob tb).toArray 7));generalize wr.alloc (.map (zO ob tb).toArray 7)=w6 at *;obtain ⟨m1,hm1e⟩:=EX (wr.heap.size);rw [hm1e] at hm1 ⊢;have hu:=fun (w:World) (es:Array MapEntry) (c:Nat) (k:ByteArray) (v:Value) => zZ (P:= Tryz.prog) 252 9 9 .string Tryz.underlying252 Tryz.underlying9 w es c (.string k) v AG;have j1:=fun w => hu w #[] 0 ⟨oCount.toArray⟩ (zaH oAll) rfl;have j2:=fun w => hu w (sameE.take 1).toArray 1 ⟨oSum.toArray⟩ (zaH oNeg) rfl;have j3:=fun w => hu w (sameE.take 2).toArray 2 ⟨oMax.toArray⟩ (zaH oMin) rfl;have j4:=fun w => hu w (sameE.take 3).toArray 3 ⟨oIsNot.toArray⟩ (zaH oIs) rfl;have j5:=fun w => hu w (sameE.take 4).toArray 4 ⟨oOr.toArray⟩ (zaH oAnd) rfl;have j6:=fun w => hu w (sameE.take 5).toArray 5 ⟨oMinus.toArray⟩ (zaH oPlus) rfl;have j7:=fun w => hu w (sameE.take 6).toArray 6 ⟨oTimes.toArray⟩ (zaH oPlus) rfl;have j8:=fun w => hu w (sameE.take 7).toArray 7 ⟨oOver.toArray⟩ (zaH oPlus) rfl;simp [sameE,zaH,oCount,oAll,oSum,oNeg,oMax,oMin,oIsNot,oIs,oOr,oAnd,oMinus,oPlus,oTimes,oOver] at j1 j2 j3 j4 j5 j6 j7 j8;have HM:=QH (AI hMm (AI hm1 hm1e));have d0:=((QM [] w6).alloc (.map sameE.toArray 8)).cell c1;clear hMm hm1 hu hm1e c0;go_upto_region 9 with fail;clear j1 j2 j3 j4 j5 j6 j7 j8 hmm;have hMn:=(QM [] w6).alloc (.map sameE.toArray 8);have hm2:=QN w6 (.map sameE.toArray 8);change Code.wp _ _ _ _ (w6.alloc (.map sameE.toArray 8));generalize w6.alloc (.map sameE.toArray 8)=w7 at *;generalize w6.heap.size=m2 at *;clear c1;have hMx:Mods [] wr w7:=HM.out.1.trans hMn;have hm1:=hMn.heap HM.out.2.1;have hV7:=HQ.out.1.later hMx;have hT7:=HQ.out.2.2.1.later hMx;have hR7:=hMx.heap HQ.out.2.2.2.2.1;have hw7:=HQ.out.2.1.trans hMx;obtain ⟨hrel,har⟩:=HP.out;generalize ts.getD 0 tyNone=A at hT7 har HRR HQ;generalize ts.getD 1 tyNone=B at hT7 har HRR HQ;have hrbw:w.heap.size ≤ rb:=by have:=HB.out; omega
  obtain ⟨f1,f2⟩:=zk8 ob tb hrel;have hv:=zjL A B hrel;rw [HH.out.2.2.2.2.2] at f1 f2;have l1:(Instr.lookup 252 (.map (some m2)) (.string S) true).run Tryz.prog w7 = .ok (.tuple #[.string ⟨#[]⟩,.bool false]) w7:=zs 252 9 9 .string Tryz.underlying252 Tryz.underlying9 hm2 (.string S) (.string ⟨#[]⟩) (fun w => by kernel_rfl) AG none f1;have l2:(Instr.lookup 251 (.map (some m1)) (.string S) true).run Tryz.prog w7 = .ok (.tuple #[.nilFunc,.bool false]) w7:=zs 251 9 250 .string Tryz.underlying251 Tryz.underlying9 hm1 (.string S) .nilFunc (fun w => by kernel_rfl) AG none f2;have ht0:=hMx.cell HQ.out.2.2.2.2.2.2;have hs7:=hMx.heap HQ.out.2.2.2.2.2.1;have gb : 0 ≠ rb:=by have:=zD HH.out.1.1.1;change 0 < w.heap.size at this;omega
  have nt:tb ≠ rb:=by have:=HB.out; omega
  have ns:sb ≠ rb:=by have:=HB.out; omega
  have FF:Hid (∀ bb,(∀ k:zay (zdL w7 rb #[.int .i64 4,.int .i64 0] bb),k.val.cell? ⟨0, 0,none⟩ = some (.int .i64 4)) ∧ (∀ k:zay (zdL w7 rb #[.int .i64 4,.int .i64 0] bb),k.val.cell? ⟨0, 1,none⟩ = some (.int .i64 0)) ∧ (∀ k:zay (zdL w7 rb #[.int .i64 4,.int .i64 0] bb),k.val.cell? ⟨tb,0,none⟩ = some (.slice (some ⟨sb,0,none⟩) 2 2)) ∧
    (∀ k:zay (zdL w7 rb #[.int .i64 4,.int .i64 0] bb),k.val.cell? ⟨sb,0,none⟩ = some (.int .i64 A.k)) ∧ (∀ k:zay (zdL w7 rb #[.int .i64 4,.int .i64 0] bb),k.val.cell? ⟨sb,1,none⟩ = some (.int .i64 A.s)) ∧ (∀ k:zay (zdL w7 rb #[.int .i64 4,.int .i64 0] bb),k.val.cell? ⟨sb,2,none⟩ = some (.int .i64 B.k)) ∧ (∀ k:zay (zdL w7 rb #[.int .i64 4,.int .i64 0] bb),k.val.cell? ⟨sb,3,none⟩ = some (.int .i64 B.s)) ∧
    (∀ k:zay (zdL w7 rb #[.int .i64 4,.int .i64 0] bb),Calls Tryz.prog 134 #[tyA A] k.val fun e w' => e = .returned (.bool A.num) ∧ ∃ k':zay (zdL w7 rb #[.int .i64 4,.int .i64 0] bb),w'=k'.val) ∧ (∀ k:zay (zdL w7 rb #[.int .i64 4,.int .i64 0] bb),Calls Tryz.prog 134 #[tyA B] k.val fun e w' => e = .returned (.bool B.num) ∧ ∃ k':zay (zdL w7 rb #[.int .i64 4,.int .i64 0] bb),w'=k'.val)):=
   QH fun bb => ⟨zcn hV7.1.1 gb bb,zcn hV7.1.2 gb bb,zcn ht0 nt bb,zcn (za hs7 0) ns bb,zcn (za hs7 1) ns bb,zcn (za hs7 2) ns bb,zcn (za hs7 3) ns bb,
    fun k => (zdh A k.val).mono fun e w' h => ⟨h.1,⟨w',k.mods.trans h.2⟩,rfl⟩,fun k => (zdh B k.val).mono fun e w' h => ⟨h.1,⟨w',k.mods.trans h.2⟩,rfl⟩⟩
  have HW:=QH (AI hv hw7);clear hv f1 f2 hm1 hm2 hV7 hT7 ht0 hs7 hMx gb nt ns har hrel hw7;obtain ⟨A1,A2⟩:=A;obtain ⟨B1,B2⟩:=B;generalize hna:(⟨A1,A2⟩ : Ty).num=na at FF HW;generalize hnb:(⟨B1,B2⟩ : Ty).num=nb at FF HW;have HN:=QH (AI hna hnb);clear hna hnb;unfold tyA at FF;simp only at FF;go_upto_region 15 with fail;clear l1 l2;have htri:(A1=B1 ∧ A2=B2) ∨ (A1=B1 ∧ ¬ A2=B2) ∨ ¬ A1=B1:=by omega
  rcases htri with ⟨rfl,rfl⟩ | ⟨rfl,h2⟩ | h2
  ·have gGd:=QH trivial;exact yfK
  ·have hne:(⟨A1,A2⟩ : Ty) ≠ ⟨A1,B2⟩:=fun h => h2 (by injection h);exact yaf
  ·have hne:(⟨A1,A2⟩ : Ty) ≠ ⟨B1,B2⟩:=fun h => h2 (by injection h);exact yaf
theorem zhv (w:World) (hV:CkVars w) (op:Bs) (us:List Value) (ts:List Ty) (n:Nat) (hn:us.length=n) (htn:ts.length=n) (hn2:n ≤ 2) (ao:Option Addr) (cap:Nat)
  (hao:0 < n → ∃ c,ao=some ⟨c,0,none⟩ ∧ ∀ i (hi:i < us.length),w.cell? ⟨c,i,none⟩ = some us[i])
  (hop:op=oAll ∨ op=oCount ∨ op=oNeg ∨ op=oSum ∨ op=oMin ∨ op=oMax ∨ op=oIs ∨ op=oIsNot ∨ op=oNot ∨ op=oAnd ∨ op=oOr ∨ op=oPlus ∨ op=oMinus ∨ op=oTimes ∨ op=oOver ∨ op ∈ rels)
  (har:(op=oPlus ∨ op=oMinus ∨ op=oTimes ∨ op=oOver) → (ts.getD 0 tyNone).Right ∧ (ts.getD 1 tyNone).Right)
  (hts:∀ i (hi:i < us.length) (hx:i < ts.length),∃ nb,us[i]=zh nb ∧ w.cell? ⟨nb,1,none⟩ = some (.int .i64 ts[i].k) ∧ w.cell? ⟨nb,2,none⟩ = some (.int .i64 ts[i].s)) :
  Calls Tryz.prog 97 #[.string ⟨op.toArray⟩,.slice ao n cap] w (RuleRes (zx op (ts.getD 0 tyNone) (ts.getD 1 tyNone)) w):=by
 rcases hop with h | h | h | h | h | h | h | h | h | h | h | h | h | h | h | h
 ·exact zeJ w hV op us ts n hn htn hn2 ao cap hao AR har hts
 ·exact zeJ w hV op us ts n hn htn hn2 ao cap hao AR har hts
 ·exact zeJ w hV op us ts n hn htn hn2 ao cap hao AR har hts
 ·exact zeJ w hV op us ts n hn htn hn2 ao cap hao AR har hts
 ·exact zeJ w hV op us ts n hn htn hn2 ao cap hao AR har hts
 ·exact zeK w hV op us ts n hn htn hn2 ao cap hao AR har hts
 ·exact zeK w hV op us ts n hn htn hn2 ao cap hao AR har hts
 ·exact zeK w hV op us ts n hn htn hn2 ao cap hao AR har hts
 ·exact zeK w hV op us ts n hn htn hn2 ao cap hao AR har hts
 ·exact zeK w hV op us ts n hn htn hn2 ao cap hao AR har hts
 ·exact zeL w hV op us ts n hn htn hn2 ao cap hao AR har hts
 ·exact zeL w hV op us ts n hn htn hn2 ao cap hao AR har hts
 ·exact zeL w hV op us ts n hn htn hn2 ao cap hao AR har hts
 ·exact zeL w hV op us ts n hn htn hn2 ao cap hao AR har hts
 ·exact zeL w hV op us ts n hn htn hn2 ao cap hao AR har hts
 ·exact zoa w hV op us ts n hn htn hn2 ao cap hao h har hts
end Go.Proofs.YtcabeljiobiojaaGreatDoor
