/-
  What the chapter's examples show: two numbers' texts, a node's. No condition.
-/
import Derived.Test.YtgdpaieechgahaaGreatDoorQ42
import Derived.Test.YtgdpaieechgahaaGreatDoorQ18
import Derived.Test.YtgdpaieechgahaaGreatDoorQ21
import Derived.Handy
import Derived.Test.YtgdpaieechgahaaGreatDoorSpine
namespace Go.Proofs.YtgdpaieechgahaaGreatDoor
open Go.RowKit
set_option linter.unusedVariables false
set_option maxRecDepth 100000 in
set_option maxHeartbeats 4000000 in
theorem zcf (w:World) (n:Nat) (hn:n < 100):Calls Tryz.prog 64 #[.int .i64 n] w fun e w' => e = .returned (.agg #[.bool false,.int .u64 0,.int .u64 n]) ∧ Mods [] w w':=by
 have hz:¬ (n:Int) < 0:=by omega
 have hzd:decide ((n:Int) < 0)=false:=decide_eq_false hz
 have hcv:((n:Int)) % 18446744073709551616=n:=by omega
 go_enter Tryz.func64, Tryz.ntmps64
 go_wp2_with fail
 go_returns
 exact ⟨rfl,(Mods.refl _ _).alloc _⟩
set_option maxRecDepth 100000 in
set_option maxHeartbeats 4000000 in
theorem zfH (w:World) (n:Nat) (hn:n < 100):Calls Tryz.prog 96 #[.int .u64 n,.int .i64 10] w fun e w' => e = .returned (.string ⟨(Lib.decDigits n).toArray⟩) ∧ w'=w:=by
 have hs:= Tryz.internal_strconv_small n hn w
 have hz:decide ((n:Int) < 100)=true:=decide_eq_true (by omega)
 have hz2:(n:Int) < 100:=by omega
 go_enter Tryz.func96, Tryz.ntmps96
 go_wp2_with fail
 (with_reducible refine hs.mono ?_)
 rintro e w2 ⟨rfl,hw⟩
 replace hw:w=w2:=hw.symm
 subst hw
 clear hs
 go_wp2_with fail
 go_ret
 exact ⟨rfl,rfl⟩
set_option maxRecDepth 100000 in
set_option maxHeartbeats 4000000 in
theorem ze7 (w:World) (n:Nat) (hn:n < 100):Calls Tryz.prog 65 #[.int .u64 n,.int .i64 10] w fun e w' => e = .returned (.string ⟨(Lib.decDigits n).toArray⟩) ∧ w'=w:=by
 have hs:=zfH w n hn
 go_enter Tryz.func65, Tryz.ntmps65
 go_wp2_with fail
 (with_reducible refine hs.mono ?_)
 rintro e w2 ⟨rfl,hw⟩
 replace hw:w=w2:=hw.symm
 subst hw
 clear hs
 go_wp2_with fail
 go_ret
 exact ⟨rfl,rfl⟩
set_option maxRecDepth 100000 in
set_option maxHeartbeats 4000000 in
theorem zhV (w:World):Calls Tryz.prog 29 #[.agg #[.bool false,.int .i64 1,.string ⟨#[]⟩],.agg #[.int .i64 1,.int .i64 0]] w fun e w' => e = .returned (.tuple #[.string ⟨#[49]⟩,.bool true]) ∧ Mods [] w w':=by
 have hf:=fun W => zfo 1 0 true false 1 ⟨#[]⟩ (by decide) W
 have hw1:=fun W => zcf W 1 (by decide)
 have hu:=fun W => ze7 W 1 (by decide)
 rw [show fitsV 1 0 true false 1 ⟨#[]⟩ = true from by decide] at hf
 rw [show Lib.decDigits 1=[49] from by decide +kernel] at hu
 change ∀ W,Calls _ _ #[.int .i64 1] W _ at hw1
 change ∀ W,Calls _ _ #[.int .u64 1,.int .i64 10] W _ at hu
 have hM1:=((Mods.refl [] w).alloc (.cells #[.bool false,.int .i64 1,.string ⟨#[]⟩] 61)).alloc (.cells #[.int .i64 1,.int .i64 0] 26)
 obtain ⟨hb1,hb2⟩:=zhJ w (.cells #[.bool false,.int .i64 1,.string ⟨#[]⟩] 61) (.cells #[.int .i64 1,.int .i64 0] 26)
 go_enter Tryz.func29, Tryz.ntmps29
 go_upto_region 1 with fail
 generalize (w.alloc (.cells #[.bool false,.int .i64 1,.string ⟨#[]⟩] 61)).alloc (.cells #[.int .i64 1,.int .i64 0] 26)=w1 at *
 generalize w.heap.size + 1=b2 at *
 generalize w.heap.size=b1 at *
 have HB:=Lib.hid (And.intro hb1 (And.intro hb2 hM1))
 have a0:=za hb1 0
 have a1:=za hb1 1
 have a2:=za hb1 2
 have e0:=za hb2 0
 have e1:=za hb2 1
 change w1.cell? _=some (.bool false) at a0
 change w1.cell? _=some (.int .i64 1) at a1
 change w1.cell? _=some (.string ⟨#[]⟩) at a2
 change w1.cell? _=some (.int .i64 1) at e0
 change w1.cell? _=some (.int .i64 0) at e1
 clear hb1 hb2 hM1
 go_wp2_with fail
 (refine (hf _).mono ?_)
 rintro e w2 ⟨rfl,hM2⟩
 replace a0:=hM2.cell a0 (by simp)
 replace a1:=hM2.cell a1 (by simp)
 replace a2:=hM2.cell a2 (by simp)
 replace e0:=hM2.cell e0 (by simp)
 replace e1:=hM2.cell e1 (by simp)
 have HM2:=Lib.hid hM2
 clear hf hM2
 go_wp2_with fail
 (refine (hw1 _).mono ?_)
 rintro e w3 ⟨rfl,hM3⟩
 replace a0:=hM3.cell a0 (by simp)
 replace a1:=hM3.cell a1 (by simp)
 replace e0:=hM3.cell e0 (by simp)
 replace e1:=hM3.cell e1 (by simp)
 have hz:=(Mods.refl [] w3).alloc (.cells #[.bool false,.int .u64 0,.int .u64 (1:Nat)] 146)
 have hnew:=heap_alloc_new w3 (.cells #[.bool false,.int .u64 0,.int .u64 (1:Nat)] 146)
 have HM3:=Lib.hid (And.intro hM3 hz)
 have g0:=za hnew 0
 have g2:=za hnew 2
 change World.cell? _ _=some (.bool false) at g0
 change World.cell? _ _=some (.int .u64 1) at g2
 replace e0:=hz.cell e0 (by simp)
 replace e1:=hz.cell e1 (by simp)
 clear hw1 hM3 a0 a1 a2 hz hnew
 go_upto_region 10 with fail
 generalize w3.alloc (.cells #[.bool false,.int .u64 0,.int .u64 (1:Nat)] 146)=w4 at *
 generalize w3.heap.size=wb at *
 go_wp2_with fail
 (refine (hu _).mono ?_)
 rintro e w5 ⟨rfl,hw⟩
 replace hw:w4=w5:=hw.symm
 subst hw
 clear hu
 go_wp2_with fail
 go_ret2
 exact ⟨rfl,((HB.out.2.2.trans HM2.out (by simp)).trans HM3.out.1 (by simp)).trans HM3.out.2 (by simp)⟩
set_option maxRecDepth 100000 in
set_option maxHeartbeats 4000000 in
theorem zhW (w:World):Calls Tryz.prog 29 #[.agg #[.bool false,.int .i64 15,.string ⟨#[]⟩],.agg #[.int .i64 2,.int .i64 1]] w fun e w' => e = .returned (.tuple #[.string ⟨#[49,46,53]⟩,.bool true]) ∧ Mods [] w w':=by
 have hf:=fun W => zfo 2 1 true false 15 ⟨#[]⟩ (by decide) W
 have hw1:=fun W => zcf W 15 (by decide)
 have hu:=fun W => ze7 W 15 (by decide)
 rw [show fitsV 2 1 true false 15 ⟨#[]⟩ = true from by decide] at hf
 rw [show Lib.decDigits 15=[49,53] from by decide +kernel] at hu
 change ∀ W,Calls _ _ #[.int .i64 15] W _ at hw1
 change ∀ W,Calls _ _ #[.int .u64 15,.int .i64 10] W _ at hu
 have hM1:=((Mods.refl [] w).alloc (.cells #[.bool false,.int .i64 15,.string ⟨#[]⟩] 61)).alloc (.cells #[.int .i64 2,.int .i64 1] 26)
 obtain ⟨hb1,hb2⟩:=zhJ w (.cells #[.bool false,.int .i64 15,.string ⟨#[]⟩] 61) (.cells #[.int .i64 2,.int .i64 1] 26)
 go_enter Tryz.func29, Tryz.ntmps29
 go_upto_region 1 with fail
 generalize (w.alloc (.cells #[.bool false,.int .i64 15,.string ⟨#[]⟩] 61)).alloc (.cells #[.int .i64 2,.int .i64 1] 26)=w1 at *
 generalize w.heap.size + 1=b2 at *
 generalize w.heap.size=b1 at *
 have HB:=Lib.hid (And.intro hb1 (And.intro hb2 hM1))
 have a0:=za hb1 0
 have a1:=za hb1 1
 have a2:=za hb1 2
 have e0:=za hb2 0
 have e1:=za hb2 1
 change w1.cell? _=some (.bool false) at a0
 change w1.cell? _=some (.int .i64 15) at a1
 change w1.cell? _=some (.string ⟨#[]⟩) at a2
 change w1.cell? _=some (.int .i64 2) at e0
 change w1.cell? _=some (.int .i64 1) at e1
 clear hb1 hb2 hM1
 go_wp2_with fail
 (refine (hf _).mono ?_)
 rintro e w2 ⟨rfl,hM2⟩
 replace a0:=hM2.cell a0 (by simp)
 replace a1:=hM2.cell a1 (by simp)
 replace a2:=hM2.cell a2 (by simp)
 replace e0:=hM2.cell e0 (by simp)
 replace e1:=hM2.cell e1 (by simp)
 have HM2:=Lib.hid hM2
 clear hf hM2
 go_wp2_with fail
 (refine (hw1 _).mono ?_)
 rintro e w3 ⟨rfl,hM3⟩
 replace a0:=hM3.cell a0 (by simp)
 replace a1:=hM3.cell a1 (by simp)
 replace e0:=hM3.cell e0 (by simp)
 replace e1:=hM3.cell e1 (by simp)
 have hz:=(Mods.refl [] w3).alloc (.cells #[.bool false,.int .u64 0,.int .u64 (15:Nat)] 146)
 have hnew:=heap_alloc_new w3 (.cells #[.bool false,.int .u64 0,.int .u64 (15:Nat)] 146)
 have HM3:=Lib.hid (And.intro hM3 hz)
 have g0:=za hnew 0
 have g2:=za hnew 2
 change World.cell? _ _=some (.bool false) at g0
 change World.cell? _ _=some (.int .u64 15) at g2
 replace e0:=hz.cell e0 (by simp)
 replace e1:=hz.cell e1 (by simp)
 clear hw1 hM3 a0 a1 a2 hz hnew
 go_upto_region 10 with fail
 generalize w3.alloc (.cells #[.bool false,.int .u64 0,.int .u64 (15:Nat)] 146)=w4 at *
 generalize w3.heap.size=wb at *
 go_wp2_with fail
 (refine (hu _).mono ?_)
 rintro e w5 ⟨rfl,hw⟩
 replace hw:w4=w5:=hw.symm
 subst hw
 clear hu
 go_wp2_with fail
 go_quiet (fail)
 go_wp2_with fail
 go_ret2
 exact ⟨rfl,(((HB.out.2.2.trans HM2.out (by simp)).trans HM3.out.1 (by simp)).trans HM3.out.2 (by simp)).drewN _⟩
set_option maxRecDepth 100000 in
set_option maxHeartbeats 4000000 in
theorem zhX (w:World):Calls Tryz.prog 32 #[.agg #[.int .i64 1,.int .i64 0]] w fun e w' => e = .returned (.string ⟨#[58,105,110,116]⟩) ∧ Mods [] w w':=by
 go_enter Tryz.func32, Tryz.ntmps32
 go_wp2_with fail
 go_ret
 exact ⟨rfl,(Mods.refl _ _).alloc _⟩
set_option maxRecDepth 100000 in
set_option maxHeartbeats 4000000 in
theorem ze8 (w:World) (hP:Pow w):Calls Tryz.prog 32 #[.agg #[.int .i64 2,.int .i64 1]] w fun e w' => e = .returned (.string ⟨#[58,100,101,99,49]⟩) ∧ Mods [] w w':=by
 have hM1:=(Mods.refl [] w).alloc (.cells #[.int .i64 2,.int .i64 1] 26)
 have hit:=zfz 1 (by decide) (by decide) _ (hP.later hM1)
 rw [show Lib.itoa 1=[49] from by decide +kernel] at hit
 go_enter Tryz.func32, Tryz.ntmps32
 go_wp2_with fail
 (refine hit.mono ?_)
 rintro e w2 ⟨rfl,hM2⟩
 go_wp2_with fail
 go_ret
 exact ⟨rfl,hM1.trans hM2 (by simp)⟩
def ShowsAs (T:NT) (R:ByteArray):Prop:=∀ (w:World) (v:Value),Pow w → NAt w [] v T → Calls Tryz.prog 17 #[v] w fun e w' => e = .returned (.string R) ∧ Mods [] w w'
set_option maxRecDepth 100000 in
set_option maxHeartbeats 4000000 in
theorem ze9 (k s n:Nat) (A B C:ByteArray) (hC:A ++ B=C) (hsz:A.size + B.size ≤ 1000) (ht:∀ w,Calls Tryz.prog 29 #[.agg #[.bool false,.int .i64 n,.string ⟨#[]⟩],.agg #[.int .i64 k,.int .i64 s]] w fun e w' => e = .returned (.tuple #[.string A,.bool true]) ∧ Mods [] w w')
  (hk:∀ w,Pow w → Calls Tryz.prog 32 #[.agg #[.int .i64 k,.int .i64 s]] w fun e w' => e = .returned (.string B) ∧ Mods [] w w'):ShowsAs (.leaf { op:=oValue,t:=⟨k,s⟩,n:=n }) C:=by
 intro w v hP hN
 obtain ⟨b,rfl,-,hb⟩:=hN
 have n0:=za hb 0
 have n1:=za hb 1
 have n2:=za hb 2
 have n4:=za hb 4
 have n5:=za hb 5
 have n6:=za hb 6
 change w.cell? _=some (.string ⟨#[118,97,108,117,101]⟩) at n0
 change w.cell? _=some (.int .i64 (k:Nat)) at n1
 change w.cell? _=some (.int .i64 (s:Nat)) at n2
 change w.cell? _=some (.bool false) at n4
 change w.cell? _=some (.int .i64 (n:Nat)) at n5
 change w.cell? _=some (.string ⟨#[]⟩) at n6
 have hbig:¬ 9223372036854775807 < A.size + B.size:=by omega
 have HH:=Lib.hid (And.intro hP (And.intro hb hC))
 clear hP hb hC
 unfold PtrV
 go_enter Tryz.func17, Tryz.ntmps17
 go_wp2_with fail
 have hcl:=ht w.drew
 apply zm (by kernel_rfl) [0,1,2,3,4,5,6,7] [(8,[9,10,11,12])] true (by kernel_rfl) (fun y => y.cell? ⟨b,1,none⟩ = some (.int .i64 (k:Nat)) ∧ y.cell? ⟨b,2,none⟩ = some (.int .i64 (s:Nat)) ∧ y.cell? ⟨b,4,none⟩ = some (.bool false) ∧ y.cell? ⟨b,5,none⟩ = some (.int .i64 (n:Nat)) ∧ y.cell? ⟨b,6,none⟩ = some (.string ⟨#[]⟩))
 case hC => exact ⟨n1,n2,n4,n5,n6⟩
 case hwalk =>
  rintro y ⟨y1,y2,y4,y5,y6⟩
  change wpQuiet _ _ _ _ [_,_,_,_,_,_,_,_] (Act.mk _ _)
  repeat (go_big_quiet_step (fail))
  refine wpQuiet_nil ?_
  exact rfl
 case hrun =>
  change segI _ _ _ _ _ [(_,[_,_,_,_])] _ _
  refine zs fun R1 hR1 => ?_
  go_wp2_with fail
  (with_reducible refine hcl.mono ?_)
  rintro r w2 ⟨rfl,hM2⟩
  clear hcl
  have hM:=(Mods.refl [] w).drew.trans hM2 (by simp)
  replace n1:=hM.cell n1 (by simp)
  replace n2:=hM.cell n2 (by simp)
  replace n4:=hM.cell n4 (by simp)
  replace n5:=hM.cell n5 (by simp)
  replace n6:=hM.cell n6 (by simp)
  have HM:=Lib.hid hM
  clear hM hM2 n0
  go_wp2_with fail
  refine zc ?_
  apply hR1 _ w2 (.inr ⟨n1,n2,n4,n5,n6⟩)
  ·rintro y ⟨y1,y2,y4,y5,y6⟩
   change wpQuiet _ _ _ _ [_,_,_,_] (Act.mk _ _)
   repeat (go_big_quiet_step (fail))
   refine wpQuiet_nil ?_
   exact rfl
  ·clear hR1 R1
   refine zt ?_
   have hkd:=hk w2 (HH.out.1.later HM.out)
   go_wp2_with fail
   (with_reducible refine hkd.mono ?_)
   rintro r w3 ⟨rfl,hM3⟩
   clear hkd
   go_wp2_with fail
   go_ret
   exact ⟨by rw [HH.out.2.2]; rfl,HM.out.trans hM3 (by simp)⟩
theorem zhY:ShowsAs (.leaf { op:=oValue,t:=tyInt,n:=1 }) ⟨#[49,58,105,110,116]⟩:=ze9 1 0 1 ⟨#[49]⟩ ⟨#[58,105,110,116]⟩ _ rfl (by decide) zhV (fun w _ => zhX w)
theorem zgv:ShowsAs (.leaf { op:=oValue,t:=⟨2,1⟩,n:=15 }) ⟨#[49,46,53,58,100,101,99,49]⟩:=ze9 2 1 15 ⟨#[49,46,53]⟩ ⟨#[58,100,101,99,49]⟩ _ rfl (by decide) zhW ze8
set_option maxRecDepth 100000 in
set_option maxHeartbeats 8000000 in
theorem zer (w:World) (hP:Pow w) (b:Nat) (h:NHd) (us:List Value) (xs:List Bs) (ao:Option Addr) (cap0:Nat) (K:Bs) (hK:K.length ≤ 100) (hop:h.op.length ≤ 300) (h1:¬ h.op=oValue) (h5:¬ h.op=oColumn)
  (hb:w.heap[b]? = some (.cells (nhC h (.slice ao us.length cap0)).toArray 63 (0,0))) (hl:xs.length=us.length) (hn:us.length ≤ 2)
  (hao:0 < us.length → ∃ c,ao=some ⟨c,0,none⟩ ∧ ∀ i (hi:i < us.length),w.cell? ⟨c,i,none⟩ = some us[i]) (hxs:(xs.map (fun a => 1 + a.length)).sum ≤ 1000000000)
  (hsub:∀ i (hi:i < us.length) (hx:i < xs.length) W,Mods [] w W → Calls Tryz.prog 17 #[us[i]] W fun e w' => e = .returned (.string ⟨xs[i].toArray⟩) ∧ Mods [] W w')
  (hk:∀ W,Pow W → Calls Tryz.prog 32 #[.agg #[.int .i64 h.t.k,.int .i64 h.t.s]] W fun e w' => e = .returned (.string ⟨K.toArray⟩) ∧ Mods [] W w') :
  Calls Tryz.prog 17 #[PtrV b] w fun e w' => e = .returned (.string ⟨([40] ++ Lib.join (h.op :: xs) [32] ++ [41] ++ K).toArray⟩) ∧ Mods [] w w':=by
 obtain ⟨i0,hi,hz0,hz1,hz2⟩:=info_parts (show (Tryz.prog.info? 9).map (fun i => (i.zero,i.size,i.bytes))=some (some (.string ⟨#[]⟩),1,16) by kernel_rfl)
 have c0:=za hb 0
 have c7:=za hb 7
 change w.cell? _=some (.string ⟨h.op.toArray⟩) at c0
 change w.cell? _=some (.slice ao us.length cap0) at c7
 have o1:(h.op == [118,97,108,117,101])=false:=zhe h1
 have o5:(h.op == [99,111,108,117,109,110])=false:=zhe h5
 have p1:¬ h.op=[118,97,108,117,101]:=h1
 have p5:¬ h.op=[99,111,108,117,109,110]:=h5
 have d1:=za hb 1
 have d2:=za hb 2
 change w.cell? _=some (.int .i64 (h.t.k:Nat)) at d1
 change w.cell? _=some (.int .i64 (h.t.s:Nat)) at d2
 have HD:=Lib.hid (And.intro d1 (And.intro d2 (And.intro hP (And.intro hk hK))))
 clear d1 d2 hP hk hK
 obtain ⟨n,hnn⟩ : ∃ n,us.length=n:=⟨_,rfl⟩
 rw [hnn] at c7
 have hn2:n ≤ 2:=by omega
 have hjl:=zix h.op [32] xs
 have e32:([32]:Bs).length=1:=rfl
 rw [e32] at hjl
 have hjb:(Lib.join (h.op :: xs) [32]).length ≤ 1000000300:=by omega
 have HA:=Lib.hid (And.intro hao (And.intro hsub (And.intro hnn (And.intro hl hjb))))
 unfold PtrV
 clear hb hop h1 h5 hl hao hsub hnn hxs hn hjl e32 hjb
 obtain ⟨R,hR⟩ : ∃ R:Bs,([40] ++ Lib.join (h.op :: xs) [32] ++ [41] ++ K:Bs)=R:=⟨_,rfl⟩
 rw [hR]
 have HR:=Lib.hid hR
 clear hR
 have hz:=(Mods.refl [] w).alloc (.cells #[.string ⟨h.op.toArray⟩] 9)
 have c7b:=hz.cell c7 (by simp)
 have hown1:(w.alloc (.cells #[.string ⟨h.op.toArray⟩] 9)).ownsRow 0 9 1 (.slice (some ⟨w.heap.size,0,none⟩) 1 1) 1 (strsV [h.op]):=⟨rfl,.inr ⟨_,1,_,rfl,Nat.zero_le _,heap_alloc_new w _,Nat.le_refl _,by unfold maxLen; omega,rfl,rfl⟩⟩
 have HS:=Lib.hid (And.intro hz hown1)
 have FIN:Hid (∀ w' S,Mods [] w w' → S=(⟨#[40]⟩ : ByteArray) ++ ⟨(Lib.join (h.op :: xs) [32]).toArray⟩ ++ ⟨#[41]⟩ ++ ⟨K.toArray⟩ → (Ending.returned (.string S) = .returned (.string ⟨R.toArray⟩) ∧ Mods [] w w')):=Lib.hid fun w' S h1 h2 => ⟨by rw [h2,← HR.out,← cat2,← cat3],h1⟩
 clear hz hown1
 go_enter Tryz.func17, Tryz.ntmps17
 go_wp2_with fail
 go_loopg [4,23] n (fun gk t6 t107 wr => ∃ (i g cap:Nat),i + gk=n ∧ t107 = .int .i64 i ∧ t6 = .slice (some ⟨g,0,none⟩) (i + 1) cap ∧ Mods [] w wr ∧ wr.ownsRow 0 9 1 (.slice (some ⟨g,0,none⟩) (i + 1) cap) (i + 1) (strsV (h.op :: xs.take i)) ∧ w.heap.size ≤ g)
 case atStart => exact ⟨0,w.heap.size,1,by omega,rfl,rfl,HS.out.1,by rw [List.take_zero]; exact HS.out.2,Nat.le_refl _⟩
 case round =>
  clear HS
  obtain ⟨i,g,cap,hin,rfl,rfl,hM,ho,hg⟩:=hrel
  by_cases hlt:i < n
  ·obtain ⟨c,rfl,hcells⟩:=HA.out.1 (by rw [HA.out.2.2.1]; omega)
   have hiu:i < us.length:=by rw [HA.out.2.2.1]; exact hlt
   have hix:i < xs.length:=by rw [HA.out.2.2.2.1]; exact hiu
   have k0:=hM.cell (hcells i hiu) (by simp)
   have hca:=HA.out.2.1 i hiu hix wr hM
   have htk:h.op :: xs.take (i + 1)=(h.op :: xs.take i) ++ [xs[i]]:=by rw [List.take_succ_eq_append_getElem hix]; rfl
   have HTK:=Lib.hid htk
   generalize us[i]=u at *
   generalize xs[i]=x at *
   have HO:=Lib.hid ho
   clear hcells htk ho FIN
   go_wp2_with fail
   (with_reducible refine hca.mono ?_)
   rintro e w2 ⟨rfl,hM2⟩
   have hown2:=zl HO.out hM2 (by simp)
   clear hca k0
   go_wp2_with (at_builtin; refine zr _ rfl _ _ 44 rfl 9 i0 _ 1 16 Tryz.underlying44 hi hz0 hz1 hz2 rfl (by decide) (.slice (some ⟨g,0,none⟩) (i + 1) cap) (i + 1) (strsV (h.op :: xs.take i)) rfl (hown2.alloc _) ⟨w2.heap.size,0,none⟩ 1 1 [.string ⟨x.toArray⟩] rfl rfl ?c1 ?c2 (by decide) ?c3 ?c4 ?_)
   case c1 => exact zbn w2 #[.string ⟨x.toArray⟩] _
   case c2 => intro u hu; simp only [List.mem_cons,List.not_mem_nil,or_false] at hu; rcases hu with rfl; rfl
   case c3 => unfold maxLen; omega
   case c4 => omega
   intro g' cap2 w5 hown5 hM5 hg5
   have hz2:=(Mods.refl [] w2).alloc (.cells #[.string ⟨x.toArray⟩] 9)
   have hsz:=hM.size
   have hsz2:=hM2.size
   have hM25:Mods [] w w5:=((hM.trans hM2 (by simp)).trans hz2 (by simp)).trans hM5 (fun y hy => .inr ((show y=g by simpa [Value.ownBlock] using hy) ▸ hg))
   have hg6:w.heap.size ≤ g':=by
    rcases hg5 with h | h
    ·have:some g=some g':=h
     have:=Option.some.inj this
     omega
    ·have:w2.heap.size + 1 ≤ g':=by simpa [zk] using h
     omega
   have H5:=Lib.hid (And.intro hown5 (And.intro hM25 hg6))
   clear hown5 hM5 hg5 hown2 HO hM25 hg6 hz2
   go_wp2_with fail
   go_roundg (n - (i + 1))
   case measure => omega
   case rel => exact ⟨i + 1,g',cap2,by omega,by go_num,rfl,H5.out.2.1,by rw [HTK.out,zf3]; exact H5.out.1,H5.out.2.2⟩
  ·obtain rfl:n=i:=by omega
   have hx:xs.take n=xs:=List.take_of_length_le (by rw [HA.out.2.2.2.1,HA.out.2.2.1]; omega)
   rw [hx] at ho
   have hj:=ziy wr (h.op :: xs) [32] g cap (n + 1) (by simp [HA.out.2.2.2.1,HA.out.2.2.1]) (by simp [HA.out.2.2.2.1,HA.out.2.2.1]; omega) (by have:=HA.out.2.2.2.2; omega) ho
   have hjb:=HA.out.2.2.2.2
   obtain ⟨J,hJ⟩ : ∃ J:ByteArray,(⟨(Lib.join (h.op :: xs) [32]).toArray⟩ : ByteArray)=J:=⟨_,rfl⟩
   have hjs:J.size ≤ 1000000300:=by rw [← hJ]; exact hjb
   have FIN2:=Lib.hid FIN.out
   rw [hJ] at hj
   have HJ:=Lib.hid hJ
   clear hx ho hjb hJ
   have d1:=hM.cell HD.out.1 (by simp)
   have d2:=hM.cell HD.out.2.1 (by simp)
   go_wp2_with fail
   (with_reducible refine hj.mono ?_)
   rintro e w2 ⟨rfl,hM2⟩
   clear hj
   replace d1:=hM2.cell d1 (by simp)
   replace d2:=hM2.cell d2 (by simp)
   have hMw2:=hM.trans hM2 (by simp)
   have hkd:=HD.out.2.2.2.1 w2 (HD.out.2.2.1.later hMw2)
   obtain ⟨KB,hKB⟩ : ∃ KB:ByteArray,(⟨K.toArray⟩ : ByteArray)=KB:=⟨_,rfl⟩
   have hks:KB.size ≤ 100:=by rw [← hKB]; exact HD.out.2.2.2.2
   rw [hKB] at hkd
   have HKB:=Lib.hid (And.intro hKB hMw2)
   clear hKB hMw2 hM2 hM
   go_wp2_with fail
   (with_reducible refine hkd.mono ?_)
   rintro e w3 ⟨rfl,hM3⟩
   clear hkd
   go_wp2_with fail
   go_ret
   exact FIN.out w3 _ (HKB.out.2.trans hM3 (by simp)) (by rw [HJ.out,HKB.out.1])
theorem zi1 (w:World) (v:Value) (hP:Pow w) (hN:NAt w [] v exNode):Calls Tryz.prog 17 #[v] w fun e w' => e = .returned (.string ⟨#[40,43,32,49,58,105,110,116,32,49,46,53,58,100,101,99,49,41,58,100,101,99,49]⟩) ∧ Mods [] w w':=by
 obtain ⟨b,c,cap,u,x,rfl,-,-,-,hb,hu,hx,hA,hB⟩:=hN
 have h:=zer w hP b { op:=[43],t:=⟨2,1⟩ } [u,x] [[49,58,105,110,116],[49,46,53,58,100,101,99,49]] (some ⟨c,0,none⟩) cap [58,100,101,99,49] (by decide) (by decide) (by decide) (by decide) hb rfl (by simp)
  (fun _ => ⟨c,rfl,fun i hi => by
   match i,hi with
   | 0,_ => exact hu
   | 1,_ => exact hx⟩) (by decide)
  (fun i hi hx2 W hM => by
   match i,hi with
   | 0,_ => exact zhY W u (hP.later hM) (hA.mods hM)
   | 1,_ => exact zgv W x (hP.later hM) (hB.mods hM)) ze8
 exact h
end Go.Proofs.YtgdpaieechgahaaGreatDoor
