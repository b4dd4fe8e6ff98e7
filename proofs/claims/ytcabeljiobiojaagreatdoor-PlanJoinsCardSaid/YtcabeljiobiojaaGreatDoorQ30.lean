/-
  check.add, walked whole: a column of a new name. No condition.
-/
import Derived.Test.YtcabeljiobiojaaGreatDoorQ29
import Derived.Test.YtcabeljiobiojaaGreatDoorQ20
set_option linter.unusedVariables false
set_option maxRecDepth 100000
set_option maxHeartbeats 16000000
namespace Go.Proofs.YtcabeljiobiojaaGreatDoor
open Go.RowKit
theorem BP {p:Prop} (h:p:=by unfold maxLen; omega):p:=h
theorem BK {p:Prop} (h:p:=by have:=HN.out.2.2.1; omega):p:=h
theorem AL {p:Prop} (h:p:=by have h1:=HSM.out.1; have h5:=HNB.out.2.size; have h6:=zj HR.out.1; have h7:=HGL.out; simp only [List.mem_cons,not_or]; refine ⟨by omega,fun hx => ?_⟩; simp [Value.ownBlock] at hx; have g9:=HR.out.2.2.2.2.2.1; rcases hx with hx | hx; omega; have f1:=HH.out.1.far _ hx; have f2:=HR.out.2.2.2.1.size; omega):p:=h
theorem yeF {p:Prop} (h:p:=by
  have HR:=QH (AI hst (AI hrow (AI hmap (AI hM0 (AI hkb (AI hsz (AI hz7 (AI hb7 (AI hkey (AI hSN hNN))))))))));clear hst hrow hmap hM0 hkb hsz hz7 hb7 hkey hSN hNN s1;go_upto_region 6 with fail;go_quiet (fail);clear L0 k0 k1
  first
  |guard_hyp gEd
   have t17:((wr.alloc (.cells #[.string (⟨#[]⟩ : ByteArray),.string N] 177)).drewN nq).cell? ⟨sb,1,none⟩ = some (.map (some mb)):=s17;have n0:((wr.alloc (.cells #[.string (⟨#[]⟩ : ByteArray),.string N] 177)).drewN nq).cell? ⟨wr.heap.size,0,none⟩ = some (.string (⟨#[]⟩ : ByteArray)):=m0;have n1:((wr.alloc (.cells #[.string (⟨#[]⟩ : ByteArray),.string N] 177)).drewN nq).cell? ⟨wr.heap.size,1,none⟩ = some (.string N):=m1;have hM7:Mods [] wr ((wr.alloc (.cells #[.string (⟨#[]⟩ : ByteArray),.string N] 177)).drewN nq):=HR.out.2.2.2.2.2.2.1.drewN nq;generalize (wr.alloc (.cells #[.string (⟨#[]⟩ : ByteArray),.string N] 177)).drewN nq=w7 at *;have gDR:=QH trivial;exact yex
  |guard_hyp gEe
   have t17:((wr.alloc (.cells #[.string S,.string N] 177)).drewN nq).cell? ⟨sb,1,none⟩ = some (.map (some mb)):=s17;have n0:((wr.alloc (.cells #[.string S,.string N] 177)).drewN nq).cell? ⟨wr.heap.size,0,none⟩ = some (.string S):=m0;have n1:((wr.alloc (.cells #[.string S,.string N] 177)).drewN nq).cell? ⟨wr.heap.size,1,none⟩ = some (.string N):=m1;have hM7:Mods [] wr ((wr.alloc (.cells #[.string S,.string N] 177)).drewN nq):=HR.out.2.2.2.2.2.2.1.drewN nq;generalize (wr.alloc (.cells #[.string S,.string N] 177)).drewN nq=w7 at *;have gDS:=QH trivial;exact yex
 ):p:=h
theorem yex {p:Prop} (h:p:=by
  obtain ⟨nb,hnb⟩:=EX (wr.heap.size);rw [hnb] at n0 n1;rw [hnb];have HNB:=QH (AI hnb hM7);clear s17 m0 m1 hnb hM7;have hce:= Tryz.slices_Contains_int_empty none 0 (len:Int) w7;go_wp2_with fail;(with_reducible refine hce.mono ?_);rintro r w7' ⟨rfl,rfl⟩;clear hce;go_upto_region 8 with fail
  first
  |guard_hyp gDR
   apply zr AC [0,1,2,3,4,5,6] [(7,[]),(8,[]),(9,[])] false AC (fun y => y.cell? ⟨sb,1,none⟩ = some (.map (some mb)) ∧ y.cell? ⟨nb,0,none⟩ = some (.string (⟨#[]⟩ : ByteArray)) ∧ y.cell? ⟨nb,1,none⟩ = some (.string N))
   case hC => exact ⟨t17,n0,n1⟩
   case hwalk =>rintro y ⟨h0,h1,h2⟩;exact ybw
   case hrun =>have gDq:=QH trivial;exact yem
  |guard_hyp gDS
   apply zr AC [0,1,2,3,4,5,6] [(7,[]),(8,[]),(9,[])] false AC (fun y => y.cell? ⟨sb,1,none⟩ = some (.map (some mb)) ∧ y.cell? ⟨nb,0,none⟩ = some (.string S) ∧ y.cell? ⟨nb,1,none⟩ = some (.string N))
   case hC => exact ⟨t17,n0,n1⟩
   case hwalk =>rintro y ⟨h0,h1,h2⟩;exact ybw
   case hrun =>have gDr:=QH trivial;exact yem
 ):p:=h
theorem yem {p:Prop} (h:p:=by
  change zct _ _ _ _ _ [(_,[]),(_,[]),(_,[])] _ _;refine zv fun R4 hR4 => ?_;go_wp2_with fail;have hz8:Mods [] w7' ((w7'.alloc (.cells #[.int .i64 len] 3)).drew):=((QM [] w7').alloc _).drew;refine zd (hR4 _ _ (.inr ⟨hz8.cell t17,hz8.cell n0,hz8.cell n1⟩) ?_);clear hR4 R4;refine zv fun R5 hR5 => ?_;obtain ⟨-,-,-,-,hj,hy0,hy1,hy2⟩:=HI.out
  first
  |guard_hyp gDq
   go_wp2_with (at_builtin; refine zw _ rfl _ _ 52 rfl 3 j0 _ 1 8 Tryz.underlying52 hj hy0 hy1 hy2 rfl AD (.slice none 0 0) 0 [] rfl (ziY _ _ _) ⟨w7'.heap.size,0,none⟩ 1 1 [.int .i64 len] rfl rfl ?d01 (fun u hu => by simp at hu; subst hu; rfl) AD BP AA ?_);have gCp:=QH trivial;exact ydR
  |guard_hyp gDr
   go_wp2_with (at_builtin; refine zw _ rfl _ _ 52 rfl 3 j0 _ 1 8 Tryz.underlying52 hj hy0 hy1 hy2 rfl AD (.slice none 0 0) 0 [] rfl (ziY _ _ _) ⟨w7'.heap.size,0,none⟩ 1 1 [.int .i64 len] rfl rfl ?d11 (fun u hu => by simp at hu; subst hu; rfl) AD BP AA ?_);have gCq:=QH trivial;exact ydR
 ):p:=h
theorem ydR {p:Prop} (h:p:=by
  intro vb vcap w9 hown9 hM9 hg9;have hM79:Mods [] w7' w9:=hz8.trans (hM9.mono (L':=[]) (by simp [Value.ownBlock]));have hvo:=zar hown9;have hvc:=ze0 hown9;have hvb:w7'.heap.size ≤ vb:=by
   rcases hg9 with h | h
   ·cases h
   ·have:=hz8.size; omega
  have hmap9:=((HR.out.2.2.1.mods (HNB.out.2.mono)).mods (hM79.mono));have hst9:=hM79.heap (HNB.out.2.heap HR.out.1 AB)
  first
  |guard_hyp gCp
   obtain ⟨w10,hrun,hmap10,hM10⟩:=hmap9.insert ([]:Bs) nm AB BK HR.out.2.2.2.2.2.2.2.2.1 (b:=vb) (cap:=vcap) (k:=len) (hvo.2.2 0 _ rfl) AL ⟨hvo.2.1,hvc⟩;rw [show zdm ([]:Bs) nm = .agg #[.string (⟨#[]⟩ : ByteArray),.string N] by unfold zdm; rw [HH.out.2.2.2.2.2.2.1]] at hrun;have gAP:=QH trivial;exact ydd
  |guard_hyp gCq
   obtain ⟨w10,hrun,hmap10,hM10⟩:=hmap9.insert tb nm (by have:=HN.out.2.1; omega) BK HR.out.2.2.2.2.2.2.2.2.1 (b:=vb) (cap:=vcap) (k:=len) (hvo.2.2 0 _ rfl) AL ⟨hvo.2.1,hvc⟩;rw [show zdm tb nm = .agg #[.string S,.string N] by unfold zdm; rw [HH.out.2.2.2.2.2.1,HH.out.2.2.2.2.2.2.1]] at hrun;have gAQ:=QH trivial;exact ydd
 ):p:=h
theorem ydd {p:Prop} (h:p:=by
  have HE:=QH (AI hmap10 (AI hM10 (AI hM79 hst9)));have u17:=hM79.cell t17;have u0:=hM79.cell n0;have u1:=hM79.cell n1;clear hown9 hM9 hg9 hmap9 hmap10 hM10 hvo hvc hM79 hst9 hz8 hj hy0 hy1 hy2 t17 n0 n1 hvb;go_wp2_with fail;refine zd (hR5 _ _ (.inr ⟨u17,u0,u1⟩) ?_);clear hR5 R5;refine zv fun R6 hR6 => ?_;go_wp2_with fail;refine zd (hR6 _ _ AB ?_);clear hR6 R6 hrun u17 u0 u1;refine zI ?_;go_wp2_with fail
  first
  |guard_hyp gAP
   go_roundg (2 - (0 + 1))
   case measure => omega
   case rel =>
    obtain ⟨hmap10,hM10,hM79,hst9⟩:=HE.out;have hsm:sb ≠ mb:=HSM.out.1;have hgm:∀ x,(Value.slice (some ⟨g,0,none⟩) (len + 1) cap2).ownBlock=some x → x ≠ mb:=fun x hx => by cases hx; exact HSM.out.2.1
    refine ⟨0 + 1,by omega,by go_num,?_⟩;exact yaJ
  |guard_hyp gAQ
   go_roundg (2 - (1 + 1))
   case measure => omega
   case rel =>
    obtain ⟨hmap10,hM10,hM79,hst9⟩:=HE.out;have hsm:sb ≠ mb:=HSM.out.1;have hgm:∀ x,(Value.slice (some ⟨g,0,none⟩) (len + 1) cap2).ownBlock=some x → x ≠ mb:=fun x hx => by cases hx; exact HSM.out.2.1
    refine ⟨1 + 1,by omega,by go_num,?_⟩;exact yaJ
 ):p:=h
theorem ycu {p:Prop} (h:p:=by
  change wpQuiet _ _ _ _ [_,_] (Act.mk _ _);(repeat go_big_quiet_step (fail));refine QW ?_;exact rfl
 ):p:=h
theorem yaJ {p:Prop} (h:p:=by
  refine ⟨hM10.heap hst9 (by simpa using hsm),(((HR.out.2.1.mods HNB.out.2 AB).mods hM79 AB).mods hM10 (fun x hx => by simpa using hgm x hx)),hmap10,((HR.out.2.2.2.1.trans HNB.out.2).trans hM79).trans hM10 (fun x hx => .inl (by simp at hx; rw [hx]; exact HH.out.1.old.2.1)),hM10.heap (hM79.heap (HNB.out.2.heap HR.out.2.2.2.2.1 AB)) (by simpa using HSM.out.2.2.2),?_⟩;have h1:=HR.out.2.2.2.2.2.1;have h2:=HNB.out.2.size;have h3:=hM79.size;have h4:=hM10.size;omega
 ):p:=h
theorem ybw {p:Prop} (h:p:=by
  change wpQuiet _ _ _ _ [_,_,_,_,_,_,_] (Act.mk _ _);(repeat go_big_quiet_step (fail));refine QW ?_;exact rfl
 ):p:=h
theorem ycg {p:Prop} (h:p:=by
  change wpQuiet _ _ _ _ [_,_,_,_,_,_] (Act.mk _ _);(repeat go_big_quiet_step (fail));refine QW ?_;exact rfl
 ):p:=h
open Go.Maps
theorem ziY (w:World) (T:TypeId) (n:Nat):w.ownsRow 0 T n (.slice none 0 0) 0 []:=⟨by simp,.inl ⟨rfl,rfl⟩⟩
def AddI (Lx Sl:List Nat) (w0 w3:World) (sb:Nat) (cv':Value) (mb d pos e:Nat) (env:List EC) (f:Bs → Bs → List Nat) (kb:Nat) (S N:ByteArray) (wr:World):Prop:=
 zaX wr sb cv' mb d pos e ∧ EnvOwn wr cv' env ∧ MapIs wr (sb :: (cv'.ownBlock.toList ++ Lx)) mb f ∧ Mods Sl w0 wr ∧ wr.heap[kb]? = some (.cells #[.string ⟨#[]⟩,.string N,.string S,.string N] 177 (0,0)) ∧ w3.heap.size ≤ wr.heap.size
theorem zmT (Lx Sl:List Nat) (w0 w:World) (sb:Nat) (cv:Value) (mb d pos e:Nat) (env:List EC) (hA:Adding Lx Sl w0 w sb cv mb d pos e env) (hlen:env.length ≤ 1000) (tb nm:Bs) (k s:Nat) (nl:Bool) (htb:tb ≠ []) (hlt:tb.length ≤ 5000) (hln:nm.length ≤ 5000) (hnew:∀ e ∈ env,e.name ≠ nm) :
  Calls Tryz.prog 66 #[zh sb,.string ⟨tb.toArray⟩,.agg #[.string ⟨nm.toArray⟩,.int .i64 k,.int .i64 s,.bool nl]] w (fun r w' => r = .returned (.tuple #[]) ∧ ∃ cv',Adding Lx Sl w0 w' sb cv' mb d pos e (env ++ [⟨tb,nm,⟨k,s⟩⟩])):=by
 obtain ⟨len,hle⟩:=EX (env.length);obtain ⟨xs,hown,hxs⟩:=hA.row;rw [hle] at hown hlen;obtain ⟨ao,cap,hcv⟩ : ∃ ao cap,cv = .slice ao len cap:=by
  rcases hown.2 with ⟨h1,h2⟩ | ⟨g,cap,cur,h1,-⟩
  ·exact ⟨none,0,by rw [h1,h2]⟩
  ·exact ⟨_,_,h1⟩
 obtain ⟨i0,hi,hz0,hz1,hz2⟩:=info_parts (show (Tryz.prog.info? 61).map (fun i => (i.zero,i.size,i.bytes))=some (some (.agg #[.string ⟨#[]⟩,.int .i64 0,.int .i64 0,.bool false]),4,40) by kernel_rfl);obtain ⟨j0,hj,hy0,hy1,hy2⟩:=info_parts (show (Tryz.prog.info? 3).map (fun i => (i.zero,i.size,i.bytes))=some (some (.int .i64 0),1,8) by kernel_rfl);obtain ⟨S,hS⟩:=EX ((⟨tb.toArray⟩ : ByteArray):ByteArray);obtain ⟨N,hN⟩:=EX ((⟨nm.toArray⟩ : ByteArray):ByteArray);rw [hS,hN];have s0:=za hA.st 0;change w.cell? _=some cv at s0;rw [hcv] at s0;have hb:=QN w (.cells #[.string N,.int .i64 k,.int .i64 s,.bool nl] 61);have hz:=(QM [] w).alloc (.cells #[.string N,.int .i64 k,.int .i64 s,.bool nl] 61);have s0':=hz.cell s0;have c0:=za hb 0;have c1:=za hb 1;have c2:=za hb 2;have c3:=za hb 3;change World.cell? _ _=some (.string N) at c0;change World.cell? _ _=some (Value.int .i64 k) at c1;change World.cell? _ _=some (Value.int .i64 s) at c2;change World.cell? _ _=some (Value.bool nl) at c3;have hst1:=hz.heap hA.st;have hsb:=zj hA.st;have HH:=QH (AI hA (AI hown (AI hxs (AI hle (AI hcv (AI hS (AI hN (AI hz (AI hst1 hb)))))))));have HI:=QH (AI hi (AI hz0 (AI hz1 (AI hz2 (AI hj (AI hy0 (AI hy1 hy2)))))));have HN:=QH (AI htb (AI hlt (AI hln hnew)));clear hA hown hxs hle hcv hS hN hz hst1 hb hi hz0 hz1 hz2 hj hy0 hy1 hy2 htb hlt hln hnew;unfold zh;go_enter Tryz.func66, Tryz.ntmps66;go_upto_region 2 with fail;generalize w.alloc (.cells #[.string N,.int .i64 k,.int .i64 s,.bool nl] 61)=w1 at *;obtain ⟨cb,hcb⟩:=EX (w.heap.size);rw [hcb] at HH c0 c1 c2 c3 hsb;rw [hcb];have gs0:=zc HH.out.2.2.2.2.2.2.2.2.1 0;apply zr AC [0,1,2,3,4,5] [(6,[]),(7,[8,9]),(10,[])] false AC (fun y => y.cell? ⟨sb,0,none⟩ = some (.slice ao len cap) ∧ y.cell? ⟨cb,0,none⟩ = some (.string N) ∧ y.cell? ⟨cb,1,none⟩ = some (.int .i64 k) ∧ y.cell? ⟨cb,2,none⟩ = some (.int .i64 s) ∧ y.cell? ⟨cb,3,none⟩ = some (.bool nl))
 case hC => exact ⟨s0',c0,c1,c2,c3⟩
 case hwalk =>rintro y ⟨h0,h1,h2,h3,h4⟩;exact ycg
 case hrun =>
  change zct _ _ _ _ _ [(_,[]),(_,[_,_]),(_,[])] _ _;refine zv fun R1 hR1 => ?_;go_wp2_with fail;have hz2:Mods [] w1 (w1.drew.alloc (.cells #[.string N,.int .i64 k,.int .i64 s,.bool nl] 61)):=((QM [] w1).drew).alloc _;have hz2d:Mods [] w1 ((w1.alloc (.cells #[.string N,.int .i64 k,.int .i64 s,.bool nl] 61)).drew):=((QM [] w1).alloc _).drew;refine zd (hR1 _ _ (.inr ⟨hz2d.cell s0',hz2d.cell c0,hz2d.cell c1,hz2d.cell c2,hz2d.cell c3⟩) ?_);clear hR1 R1 hz2;refine zP fun R2 hR2 => ?_;obtain ⟨hi,hz0,hz1,hz2,-⟩:=HI.out;have hown1:=zm HH.out.2.1 HH.out.2.2.2.2.2.2.2.1 AB;have hcvb:cv = .slice ao len cap:=HH.out.2.2.2.2.1;rw [hcvb] at hown1;go_wp2_with (at_builtin; refine zw _ rfl _ _ 26 rfl 61 i0 _ 4 40 Tryz.underlying26 hi hz0 hz1 hz2 rfl AD (.slice ao len cap) len xs rfl ((hown1.alloc _).drew) ⟨w1.heap.size,0,none⟩ 1 1 [.string N,.int .i64 k,.int .i64 s,.bool nl] rfl rfl ?c1 ?c2 AD ?c3 ?c4 ?_)
  case c2 => exact ⟨rfl,rfl,rfl,rfl⟩
  case c3 => unfold maxLen; omega
  case c4 => omega
  intro g cap2 w5 hown5 hM5 hg5;have hA:=HH.out.1;have hcvo:cv.ownBlock=(Value.slice ao len cap).ownBlock:=by rw [hcvb]
  have hold:∀ x,(Value.slice ao len cap).ownBlock=some x → (x ∈ Sl ∨ w0.heap.size ≤ x) ∧ x ≠ sb ∧ x < w.heap.size:=fun x hx => by rw [← hcvo] at hx;have h1:=hA.old.2.2 x hx;exact ⟨h1.1,h1.2,(HH.out.2.1.lt x hx).2⟩
  have hsbn:sb ∉ (Value.slice ao len cap).ownBlock.toList:=fun hm => (hold sb AH).2.1 rfl;have hcbn:cb ∉ (Value.slice ao len cap).ownBlock.toList:=fun hm => by have:=(hold cb AH).2.2; omega
  have e0:=hM5.cell (hz2d.cell s0') hsbn;have e1:=hM5.cell (hz2d.cell c0) hcbn;have e2:=hM5.cell (hz2d.cell c1) hcbn;have e3:=hM5.cell (hz2d.cell c2) hcbn;have e4:=hM5.cell (hz2d.cell c3) hcbn;have hst5:=hM5.heap (hz2d.heap HH.out.2.2.2.2.2.2.2.2.1) hsbn;have gs5:=zc hst5 0;have hmap2:=((hA.map.is.mods (HH.out.2.2.2.2.2.2.2.1.mono)).mods (hz2d.mono));rw [hcvo] at hmap2;have hgl:(g ∈ Sl ∨ w0.heap.size ≤ g) ∧ g ≠ sb:=by
   rcases hg5 with h1 | h1
   ·exact ⟨(hold g h1).1,(hold g h1).2.1⟩
   ·have h3:=HH.out.2.2.2.2.2.2.2.1.size;have h4:=hA.mods.size;(try simp at h1);have h6:=zj hA.st;exact ⟨.inr AA,by omega⟩
  have hmap5:MapIs w5 (sb :: ([g] ++ Lx)) mb (zaC env):=by
   have h1:MapIs ((w1.alloc (.cells #[.string N,.int .i64 k,.int .i64 s,.bool nl] 61)).drew) (g :: sb :: ((Value.slice ao len cap).ownBlock.toList ++ Lx)) mb (zaC env):=by
    rcases hg5 with h1 | h1
    ·exact hmap2.weaken fun x hx => by
      rcases MC hx with rfl | hx
      ·simp [h1]
      ·exact hx
    ·exact hmap2.fresh (by simpa using h1)
   exact (h1.mods (hM5.mono (fun x hx => .inl (by simp at hx; simp [hx])))).weaken (fun x hx => by simp at hx; rcases hx with rfl | rfl | hx <;> simp [*])
  have hMw5:Mods Sl w0 w5:=(((hA.mods.trans HH.out.2.2.2.2.2.2.2.1).trans hz2d).trans hM5 (fun x hx => (hold x AJ).1));have hM6:Mods [sb] w5 (w5.setCell ⟨sb,0,none⟩ (.slice (some ⟨g,0,none⟩) (len + 1) cap2)):=(QM _ _).setCell (.inl AB) _;have H5:=QH (AI hown5 (AI hst5 (AI hgl (AI hmap5 (AI hMw5 hM6)))));clear hown5 hM5 hg5 hst5 hmap2 hgl hmap5 hMw5 hM6 hi hz0 hz1 hz2 hown1 hcvb hcvo hold hsbn hcbn hz2d hA s0' c0 c1 c2 c3 gs0;go_wp2_with fail;refine zd ?_;apply hR2 _ w5 (.inr ⟨e0,e1,e2,e3,e4⟩)
  ·rintro y ⟨h0,h1,h2,h3,h4⟩;exact ycu
  clear hR2 R2;refine zv fun R3 hR3 => ?_;go_wp2_with fail;refine zd (hR3 _ _ AB ?_);clear hR3 R3;refine zI ?_;have hst6:zaX (w5.setCell ⟨sb,0,none⟩ (.slice (some ⟨g,0,none⟩) (len + 1) cap2)) sb (.slice (some ⟨g,0,none⟩) (len + 1) cap2) mb d pos e:=zb H5.out.2.1 0 _;have hrow6:EnvOwn (w5.setCell ⟨sb,0,none⟩ (.slice (some ⟨g,0,none⟩) (len + 1) cap2)) (.slice (some ⟨g,0,none⟩) (len + 1) cap2) (env ++ [⟨tb,nm,⟨k,s⟩⟩]):=by
   obtain ⟨hown5,-,hgl,-,-,hM6⟩:=H5.out;have hle:=HH.out.2.2.2.1;have hxl:xs.length=len * 4:=HH.out.2.1.1;refine ⟨xs ++ [.string N,.int .i64 k,.int .i64 s,.bool nl],?_,fun i hi => ?_⟩
   ·rw [List.length_append,hle];exact zm hown5 hM6 (fun x hx => by cases hx; simpa using hgl.2)
   ·rw [List.length_append,hle] at hi;by_cases hil:i < len
    ·obtain ⟨q1,q2,q3,n9,q4⟩:=HH.out.2.2.1 i AA;have he:(env ++ [(⟨tb,nm,⟨k,s⟩⟩ : EC)])[i]'AE=env[i]'AA:=List.getElem_append_left AA;rw [he,List.getElem?_append_left AA,List.getElem?_append_left AA,List.getElem?_append_left AA,List.getElem?_append_left AA];exact ⟨q1,q2,q3,n9,q4⟩
    ·have hie:i=len:=by simp at hi; omega
     subst hie;have he:(env ++ [(⟨tb,nm,⟨k,s⟩⟩ : EC)])[i]'AE = ⟨tb,nm,⟨k,s⟩⟩:=by rw [List.getElem_append_right AA]; simp [hle]
     rw [he,List.getElem?_append_right AA,List.getElem?_append_right AA,List.getElem?_append_right AA,List.getElem?_append_right AA,hxl];refine ⟨?_,?_,?_,nl,?_⟩
     ·rw [show i * 4 - i * 4=0 by omega,← HH.out.2.2.2.2.2.2.1]; rfl
     ·rw [show i * 4 + 1 - i * 4=1 by omega]; rfl
     ·rw [show i * 4 + 2 - i * 4=2 by omega]; rfl
     ·rw [show i * 4 + 3 - i * 4=3 by omega]; rfl
  have hmap6:MapIs (w5.setCell ⟨sb,0,none⟩ (.slice (some ⟨g,0,none⟩) (len + 1) cap2)) (sb :: ((Value.slice (some ⟨g,0,none⟩) (len + 1) cap2).ownBlock.toList ++ Lx)) mb (zaC env):=H5.out.2.2.2.1.mods (H5.out.2.2.2.2.2.mono);have hMw6:Mods Sl w0 (w5.setCell ⟨sb,0,none⟩ (.slice (some ⟨g,0,none⟩) (len + 1) cap2)):=H5.out.2.2.2.2.1.trans H5.out.2.2.2.2.2 (fun x hx => .inl (by simp at hx; rw [hx]; exact HH.out.1.old.1));have f1:=H5.out.2.2.2.2.2.cell e1 AE;have hmbL:sb ≠ mb ∧ g ≠ mb:=by obtain ⟨es9,c9,-,hn9,-⟩:=hmap6;simp [Value.ownBlock] at hn9;exact ⟨fun h => hn9.1 h.symm,fun h => hn9.2.1 h.symm⟩
  have hgl6:g < w5.heap.size:=(zar H5.out.1).1;have HG:=QH (AI hst6 (AI hrow6 (AI hmap6 hMw6)));have HSMB:=QH hmbL;clear hst6 hrow6 hmap6 hMw6 hmbL e0 e1 e2 e3 e4 gs5;have hmb6:mb < (w5.setCell ⟨sb,0,none⟩ (.slice (some ⟨g,0,none⟩) (len + 1) cap2)).heap.size:=by obtain ⟨es9,c9,h9,-⟩:=HG.out.2.2.1;exact zj h9
  have hz6:(w5.setCell ⟨sb,0,none⟩ (.slice (some ⟨g,0,none⟩) (len + 1) cap2)).heap.size=w5.heap.size:=by simp [World.setCell]
  have HZ6:=QH hz6;clear hz6;generalize w5.setCell ⟨sb,0,none⟩ (.slice (some ⟨g,0,none⟩) (len + 1) cap2)=w6 at *;go_wp2_with fail;have hkb:=QN w6 (.cells #[.string ⟨#[]⟩,.string N,.string S,.string N] 177);have hzk:=(QM [] w6).alloc (.cells #[.string ⟨#[]⟩,.string N,.string S,.string N] 177)
  have hstart:AddI Lx Sl w0 w6 sb (.slice (some ⟨g,0,none⟩) (len + 1) cap2) mb d pos e (env ++ [⟨tb,nm,⟨k,s⟩⟩]) (zaC env) w6.heap.size S N (w6.alloc (.cells #[.string ⟨#[]⟩,.string N,.string S,.string N] 177)):=
   ⟨hzk.heap HG.out.1,HG.out.2.1.mods hzk AB,HG.out.2.2.1.mods (hzk.mono),HG.out.2.2.2.trans hzk,hkb,by rw [zl]; omega⟩
  have HST:=QH hstart;have HSM:=QH (show sb ≠ mb ∧ g ≠ mb ∧ mb ∈ Sl ∧ w6.heap.size ≠ mb from ⟨HSMB.out.1,HSMB.out.2,HH.out.1.old.2.1,by omega⟩);have HGL:=QH (show g < w6.heap.size by rw [HZ6.out]; exact hgl6);clear hkb hzk hstart hgl6 hmb6 f1;obtain ⟨kb,hkbe⟩:=EX (w6.heap.size);rw [hkbe] at HST HSM;rw [hkbe];have HKB:=QH hkbe;clear hkbe;go_loopg [34] 2 (fun gk t34 wr => ∃ i:Nat,i + gk=2 ∧ t34 = .int .i64 i ∧ AddI Lx Sl w0 w6 sb (.slice (some ⟨g,0,none⟩) (len + 1) cap2) mb d pos e (env ++ [⟨tb,nm,⟨k,s⟩⟩]) (if i=0 then zaC env else if i=1 then updF (zaC env) [] nm len else updF (updF (zaC env) [] nm len) tb nm len) kb S N wr)
  case atStart => exact ⟨0,by omega,rfl,HST.out⟩
  obtain ⟨i,hi,rfl,hst,hrow,hmap,hM0,hkb,hsz⟩:=hrel;have hi3:i=0 ∨ i=1 ∨ i=2:=by omega
  rcases hi3 with rfl | rfl | rfl
  ·rw [if_pos rfl] at hmap;have hkey:zaC env ([]:Bs) nm=[]:=zcR HN.out.2.2.2 _;have hSN:(⟨([]:Bs).toArray⟩ : ByteArray)=(⟨#[]⟩ : ByteArray):=rfl;have hNN:(⟨nm.toArray⟩ : ByteArray)=N:=HH.out.2.2.2.2.2.2.1;have k0:=za hkb 0;have k1:=za hkb 1;change wr.cell? _=some (.string (⟨#[]⟩ : ByteArray)) at k0;change wr.cell? _=some (.string N) at k1;have hz7:=(QM [] wr).alloc (.cells #[.string (⟨#[]⟩ : ByteArray),.string N] 177);have hb7:=QN wr (.cells #[.string (⟨#[]⟩ : ByteArray),.string N] 177);have s1:=za hst 1;change wr.cell? _=some (.map (some mb)) at s1;have s17:=hz7.cell s1;have m0:=za hb7 0;have m1:=za hb7 1;change World.cell? _ _=some (.string (⟨#[]⟩ : ByteArray)) at m0;change World.cell? _ _=some (.string N) at m1;have L0:∀ n,(Instr.lookup 99 (.map (some mb)) (.agg #[.string (⟨#[]⟩ : ByteArray),.string N]) false).run Tryz.prog ((wr.alloc (.cells #[.string (⟨#[]⟩ : ByteArray),.string N] 177)).drewN n) = .ok (.slice none 0 0) ((wr.alloc (.cells #[.string (⟨#[]⟩ : ByteArray),.string N] 177)).drewN n):=fun n => by
    have:=(hmap.mods (hz7.mono)).absent ([]:Bs) nm AB BK hkey ((wr.alloc (.cells #[.string (⟨#[]⟩ : ByteArray),.string N] 177)).drewN n) rfl;rw [show zdm ([]:Bs) nm = .agg #[.string (⟨#[]⟩ : ByteArray),.string N] by unfold zdm; rw [hSN,hNN]] at this;exact this
   have gEd:=QH trivial;exact yeF
  ·rw [if_neg AD,if_pos rfl] at hmap;have hkey:updF (zaC env) [] nm len tb nm=[]:=by unfold updF; rw [if_neg (fun hh => HN.out.1 hh.1)]; exact zcR HN.out.2.2.2 _
   have hSN:(⟨tb.toArray⟩ : ByteArray)=S:=HH.out.2.2.2.2.2.1;have hNN:(⟨nm.toArray⟩ : ByteArray)=N:=HH.out.2.2.2.2.2.2.1;have k0:=za hkb 2;have k1:=za hkb 3;change wr.cell? _=some (.string S) at k0;change wr.cell? _=some (.string N) at k1;have hz7:=(QM [] wr).alloc (.cells #[.string S,.string N] 177);have hb7:=QN wr (.cells #[.string S,.string N] 177);have s1:=za hst 1;change wr.cell? _=some (.map (some mb)) at s1;have s17:=hz7.cell s1;have m0:=za hb7 0;have m1:=za hb7 1;change World.cell? _ _=some (.string S) at m0;change World.cell? _ _=some (.string N) at m1;have L0:∀ n,(Instr.lookup 99 (.map (some mb)) (.agg #[.string S,.string N]) false).run Tryz.prog ((wr.alloc (.cells #[.string S,.string N] 177)).drewN n) = .ok (.slice none 0 0) ((wr.alloc (.cells #[.string S,.string N] 177)).drewN n):=fun n => by have:=(hmap.mods (hz7.mono)).absent tb nm (by have:=HN.out.2.1; omega) BK hkey ((wr.alloc (.cells #[.string S,.string N] 177)).drewN n) rfl;rw [show zdm tb nm = .agg #[.string S,.string N] by unfold zdm; rw [hSN,hNN]] at this;exact this
   have gEe:=QH trivial;exact yeF
  ·rw [if_neg AD,if_neg AD] at hmap;have henv:=zic (env:=env) (c:=⟨tb,nm,⟨k,s⟩⟩) HN.out.2.2.2 HN.out.1;rw [HH.out.2.2.2.1] at henv;have hfin:Adding Lx Sl w0 wr sb (.slice (some ⟨g,0,none⟩) (len + 1) cap2) mb d pos e (env ++ [⟨tb,nm,⟨k,s⟩⟩]):=⟨hst,MapIs.env (by rw [henv]; exact hmap),hrow,hM0,⟨HH.out.1.old.1,HH.out.1.old.2.1,fun x hx => by (cases hx; exact H5.out.2.2.1)⟩,HH.out.1.far⟩;have HFIN:=QH hfin;clear hst hrow hmap hM0 hkb hsz henv hfin;go_wp2_with fail;first | go_end0 | exact bodyPost_end (results_none rfl _ _ _) rfl ?_
   exact ⟨rfl,_,HFIN.out⟩
open Go.Maps
theorem zjP (k:Int) (met:Met) (t:Tbl) (ts:List Tbl):tblsK k met (t :: ts)=if 16 < t.cols.length then none else match tblK k met t with
  | none => none
  | some m => tblsK (k + 1) m ts:=rfl
theorem zmU:NRow #[] 0 []:=⟨⟨by simp,by simp,by simp⟩,by simp,by simp,by simp⟩
theorem zjQ (w:World) (hT:Tabs w) (l:List Tbl) (hl:∀ t ∈ l,t.ok) (n:Nat) (hn:l.length=n) (hn63:n ≤ 9223372036854775807) (ao:Option Addr) (cap:Nat) (hI:TblsIn w ao l []) :
  Calls Tryz.prog 17 #[.slice ao n cap] w fun e w' => e = .returned (.bool (zd4 l)) ∧ Mods [] w w':=by
 have hN0:NMap (w.alloc (.map #[] 0)) w.heap.size []:=⟨#[],0,QN w _,zmU⟩;have hMA:=(QM [] w).alloc (.map #[] 0);have hsz:=zl w (.map #[] 0);have FIN:Hid (∀ x w',(tblsK 0 [] l).isSome=x → Mods [] w w' → (x && decide (n ≤ 16))=zd4 l ∧ Mods [] w w'):=QH (fun x w' h1 h2 => ⟨by rw [zld,h1,hn],h2⟩);have HN:=QH hn;have HI:=QH (AI hI hl);clear hn hI hl;have hmm:=@run_makeMap Tryz.prog;go_enter Tryz.func17, Tryz.ntmps17;go_wp2_with fail;clear hmm;obtain ⟨mb,hmb⟩:=EX (w.heap.size);rw [hmb] at hN0 hsz ⊢;have hge:w.heap.size ≤ mb:=by omega
 generalize w.alloc (.map #[] 0)=w1 at *;go_loopw [9] (fun t9 wr => ∃ (i:Nat) (m:Met),i ≤ n ∧ t9 = .int .i64 i ∧ Mods [mb] w1 wr ∧ NMap wr mb m ∧ Hid (tblsK 0 [] l=tblsK i m (l.drop i))) (fun t9 _ => n - (intOf t9).toNat)
 case atStart => exact ⟨0,[],by omega,rfl,QM _ _,hN0,QH rfl⟩
 case round =>
  clear hN0;obtain ⟨i,m,hi,rfl,hM,hN,HK⟩:=hrel;have hMx:Mods [] w wr:=hMA.trans hM (fun x hx => .inr AQ);have hsr:=hM.size;by_cases hlt:i < n
  ·have hil:i < l.length:=by rw [HN.out]; exact hlt
   have hne:l ≠ []:=fun h => by rw [h] at hil; simp at hil
   obtain ⟨lb,off,rfl,hlb,hcells⟩:=HI.out.1 hne;obtain ⟨c0,co,cc,c1,hC⟩:=hcells i hil;have d0:=hMx.cell c0;have d1:=hMx.cell c1;have hC2:=(hC.apart (L:=[mb]) (fun x hx => by simp at hx; omega)).mods (hMx.mono);have htok:=HI.out.2 _ (List.getElem_mem hil);have hK:=HK.out;rw [ziZ hil,zjP] at hK;obtain ⟨t,ht⟩:=EX (l[i]);rw [ht] at d0 d1 hC2 htok hK;obtain ⟨nc,hnc⟩:=EX (t.cols.length);rw [hnc] at d1 hK;have hnc63:nc ≤ 9223372036854775807:=by rw [← hnc]; exact htok.2.1
   clear c0 c1 hC ht hcells HK;have hMB:=(QM [] wr).alloc (.cells #[.string t.name,.slice co nc cc] 28);have hrg:=zle w _ hT (hMx.trans hMB) mb hge (by rw [zl]; omega) m (hN.mods hMB AB) i AA t htok nc hnc co cc (hC2.mods (hMB.mono));have HKK:=QH hK;have hMB1:=hM.trans (hMB.mono (L':=[mb]) AB);clear hK hC2 htok hN hnc hMB;by_cases h16:16 < nc
   ·have hno:(tblsK 0 [] l).isSome=false:=by rw [HKK.out,if_pos h16]; rfl
    have fin:=QH (fun w' h => FIN.out false w' hno h);have z1:(16:Int) < nc:=by omega
    clear hno HKK FIN hrg;go_wp2_with fail;go_ret;exact ⟨zbC (fin.out _ hMx).1,hMx.alloc _⟩
   ·have z1:¬ (16:Int) < nc:=by omega
    have z2:=decide_eq_false z1;have hK2:=HKK.out;rw [if_neg h16] at hK2;go_wp2_with fail;(with_reducible refine hrg.mono ?_);rintro e w2 ⟨rfl,hM2,hN2⟩;clear hrg;have hM3:=hMB1.trans hM2
    cases htb:tblK i m t with
    | none =>
     rw [htb] at hK2;have hno:(tblsK 0 [] l).isSome=false:=by rw [hK2]; rfl
     have fin:=QH (fun w' h => FIN.out false w' hno h);have hMf:Mods [] w w2:=hMA.trans hM3 (fun x hx => .inr AQ);clear hno HKK FIN hK2;go_wp2_with fail;go_ret;exact ⟨zbC (fin.out _ hMf).1,hMf⟩
    | some m2 =>
     rw [htb] at hK2;have HK3:=QH hK2;have hN3:=hN2 m2 htb;clear HKK hK2 hN2 FIN;go_wp2_with fail;go_roundw
     case measure => simp [intOf]; omega
     case rel => exact ⟨i + 1,m2,by omega,by go_num,hM3,hN3,QH (by rw [HK3.out]; congr 1)⟩
  ·obtain rfl:n=i:=by omega
   have hK:=HK.out;rw [List.drop_of_length_le (by have:=HN.out; omega)] at hK;change tblsK 0 [] l=some m at hK;have hyes:(tblsK 0 [] l).isSome=true:=by rw [hK]; rfl
   have fin:=QH (fun w' h => FIN.out true w' hyes h);clear hK HK hyes FIN;go_wp2_with fail;go_ret;refine ⟨zbC ?_,hMx⟩;rw [← (fin.out _ hMx).1,Bool.true_and,decide_eq_decide];omega
open Go.Maps
def zcx (l:List ByteArray) (s:ByteArray):Value:=
 match l.findIdx? (fun x => decide (x=s)) with
 | some i => .tuple #[.int .i64 i,.bool true]
 | none => .tuple #[.int .i64 0,.bool false]
theorem zfY {l:List ByteArray} {s:ByteArray} {i:Nat} (hi:i < l.length) (h:l[i]=s) (hb:∀ j (hj:j < l.length),j < i → l[j] ≠ s):zcx l s = .tuple #[.int .i64 i,.bool true]:=by
 have:l.findIdx? (fun x => decide (x=s))=some i:=by rw [List.findIdx?_eq_some_iff_getElem];exact ⟨hi,by simp [h],fun j hj => by simpa using hb j AA hj⟩
 unfold zcx;rw [this]
theorem zfZ {l:List ByteArray} {s:ByteArray} (hb:∀ j (hj:j < l.length),l[j] ≠ s):zcx l s = .tuple #[.int .i64 0,.bool false]:=by
 have:l.findIdx? (fun x => decide (x=s))=none:=by rw [List.findIdx?_eq_none_iff];intro x hx;obtain ⟨j,hj,rfl⟩:=List.getElem_of_mem hx;simpa using hb j hj
 unfold zcx;rw [this]
def NotYet (l:List ByteArray) (s:ByteArray) (i:Nat):Prop:=∀ j (hj:j < l.length),j < i → l[j] ≠ s
theorem NotYet.next {l:List ByteArray} {s:ByteArray} {i:Nat} (h:NotYet l s i) (hi:i < l.length) (hn:l[i] ≠ s):NotYet l s (i + 1):=by
 intro j hj hji;by_cases he:j=i
 ·subst he; exact hn
 ·exact h j hj AA
theorem zfg (w:World) (x:ByteArray) (v:Value) (hv:v.oneCell'=true):Calls Tryz.prog 95 #[.agg #[.string x,v]] w fun e w' => e = .returned (.string x) ∧ Mods [] w w':=by
 have hM:=(QM [] w).alloc (.cells #[.string x,v] 28);go_enter Tryz.func95, Tryz.ntmps95;go_wp2_with fail;go_ret
 exact ⟨rfl,hM⟩
theorem zig (w:World) (l:List Tbl) (n:Nat) (hn:l.length=n) (hn63:n ≤ 9223372036854775807) (ao:Option Addr) (cap:Nat) (hI:TblsIn w ao l []) (s:ByteArray) :
  Calls Tryz.prog 94 #[.slice ao n cap,.string s,.func (.func 95) #[] #[]] w fun e w' => e = .returned (zcx (l.map Tbl.name) s) ∧ Mods [] w w':=by
 have HN:=QH hn;have HI:=QH hI;clear hn hI;go_enter Tryz.func94, Tryz.ntmps94;go_wp2_with fail;go_loopw [12] (fun t12 wr => ∃ (i:Nat),i ≤ n ∧ t12 = .int .i64 i ∧ Mods [] w wr ∧ NotYet (l.map Tbl.name) s i) (fun t12 _ => n - (intOf t12).toNat)
 case atStart => exact ⟨0,by omega,rfl,QM _ _,fun j _ h => by omega⟩
 case round =>
  obtain ⟨i,hi,rfl,hM,hY⟩:=hrel;by_cases hlt:i < n
  ·have hil:i < l.length:=by rw [HN.out]; exact hlt
   have hne:l ≠ []:=fun h => by rw [h] at hil; simp at hil
   obtain ⟨cb,off,rfl,hcb,hcells⟩:=HI.out hne;obtain ⟨c0,co,cc,c1,hC⟩:=hcells i hil;have d0:=hM.cell c0;have d1:=hM.cell c1;have hml:i < (l.map Tbl.name).length:=by simpa using hil
   have hme:(l.map Tbl.name)[i]=l[i].name:=by simp
   obtain ⟨c,hc⟩:=EX (l[i]);rw [hc] at d0 d1 hme;obtain ⟨nc,hnc⟩:=EX (c.cols.length);rw [hnc] at d1;clear c0 c1 hC hc hcells hcb hnc;have hMB:=(QM [] wr).alloc (.cells #[.string c.name,.slice co nc cc] 28);have hMx:=hM.trans hMB;by_cases heq:c.name=s
   ·have fin:Hid (zcx (l.map Tbl.name) s = .tuple #[.int .i64 i,.bool true]):=QH (zfY hml (by rw [hme,heq]) hY);obtain rfl:=heq;clear hY hme hml;go_wp2_with fail;(with_reducible refine (zfg _ _ _ rfl).mono ?_);rintro e w2 ⟨rfl,hM2⟩;go_wp2_with fail;go_ret2;exact ⟨by rw [fin.out]; rfl,hMx.trans hM2⟩
   ·have hY2:NotYet (l.map Tbl.name) s (i + 1):=hY.next hml (by rw [hme]; exact heq);have z2:¬ c.name.toList=s.toList:=by
     rw [ByteArray.toList_eq,ByteArray.toList_eq];intro h;exact heq (ByteArray.ext (Array.toList_inj.1 h))
    have z1:(c.name.toList == s.toList)=false:=by rw [beq_eq_false_iff_ne]; exact z2
    clear hY hme hml;go_wp2_with fail;(with_reducible refine (zfg _ _ _ rfl).mono ?_);rintro e w2 ⟨rfl,hM2⟩;go_wp2_with fail;go_roundw
    case measure => simp [intOf]; omega
    case rel => exact ⟨i + 1,by omega,by go_num,hMx.trans hM2,hY2⟩
  ·obtain rfl:n=i:=by omega
   have fin:Hid (zcx (l.map Tbl.name) s = .tuple #[.int .i64 0,.bool false]):=QH (zfZ (fun j hj => hY j hj (by have:=HN.out; simp at hj; omega)));clear hY;go_wp2_with fail;go_ret2;exact ⟨by rw [fin.out]; rfl,hM⟩
theorem zf0 (l:List ByteArray) (s:ByteArray):∃ (i:Nat) (b:Bool),zcx l s = .tuple #[.int .i64 i,.bool b]:=by
 unfold zcx;split
 ·exact ⟨_,_,rfl⟩
 ·exact ⟨0,false,rfl⟩
theorem zfh (w:World) (l:List Tbl) (n:Nat) (hn:l.length=n) (hn63:n ≤ 9223372036854775807) (ao:Option Addr) (cap:Nat) (hI:TblsIn w ao l []) (s:ByteArray) :
  Calls Tryz.prog 65 #[.slice ao n cap,.string s] w fun e w' => e = .returned (zcx (l.map Tbl.name) s) ∧ Mods [] w w':=by
 have hf:=zig w l n hn hn63 ao cap hI s;obtain ⟨i,b,hib⟩:=zf0 (l.map Tbl.name) s;rw [hib] at hf ⊢;clear hib;go_enter Tryz.func65, Tryz.ntmps65;go_wp2_with fail;(with_reducible refine hf.mono ?_);rintro e w2 ⟨rfl,hM2⟩;go_wp2_with fail;go_ret2;exact ⟨rfl,hM2⟩
end Go.Proofs.YtcabeljiobiojaaGreatDoor
