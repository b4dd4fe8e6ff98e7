/-
  check.add, walked whole: a column of a new name. No condition.
-/
import Derived.Test.YtebljciefhfgbaaGreatDoorQ28
set_option linter.unusedVariables false
set_option maxRecDepth 100000
set_option maxHeartbeats 16000000
namespace Go.Proofs.YtebljciefhfgbaaGreatDoor
open Go.RowKit
theorem BP {p:Prop} (h:p:=by unfold maxLen; omega):p:=h
theorem BL {p:Prop} (h:p:=by have:=HN.out.2.2.1; omega):p:=h
theorem AL {p:Prop} (h:p:=by have h1:=HSM.out.1; have h5:=HNB.out.2.size; have h6:=zj HR.out.1; have h7:=HGL.out; simp only [List.mem_cons,not_or]; refine ⟨by omega,fun hx => ?_⟩; simp [Value.ownBlock] at hx; have g9:=HR.out.2.2.2.2.2.1; rcases hx with hx | hx; omega; have f1:=HH.out.1.far _ hx; have f2:=HR.out.2.2.2.1.size; omega):p:=h
theorem yeF {p:Prop} (h:p:=by
  have HR:=QH (AI hst (AI hrow (AI hmap (AI hM0 (AI hkb (AI hsz (AI hz7 (AI hb7 (AI hkey (AI hSN hNN))))))))));clear hst hrow hmap hM0 hkb hsz hz7 hb7 hkey hSN hNN s1;go_upto_region 6 with fail;go_quiet (fail);clear L0 k0 k1
  first
  |guard_hyp gEd
   have t17:((wr.alloc (.cells #[.string (⟨#[]⟩ : ByteArray),.string N] 181)).drewN nq).cell? ⟨sb,1,none⟩ = some (.map (some mb)):=s17;have n0:((wr.alloc (.cells #[.string (⟨#[]⟩ : ByteArray),.string N] 181)).drewN nq).cell? ⟨wr.heap.size,0,none⟩ = some (.string (⟨#[]⟩ : ByteArray)):=m0;have n1:((wr.alloc (.cells #[.string (⟨#[]⟩ : ByteArray),.string N] 181)).drewN nq).cell? ⟨wr.heap.size,1,none⟩ = some (.string N):=m1;have hM7:Mods [] wr ((wr.alloc (.cells #[.string (⟨#[]⟩ : ByteArray),.string N] 181)).drewN nq):=HR.out.2.2.2.2.2.2.1.drewN nq;generalize (wr.alloc (.cells #[.string (⟨#[]⟩ : ByteArray),.string N] 181)).drewN nq=w7 at *;have gDR:=QH trivial;exact yex
  |guard_hyp gEe
   have t17:((wr.alloc (.cells #[.string S,.string N] 181)).drewN nq).cell? ⟨sb,1,none⟩ = some (.map (some mb)):=s17;have n0:((wr.alloc (.cells #[.string S,.string N] 181)).drewN nq).cell? ⟨wr.heap.size,0,none⟩ = some (.string S):=m0;have n1:((wr.alloc (.cells #[.string S,.string N] 181)).drewN nq).cell? ⟨wr.heap.size,1,none⟩ = some (.string N):=m1;have hM7:Mods [] wr ((wr.alloc (.cells #[.string S,.string N] 181)).drewN nq):=HR.out.2.2.2.2.2.2.1.drewN nq;generalize (wr.alloc (.cells #[.string S,.string N] 181)).drewN nq=w7 at *;have gDS:=QH trivial;exact yex
 ):p:=h
theorem yex {p:Prop} (h:p:=by
  obtain ⟨nb,hnb⟩:=EX (wr.heap.size);rw [hnb] at n0 n1;rw [hnb];have HNB:=QH (AI hnb hM7);clear s17 m0 m1 hnb hM7;have hce:= Tryz.slices_Contains_int_empty none 0 (len:Int) w7;go_wp2_with fail;(with_reducible refine hce.mono ?_);rintro r w7' ⟨rfl,rfl⟩;clear hce;go_upto_region 8 with fail
  first
  |guard_hyp gDR
   apply zr AC [0,1,2,3,4,5,6] [(7,[]),(8,[]),(9,[])] false AC (fun y => y.cell? ⟨sb,1,none⟩ = some (.map (some mb)) ∧ y.cell? ⟨nb,0,none⟩ = some (.string (⟨#[]⟩ : ByteArray)) ∧ y.cell? ⟨nb,1,none⟩ = some (.string N))
   case hC => exact ⟨t17,n0,n1⟩
   case hwalk =>rintro y ⟨h0,h1,h2⟩;exact ybw
   case hrun =>have gDq:=QH trivial;exact yem
  |guard_hyp gDS
   apply zr AC [0,1,2,3,4,5,6] [(7,[]),(8,[]),(9,[])] false AC (fun y => y.cell? ⟨sb,1,none⟩ = some (.map (some mb)) ∧ y.cell? ⟨nb,0,none⟩ = some (.string S) ∧ y.cell? ⟨nb,1,none⟩ = some (.string N))
   case hC => exact ⟨t17,n0,n1⟩
   case hwalk =>rintro y ⟨h0,h1,h2⟩;exact ybw
   case hrun =>have gDr:=QH trivial;exact yem
 ):p:=h
theorem yem {p:Prop} (h:p:=by
  change zct _ _ _ _ _ [(_,[]),(_,[]),(_,[])] _ _;refine zv fun R4 hR4 => ?_;go_wp2_with fail;have hz8:Mods [] w7' ((w7'.alloc (.cells #[.int .i64 len] 3)).drew):=((QM [] w7').alloc _).drew;refine zd (hR4 _ _ (.inr ⟨hz8.cell t17,hz8.cell n0,hz8.cell n1⟩) ?_);clear hR4 R4;refine zv fun R5 hR5 => ?_;obtain ⟨-,-,-,-,hj,hy0,hy1,hy2⟩:=HI.out
  first
  |guard_hyp gDq
   go_wp2_with (at_builtin; refine zw _ rfl _ _ 35 rfl 3 j0 _ 1 8 Tryz.underlying35 hj hy0 hy1 hy2 rfl AD (.slice none 0 0) 0 [] rfl (ziY _ _ _) ⟨w7'.heap.size,0,none⟩ 1 1 [.int .i64 len] rfl rfl ?d01 (fun u hu => by simp at hu; subst hu; rfl) AD BP AA ?_);have gCp:=QH trivial;exact ydR
  |guard_hyp gDr
   go_wp2_with (at_builtin; refine zw _ rfl _ _ 35 rfl 3 j0 _ 1 8 Tryz.underlying35 hj hy0 hy1 hy2 rfl AD (.slice none 0 0) 0 [] rfl (ziY _ _ _) ⟨w7'.heap.size,0,none⟩ 1 1 [.int .i64 len] rfl rfl ?d11 (fun u hu => by simp at hu; subst hu; rfl) AD BP AA ?_);have gCq:=QH trivial;exact ydR
 ):p:=h
theorem ydR {p:Prop} (h:p:=by
  intro vb vcap w9 hown9 hM9 hg9;have hM79:Mods [] w7' w9:=hz8.trans (hM9.mono (L':=[]) (by simp [Value.ownBlock]));have hvo:=zar hown9;have hvc:=ze0 hown9;have hvb:w7'.heap.size ≤ vb:=by
   rcases hg9 with h | h
   ·cases h
   ·have:=hz8.size; omega
  have hmap9:=((HR.out.2.2.1.mods (HNB.out.2.mono)).mods (hM79.mono));have hst9:=hM79.heap (HNB.out.2.heap HR.out.1 AB)
  first
  |guard_hyp gCp
   obtain ⟨w10,hrun,hmap10,hM10⟩:=hmap9.insert ([]:Bs) nm AB BL HR.out.2.2.2.2.2.2.2.2.1 (b:=vb) (cap:=vcap) (k:=len) (hvo.2.2 0 _ rfl) AL ⟨hvo.2.1,hvc⟩;rw [show zdm ([]:Bs) nm = .agg #[.string (⟨#[]⟩ : ByteArray),.string N] by unfold zdm; rw [HH.out.2.2.2.2.2.2.1]] at hrun;have gAP:=QH trivial;exact ydd
  |guard_hyp gCq
   obtain ⟨w10,hrun,hmap10,hM10⟩:=hmap9.insert tb nm (by have:=HN.out.2.1; omega) BL HR.out.2.2.2.2.2.2.2.2.1 (b:=vb) (cap:=vcap) (k:=len) (hvo.2.2 0 _ rfl) AL ⟨hvo.2.1,hvc⟩;rw [show zdm tb nm = .agg #[.string S,.string N] by unfold zdm; rw [HH.out.2.2.2.2.2.1,HH.out.2.2.2.2.2.2.1]] at hrun;have gAQ:=QH trivial;exact ydd
 ):p:=h
theorem ydd {p:Prop} (h:p:=by
  have HE:=QH (AI hmap10 (AI hM10 (AI hM79 hst9)));have u17:=hM79.cell t17;have u0:=hM79.cell n0;have u1:=hM79.cell n1;clear hown9 hM9 hg9 hmap9 hmap10 hM10 hvo hvc hM79 hst9 hz8 hj hy0 hy1 hy2 t17 n0 n1 hvb;go_wp2_with fail;refine zd (hR5 _ _ (.inr ⟨u17,u0,u1⟩) ?_);clear hR5 R5;refine zv fun R6 hR6 => ?_;go_wp2_with fail;refine zd (hR6 _ _ AB ?_);clear hR6 R6 hrun u17 u0 u1;refine zI ?_;go_wp2_with fail
  first
  |guard_hyp gAP
   go_roundg (2 - (0 + 1))
   case measure => omega
   case rel =>
    obtain ⟨hmap10,hM10,hM79,hst9⟩:=HE.out;have hsm:sb ≠ mb:=HSM.out.1;have hgm:∀ x,(Value.slice (some ⟨g,0,none⟩) (len + 1) cap2).ownBlock=some x → x ≠ mb:=fun x hx => by cases hx; exact HSM.out.2.1
    refine ⟨0 + 1,by omega,by go_num,?_⟩;exact yaJ
  |guard_hyp gAQ
   go_roundg (2 - (1 + 1))
   case measure => omega
   case rel =>
    obtain ⟨hmap10,hM10,hM79,hst9⟩:=HE.out;have hsm:sb ≠ mb:=HSM.out.1;have hgm:∀ x,(Value.slice (some ⟨g,0,none⟩) (len + 1) cap2).ownBlock=some x → x ≠ mb:=fun x hx => by cases hx; exact HSM.out.2.1
    refine ⟨1 + 1,by omega,by go_num,?_⟩;exact yaJ
 ):p:=h
theorem ycu {p:Prop} (h:p:=by
  change wpQuiet _ _ _ _ [_,_] (Act.mk _ _);(repeat go_big_quiet_step (fail));refine QW ?_;exact rfl
 ):p:=h
theorem yaJ {p:Prop} (h:p:=by
  refine ⟨hM10.heap hst9 (by simpa using hsm),(((HR.out.2.1.mods HNB.out.2 AB).mods hM79 AB).mods hM10 (fun x hx => by simpa using hgm x hx)),hmap10,((HR.out.2.2.2.1.trans HNB.out.2).trans hM79).trans hM10 (fun x hx => .inl (by simp at hx; rw [hx]; exact HH.out.1.old.2.1)),hM10.heap (hM79.heap (HNB.out.2.heap HR.out.2.2.2.2.1 AB)) (by simpa using HSM.out.2.2.2),?_⟩;have h1:=HR.out.2.2.2.2.2.1;have h2:=HNB.out.2.size;have h3:=hM79.size;have h4:=hM10.size;omega
 ):p:=h
theorem ybw {p:Prop} (h:p:=by
  change wpQuiet _ _ _ _ [_,_,_,_,_,_,_] (Act.mk _ _);(repeat go_big_quiet_step (fail));refine QW ?_;exact rfl
 ):p:=h
theorem ycg {p:Prop} (h:p:=by
  change wpQuiet _ _ _ _ [_,_,_,_,_,_] (Act.mk _ _);(repeat go_big_quiet_step (fail));refine QW ?_;exact rfl
 ):p:=h
open Go.Maps
theorem ziY (w:World) (T:TypeId) (n:Nat):w.ownsRow 0 T n (.slice none 0 0) 0 []:=⟨by simp,.inl ⟨rfl,rfl⟩⟩
def AddI (Lx Sl:List Nat) (w0 w3:World) (sb:Nat) (cv':Value) (mb d pos e:Nat) (env:List EC) (f:Bs → Bs → List Nat) (kb:Nat) (S N:ByteArray) (wr:World):Prop:=
 zaX wr sb cv' mb d pos e ∧ EnvOwn wr cv' env ∧ MapIs wr (sb :: (cv'.ownBlock.toList ++ Lx)) mb f ∧ Mods Sl w0 wr ∧ wr.heap[kb]? = some (.cells #[.string ⟨#[]⟩,.string N,.string S,.string N] 181 (0,0)) ∧ w3.heap.size ≤ wr.heap.size
theorem zmT (Lx Sl:List Nat) (w0 w:World) (sb:Nat) (cv:Value) (mb d pos e:Nat) (env:List EC) (hA:Adding Lx Sl w0 w sb cv mb d pos e env) (hlen:env.length ≤ 1000) (tb nm:Bs) (k s:Nat) (nl:Bool) (htb:tb ≠ []) (hlt:tb.length ≤ 5000) (hln:nm.length ≤ 5000) (hnew:∀ e ∈ env,e.name ≠ nm) :
  Calls Tryz.prog 68 #[zh sb,.string ⟨tb.toArray⟩,.agg #[.string ⟨nm.toArray⟩,.int .i64 k,.int .i64 s,.bool nl]] w (fun r w' => r = .returned (.tuple #[]) ∧ ∃ cv',Adding Lx Sl w0 w' sb cv' mb d pos e (env ++ [⟨tb,nm,⟨k,s⟩⟩])):=by
 obtain ⟨len,hle⟩:=EX (env.length);obtain ⟨xs,hown,hxs⟩:=hA.row;rw [hle] at hown hlen;obtain ⟨ao,cap,hcv⟩ : ∃ ao cap,cv = .slice ao len cap:=by
  rcases hown.2 with ⟨h1,h2⟩ | ⟨g,cap,cur,h1,-⟩
  ·exact ⟨none,0,by rw [h1,h2]⟩
  ·exact ⟨_,_,h1⟩
 obtain ⟨i0,hi,hz0,hz1,hz2⟩:=info_parts (show (Tryz.prog.info? 64).map (fun i => (i.zero,i.size,i.bytes))=some (some (.agg #[.string ⟨#[]⟩,.int .i64 0,.int .i64 0,.bool false]),4,40) by kernel_rfl);obtain ⟨j0,hj,hy0,hy1,hy2⟩:=info_parts (show (Tryz.prog.info? 3).map (fun i => (i.zero,i.size,i.bytes))=some (some (.int .i64 0),1,8) by kernel_rfl);obtain ⟨S,hS⟩:=EX ((⟨tb.toArray⟩ : ByteArray):ByteArray);obtain ⟨N,hN⟩:=EX ((⟨nm.toArray⟩ : ByteArray):ByteArray);rw [hS,hN];have s0:=za hA.st 0;change w.cell? _=some cv at s0;rw [hcv] at s0;have hb:=QN w (.cells #[.string N,.int .i64 k,.int .i64 s,.bool nl] 64);have hz:=(QM [] w).alloc (.cells #[.string N,.int .i64 k,.int .i64 s,.bool nl] 64);have s0':=hz.cell s0;have c0:=za hb 0;have c1:=za hb 1;have c2:=za hb 2;have c3:=za hb 3;change World.cell? _ _=some (.string N) at c0;change World.cell? _ _=some (Value.int .i64 k) at c1;change World.cell? _ _=some (Value.int .i64 s) at c2;change World.cell? _ _=some (Value.bool nl) at c3;have hst1:=hz.heap hA.st;have hsb:=zj hA.st;have HH:=QH (AI hA (AI hown (AI hxs (AI hle (AI hcv (AI hS (AI hN (AI hz (AI hst1 hb)))))))));have HI:=QH (AI hi (AI hz0 (AI hz1 (AI hz2 (AI hj (AI hy0 (AI hy1 hy2)))))));have HN:=QH (AI htb (AI hlt (AI hln hnew)));clear hA hown hxs hle hcv hS hN hz hst1 hb hi hz0 hz1 hz2 hj hy0 hy1 hy2 htb hlt hln hnew;unfold zh;go_enter Tryz.func68, Tryz.ntmps68;go_upto_region 2 with fail;generalize w.alloc (.cells #[.string N,.int .i64 k,.int .i64 s,.bool nl] 64)=w1 at *;obtain ⟨cb,hcb⟩:=EX (w.heap.size);rw [hcb] at HH c0 c1 c2 c3 hsb;rw [hcb];have gs0:=zc HH.out.2.2.2.2.2.2.2.2.1 0;apply zr AC [0,1,2,3,4,5] [(6,[]),(7,[8,9]),(10,[])] false AC (fun y => y.cell? ⟨sb,0,none⟩ = some (.slice ao len cap) ∧ y.cell? ⟨cb,0,none⟩ = some (.string N) ∧ y.cell? ⟨cb,1,none⟩ = some (.int .i64 k) ∧ y.cell? ⟨cb,2,none⟩ = some (.int .i64 s) ∧ y.cell? ⟨cb,3,none⟩ = some (.bool nl))
 case hC => exact ⟨s0',c0,c1,c2,c3⟩
 case hwalk =>rintro y ⟨h0,h1,h2,h3,h4⟩;exact ycg
 case hrun =>
  change zct _ _ _ _ _ [(_,[]),(_,[_,_]),(_,[])] _ _;refine zv fun R1 hR1 => ?_;go_wp2_with fail;have hz2:Mods [] w1 (w1.drew.alloc (.cells #[.string N,.int .i64 k,.int .i64 s,.bool nl] 64)):=((QM [] w1).drew).alloc _;have hz2d:Mods [] w1 ((w1.alloc (.cells #[.string N,.int .i64 k,.int .i64 s,.bool nl] 64)).drew):=((QM [] w1).alloc _).drew;refine zd (hR1 _ _ (.inr ⟨hz2d.cell s0',hz2d.cell c0,hz2d.cell c1,hz2d.cell c2,hz2d.cell c3⟩) ?_);clear hR1 R1 hz2;refine zP fun R2 hR2 => ?_;obtain ⟨hi,hz0,hz1,hz2,-⟩:=HI.out;have hown1:=zm HH.out.2.1 HH.out.2.2.2.2.2.2.2.1 AB;have hcvb:cv = .slice ao len cap:=HH.out.2.2.2.2.1;rw [hcvb] at hown1;go_wp2_with (at_builtin; refine zw _ rfl _ _ 26 rfl 64 i0 _ 4 40 Tryz.underlying26 hi hz0 hz1 hz2 rfl AD (.slice ao len cap) len xs rfl ((hown1.alloc _).drew) ⟨w1.heap.size,0,none⟩ 1 1 [.string N,.int .i64 k,.int .i64 s,.bool nl] rfl rfl ?c1 ?c2 AD ?c3 ?c4 ?_)
  case c2 => exact ⟨rfl,rfl,rfl,rfl⟩
  case c3 => unfold maxLen; omega
  case c4 => omega
  intro g cap2 w5 hown5 hM5 hg5;have hA:=HH.out.1;have hcvo:cv.ownBlock=(Value.slice ao len cap).ownBlock:=by rw [hcvb]
  have hold:∀ x,(Value.slice ao len cap).ownBlock=some x → (x ∈ Sl ∨ w0.heap.size ≤ x) ∧ x ≠ sb ∧ x < w.heap.size:=fun x hx => by rw [← hcvo] at hx;have h1:=hA.old.2.2 x hx;exact ⟨h1.1,h1.2,(HH.out.2.1.lt x hx).2⟩
  have hsbn:sb ∉ (Value.slice ao len cap).ownBlock.toList:=fun hm => (hold sb AG).2.1 rfl;have hcbn:cb ∉ (Value.slice ao len cap).ownBlock.toList:=fun hm => by have:=(hold cb AG).2.2; omega
  have e0:=hM5.cell (hz2d.cell s0') hsbn;have e1:=hM5.cell (hz2d.cell c0) hcbn;have e2:=hM5.cell (hz2d.cell c1) hcbn;have e3:=hM5.cell (hz2d.cell c2) hcbn;have e4:=hM5.cell (hz2d.cell c3) hcbn;have hst5:=hM5.heap (hz2d.heap HH.out.2.2.2.2.2.2.2.2.1) hsbn;have gs5:=zc hst5 0;have hmap2:=((hA.map.is.mods (HH.out.2.2.2.2.2.2.2.1.mono)).mods (hz2d.mono));rw [hcvo] at hmap2;have hgl:(g ∈ Sl ∨ w0.heap.size ≤ g) ∧ g ≠ sb:=by
   rcases hg5 with h1 | h1
   ·exact ⟨(hold g h1).1,(hold g h1).2.1⟩
   ·have h3:=HH.out.2.2.2.2.2.2.2.1.size;have h4:=hA.mods.size;(try simp at h1);have h6:=zj hA.st;exact ⟨.inr AA,by omega⟩
  have hmap5:MapIs w5 (sb :: ([g] ++ Lx)) mb (zaC env):=by
   have h1:MapIs ((w1.alloc (.cells #[.string N,.int .i64 k,.int .i64 s,.bool nl] 64)).drew) (g :: sb :: ((Value.slice ao len cap).ownBlock.toList ++ Lx)) mb (zaC env):=by
    rcases hg5 with h1 | h1
    ·exact hmap2.weaken fun x hx => by
      rcases MC hx with rfl | hx
      ·simp [h1]
      ·exact hx
    ·exact hmap2.fresh (by simpa using h1)
   exact (h1.mods (hM5.mono (fun x hx => .inl (by simp at hx; simp [hx])))).weaken (fun x hx => by simp at hx; rcases hx with rfl | rfl | hx <;> simp [*])
  have hMw5:Mods Sl w0 w5:=(((hA.mods.trans HH.out.2.2.2.2.2.2.2.1).trans hz2d).trans hM5 (fun x hx => (hold x AJ).1));have hM6:Mods [sb] w5 (w5.setCell ⟨sb,0,none⟩ (.slice (some ⟨g,0,none⟩) (len + 1) cap2)):=(QM _ _).setCell (.inl AB) _;have H5:=QH (AI hown5 (AI hst5 (AI hgl (AI hmap5 (AI hMw5 hM6)))));clear hown5 hM5 hg5 hst5 hmap2 hgl hmap5 hMw5 hM6 hi hz0 hz1 hz2 hown1 hcvb hcvo hold hsbn hcbn hz2d hA s0' c0 c1 c2 c3 gs0;go_wp2_with fail;refine zd ?_;apply hR2 _ w5 (.inr ⟨e0,e1,e2,e3,e4⟩)
  ·rintro y ⟨h0,h1,h2,h3,h4⟩;exact ycu
  clear hR2 R2;refine zv fun R3 hR3 => ?_;go_wp2_with fail;refine zd (hR3 _ _ AB ?_);clear hR3 R3;refine zI ?_;have hst6:zaX (w5.setCell ⟨sb,0,none⟩ (.slice (some ⟨g,0,none⟩) (len + 1) cap2)) sb (.slice (some ⟨g,0,none⟩) (len + 1) cap2) mb d pos e:=zb H5.out.2.1 0 _;have hrow6:EnvOwn (w5.setCell ⟨sb,0,none⟩ (.slice (some ⟨g,0,none⟩) (len + 1) cap2)) (.slice (some ⟨g,0,none⟩) (len + 1) cap2) (env ++ [⟨tb,nm,⟨k,s⟩⟩]):=by
   obtain ⟨hown5,-,hgl,-,-,hM6⟩:=H5.out;have hle:=HH.out.2.2.2.1;have hxl:xs.length=len * 4:=HH.out.2.1.1;refine ⟨xs ++ [.string N,.int .i64 k,.int .i64 s,.bool nl],?_,fun i hi => ?_⟩
   ·rw [List.length_append,hle];exact zm hown5 hM6 (fun x hx => by cases hx; simpa using hgl.2)
   ·rw [List.length_append,hle] at hi;by_cases hil:i < len
    ·obtain ⟨q1,q2,q3,n9,q4⟩:=HH.out.2.2.1 i AA;have he:(env ++ [(⟨tb,nm,⟨k,s⟩⟩ : EC)])[i]'AE=env[i]'AA:=List.getElem_append_left AA;rw [he,List.getElem?_append_left AA,List.getElem?_append_left AA,List.getElem?_append_left AA,List.getElem?_append_left AA];exact ⟨q1,q2,q3,n9,q4⟩
    ·have hie:i=len:=by simp at hi; omega
     subst hie;have he:(env ++ [(⟨tb,nm,⟨k,s⟩⟩ : EC)])[i]'AE = ⟨tb,nm,⟨k,s⟩⟩:=by rw [List.getElem_append_right AA]; simp [hle]
     rw [he,List.getElem?_append_right AA,List.getElem?_append_right AA,List.getElem?_append_right AA,List.getElem?_append_right AA,hxl];refine ⟨?_,?_,?_,nl,?_⟩
     ·rw [show i * 4 - i * 4=0 by omega,← HH.out.2.2.2.2.2.2.1]; rfl
     ·rw [show i * 4 + 1 - i * 4=1 by omega]; rfl
     ·rw [show i * 4 + 2 - i * 4=2 by omega]; rfl
     ·rw [show i * 4 + 3 - i * 4=3 by omega]; rfl
  have hmap6:MapIs (w5.setCell ⟨sb,0,none⟩ (.slice (some ⟨g,0,none⟩) (len + 1) cap2)) (sb :: ((Value.slice (some ⟨g,0,none⟩) (len + 1) cap2).ownBlock.toList ++ Lx)) mb (zaC env):=H5.out.2.2.2.1.mods (H5.out.2.2.2.2.2.mono);have hMw6:Mods Sl w0 (w5.setCell ⟨sb,0,none⟩ (.slice (some ⟨g,0,none⟩) (len + 1) cap2)):=H5.out.2.2.2.2.1.trans H5.out.2.2.2.2.2 (fun x hx => .inl (by simp at hx; rw [hx]; exact HH.out.1.old.1));have f1:=H5.out.2.2.2.2.2.cell e1 AE;have hmbL:sb ≠ mb ∧ g ≠ mb:=by obtain ⟨es9,c9,-,hn9,-⟩:=hmap6;simp [Value.ownBlock] at hn9;exact ⟨fun h => hn9.1 h.symm,fun h => hn9.2.1 h.symm⟩
  have hgl6:g < w5.heap.size:=(zar H5.out.1).1;have HG:=QH (AI hst6 (AI hrow6 (AI hmap6 hMw6)));have HSMB:=QH hmbL;clear hst6 hrow6 hmap6 hMw6 hmbL e0 e1 e2 e3 e4 gs5;have hmb6:mb < (w5.setCell ⟨sb,0,none⟩ (.slice (some ⟨g,0,none⟩) (len + 1) cap2)).heap.size:=by obtain ⟨es9,c9,h9,-⟩:=HG.out.2.2.1;exact zj h9
  have hz6:(w5.setCell ⟨sb,0,none⟩ (.slice (some ⟨g,0,none⟩) (len + 1) cap2)).heap.size=w5.heap.size:=by simp [World.setCell]
  have HZ6:=QH hz6;clear hz6;generalize w5.setCell ⟨sb,0,none⟩ (.slice (some ⟨g,0,none⟩) (len + 1) cap2)=w6 at *;go_wp2_with fail;have hkb:=QN w6 (.cells #[.string ⟨#[]⟩,.string N,.string S,.string N] 181);have hzk:=(QM [] w6).alloc (.cells #[.string ⟨#[]⟩,.string N,.string S,.string N] 181)
  have hstart:AddI Lx Sl w0 w6 sb (.slice (some ⟨g,0,none⟩) (len + 1) cap2) mb d pos e (env ++ [⟨tb,nm,⟨k,s⟩⟩]) (zaC env) w6.heap.size S N (w6.alloc (.cells #[.string ⟨#[]⟩,.string N,.string S,.string N] 181)):=
   ⟨hzk.heap HG.out.1,HG.out.2.1.mods hzk AB,HG.out.2.2.1.mods (hzk.mono),HG.out.2.2.2.trans hzk,hkb,by rw [zl]; omega⟩
  have HST:=QH hstart;have HSM:=QH (show sb ≠ mb ∧ g ≠ mb ∧ mb ∈ Sl ∧ w6.heap.size ≠ mb from ⟨HSMB.out.1,HSMB.out.2,HH.out.1.old.2.1,by omega⟩);have HGL:=QH (show g < w6.heap.size by rw [HZ6.out]; exact hgl6);clear hkb hzk hstart hgl6 hmb6 f1;obtain ⟨kb,hkbe⟩:=EX (w6.heap.size);rw [hkbe] at HST HSM;rw [hkbe];have HKB:=QH hkbe;clear hkbe;go_loopg [34] 2 (fun gk t34 wr => ∃ i:Nat,i + gk=2 ∧ t34 = .int .i64 i ∧ AddI Lx Sl w0 w6 sb (.slice (some ⟨g,0,none⟩) (len + 1) cap2) mb d pos e (env ++ [⟨tb,nm,⟨k,s⟩⟩]) (if i=0 then zaC env else if i=1 then updF (zaC env) [] nm len else updF (updF (zaC env) [] nm len) tb nm len) kb S N wr)
  case atStart => exact ⟨0,by omega,rfl,HST.out⟩
  obtain ⟨i,hi,rfl,hst,hrow,hmap,hM0,hkb,hsz⟩:=hrel;have hi3:i=0 ∨ i=1 ∨ i=2:=by omega
  rcases hi3 with rfl | rfl | rfl
  ·rw [if_pos rfl] at hmap;have hkey:zaC env ([]:Bs) nm=[]:=zcR HN.out.2.2.2 _;have hSN:(⟨([]:Bs).toArray⟩ : ByteArray)=(⟨#[]⟩ : ByteArray):=rfl;have hNN:(⟨nm.toArray⟩ : ByteArray)=N:=HH.out.2.2.2.2.2.2.1;have k0:=za hkb 0;have k1:=za hkb 1;change wr.cell? _=some (.string (⟨#[]⟩ : ByteArray)) at k0;change wr.cell? _=some (.string N) at k1;have hz7:=(QM [] wr).alloc (.cells #[.string (⟨#[]⟩ : ByteArray),.string N] 181);have hb7:=QN wr (.cells #[.string (⟨#[]⟩ : ByteArray),.string N] 181);have s1:=za hst 1;change wr.cell? _=some (.map (some mb)) at s1;have s17:=hz7.cell s1;have m0:=za hb7 0;have m1:=za hb7 1;change World.cell? _ _=some (.string (⟨#[]⟩ : ByteArray)) at m0;change World.cell? _ _=some (.string N) at m1;have L0:∀ n,(Instr.lookup 103 (.map (some mb)) (.agg #[.string (⟨#[]⟩ : ByteArray),.string N]) false).run Tryz.prog ((wr.alloc (.cells #[.string (⟨#[]⟩ : ByteArray),.string N] 181)).drewN n) = .ok (.slice none 0 0) ((wr.alloc (.cells #[.string (⟨#[]⟩ : ByteArray),.string N] 181)).drewN n):=fun n => by
    have:=(hmap.mods (hz7.mono)).absent ([]:Bs) nm AB BL hkey ((wr.alloc (.cells #[.string (⟨#[]⟩ : ByteArray),.string N] 181)).drewN n) rfl;rw [show zdm ([]:Bs) nm = .agg #[.string (⟨#[]⟩ : ByteArray),.string N] by unfold zdm; rw [hSN,hNN]] at this;exact this
   have gEd:=QH trivial;exact yeF
  ·rw [if_neg AD,if_pos rfl] at hmap;have hkey:updF (zaC env) [] nm len tb nm=[]:=by unfold updF; rw [if_neg (fun hh => HN.out.1 hh.1)]; exact zcR HN.out.2.2.2 _
   have hSN:(⟨tb.toArray⟩ : ByteArray)=S:=HH.out.2.2.2.2.2.1;have hNN:(⟨nm.toArray⟩ : ByteArray)=N:=HH.out.2.2.2.2.2.2.1;have k0:=za hkb 2;have k1:=za hkb 3;change wr.cell? _=some (.string S) at k0;change wr.cell? _=some (.string N) at k1;have hz7:=(QM [] wr).alloc (.cells #[.string S,.string N] 181);have hb7:=QN wr (.cells #[.string S,.string N] 181);have s1:=za hst 1;change wr.cell? _=some (.map (some mb)) at s1;have s17:=hz7.cell s1;have m0:=za hb7 0;have m1:=za hb7 1;change World.cell? _ _=some (.string S) at m0;change World.cell? _ _=some (.string N) at m1;have L0:∀ n,(Instr.lookup 103 (.map (some mb)) (.agg #[.string S,.string N]) false).run Tryz.prog ((wr.alloc (.cells #[.string S,.string N] 181)).drewN n) = .ok (.slice none 0 0) ((wr.alloc (.cells #[.string S,.string N] 181)).drewN n):=fun n => by have:=(hmap.mods (hz7.mono)).absent tb nm (by have:=HN.out.2.1; omega) BL hkey ((wr.alloc (.cells #[.string S,.string N] 181)).drewN n) rfl;rw [show zdm tb nm = .agg #[.string S,.string N] by unfold zdm; rw [hSN,hNN]] at this;exact this
   have gEe:=QH trivial;exact yeF
  ·rw [if_neg AD,if_neg AD] at hmap;have henv:=zic (env:=env) (c:=⟨tb,nm,⟨k,s⟩⟩) HN.out.2.2.2 HN.out.1;rw [HH.out.2.2.2.1] at henv;have hfin:Adding Lx Sl w0 wr sb (.slice (some ⟨g,0,none⟩) (len + 1) cap2) mb d pos e (env ++ [⟨tb,nm,⟨k,s⟩⟩]):=⟨hst,MapIs.env (by rw [henv]; exact hmap),hrow,hM0,⟨HH.out.1.old.1,HH.out.1.old.2.1,fun x hx => by (cases hx; exact H5.out.2.2.1)⟩,HH.out.1.far⟩;have HFIN:=QH hfin;clear hst hrow hmap hM0 hkb hsz henv hfin;go_wp2_with fail;first | go_end0 | exact bodyPost_end (results_none rfl _ _ _) rfl ?_
   exact ⟨rfl,_,HFIN.out⟩
open Go.Maps
def okP (p:Int × List UInt8):Prop:=(-9223372036854775808 ≤ p.1 ∧ p.1 ≤ 9223372036854775807) ∧ p.2.length ≤ 9223372036854775807
def zc7 (p:Int × List UInt8):Value:=zeG p.1 ⟨p.2.toArray⟩
theorem zgN {p q:Int × List UInt8} (h:zc7 p=zc7 q):p=q:=by obtain ⟨a,b⟩:=p; obtain ⟨c,d⟩:=q;simp [zc7,zeG] at h;rw [h.1,h.2]
theorem okP.key {p:Int × List UInt8} (h:okP p):∃ l,keyOf Tryz.prog 214 (zc7 p)=some l:=zk4 p.1 h.1 _ h.2
structure NRow (es:Array MapEntry) (clock:Nat) (met:List (Int × List UInt8)):Prop where
 stamped:MapKept.Stamped es clock
 sub:∀ e ∈ es.toList,∃ p ∈ met,e.key=zc7 p ∧ e.val = .int .i64 1
 has:∀ p ∈ met,∃ e ∈ es.toList,e.key=zc7 p
 ok:∀ p ∈ met,okP p
theorem NRow.find {es:Array MapEntry} {clock:Nat} {met:List (Int × List UInt8)} (h:NRow es clock met) {p:Int × List UInt8} (hp:okP p) (w:World) :
  (p ∉ met ∧ (Instr.findKey 214 (zc7 p) es.toList).run Tryz.prog w = .ok none w) ∨
  (p ∈ met ∧ ∃ j e,(Instr.findKey 214 (zc7 p) es.toList).run Tryz.prog w = .ok (some (j,e.val)) w ∧ es[j]? = some e ∧ e.key=zc7 p ∧ e.val = .int .i64 1):=by
 obtain ⟨l,hl⟩:=hp.key;have hall:∀ e ∈ es.toList,∃ l,keyOf Tryz.prog 214 e.key=some l:=fun e he => by obtain ⟨q,hq,hk,-⟩:=h.sub e he;rw [hk]; exact (h.ok q hq).key
 rcases place_keyed.find w hl es.toList hall with ⟨h1,h2⟩ | ⟨j,e,h1,h2,h3⟩
 ·left;refine ⟨fun hm => ?_,h1⟩;obtain ⟨e,he,hk⟩:=h.has p hm;exact h2 e he hk
 ·right;have he:e ∈ es.toList:=List.mem_of_getElem? h2;obtain ⟨q,hq,hk,hv⟩:=h.sub e he;have:p=q:=zgN (h3.symm.trans hk);subst this;exact ⟨hq,j,e,h1,by simpa using h2,h3,hv⟩
theorem NRow.push {es:Array MapEntry} {clock:Nat} {met:List (Int × List UInt8)} (h:NRow es clock met) {p:Int × List UInt8} (hp:okP p) (hn:p ∉ met):NRow (es.push { key:=zc7 p,val:=.int .i64 1,born:=clock }) (clock + 1) (p :: met):=by
 have hk:∀ x ∈ es.toList,x.key ≠ zc7 p:=fun x hx he => by obtain ⟨q,hq,hk,-⟩:=h.sub x hx;exact hn (zgN (he.symm.trans hk) ▸ hq)
 refine ⟨MapKept.stamped_push h.stamped hk,fun e he => ?_,fun q hq => ?_,fun q hq => ?_⟩
 ·simp at he;rcases he with he | rfl
  ·obtain ⟨q,hq,h1,h2⟩:=h.sub e BA;exact ⟨q,CM _ hq,h1,h2⟩
  ·exact ⟨p,List.mem_cons_self,rfl,rfl⟩
 ·rcases MC hq with rfl | hq
  ·exact ⟨{ key:=zc7 q,val:=.int .i64 1,born:=clock },by simp,rfl⟩
  ·obtain ⟨e,he,hk⟩:=h.has q hq;exact ⟨e,by simp; left; simpa using he,hk⟩
 ·rcases MC hq with rfl | hq
  ·exact hp
  ·exact h.ok q hq
open Go.Maps
theorem zco (w:World):(zeroValue 3).run Tryz.prog w = .ok (.int .i64 0) w:=by kernel_rfl
theorem zfe {es:Array MapEntry} {clock:Nat} {met:List (Int × List UInt8)} (h:NRow es clock met) {p:Int × List UInt8} (hp:okP p) (hn:p ∉ met) (v:Value) (c:Nat) (w:World) :
  ∃ j,(Instr.findKey 214 (zc7 p) (es.push { key:=zc7 p,val:=v,born:=c }).toList).run Tryz.prog w = .ok (some (j,v)) w:=by
 obtain ⟨l,hl⟩:=hp.key;have hall:∀ e ∈ (es.push { key:=zc7 p,val:=v,born:=c }).toList,∃ l,keyOf Tryz.prog 214 e.key=some l:=fun e he => by
  simp at he;rcases he with he | rfl
  ·obtain ⟨q,hq,hk,-⟩:=h.sub e BA;rw [hk]; exact (h.ok q hq).key
  ·exact ⟨l,hl⟩
 rcases place_keyed.find w hl _ hall with ⟨h1,h2⟩ | ⟨j,e,h1,h2,h3⟩
 ·exact absurd rfl (h2 { key:=zc7 p,val:=v,born:=c } AB)
 ·have he:=List.mem_of_getElem? h2;simp at he;rcases he with he | rfl
  ·obtain ⟨q,hq,hk,-⟩:=h.sub e BA;exact absurd (zgN (h3.symm.trans hk) ▸ hq) hn
  ·exact ⟨j,h1⟩
theorem zla {es:Array MapEntry} {clock:Nat} (h:MapKept.Stamped es clock) (x:MapEntry) (hx:x.born=clock):(es.push x).findIdx? (fun e => (e.born:Int) == (clock:Int))=some es.size:=by
 rw [Array.findIdx?_push];have:es.findIdx? (fun e => (e.born:Int) == (clock:Int))=none:=by rw [Array.findIdx?_eq_none_iff];intro e he;have:=h.1 e BA;rw [beq_eq_false_iff_ne]; omega
 rw [this];simp [hx]
theorem zlb (w0 w:World) (hT:Tabs w0) (hM0:Mods [] w0 w) (mb:Nat) (hmb:w0.heap.size ≤ mb) (es:Array MapEntry) (clock:Nat) (hb:w.heap[mb]? = some (.map es clock)) (met:List (Int × List UInt8)) (hN:NRow es clock met) (t:Int) (s:ByteArray) (hp:okP (t,s.data.toList)) (hn:(t,s.data.toList) ∉ met) :
  Calls Tryz.prog 74 #[.map (some mb),.int .i64 t,.string s] w fun e w' => e = .returned (.bool (zbj s.data.toList)) ∧ Mods [mb] w w' ∧ ∃ es' clock',w'.heap[mb]? = some (.map es' clock') ∧ NRow es' clock' ((t,s.data.toList) :: met):=by
 obtain ⟨l,hl⟩:=hp.key;have hf:(Instr.findKey 214 (zeG t s) es.toList).run Tryz.prog w.drew = .ok none w.drew:=by
  rcases hN.find hp w.drew with ⟨-,h⟩ | ⟨h,-⟩
  ·exact h
  ·exact absurd h hn
 have hb1:w.drew.heap[mb]? = some (.map es clock):=hb;have e1:=zak (T:= 123) place_keyed Tryz.underlying123 hb1 hl zco none hf;have e2:=zeg (T:= 123) place_keyed Tryz.underlying123 hb1 hl zco hf;have hb2:=zae (o':=.map (es.push { key:=zc7 (t,s.data.toList),val:=.int .i64 0,born:=clock }) (clock + 1)) hb1;obtain ⟨j,hf2⟩:=zfe hN hp hn (.int .i64 0) clock (setHeap w.drew mb (.map (es.push { key:=zc7 (t,s.data.toList),val:=.int .i64 0,born:=clock }) (clock + 1)));have e3:=zak (T:= 123) place_keyed Tryz.underlying123 hb2 hl zco _ hf2;have e4:=zcc (P:= Tryz.prog) 123 hb2 (clock:Int) (.int .i64 1) (zla hN.stamped _ rfl);have hpush:(es.push { key:=zc7 (t,s.data.toList),val:=.int .i64 0,born:=clock }).modify es.size (fun e => { e with val:=.int .i64 1 })=es.push { key:=zc7 (t,s.data.toList),val:=.int .i64 1,born:=clock }:=by
  apply Array.ext_getElem?;intro i;rw [Array.getElem?_modify];by_cases h:es.size=i
  ·subst h; simp
  ·rw [if_neg h,Array.getElem?_push,Array.getElem?_push,if_neg (Ne.symm h),if_neg (Ne.symm h)]
 rw [hpush] at e4;have hkv:zc7 (t,s.data.toList) = .agg #[.int .i64 t,.string s]:=rfl;simp only [Option.map_none,Option.getD_none,Option.map_some,Option.getD_some] at e1 e3;have hMw1:=(((QM [mb] w).drew).setHeap (r:=mb) (.inl AB) (.map (es.push { key:=zc7 (t,s.data.toList),val:=.int .i64 0,born:=clock }) (clock + 1)));have hb3:=zae (o':=.map (es.push { key:=zc7 (t,s.data.toList),val:=.int .i64 1,born:=clock }) (clock + 1)) hb2;have hM2:=hMw1.setHeap (r:=mb) (.inl AB) (.map (es.push { key:=zc7 (t,s.data.toList),val:=.int .i64 1,born:=clock }) (clock + 1));obtain ⟨j5,hf5⟩:=zfe hN hp hn (.int .i64 1) clock (setHeap (setHeap w.drew mb (.map (es.push { key:=zc7 (t,s.data.toList),val:=.int .i64 0,born:=clock }) (clock + 1))) mb (.map (es.push { key:=zc7 (t,s.data.toList),val:=.int .i64 1,born:=clock }) (clock + 1)));have e5:=zak (T:= 123) place_keyed Tryz.underlying123 hb3 hl zco _ hf5;simp only [Option.map_some,Option.getD_some] at e5;have hNN:=QH (hN.push hp hn);rw [hkv] at e1 e2 e3 e4 e5 hb3 hM2;generalize setHeap w.drew mb (.map (es.push { key:=.agg #[.int .i64 t,.string s],val:=.int .i64 0,born:=clock }) (clock + 1))=w1 at *;clear hb2 hf2 hpush hf hf5 hMw1 hb1;go_enter Tryz.func74, Tryz.ntmps74;go_wp2_with fail;go_region;clear e1 e2 e3 e4;generalize setHeap w1 mb (.map (es.push { key:=.agg #[.int .i64 t,.string s],val:=.int .i64 1,born:=clock }) (clock + 1))=w2 at *;have hT2:=hT.mods (hM0.trans hM2 (fun x hx => .inr AP));have hnm:=zgA w2 hT2 s hp.2;go_wp2_with fail;(with_reducible refine hnm.mono ?_);rintro e w3 ⟨rfl,hM3⟩;clear hnm;go_wp2_with fail;go_ret;exact ⟨rfl,hM2.trans hM3,_,_,hM3.heap hb3,hNN.out⟩
open Go.Maps
theorem zod {es:Array MapEntry} {clock:Nat} (h:MapKept.Stamped es clock) {j:Nat} {e:MapEntry} (he:es[j]? = some e):es.findIdx? (fun x => (x.born:Int) == (e.born:Int))=some j:=by
 obtain ⟨hj,hje⟩:=Array.getElem?_eq_some_iff.1 he;rw [Array.findIdx?_eq_some_iff_getElem];refine ⟨hj,by rw [hje]; simp,fun i hi => ?_⟩;have hnd:=h.2.1;intro hc;rw [beq_iff_eq] at hc;have hij:(es.toList.map (·.born))[i]? = (es.toList.map (·.born))[j]?:=by simp only [List.getElem?_map,Array.getElem?_toList,Array.getElem?_eq_getElem hj,Array.getElem?_eq_getElem (show i < es.size by omega),Option.map_some];congr 1;rw [hje]; omega
 have:=(List.getElem?_inj AE hnd).1 hij;omega
theorem zid {es:Array MapEntry} {j:Nat} {e:MapEntry} {k:Value} (he:es[j]? = some e) (hk:e.key=k):es.modify j (fun e => { e with key:=k })=es:=by
 apply Array.ext_getElem?;intro i;rw [Array.getElem?_modify];by_cases h:j=i
 ·subst h;rw [if_pos rfl,he];simp [← hk]
 ·rw [if_neg h]
theorem zie {es:Array MapEntry} {clock:Nat} {met:List (Int × List UInt8)} (h:NRow es clock met) {p:Int × List UInt8} (hp:okP p) {j:Nat} {e:MapEntry} (he:es[j]? = some e) (hk:e.key=zc7 p) (v:Value) (w:World) :
  ∃ i,(Instr.findKey 214 (zc7 p) (es.modify j fun x => { x with val:=v }).toList).run Tryz.prog w = .ok (some (i,v)) w:=by
 obtain ⟨l,hl⟩:=hp.key;have hget:∀ i x,(es.modify j fun x => { x with val:=v })[i]? = some x → ∃ y,es[i]? = some y ∧ x.key=y.key ∧ (i=j → x.val=v):=by
  intro i x hx;rw [Array.getElem?_modify] at hx;by_cases hij:j=i
  ·rw [if_pos hij] at hx;obtain ⟨y,hy,rfl⟩:=Option.map_eq_some_iff.1 hx;exact ⟨y,hy,rfl,fun _ => rfl⟩
  ·rw [if_neg hij] at hx;exact ⟨x,hx,rfl,fun h => absurd h.symm hij⟩
 have hall:∀ x ∈ (es.modify j fun x => { x with val:=v }).toList,∃ l,keyOf Tryz.prog 214 x.key=some l:=fun x hx => by obtain ⟨i,hi⟩:=List.mem_iff_getElem?.1 hx;rw [Array.getElem?_toList] at hi;obtain ⟨y,hy,hky,-⟩:=hget i x hi;obtain ⟨q,hq,hkq,-⟩:=h.sub y (List.mem_of_getElem? (by rw [Array.getElem?_toList]; exact hy));rw [hky,hkq]; exact (h.ok q hq).key
 rcases place_keyed.find w hl _ hall with ⟨h1,h2⟩ | ⟨i,x,h1,h2,h3⟩
 ·have hm:(es.modify j fun x => { x with val:=v })[j]? = some { e with val:=v }:=by rw [Array.getElem?_modify,if_pos rfl,he]; rfl
  exact absurd hk (h2 { e with val:=v } (List.mem_of_getElem? (by rw [Array.getElem?_toList]; exact hm)))
 ·rw [Array.getElem?_toList] at h2;obtain ⟨y,hy,hky,hv⟩:=hget i x h2;have hij:(es.toList.map (·.key))[i]? = (es.toList.map (·.key))[j]?:=by
   simp only [List.getElem?_map,Array.getElem?_toList,hy,he,Option.map_some];rw [← hky,h3,hk]
  have hlt:i < (es.toList.map (·.key)).length:=by have:=(Array.getElem?_eq_some_iff.1 hy).1;simpa using this
  have:=(List.getElem?_inj hlt h.stamped.2.2).1 hij;rw [hv this] at h1;exact ⟨i,h1⟩
theorem zlc (w:World) (mb:Nat) (es:Array MapEntry) (clock:Nat) (hb:w.heap[mb]? = some (.map es clock)) (met:List (Int × List UInt8)) (hN:NRow es clock met) (t:Int) (s:ByteArray) (hp:okP (t,s.data.toList)) (hn:(t,s.data.toList) ∈ met) :
  Calls Tryz.prog 74 #[.map (some mb),.int .i64 t,.string s] w fun e w' => e = .returned (.bool false) ∧ Mods [mb] w w':=by
 obtain ⟨l,hl⟩:=hp.key;have hfa:∀ W,∃ j e,(Instr.findKey 214 (zc7 (t,s.data.toList)) es.toList).run Tryz.prog W = .ok (some (j,e.val)) W ∧ es[j]? = some e ∧ e.key=zc7 (t,s.data.toList) ∧ e.val = .int .i64 1:=fun W => by
  rcases hN.find hp W with ⟨h,-⟩ | ⟨-,h⟩
  ·exact absurd hn h
  ·exact h
 have hb1:w.drew.heap[mb]? = some (.map es clock):=hb;obtain ⟨j,e,hf,he,hk,hv⟩:=hfa w.drew;have e1:=zak (T:= 123) place_keyed Tryz.underlying123 hb1 hl zco _ hf;have e2:=zeh (T:= 123) place_keyed Tryz.underlying123 hb1 hl hf he hk;have hsame:=zid he hk;rw [hsame] at e2;have hb2:=zae (o':=.map es clock) hb1;obtain ⟨j2,e',hf2,-,-,hv2⟩:=hfa (setHeap w.drew mb (.map es clock));have e3:=zak (T:= 123) place_keyed Tryz.underlying123 hb2 hl zco _ hf2;have e4:=zcc (P:= Tryz.prog) 123 hb2 (e.born:Int) (.int .i64 2) (zod hN.stamped he);have hb3:=zae (o':=.map (es.modify j fun x => { x with val:=.int .i64 2 }) clock) hb2;obtain ⟨j5,hf5⟩:=zie hN hp he hk (.int .i64 2) (setHeap (setHeap w.drew mb (.map es clock)) mb (.map (es.modify j fun x => { x with val:=.int .i64 2 }) clock));have e5:=zak (T:= 123) place_keyed Tryz.underlying123 hb3 hl zco _ hf5;have hM2:=(((QM [mb] w).drew).setHeap (r:=mb) (.inl AB) (.map es clock)).setHeap (r:=mb) (.inl AB) (.map (es.modify j fun x => { x with val:=.int .i64 2 }) clock);have hkv:zc7 (t,s.data.toList) = .agg #[.int .i64 t,.string s]:=rfl;simp only [Option.map_some,Option.getD_some,hv,hv2] at e1 e2 e3 e5;rw [hkv] at e1 e2 e3 e5;generalize setHeap w.drew mb (.map es clock)=w1 at *;generalize setHeap w1 mb (.map (es.modify j fun x => { x with val:=.int .i64 2 }) clock)=w2 at *;clear hb2 hf2 hf hf5 hb1 hb3 hb hfa he hk hv hv2 hsame hkv hN hp hn;go_enter Tryz.func74, Tryz.ntmps74;go_wp2_with fail;go_region;clear e1 e2 e3 e4;go_wp2_with fail;go_ret;exact ⟨rfl,hM2⟩
end Go.Proofs.YtebljciefhfgbaaGreatDoor
