/-
  check.condition, walked. No condition but that Go's own variables hold what they were laid with.
-/
import Derived.Test.YtgdpaieechgahaaGreatDoorQ34
set_option linter.unusedVariables false
set_option maxRecDepth 100000
set_option maxHeartbeats 16000000
namespace Go.Proofs.YtgdpaieechgahaaGreatDoor
open Go.RowKit
def OptN (w:World) (L:List Nat) (v:Value):Option NT → Prop
 | none => v = .pointer none
 | some n => NAt w L v n
def zch (w:World) (sb:Nat) (cv:Value) (mb pos e:Nat) (r0:Chk (Option NT)) (r:Ending) (w':World):Prop:=
 ∃ v,r = .returned v ∧ ((∃ b,v=zh b) ∨ v = .pointer none) ∧ Mods [sb] w w' ∧ zaX w' sb cv mb 0 (zai r0 pos e).1 (zai r0 pos e).2 ∧ (e=0 → ∀ o,r0 = .ok o → ∀ L:List Nat,(∀ x ∈ L,x < w.heap.size) → OptN w' L v o)
theorem zgO (env:List EC) (o:Option Tree):NZ (zbB env o):=by
 cases o with
 | none => exact NZ.ok _
 | some t =>
  refine NZ.bind (zdZ env t 0) fun n _ => ?_;split
  ·exact NZ.four _
  ·exact NZ.ok _
theorem zlf (w:World) (sb:Nat) (cv:Value) (mb pos e:Nat) (env:List EC) (hS:zaX w sb cv mb 0 pos e) :
  Calls Tryz.prog 24 #[zh sb,.pointer none] w (zch w sb cv mb pos e (zbB env none)):=by
 have hfin:zch w sb cv mb pos e (zbB env none) (.returned (.pointer none)) w:=⟨_,rfl,.inr rfl,QM _ _,by show zaX w sb cv mb 0 (zai (.ok _) pos e).1 (zai (.ok _) pos e).2; rw [zaP]; exact hS,fun _ o ho L _ => by cases ho; rfl⟩;have HFIN:=QH hfin;obtain ⟨PP,hPP⟩:=EX (zch w sb cv mb pos e (zbB env none));rw [hPP] at HFIN ⊢;unfold zh;clear hfin hPP hS;go_enter Tryz.func24, Tryz.ntmps24;go_wp2_with fail;exact HFIN.out
theorem zlg (w:World) (sb:Nat) (cv:Value) (mb pos e:Nat) (env:List EC) (hS:zaX w sb cv mb 0 pos e) (he:e ≠ 0) (xb:Nat) (t:Tree) :
  Calls Tryz.prog 24 #[zh sb,zh xb] w (zch w sb cv mb pos e (zbB env (some t))):=by
 have hfin:zch w sb cv mb pos e (zbB env (some t)) (.returned (.pointer none)) w:=⟨_,rfl,.inr rfl,QM _ _,by unfold zai; rw [if_pos he]; exact hS,fun h => absurd h he⟩;have HFIN:=QH hfin;obtain ⟨PP,hPP⟩:=EX (zch w sb cv mb pos e (zbB env (some t)));rw [hPP] at HFIN ⊢;have c4:=za hS 4;change w.cell? _=some (.int .i64 (e:Nat)) at c4;have z0:((e:Int) != 0)=true:=bne_iff_ne.2 (by omega);unfold zh;clear hfin hPP hS he;go_enter Tryz.func24, Tryz.ntmps24;go_wp2_with fail;exact HFIN.out
theorem zlh (w:World) (hV:CkVars w) (sb:Nat) (hsg : 0 ≠ sb ∧ 2 ≠ sb) (cv:Value) (mb pos:Nat) (env:List EC) (hS:Scope w sb cv mb 0 pos 0 env) (xb:Nat) (t:Tree) (hA:ExprAt 133 82 w [sb] (zh xb) t) (hE:ExprOk sb cv mb env t 0) :
  Calls Tryz.prog 24 #[zh sb,zh xb] w (zch w sb cv mb pos 0 (zbB env (some t))):=by
 have he:=hE w pos 0 (zh xb) hV hS hA;obtain ⟨va,hxb,hxs⟩ : ∃ va,w.heap[xb]? = some (.cells (hdC t.hd va).toArray 133 (0,0)) ∧ xb ≠ sb:=by
  cases t with
  | leaf h => obtain ⟨b,h1,h2,h3⟩:=hA; cases h1; exact ⟨_,h3,by simpa using h2⟩
  | un h a => obtain ⟨b,c,u,h1,h2,h3,h4,-⟩:=hA; cases h1; exact ⟨_,h4,by simpa using h2⟩
  | bin h a d => obtain ⟨b,c,u,x,h1,h2,h3,h4,-⟩:=hA; cases h1; exact ⟨_,h4,by simpa using h2⟩
 have c4:=za hS.st 4;change w.cell? _=some (.int .i64 ((0:Nat):Int)) at c4;change w.cell? _=some (.int .i64 0) at c4;obtain ⟨PP,hPP⟩:=EX (zch w sb cv mb pos 0 (zbB env (some t)));rw [hPP];have HH:=QH (AI hPP (AI hS (AI hV (AI hxb hsg))));unfold zh at *;clear hPP hS hV hA hE hxb hsg;go_enter Tryz.func24, Tryz.ntmps24;go_wp2_with fail;(with_reducible refine he.mono ?_);rintro r w2 ⟨nb,rfl,hnb,hM2,hst2,hk⟩;unfold zh;have hV2:=HH.out.2.2.1.past hM2 HH.out.2.2.2.2;have hx2:=hM2.heap HH.out.2.2.2.1 (by simpa using hxs);have x1:=za hx2 1;change w2.cell? _=some (.int .i64 t.hd.pos) at x1;obtain ⟨⟨v0,v1⟩,-⟩:=hV2;have HE:=QH (AI hnb (AI hM2 (AI hst2 hk)));clear he hnb hM2 hst2 hk hx2 c4;obtain ⟨PX,hPX⟩:=EX (zai (zq env t 0) pos 0);obtain ⟨p1,e1⟩:=PX;have hst:zaX w2 sb cv mb 0 p1 e1:=by have:=HE.out.2.2.1; rw [hPX] at this; exact this
 have c4:=za hst 4;change w2.cell? _=some (.int .i64 (e1:Nat)) at c4;have HX:=QH (AI hPX hst);clear hPX hst;go_upto_region 4 with fail;by_cases he1:e1=0
 ·obtain ⟨-,hp,n,hn⟩:=zaU (zdZ env t 0) (show zai (zq env t 0) pos 0=(p1,0) from by have h9:=HX.out.1; rw [he1] at h9; exact h9);have hNA:=HE.out.2.2.2 (by simp) n hn [sb] (by simp; exact zj HH.out.2.1.st);obtain ⟨b',args,hb',hbs,hnd⟩:=hNA.head;cases hb';have hbs:nb ≠ sb:=by simpa using hbs
  have t0:=za hnd 1;have t1:=za hnd 2;change w2.cell? _=some (.int .i64 n.hd.t.k) at t0;change w2.cell? _=some (.int .i64 n.hd.t.s) at t1;have z1:((e1:Int) == 0)=true:=by rw [beq_iff_eq]; omega
  have hq:zbB env (some t)=if n.hd.t ≠ tyBool ∨ hasN n=true then .bad t.hd.pos 4 else .ok (some n):=by show (zq env t 0).bind _=_;rw [hn]; rfl
  have HN:=QH (AI hq (AI hn (AI hNA (AI hbs (AI hp he1)))));clear hq hn hNA hnd hp hbs he1;have htri:=zgB n.hd.t;obtain ⟨T,hT⟩:=EX (n.hd.t);rw [hT] at htri t0 t1;have HT:=QH hT;clear hT;rcases htri with ⟨a1,a2,a3⟩ | ⟨a1,a2,a3⟩ | ⟨a1,a3⟩
  ·subst a3;change w2.cell? _=some (.int .i64 4) at t0;change w2.cell? _=some (.int .i64 0) at t1;have a3:tyBool=tyBool:=rfl;have HA3:=QH a3;clear a1 a2 a3
   cases hh:hasN n with
   | true =>
    apply zr (by kernel_rfl) [0,1,2,3,4,5,6,7,8,9,10,11,12,13,14,18,19,20,21] [(15,[16,17]),(22,[])] false (by kernel_rfl) (fun y => y.cell? ⟨sb,4,none⟩ = some (.int .i64 e1) ∧ y.cell? ⟨nb,1,none⟩ = some (.int .i64 4) ∧ y.cell? ⟨nb,2,none⟩ = some (.int .i64 0) ∧ y.cell? ⟨0, 0,none⟩ = some (.int .i64 4) ∧ y.cell? ⟨0, 1,none⟩ = some (.int .i64 0) ∧ y.cell? ⟨xb,1,none⟩ = some (.int .i64 t.hd.pos))
    case hC => exact ⟨c4,t0,t1,v0,v1,x1⟩
    case hwalk =>rintro y ⟨y4,y1,y2,g0,g1,yx⟩;change wpQuiet _ _ _ _ [_,_,_,_,_,_,_,_,_,_,_,_,_,_,_,_,_,_,_] (Act.mk _ _);(repeat go_big_quiet_step (fail));refine QW ?_;exact rfl
    case hrun =>
     change zct _ _ _ _ _ [(_,[_,_]),(_,[])] _ _;refine zP fun R1 hR1 => ?_;have hha:=zgG n w2.drew (zh nb) ((HN.out.2.2.1.weaken (by simp)).mods (QM [] w2).drew);rw [hh] at hha;unfold zh at hha;go_wp2_with fail;(with_reducible refine hha.mono ?_);rintro r w3 ⟨rfl,hM3⟩;clear hha;go_wp2_with fail;refine zd ?_;apply hR1 _ w3 (.inr ⟨hM3.cell (show w2.drew.cell? _=_ from c4),hM3.cell (show w2.drew.cell? _=_ from t0),hM3.cell (show w2.drew.cell? _=_ from t1),hM3.cell (show w2.drew.cell? _=_ from v0),hM3.cell (show w2.drew.cell? _=_ from v1),hM3.cell (show w2.drew.cell? _=_ from x1)⟩)
     ·rintro y ⟨y4,y1,y2,g0,g1,yx⟩;change wpQuiet _ _ _ _ [_,_] (Act.mk _ _);(repeat go_big_quiet_step (fail));refine QW ?_;exact rfl
     ·clear hR1 R1;refine zv fun R2 hR2 => ?_;have hcl:=zF w3 sb cv mb 0 p1 e1 (hM3.heap (show w2.drew.heap[sb]? = _ from HX.out.2)) true 4 t.hd.pos;change Calls _ _ #[.pointer (some ⟨sb,0,none⟩),.bool true,.int .i64 4,.int .i64 t.hd.pos] _ _ at hcl;go_wp2_with fail;(with_reducible refine hcl.mono ?_);rintro r w8 ⟨rfl,hM8,st8⟩;clear hcl;have hfin:PP (.returned (.pointer (some ⟨nb,0,none⟩))) w8:=by
       rw [← HH.out.1];have hqq:zbB env (some t) = .bad t.hd.pos 4:=by rw [HN.out.1,if_pos (.inr hh)]
       rw [hqq];refine ⟨_,rfl,.inl ⟨nb,rfl⟩,HE.out.2.1.trans ((((QM [] w2).drew.mono (L':=[sb])).trans (hM3.mono (L':=[sb]) (by simp))).trans hM8) (by simp),?_,fun _ o ho => by cases ho⟩;have hce:zai (.bad t.hd.pos 4:Chk (Option NT)) pos 0=zaa true 4 t.hd.pos p1 e1:=by unfold zai zaa; rw [if_neg (by omega),if_pos ⟨rfl,HN.out.2.2.2.2.2⟩]
       rw [hce];exact st8
      have HFIN:=QH hfin;clear hfin hM8 st8;go_wp2_with fail;refine zd (hR2 _ _ (by simp) ?_);clear hR2 R2;refine zI ?_;go_wp2_with fail;exact HFIN.out
   | false =>
    apply zr (by kernel_rfl) [0,1,2,3,4,5,6,7,8,9,10,11,12,13,14,18,19,20,21] [(15,[16,17]),(22,[])] false (by kernel_rfl) (fun y => y.cell? ⟨sb,4,none⟩ = some (.int .i64 e1) ∧ y.cell? ⟨nb,1,none⟩ = some (.int .i64 4) ∧ y.cell? ⟨nb,2,none⟩ = some (.int .i64 0) ∧ y.cell? ⟨0, 0,none⟩ = some (.int .i64 4) ∧ y.cell? ⟨0, 1,none⟩ = some (.int .i64 0) ∧ y.cell? ⟨xb,1,none⟩ = some (.int .i64 t.hd.pos))
    case hC => exact ⟨c4,t0,t1,v0,v1,x1⟩
    case hwalk =>rintro y ⟨y4,y1,y2,g0,g1,yx⟩;change wpQuiet _ _ _ _ [_,_,_,_,_,_,_,_,_,_,_,_,_,_,_,_,_,_,_] (Act.mk _ _);(repeat go_big_quiet_step (fail));refine QW ?_;exact rfl
    case hrun =>
     change zct _ _ _ _ _ [(_,[_,_]),(_,[])] _ _;refine zP fun R1 hR1 => ?_;have hha:=zgG n w2.drew (zh nb) ((HN.out.2.2.1.weaken (by simp)).mods (QM [] w2).drew);rw [hh] at hha;unfold zh at hha;go_wp2_with fail;(with_reducible refine hha.mono ?_);rintro r w3 ⟨rfl,hM3⟩;clear hha;go_wp2_with fail;refine zd ?_;apply hR1 _ w3 (.inr ⟨hM3.cell (show w2.drew.cell? _=_ from c4),hM3.cell (show w2.drew.cell? _=_ from t0),hM3.cell (show w2.drew.cell? _=_ from t1),hM3.cell (show w2.drew.cell? _=_ from v0),hM3.cell (show w2.drew.cell? _=_ from v1),hM3.cell (show w2.drew.cell? _=_ from x1)⟩)
     ·rintro y ⟨y4,y1,y2,g0,g1,yx⟩;change wpQuiet _ _ _ _ [_,_] (Act.mk _ _);(repeat go_big_quiet_step (fail));refine QW ?_;exact rfl
     ·clear hR1 R1;refine zv fun R2 hR2 => ?_;have hcl:=zF w3 sb cv mb 0 p1 e1 (hM3.heap (show w2.drew.heap[sb]? = _ from HX.out.2)) false 4 t.hd.pos;change Calls _ _ #[.pointer (some ⟨sb,0,none⟩),.bool false,.int .i64 4,.int .i64 t.hd.pos] _ _ at hcl;go_wp2_with fail;(with_reducible refine hcl.mono ?_);rintro r w8 ⟨rfl,hM8,st8⟩;clear hcl;have hfin:PP (.returned (.pointer (some ⟨nb,0,none⟩))) w8:=by
       rw [← HH.out.1];have hqq:zbB env (some t) = .ok (some n):=by rw [HN.out.1,if_neg (fun h => h.elim (fun h => h (HT.out)) (fun h => by rw [hh] at h; cases h))]
       rw [hqq];refine ⟨_,rfl,.inl ⟨nb,rfl⟩,HE.out.2.1.trans ((((QM [] w2).drew.mono (L':=[sb])).trans (hM3.mono (L':=[sb]) (by simp))).trans hM8) (by simp),?_,fun _ o ho L hL => ?_⟩
       ·rw [zaP];rw [zaw,HN.out.2.2.2.2.1,HN.out.2.2.2.2.2] at st8;exact st8
       ·cases ho
        have h1:=HE.out.2.2.2 (by simp) n HN.out.2.1 (sb :: L) (fun x hx => by
         rcases MC hx with rfl | hx
         ·exact zj HH.out.2.1.st
         ·exact hL x hx)
        have hM28:Mods [sb] w2 w8:=(((QM [] w2).drew.mono (L':=[sb])).trans (hM3.mono (L':=[sb]) (by simp))).trans hM8;exact (h1.mods (hM28.mono)).weaken (fun x hx => CM _ hx)
      have HFIN:=QH hfin;clear hfin hM8 st8;go_wp2_with fail;refine zd (hR2 _ _ (by simp) ?_);clear hR2 R2;refine zI ?_;go_wp2_with fail;exact HFIN.out
  ·have hnt:n.hd.t ≠ tyBool:=by rw [HT.out]; exact a3
   apply zr (by kernel_rfl) [0,1,2,3,4,5,6,7,8,9,10,11,12,13,14,18,19,20,21] [(15,[16,17]),(22,[])] false (by kernel_rfl) (fun y => y.cell? ⟨sb,4,none⟩ = some (.int .i64 e1) ∧ y.cell? ⟨nb,1,none⟩ = some (.int .i64 T.k) ∧ y.cell? ⟨nb,2,none⟩ = some (.int .i64 T.s) ∧ y.cell? ⟨0, 0,none⟩ = some (.int .i64 4) ∧ y.cell? ⟨0, 1,none⟩ = some (.int .i64 0) ∧ y.cell? ⟨xb,1,none⟩ = some (.int .i64 t.hd.pos))
   case hC => exact ⟨c4,t0,t1,v0,v1,x1⟩
   case hwalk =>rintro y ⟨y4,y1,y2,g0,g1,yx⟩;change wpQuiet _ _ _ _ [_,_,_,_,_,_,_,_,_,_,_,_,_,_,_,_,_,_,_] (Act.mk _ _);(repeat go_big_quiet_step (fail));refine QW ?_;exact rfl
   case hrun =>
    change zct _ _ _ _ _ [(_,[_,_]),(_,[])] _ _;refine zP fun R1 hR1 => ?_;go_wp2_with fail;refine zd ?_;apply hR1 _ w2.drew (.inr ⟨c4,t0,t1,v0,v1,x1⟩)
    ·rintro y ⟨y4,y1,y2,g0,g1,yx⟩;change wpQuiet _ _ _ _ [_,_] (Act.mk _ _);(repeat go_big_quiet_step (fail));refine QW ?_;exact rfl
    ·clear hR1 R1;refine zv fun R2 hR2 => ?_;have hcl:=zF w2.drew sb cv mb 0 p1 e1 (HX.out.2) true 4 t.hd.pos;change Calls _ _ #[.pointer (some ⟨sb,0,none⟩),.bool true,.int .i64 4,.int .i64 t.hd.pos] _ _ at hcl;go_wp2_with fail;(with_reducible refine hcl.mono ?_);rintro r w8 ⟨rfl,hM8,st8⟩;clear hcl;have hfin:PP (.returned (.pointer (some ⟨nb,0,none⟩))) w8:=by
      rw [← HH.out.1];have hqq:zbB env (some t) = .bad t.hd.pos 4:=by rw [HN.out.1,if_pos (.inl hnt)]
      rw [hqq];refine ⟨_,rfl,.inl ⟨nb,rfl⟩,HE.out.2.1.trans (((QM [] w2).drew.mono (L':=[sb]) (by simp)).trans hM8 (by simp)),?_,fun _ o ho => by cases ho⟩;have hce:zai (.bad t.hd.pos 4:Chk (Option NT)) pos 0=zaa true 4 t.hd.pos p1 e1:=by unfold zai zaa; rw [if_neg (by omega),if_pos ⟨rfl,HN.out.2.2.2.2.2⟩]
      rw [hce];exact st8
     have HFIN:=QH hfin;clear hfin hM8 st8;go_wp2_with fail;refine zd (hR2 _ _ (by simp) ?_);clear hR2 R2;refine zI ?_;go_wp2_with fail;exact HFIN.out
  ·have hnt:n.hd.t ≠ tyBool:=by rw [HT.out]; exact a3
   apply zr (by kernel_rfl) [0,1,2,3,4,5,6,7,8,9,10,11,12,13,14,18,19,20,21] [(15,[16,17]),(22,[])] false (by kernel_rfl) (fun y => y.cell? ⟨sb,4,none⟩ = some (.int .i64 e1) ∧ y.cell? ⟨nb,1,none⟩ = some (.int .i64 T.k) ∧ y.cell? ⟨nb,2,none⟩ = some (.int .i64 T.s) ∧ y.cell? ⟨0, 0,none⟩ = some (.int .i64 4) ∧ y.cell? ⟨0, 1,none⟩ = some (.int .i64 0) ∧ y.cell? ⟨xb,1,none⟩ = some (.int .i64 t.hd.pos))
   case hC => exact ⟨c4,t0,t1,v0,v1,x1⟩
   case hwalk =>rintro y ⟨y4,y1,y2,g0,g1,yx⟩;change wpQuiet _ _ _ _ [_,_,_,_,_,_,_,_,_,_,_,_,_,_,_,_,_,_,_] (Act.mk _ _);(repeat go_big_quiet_step (fail));refine QW ?_;exact rfl
   case hrun =>
    change zct _ _ _ _ _ [(_,[_,_]),(_,[])] _ _;refine zP fun R1 hR1 => ?_;go_wp2_with fail;refine zd ?_;apply hR1 _ w2.drew (.inr ⟨c4,t0,t1,v0,v1,x1⟩)
    ·rintro y ⟨y4,y1,y2,g0,g1,yx⟩;change wpQuiet _ _ _ _ [_,_] (Act.mk _ _);(repeat go_big_quiet_step (fail));refine QW ?_;exact rfl
    ·clear hR1 R1;refine zv fun R2 hR2 => ?_;have hcl:=zF w2.drew sb cv mb 0 p1 e1 (HX.out.2) true 4 t.hd.pos;change Calls _ _ #[.pointer (some ⟨sb,0,none⟩),.bool true,.int .i64 4,.int .i64 t.hd.pos] _ _ at hcl;go_wp2_with fail;(with_reducible refine hcl.mono ?_);rintro r w8 ⟨rfl,hM8,st8⟩;clear hcl;have hfin:PP (.returned (.pointer (some ⟨nb,0,none⟩))) w8:=by
      rw [← HH.out.1];have hqq:zbB env (some t) = .bad t.hd.pos 4:=by rw [HN.out.1,if_pos (.inl hnt)]
      rw [hqq];refine ⟨_,rfl,.inl ⟨nb,rfl⟩,HE.out.2.1.trans (((QM [] w2).drew.mono (L':=[sb]) (by simp)).trans hM8 (by simp)),?_,fun _ o ho => by cases ho⟩;have hce:zai (.bad t.hd.pos 4:Chk (Option NT)) pos 0=zaa true 4 t.hd.pos p1 e1:=by unfold zai zaa; rw [if_neg (by omega),if_pos ⟨rfl,HN.out.2.2.2.2.2⟩]
      rw [hce];exact st8
     have HFIN:=QH hfin;clear hfin hM8 st8;go_wp2_with fail;refine zd (hR2 _ _ (by simp) ?_);clear hR2 R2;refine zI ?_;go_wp2_with fail;exact HFIN.out
 ·have z1:((e1:Int) == 0)=false:=by rw [beq_eq_false_iff_ne]; omega
  apply zr (by kernel_rfl) [0,1,2,3,4,5,6,7,8,9,10,11,12,13,14,18,19,20,21] [(15,[16,17]),(22,[])] false (by kernel_rfl) (fun y => y.cell? ⟨sb,4,none⟩ = some (.int .i64 e1) ∧ y.cell? ⟨xb,1,none⟩ = some (.int .i64 t.hd.pos))
  case hC => exact ⟨c4,x1⟩
  case hwalk =>rintro y ⟨y4,yx⟩;change wpQuiet _ _ _ _ [_,_,_,_,_,_,_,_,_,_,_,_,_,_,_,_,_,_,_] (Act.mk _ _);(repeat go_big_quiet_step (fail));refine QW ?_;exact rfl
  case hrun =>
   change zct _ _ _ _ _ [(_,[_,_]),(_,[])] _ _;refine zP fun R1 hR1 => ?_;go_wp2_with fail;refine zd ?_;apply hR1 _ w2.drew (.inr ⟨c4,x1⟩)
   ·rintro y ⟨y4,yx⟩;change wpQuiet _ _ _ _ [_,_] (Act.mk _ _);(repeat go_big_quiet_step (fail));refine QW ?_;exact rfl
   ·clear hR1 R1;refine zv fun R2 hR2 => ?_;have hcl:=zF w2.drew sb cv mb 0 p1 e1 (HX.out.2) false 4 t.hd.pos;change Calls _ _ #[.pointer (some ⟨sb,0,none⟩),.bool false,.int .i64 4,.int .i64 t.hd.pos] _ _ at hcl;go_wp2_with fail;(with_reducible refine hcl.mono ?_);rintro r w8 ⟨rfl,hM8,st8⟩;clear hcl;have hfin:PP (.returned (.pointer (some ⟨nb,0,none⟩))) w8:=by
     rw [← HH.out.1];have hst:=zdA (zdZ env t 0) HX.out.1 he1 (f:=fun n => if n.hd.t ≠ tyBool ∨ hasN n=true then Chk.bad t.hd.pos 4 else Chk.ok (some n));have hst:zai (zbB env (some t)) pos 0=(p1,e1):=hst;refine ⟨_,rfl,.inl ⟨nb,rfl⟩,HE.out.2.1.trans (((QM [] w2).drew.mono (L':=[sb]) (by simp)).trans hM8 (by simp)),?_,fun _ o ho => ?_⟩
     ·rw [hst];rw [zaw] at st8;exact st8
     ·exfalso;rw [ho,zaP] at hst;simp only [Prod.mk.injEq] at hst;omega
    have HFIN:=QH hfin;clear hfin hM8 st8;go_wp2_with fail;refine zd (hR2 _ _ (by simp) ?_);clear hR2 R2;refine zI ?_;go_wp2_with fail;exact HFIN.out
theorem AllR.at {α:Type} {R:zel α} {w:World} {L:List Nat} {k:Nat} (hk:∀ c x,R w L c x → c.length=k):∀ {css:List (List Value)} {xs:List α},AllR R w L css xs → ∀ j (hj:j < xs.length),∃ c,R w L c xs[j] ∧ ∀ i u,c[i]? = some u → css.flatten[j * k + i]? = some u:=by
 intro css
 induction css with
 | nil => intro xs h j hj; cases xs with
  | nil => simp at hj
  | cons x xs => exact h.elim
 | cons c css ih => intro xs h j hj; cases xs with
  | nil => exact h.elim
  | cons x xs =>
   have hl:=hk c x h.1
   cases j with
   | zero =>
    refine ⟨c,h.1,fun i u hi => ?_⟩;have hlt:i < c.length:=by
     rcases Nat.lt_or_ge i c.length with h | h
     ·exact h
     ·rw [List.getElem?_eq_none h] at hi; cases hi
    rw [List.flatten_cons,Nat.zero_mul,Nat.zero_add,List.getElem?_append_left hlt];exact hi
   | succ j =>obtain ⟨c2,h2,h3⟩:=ih h.2 j (by simpa using hj);refine ⟨c2,h2,fun i u hi => ?_⟩;rw [List.flatten_cons,List.getElem?_append_right (by rw [hl,Nat.add_mul]; omega),hl,show (j + 1) * k + i - k=j * k + i by rw [Nat.add_mul]; omega];exact h3 i u hi
theorem ListAt.read {α:Type} {R:zel α} {w:World} {k:Nat} {v:Value} {l:List α} (hk:∀ c x,R w [] c x → c.length=k) (h:ListAt R w [] v l) :
  ∃ ao cap,v = .slice ao l.length cap ∧ (0 < l.length → ∃ g,ao=some ⟨g,0,none⟩ ∧ ∀ j (hj:j < l.length),∃ c,R w [] c l[j] ∧ ∀ i u,c[i]? = some u → w.cell? ⟨g,j * k + i,none⟩ = some u):=by
 rcases h with ⟨rfl,rfl⟩ | ⟨g,cap,css,rfl,-,-,hc,hA⟩
 ·exact ⟨none,0,rfl,fun h => by simp at h⟩
 ·refine ⟨_,_,rfl,fun _ => ⟨g,rfl,fun j hj => ?_⟩⟩;obtain ⟨c,h1,h2⟩:=AllR.at hk hA j hj;exact ⟨c,h1,fun i u hi => hc _ u (h2 i u hi)⟩
theorem itemLen {w:World} {L:List Nat}:∀ c x,ItemR w L c x → c.length=2:=fun c x ⟨b,h,_⟩ => by rw [h]; rfl
theorem treeLen {w:World} {L:List Nat}:∀ c x,TreeR w L c x → c.length=1:=fun c x ⟨b,h,_⟩ => by rw [h]; rfl
theorem keyLen {w:World} {L:List Nat}:∀ c x,KeyR w L c x → c.length=4:=fun c x h => by unfold KeyR at h; rw [h]; rfl
def NodR:zel NT:=fun w L cs n => ∃ b,cs=[zh b] ∧ NAt w L (zh b) n
theorem nodRep:Rep NodR:=⟨fun ⟨b,h1,h2⟩ hM => ⟨b,h1,h2.mods hM⟩,fun hL ⟨b,h1,h2⟩ => ⟨b,h1,h2.weaken hL⟩,fun hg ⟨b,h1,h2⟩ => ⟨b,h1,h2.fresh hg⟩⟩
def Far (w1:World) (its nms:Value) (x:Nat):Prop:=x < w1.heap.size ∨ its.ownBlock=some x ∨ nms.ownBlock=some x
structure Coll (w1 wr:World) (its nms:Value) (ns:List NT) (ss:List Bs):Prop where
 size:w1.heap.size ≤ wr.heap.size
 rowI:∃ css,wr.ownsRow 0 41 1 its ns.length css.flatten ∧ ∀ L:List Nat,(∀ x ∈ L,Far w1 its nms x) → AllR NodR wr L css ns
 rowN:wr.ownsRow 0 9 1 nms ss.length (ss.map fun s => Value.string ⟨s.toArray⟩)
 apart:∀ g,its.ownBlock=some g → w1.heap.size ≤ g ∧ nms.ownBlock ≠ some g
 later:∀ g,nms.ownBlock=some g → w1.heap.size ≤ g
theorem Coll.start (w1:World):Coll w1 w1 (.slice none 0 0) (.slice none 0 0) [] []:=
 ⟨LR _,⟨[],World.ownsRow_nil _ _ _ _,fun L _ => trivial⟩,World.ownsRow_nil _ _ _ _,(fun g hg => nomatch (show (none:Option Nat)=some g from hg)),(fun g hg => nomatch (show (none:Option Nat)=some g from hg))⟩
theorem Coll.go {w1 wr w2:World} {its nms:Value} {ns:List NT} {ss:List Bs} {P:List Nat} (h:Coll w1 wr its nms ns ss) (hM:Mods P wr w2) (hP:∀ x ∈ P,x < w1.heap.size):Coll w1 w2 its nms ns ss:=by
 obtain ⟨css,h1,h2⟩:=h.rowI;have hs:=hM.size;have h0:=h.size;refine ⟨by omega,⟨css,zm h1 hM (fun g hg hm => by have:=(h.apart g hg).1; have:=hP g hm; omega),fun L hL => ?_⟩,zm h.rowN hM (fun g hg hm => by have:=h.later g hg; have:=hP g hm; omega),h.apart,h.later⟩
 have a:=h2 (P ++ L) (fun x hx => by
  rcases List.mem_append.1 hx with hx | hx
  ·exact .inl (hP x hx)
  ·exact hL x hx)
 exact (a.map fun c x hx => nodRep.mods hx (hM.mono (fun y hy => .inl (by simp [hy])))).map fun c x hx => nodRep.weaken (fun y hy => List.mem_append_right _ hy) hx
theorem Coll.node {w1 wr w3:World} {its nms:Value} {ns:List NT} {ss:List Bs} (h:Coll w1 wr its nms ns ss) {css:List (List Value)} (hcs:∀ L:List Nat,(∀ x ∈ L,Far w1 its nms x) → AllR NodR wr L css ns) {b:Nat} {n:NT} (hn:∀ L:List Nat,(∀ x ∈ L,Far w1 its nms x) → NAt wr L (zh b) n) {g cap k:Nat} (hk:ns.length=k)
  (hown:w3.ownsRow 0 41 1 (.slice (some ⟨g,0,none⟩) (k + 1) cap) (k + 1) (css.flatten ++ [zh b])) (hM:Mods its.ownBlock.toList wr w3) (hg:its.ownBlock=some g ∨ wr.heap.size ≤ g):Coll w1 w3 (.slice (some ⟨g,0,none⟩) (k + 1) cap) nms (ns ++ [n]) ss:=by
 have hs:=hM.size;have h0:=h.size;have hgs:w1.heap.size ≤ g ∧ nms.ownBlock ≠ some g:=by
  rcases hg with hg | hg
  ·exact h.apart g hg
  ·refine ⟨by omega,fun he => ?_⟩;have:=(h.rowN.lt g he).2;omega
 refine ⟨by omega,⟨css ++ [[zh b]],by rw [List.length_append,List.flatten_append,List.length_singleton,hk]; simpa using hown,fun L hL => ?_⟩,zm h.rowN hM (fun x hx hm => ?_),fun x hx => ?_,h.later⟩
 ·have hL':∀ x ∈ its.ownBlock.toList ++ L.filter (fun x => decide (x ≠ g)),Far w1 its nms x:=fun x hx => by
   rcases List.mem_append.1 hx with hx | hx
   ·exact .inr (.inl (by simpa using hx))
   ·rw [List.mem_filter] at hx;rcases hL x hx.1 with q | q | q
    ·exact .inl q
    ·have q:some g=some x:=q;cases q;simp at hx
    ·exact .inr (.inr q)
  have a4:=AllR.snoc (R:=NodR) (c:=[zh b]) ⟨b,rfl,hn _ hL'⟩ (hcs _ hL');have a6:AllR NodR wr (g :: (its.ownBlock.toList ++ L.filter (fun x => decide (x ≠ g)))) (css ++ [[zh b]]) (ns ++ [n]):=by
   rcases hg with hg | hg
   ·exact a4.map fun c x hx => nodRep.weaken (fun y hy => by
     rcases MC hy with rfl | hy
     ·exact List.mem_append_left _ (by simp [hg])
     ·exact hy) hx
   ·exact a4.map fun c x hx => nodRep.fresh hg hx
  exact (a6.map (R:=NodR) (w':=w3) (L':=g :: (its.ownBlock.toList ++ L.filter (fun x => decide (x ≠ g)))) fun c x hx => nodRep.mods hx (hM.mono (fun y hy => .inl (CM _ (List.mem_append_left _ hy))))).map fun c x hx => nodRep.weaken (fun y hy => by
   by_cases hyg:y=g
   ·rw [hyg]; exact List.mem_cons_self
   ·exact CM _ (List.mem_append_right _ (List.mem_filter.2 ⟨hy,by simpa using hyg⟩))) hx
 ·exact (h.apart x (by simpa using hm)).2 hx
 ·have hx:some g=some x:=hx;cases hx;exact hgs
theorem Coll.name {w1 wr w3:World} {its nms:Value} {ns:List NT} {ss:List Bs} (h:Coll w1 wr its nms ns ss) {s:Bs} {g cap k:Nat} (hk:ss.length=k)
  (hown:w3.ownsRow 0 9 1 (.slice (some ⟨g,0,none⟩) (k + 1) cap) (k + 1) ((ss.map fun s => Value.string ⟨s.toArray⟩) ++ [.string ⟨s.toArray⟩])) (hM:Mods nms.ownBlock.toList wr w3) (hg:nms.ownBlock=some g ∨ wr.heap.size ≤ g):Coll w1 w3 its (.slice (some ⟨g,0,none⟩) (k + 1) cap) ns (ss ++ [s]):=by
 have hs:=hM.size;have h0:=h.size;obtain ⟨css,h1,h2⟩:=h.rowI;have hgs:w1.heap.size ≤ g ∧ its.ownBlock ≠ some g:=by
  rcases hg with hg | hg
  ·exact ⟨h.later g hg,fun he => (h.apart g he).2 hg⟩
  ·refine ⟨by omega,fun he => ?_⟩;have:=(h1.lt g he).2;omega
 refine ⟨by omega,⟨css,zm h1 hM (fun x hx hm => ?_),fun L hL => ?_⟩,by rw [List.length_append,List.map_append,List.length_singleton,hk]; exact hown,fun x hx => ⟨(h.apart x hx).1,fun he => ?_⟩,fun x hx => ?_⟩
 ·exact (h.apart x hx).2 (by simpa using hm)
 ·have hL':∀ x ∈ nms.ownBlock.toList ++ L.filter (fun x => decide (x ≠ g)),Far w1 its nms x:=fun x hx => by
   rcases List.mem_append.1 hx with hx | hx
   ·exact .inr (.inr (by simpa using hx))
   ·rw [List.mem_filter] at hx;rcases hL x hx.1 with q | q | q
    ·exact .inl q
    ·exact .inr (.inl q)
    ·have q:some g=some x:=q;cases q;simp at hx
  have a4:=h2 _ hL';have a6:AllR NodR wr (g :: (nms.ownBlock.toList ++ L.filter (fun x => decide (x ≠ g)))) css ns:=by
   rcases hg with hg | hg
   ·exact a4.map fun c x hx => nodRep.weaken (fun y hy => by
     rcases MC hy with rfl | hy
     ·exact List.mem_append_left _ (by simp [hg])
     ·exact hy) hx
   ·exact a4.map fun c x hx => nodRep.fresh hg hx
  exact (a6.map (R:=NodR) (w':=w3) (L':=g :: (nms.ownBlock.toList ++ L.filter (fun x => decide (x ≠ g)))) fun c x hx => nodRep.mods hx (hM.mono (fun y hy => .inl (CM _ (List.mem_append_left _ hy))))).map fun c x hx => nodRep.weaken (fun y hy => by
   by_cases hyg:y=g
   ·rw [hyg]; exact List.mem_cons_self
   ·exact CM _ (List.mem_append_right _ (List.mem_filter.2 ⟨hy,by simpa using hyg⟩))) hx
 ·have he:some g=some x:=he;cases he;exact hgs.2 hx
 ·have hx:some g=some x:=hx;cases hx;exact hgs.1
def CSt (w:World) (rb:Nat) (lf rt:Int) (von vwh:Value) (gr:Bool) (vg its nms vo:Value) (lim off:Int):Prop:=
 w.heap[rb]? = some (.cells #[.int .i64 lf,.int .i64 rt,von,vwh,.bool gr,vg,its,nms,vo,.int .i64 lim,.int .i64 off] 47 (0,0))
theorem zbr {α:Type} (r:Chk α) {p e:Nat} (h:e ≠ 0):zai r p e=(p,e):=by unfold zai;rw [if_pos h]
theorem zli {α:Type} {c:Prop} [Decidable c] (a:α) (k p pos e:Nat):zai (if c then Chk.bad p k else Chk.ok a) pos e=zaa (decide c) k p pos e:=by
 by_cases he:e=0
 ·subst he;unfold zaa zai;by_cases h:c
  ·rw [if_neg (by simp),if_pos h,if_pos ⟨decide_eq_true h,rfl⟩]
  ·rw [if_neg (by simp),if_neg h,if_neg (by simp [h])]
 ·rw [zbr _ he];unfold zaa;rw [if_neg (fun h => he h.2)]
theorem zfi (env:List EC) (a:Tree):∀ (l:List Tree),zbe env (l ++ [a])=(zbe env l).bind fun ks => (zbF env a.hd).bind fun k => .ok (ks ++ [k]):=by
 intro l
 induction l with
 | nil =>show (zbF env a.hd).bind _=(zbF env a.hd).bind _;cases zbF env a.hd <;> rfl
 | cons b l ih =>
  show (zbF env b.hd).bind _=((zbF env b.hd).bind _).bind _
  cases zbF env b.hd with
  | bad p k => rfl
  | ok x =>
   show (zbe env (l ++ [a])).bind _=((zbe env l).bind _).bind _;rw [ih]
   cases zbe env l with
   | bad p k => rfl
   | ok xs =>show ((zbF env a.hd).bind _).bind _=(zbF env a.hd).bind _;cases zbF env a.hd <;> rfl
theorem zez (env:List EC):∀ (l:List Tree),NZ (zbe env l):=by
 intro l
 induction l with
 | nil => exact NZ.ok _
 | cons a l ih => exact NZ.bind (fun p k hk => zgD hk) fun x _ => NZ.bind ih fun xs _ => NZ.ok _
theorem zi2 {env:List EC} {gs:List Tree} {i:Nat} {a:Tree} {pos e p1 e1:Nat} (h:zai (zbe env (gs.take i)) pos e=(p1,e1)) (ha:gs[i]? = some a):zai (zbe env (gs.take (i + 1))) pos e=zai (zbF env a.hd) p1 e1:=by rw [List.take_add_one,ha];show zai (zbe env (gs.take i ++ [a])) pos e=_;rw [zfi];exact zdB (zez env _) h fun xs _ => zey _ _ _ _
theorem zfj (items:List NT) (names:List Bs) (a:zfI):∀ (l:List zfI),za6 items names (l ++ [a])=(za6 items names l).bind fun ks => (keyQ items names a).bind fun k => .ok (ks ++ [k]):=by
 intro l
 induction l with
 | nil =>show (keyQ items names a).bind _=(keyQ items names a).bind _;cases keyQ items names a <;> rfl
 | cons b l ih =>
  show (keyQ items names b).bind _=((keyQ items names b).bind _).bind _
  cases keyQ items names b with
  | bad p k => rfl
  | ok x =>
   show (za6 items names (l ++ [a])).bind _=((za6 items names l).bind _).bind _;rw [ih]
   cases za6 items names l with
   | bad p k => rfl
   | ok xs =>show ((keyQ items names a).bind _).bind _=(keyQ items names a).bind _;cases keyQ items names a <;> rfl
def zfx (names:List Bs) (k:zfI):Int:=if k.name ≠ [] then (match names.findIdx? (· == k.name) with | some j => (j:Int) | none => -1) else k.item - 1
theorem zik (items:List NT) (names:List Bs) (k:zfI):keyQ items names k=if zfx names k < 0 ∨ (items.length:Int) ≤ zfx names k then .bad k.pos 13 else .ok ⟨(zfx names k).toNat,k.desc⟩:=rfl
theorem zoO (items:List NT) (names:List Bs) (k:zfI):NZ (keyQ items names k):=by
 rw [zik];split
 ·intro p e h; cases h; decide
 ·exact NZ.ok _
theorem zgP (items:List NT) (names:List Bs):∀ (l:List zfI),NZ (za6 items names l):=by
 intro l
 induction l with
 | nil => exact NZ.ok _
 | cons a l ih => exact NZ.bind (zoO _ _ _) fun x _ => NZ.bind ih fun xs _ => NZ.ok _
theorem zmV {items:List NT} {names:List Bs} {ks:List zfI} {i:Nat} {a:zfI} {pos e p1 e1:Nat} (h:zai (za6 items names (ks.take i)) pos e=(p1,e1)) (ha:ks[i]? = some a) :
  zai (za6 items names (ks.take (i + 1))) pos e=zaa (decide (zfx names a < 0 ∨ (items.length:Int) ≤ zfx names a)) 13 a.pos p1 e1:=by
 rw [List.take_add_one,ha];show zai (za6 items names (ks.take i ++ [a])) pos e=_;rw [zfj,zdB (r2:=keyQ items names a) (zgP _ _ _) h fun xs _ => zey _ _ _ _,zik];exact zli _ _ _ _ _
def offB (group:List Nat) (n:NT):Bool:=decide (aggOpB n.hd.op=false ∧ (n.hd.op ≠ oColumn ∨ n.hd.col ∉ group))
theorem zjR (group:List Nat) (i:za2) (n:NT):∀ (l:List za2) (ns:List NT),l.length=ns.length → fitsQ group (l ++ [i]) (ns ++ [n])=(fitsQ group l ns).bind fun _ => if aggOpB n.hd.op=false ∧ (n.hd.op ≠ oColumn ∨ n.hd.col ∉ group) then .bad i.e.hd.pos 4 else .ok ():=by
 intro l
 induction l with
 | nil =>
  intro ns h
  cases ns with
  | nil => rfl
  | cons x ns => cases h
 | cons b l ih =>
  intro ns h
  cases ns with
  | nil => cases h
  | cons x ns =>show (if _ then _ else fitsQ group (l ++ [i]) (ns ++ [n]))=(if _ then _ else fitsQ group l ns:Chk Unit).bind _;rw [ih ns (by simpa using h)];split <;> rfl
theorem zlj (group:List Nat):∀ (l:List za2) (ns:List NT),NZ (fitsQ group l ns):=by
 intro l
 induction l with
 | nil => intro ns; exact NZ.ok _
 | cons b l ih =>
  intro ns
  cases ns with
  | nil => exact NZ.ok _
  | cons x ns =>
   show NZ (if _ then _ else fitsQ group l ns);split
   ·exact NZ.four _
   ·exact ih ns
theorem zoe {group:List Nat} {its:List za2} {ns:List NT} {k:Nat} {i:za2} {n:NT} {pos e p1 e1:Nat} (h:zai (fitsQ group (its.take k) (ns.take k)) pos e=(p1,e1)) (hi:its[k]? = some i) (hn:ns[k]? = some n) :
  zai (fitsQ group (its.take (k + 1)) (ns.take (k + 1))) pos e=zaa (offB group n) 4 i.e.hd.pos p1 e1:=by
 have h1:k < its.length:=(List.getElem?_eq_some_iff.1 hi).1;have h2:k < ns.length:=(List.getElem?_eq_some_iff.1 hn).1;rw [List.take_add_one,List.take_add_one,hi,hn];show zai (fitsQ group (its.take k ++ [i]) (ns.take k ++ [n])) pos e=_;rw [zjR _ _ _ _ _ (by simp only [List.length_take]; omega)];exact (zdB (zlj _ _ _) h fun _ _ => rfl).trans (zli _ _ _ _ _)
def ItemsGo (env:List EC) (its:List za2) (i:Nat) (r:List (NT × Bs)):Prop:=za5 env 0 its=(za5 env i (its.drop i)).bind fun r' => .ok (r ++ r')
theorem ItemsGo.start (env:List EC) (its:List za2):ItemsGo env its 0 []:=by show za5 env 0 its=(za5 env 0 its).bind _;cases za5 env 0 its <;> rfl
theorem ItemsGo.drop {env:List EC} {its:List za2} {i:Nat} {it:za2} (hi:its[i]? = some it):its.drop i=it :: its.drop (i + 1):=by obtain ⟨h,rfl⟩:=List.getElem?_eq_some_iff.1 hi;exact List.drop_eq_getElem_cons h
theorem ItemsGo.step {env:List EC} {its:List za2} {i:Nat} {r:List (NT × Bs)} {it:za2} {n:NT} (h:ItemsGo env its i r) (hi:its[i]? = some it) (h64:i ≠ 64) (he:zq env it.e 0 = .ok n):ItemsGo env its (i + 1) (r ++ [(n,zfz env i it n)]):=by
 unfold ItemsGo at h ⊢;rw [h,ItemsGo.drop (env:=env) hi];show (if i=64 then _ else (zq env it.e 0).bind _:Chk _).bind _=_;rw [if_neg h64,he];show ((za5 env (i + 1) (its.drop (i + 1))).bind _).bind _=_
 cases za5 env (i + 1) (its.drop (i + 1)) with
 | bad p k => rfl
 | ok r' =>show Chk.ok (r ++ ((n,zfz env i it n) :: r'))=Chk.ok (r ++ [(n,zfz env i it n)] ++ r');rw [List.append_assoc]; rfl
theorem ItemsGo.full {env:List EC} {its:List za2} {i:Nat} {r:List (NT × Bs)} {it:za2} (h:ItemsGo env its i r) (hi:its[i]? = some it) (h64:i=64):za5 env 0 its = .bad it.e.hd.pos 4:=by unfold ItemsGo at h;rw [h,ItemsGo.drop (env:=env) hi];show (if i=64 then _ else (zq env it.e 0).bind _:Chk _).bind _=_;rw [if_pos h64]; rfl
theorem ItemsGo.bad {env:List EC} {its:List za2} {i:Nat} {r:List (NT × Bs)} {it:za2} {p k:Nat} (h:ItemsGo env its i r) (hi:its[i]? = some it) (h64:i ≠ 64) (he:zq env it.e 0 = .bad p k):za5 env 0 its = .bad p k:=by unfold ItemsGo at h;rw [h,ItemsGo.drop (env:=env) hi];show (if i=64 then _ else (zq env it.e 0).bind _:Chk _).bind _=_;rw [if_neg h64,he]; rfl
theorem ItemsGo.fin {env:List EC} {its:List za2} {i:Nat} {r:List (NT × Bs)} (h:ItemsGo env its i r) (hi:its.length ≤ i):za5 env 0 its = .ok r:=by unfold ItemsGo at h;rw [h,List.drop_eq_nil_of_le hi];show Chk.ok (r ++ [])=_;rw [List.append_nil]
theorem zmW (env:List EC):∀ (l:List za2) (k:Nat),NZ (za5 env k l):=by
 intro l
 induction l with
 | nil => intro k; exact NZ.ok _
 | cons a l ih =>
  intro k;show NZ (if k=64 then _ else (zq env a.e 0).bind _);split
  ·exact NZ.four _
  ·exact NZ.bind (zdZ env _ _) fun x _ => NZ.bind (ih _) fun xs _ => NZ.ok _
end Go.Proofs.YtgdpaieechgahaaGreatDoor
