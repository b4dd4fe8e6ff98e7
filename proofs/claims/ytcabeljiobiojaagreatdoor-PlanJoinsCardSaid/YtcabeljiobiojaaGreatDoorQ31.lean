/-
  check.table, walked. No condition.
-/
import Derived.Test.YtcabeljiobiojaaGreatDoorQ30
set_option linter.unusedVariables false
set_option maxRecDepth 100000
set_option maxHeartbeats 16000000
namespace Go.Proofs.YtcabeljiobiojaaGreatDoor
open Go.RowKit
theorem ydK {p:Prop} (h:p:=by
  apply zr AC [0,1,2,3,4,5,6,7,8,9,10,11,12,13,14,18,19,20,21] [(15,[16,17]),(22,[])] false AC (fun y => y.cell? ⟨sb,4,none⟩ = some (.int .i64 e1) ∧ y.cell? ⟨nb,1,none⟩ = some (.int .i64 4) ∧ y.cell? ⟨nb,2,none⟩ = some (.int .i64 0) ∧ y.cell? ⟨0, 0,none⟩ = some (.int .i64 4) ∧ y.cell? ⟨0, 1,none⟩ = some (.int .i64 0) ∧ y.cell? ⟨xb,1,none⟩ = some (.int .i64 t.hd.pos))
  case hC => exact ⟨c4,t0,t1,v0,v1,x1⟩
  case hwalk =>rintro y ⟨y4,y1,y2,g0,g1,yx⟩;exact ycw
  first
  |guard_hyp gB6
   case hrun =>have gAH:=QH trivial;exact ycZ
  |guard_hyp gB7
   case hrun =>have gAI:=QH trivial;exact ycZ
 ):p:=h
theorem ydo {p:Prop} (h:p:=by
  unfold zh;go_enter Tryz.func27, Tryz.ntmps27;go_wp2_with fail;(with_reducible refine hcall.mono ?_);rintro e w1 ⟨rfl,hM1⟩
  first
  |guard_hyp gBg
   have hA1:=HA.out.later hM1;have hc1:=zF w1 sb cv mb 0 pos 0 hA1.st true 13 at';have HA1:=QH hA1;unfold zh at hc1;clear hA1 hM1 hcall;go_wp2_with fail;refine hc1.mono ?_;rintro e w2 ⟨rfl,hM2,hS2⟩;have hA2:=HA1.out.go hM2 hS2;rw [show zaa true 13 at' pos 0=(at',13) from rfl] at hA2;have hc2:=zF w2 sb cv mb 0 at' 13 hA2.st false 4 at';have HA2:=QH hA2;unfold zh at hc2;clear hA2 hM2 hS2 hc1;go_wp2_with fail;refine hc2.mono ?_;rintro e w3 ⟨rfl,hM3,hS3⟩;have hA3:=HA2.out.go hM3 hS3;rw [show zaa false 4 at' at' 13=(at',13) from rfl] at hA3;have c4:=za hA3.st 4;change w3.cell? _=some (.int .i64 13) at c4;exact ycr
  |guard_hyp gBh
   have hA1:=HA.out.later hM1;have hc1:=zF w1 sb cv mb 0 pos 0 hA1.st false 13 at';have HA1:=QH hA1;unfold zh at hc1;clear hA1 hM1 hcall;go_wp2_with fail;refine hc1.mono ?_;rintro e w2 ⟨rfl,hM2,hS2⟩;have hA2:=HA1.out.go hM2 hS2;rw [show zaa false 13 at' pos 0=(pos,0) from rfl] at hA2;have hc2:=zF w2 sb cv mb 0 pos 0 hA2.st true 4 at';have HA2:=QH hA2;unfold zh at hc2;clear hA2 hM2 hS2 hc1;go_wp2_with fail;refine hc2.mono ?_;rintro e w3 ⟨rfl,hM3,hS3⟩;have hA3:=HA2.out.go hM3 hS3;rw [show zaa true 4 at' pos 0=(at',4) from rfl] at hA3;have c4:=za hA3.st 4;change w3.cell? _=some (.int .i64 4) at c4;exact ycr
  |guard_hyp gBi
   have hA1:=HA.out.1.later hM1;have hc1:=zF w1 sb cv mb 0 pos 0 hA1.st false 13 at';have HA1:=QH hA1;unfold zh at hc1;clear hA1 hM1 hcall;go_wp2_with fail;refine hc1.mono ?_;rintro e w2 ⟨rfl,hM2,hS2⟩;have hA2:=HA1.out.go hM2 hS2;rw [show zaa false 13 at' pos 0=(pos,0) from rfl] at hA2;have hc2:=zF w2 sb cv mb 0 pos 0 hA2.st false 4 at';have HA2:=QH hA2;unfold zh at hc2;clear hA2 hM2 hS2 hc1;go_wp2_with fail;refine hc2.mono ?_;rintro e w3 ⟨rfl,hM3,hS3⟩;have hA3:=HA2.out.go hM3 hS3;rw [show zaa false 4 at' pos 0=(pos,0) from rfl] at hA3;have c4:=za hA3.st 4;change w3.cell? _=some (.int .i64 0) at c4;have kc:=hA3.mods.cell HA.out.2.2.2.2.2.2.2.2.2.2.2.1 HA.out.2.2.2.2.2.2.2.2.2.2.2.2;have HA3:=QH hA3;clear hA3 hM3 hS3 hc2;go_wp2_with fail;clear c4 kc;go_loopg [46] m (fun gk t46 wr => ∃ i:Nat,i + gk=m ∧ t46 = .int .i64 i ∧ AddT Lx Sl w0 wr sb mb pos env (zax t).env i)
   case atStart => exact ⟨0,by omega,rfl,cv,by simpa using HA3.out⟩
   obtain ⟨i,hi,rfl,hAd⟩:=hrel;by_cases hlt:i < m
   ·obtain ⟨cvi,hAi⟩:=hAd;obtain ⟨-,hnm,hcols,hm,hes,hs,hsl,hlen,hfit,hnew,hnd,-⟩:=HA.out;have hic:i < t.cols.length:=by rw [hm]; exact hlt
    obtain ⟨cb,coff,rfl,hcb,hcc⟩:=hcols (by intro h; rw [h] at hic; simp at hic);obtain ⟨x0,x1,x2,x3⟩:=hcc i hic;have k0:=hAi.mods.cell x0 hcb;have k1:=hAi.mods.cell x1 hcb;have k2:=hAi.mods.cell x2 hcb;have k3:=hAi.mods.cell x3 hcb;obtain ⟨hf1,hf2,hf3⟩:=hfit _ (List.getElem_mem hic);have heq:(zax t).env[i]'(by rw [hes]; exact hlt) = ⟨s,t.cols[i].nm,⟨t.cols[i].k.toNat,t.cols[i].s.toNat⟩⟩:=by simp [TblT.env,zax,hnm]
    obtain ⟨nm,hnme⟩:=EX (t.cols[i].nm);obtain ⟨a,ha⟩:=EX (t.cols[i].k.toNat);obtain ⟨b,hb⟩:=EX (t.cols[i].s.toNat);obtain ⟨nl,hnl⟩:=EX (t.cols[i].null);have hnB:t.cols[i].name=(⟨nm.toArray⟩ : ByteArray):=by rw [← hnme]; exact (zi0 _).symm
    rw [hnB] at k0;rw [show t.cols[i].k=(a:Int) by omega] at k1;rw [show t.cols[i].s=(b:Int) by omega] at k2;rw [hnl] at k3;have hAz:=hAi.later ((QM [] wr).alloc (.cells #[.string ⟨nm.toArray⟩,.int .i64 a,.int .i64 b,.bool nl] 61));have hstep:(env ++ (zax t).env.take i) ++ [⟨s,nm,⟨a,b⟩⟩]=env ++ (zax t).env.take (i + 1):=by rw [List.append_assoc,List.take_succ_eq_append_getElem (by rw [hes]; exact hlt),heq,hnme,ha,hb]
    have hcl:=zmT Lx Sl w0 _ sb cvi mb 0 pos 0 _ hAz (by simp only [List.length_append,List.length_take,hes]; omega) s nm a b nl hs hsl (by rw [← hnme]; exact hf1) (by
     intro e he;rw [List.mem_append] at he;rcases he with he | he
     ·rw [← hnme];exact hnew _ (List.getElem_mem hic) e he
     ·obtain ⟨j,hj,hje⟩:=List.mem_iff_getElem.1 he;rw [List.length_take,hes] at hj;rw [List.getElem_take] at hje;have hjc:j < t.cols.length:=by omega
      have:e.name=(t.cols.map Col.nm)[j]'(by simpa using hjc):=by rw [← hje];simp [TblT.env,zax]
      rw [this,← hnme];have h2:t.cols[i].nm=(t.cols.map Col.nm)[i]'(by simpa using hic):=by simp
      rw [h2]
      exact (List.pairwise_iff_getElem.1 hnd) j i _ _ AA)
    rw [hstep] at hcl;rw [HS.out] at hcl;generalize (⟨nm.toArray⟩ : ByteArray)=N at *;unfold zh at hcl;clear hAi hnm hcols hes hs hsl hlen hfit hnew hnd x0 x1 x2 x3 hcc hf1 hf2 hf3 heq hnme ha hb hnl hnB hstep hAz hic hm;go_wp2_with fail;(with_reducible refine hcl.mono ?_);rintro e w5 ⟨rfl,hAd5⟩;have HD:=QH hAd5;clear hcl hAd5;go_wp2_with fail;go_roundg (m - (i + 1))
    case measure => omega
    case rel => exact ⟨i + 1,by omega,by go_num,HD.out⟩
   ·obtain rfl:i=m:=by omega
    have hfin:∃ cv',Adding Lx Sl w0 wr sb cv' mb 0 pos 0 (env ++ (zax t).env):=by obtain ⟨cvi,hAi⟩:=hAd;refine ⟨cvi,?_⟩;rw [← HA.out.2.2.2.2.1,List.take_length] at hAi;exact hAi
    have HF:=QH hfin;clear hAd hfin;go_wp2_with fail;go_ret;exact ⟨rfl,HF.out⟩
 ):p:=h
theorem ycZ {p:Prop} (h:p:=by
  change zct _ _ _ _ _ [(_,[_,_]),(_,[])] _ _;refine zP fun R1 hR1 => ?_;have hha:=zgG n w2.drew (zh nb) ((HN.out.2.2.1.weaken AB).mods (QM [] w2).drew);rw [hh] at hha;unfold zh at hha;go_wp2_with fail;(with_reducible refine hha.mono ?_);rintro r w3 ⟨rfl,hM3⟩;clear hha;go_wp2_with fail;refine zd ?_;apply hR1 _ w3 (.inr ⟨hM3.cell (show w2.drew.cell? _=_ from c4),hM3.cell (show w2.drew.cell? _=_ from t0),hM3.cell (show w2.drew.cell? _=_ from t1),hM3.cell (show w2.drew.cell? _=_ from v0),hM3.cell (show w2.drew.cell? _=_ from v1),hM3.cell (show w2.drew.cell? _=_ from x1)⟩)
  ·rintro y ⟨y4,y1,y2,g0,g1,yx⟩;exact ycu
  first
  |guard_hyp gAH
   ·clear hR1 R1;refine zv fun R2 hR2 => ?_;have hcl:=zF w3 sb cv mb 0 p1 e1 (hM3.heap (show w2.drew.heap[sb]? = _ from HX.out.2)) true 4 t.hd.pos;change Calls _ _ #[.pointer (some ⟨sb,0,none⟩),.bool true,.int .i64 4,.int .i64 t.hd.pos] _ _ at hcl;go_wp2_with fail;(with_reducible refine hcl.mono ?_);rintro r w8 ⟨rfl,hM8,st8⟩;clear hcl;have hfin:PP (.returned (.pointer (some ⟨nb,0,none⟩))) w8:=by
     rw [← HH.out.1];have hqq:zbB env (some t) = .bad t.hd.pos 4:=by rw [HN.out.1,if_pos (.inr hh)]
     rw [hqq];refine ⟨_,rfl,.inl ⟨nb,rfl⟩,HE.out.2.1.trans ((((QM [] w2).drew.mono (L':=[sb])).trans (hM3.mono (L':=[sb]) AB)).trans hM8) AB,?_,fun _ o ho => by cases ho⟩;exact ycE
    exact ycv
  |guard_hyp gAI
   ·clear hR1 R1;refine zv fun R2 hR2 => ?_;have hcl:=zF w3 sb cv mb 0 p1 e1 (hM3.heap (show w2.drew.heap[sb]? = _ from HX.out.2)) false 4 t.hd.pos;change Calls _ _ #[.pointer (some ⟨sb,0,none⟩),.bool false,.int .i64 4,.int .i64 t.hd.pos] _ _ at hcl;go_wp2_with fail;(with_reducible refine hcl.mono ?_);rintro r w8 ⟨rfl,hM8,st8⟩;clear hcl;have hfin:PP (.returned (.pointer (some ⟨nb,0,none⟩))) w8:=by
     rw [← HH.out.1];have hqq:zbB env (some t) = .ok (some n):=by rw [HN.out.1,if_neg (fun h => h.elim (fun h => h (HT.out)) (fun h => by rw [hh] at h; cases h))]
     rw [hqq];refine ⟨_,rfl,.inl ⟨nb,rfl⟩,HE.out.2.1.trans ((((QM [] w2).drew.mono (L':=[sb])).trans (hM3.mono (L':=[sb]) AB)).trans hM8) AB,?_,fun _ o ho L hL => ?_⟩
     ·rw [zaP];rw [zaw,HN.out.2.2.2.2.1,HN.out.2.2.2.2.2] at st8;exact st8
     ·cases ho
      have h1:=HE.out.2.2.2 AB n HN.out.2.1 (sb :: L) (fun x hx => by
       rcases MC hx with rfl | hx
       ·exact zj HH.out.2.1.st
       ·exact hL x hx)
      have hM28:Mods [sb] w2 w8:=(((QM [] w2).drew.mono (L':=[sb])).trans (hM3.mono (L':=[sb]) AB)).trans hM8;exact (h1.mods (hM28.mono)).weaken (fun x hx => CM _ hx)
    exact ycv
 ):p:=h
theorem ycv {p:Prop} (h:p:=by
  have HFIN:=QH hfin;clear hfin hM8 st8;go_wp2_with fail;refine zd (hR2 _ _ AB ?_);clear hR2 R2;refine zI ?_;go_wp2_with fail;exact HFIN.out
 ):p:=h
theorem ycw {p:Prop} (h:p:=by
  change wpQuiet _ _ _ _ [_,_,_,_,_,_,_,_,_,_,_,_,_,_,_,_,_,_,_] (Act.mk _ _);(repeat go_big_quiet_step (fail));refine QW ?_;exact rfl
 ):p:=h
theorem ycE {p:Prop} (h:p:=by
  have hce:zai (.bad t.hd.pos 4:Chk (Option NT)) pos 0=zaa true 4 t.hd.pos p1 e1:=by unfold zai zaa; rw [if_neg AA,if_pos ⟨rfl,HN.out.2.2.2.2.2⟩]
  rw [hce];exact st8
 ):p:=h
theorem yai {p:Prop} (h:p:=by
  have hnt:n.hd.t ≠ tyBool:=by rw [HT.out]; exact a3
  apply zr AC [0,1,2,3,4,5,6,7,8,9,10,11,12,13,14,18,19,20,21] [(15,[16,17]),(22,[])] false AC (fun y => y.cell? ⟨sb,4,none⟩ = some (.int .i64 e1) ∧ y.cell? ⟨nb,1,none⟩ = some (.int .i64 T.k) ∧ y.cell? ⟨nb,2,none⟩ = some (.int .i64 T.s) ∧ y.cell? ⟨0, 0,none⟩ = some (.int .i64 4) ∧ y.cell? ⟨0, 1,none⟩ = some (.int .i64 0) ∧ y.cell? ⟨xb,1,none⟩ = some (.int .i64 t.hd.pos))
  case hC => exact ⟨c4,t0,t1,v0,v1,x1⟩
  case hwalk =>rintro y ⟨y4,y1,y2,g0,g1,yx⟩;exact ycw
  case hrun =>
   change zct _ _ _ _ _ [(_,[_,_]),(_,[])] _ _;refine zP fun R1 hR1 => ?_;go_wp2_with fail;refine zd ?_;apply hR1 _ w2.drew (.inr ⟨c4,t0,t1,v0,v1,x1⟩)
   ·rintro y ⟨y4,y1,y2,g0,g1,yx⟩;exact ycu
   ·clear hR1 R1;refine zv fun R2 hR2 => ?_;have hcl:=zF w2.drew sb cv mb 0 p1 e1 (HX.out.2) true 4 t.hd.pos;change Calls _ _ #[.pointer (some ⟨sb,0,none⟩),.bool true,.int .i64 4,.int .i64 t.hd.pos] _ _ at hcl;go_wp2_with fail;(with_reducible refine hcl.mono ?_);rintro r w8 ⟨rfl,hM8,st8⟩;clear hcl;have hfin:PP (.returned (.pointer (some ⟨nb,0,none⟩))) w8:=by
     rw [← HH.out.1];have hqq:zbB env (some t) = .bad t.hd.pos 4:=by rw [HN.out.1,if_pos (.inl hnt)]
     rw [hqq];refine ⟨_,rfl,.inl ⟨nb,rfl⟩,HE.out.2.1.trans (((QM [] w2).drew.mono (L':=[sb]) AB).trans hM8 AB),?_,fun _ o ho => by cases ho⟩;exact ycE
    exact ycv
 ):p:=h
theorem ybs {p:Prop} (h:p:=by
  rcases hg with hg | hg
  ·exact a4.map fun c x hx => nodRep.weaken (fun y hy => by
    rcases MC hy with rfl | hy
    ·exact List.mem_append_left _ (by simp [hg])
    ·exact hy) hx
  ·exact a4.map fun c x hx => nodRep.fresh hg hx
 ):p:=h
theorem ybT {p:Prop} (h:p:=by
  go_enter Tryz.func28, Tryz.ntmps28;go_wp2_with fail;exact HFIN.out
 ):p:=h
theorem ycr {p:Prop} (h:p:=by
  have HA3:=QH hA3;clear hA3 hM3 hS3 hc2;go_wp2_with fail;go_ret;exact ⟨rfl,HA3.out⟩
 ):p:=h
theorem Adding.go {Lx Sl:List Nat} {w0 w w':World} {sb:Nat} {cv:Value} {mb d pos e d' pos' e':Nat} {env:List EC} (h:Adding Lx Sl w0 w sb cv mb d pos e env) (hM:Mods [sb] w w') (hS:zaX w' sb cv mb d' pos' e'):Adding Lx Sl w0 w' sb cv mb d' pos' e' env:=
 ⟨hS,h.map.mods (hM.mono),h.row.mods hM (fun g hg => by simpa using (h.old.2.2 g hg).2),h.mods.trans hM (fun x hx => .inl (by simp at hx; rw [hx]; exact h.old.1)),h.old,h.far⟩
theorem Adding.later {Lx Sl:List Nat} {w0 w w':World} {sb:Nat} {cv:Value} {mb d pos e:Nat} {env:List EC} (h:Adding Lx Sl w0 w sb cv mb d pos e env) (hM:Mods [] w w'):Adding Lx Sl w0 w' sb cv mb d pos e env:=
 h.go (hM.mono) (hM.heap h.st)
def zax (t:Tbl):TblT:=⟨t.nm,t.cols.map fun c => (c.nm,⟨c.k.toNat,c.s.toNat⟩)⟩
theorem ColsIn.weaken {w:World} {ao:Option Addr} {cs:List Col} {L L':List Nat} (h:ColsIn w ao cs L) (hL:∀ x ∈ L',x ∈ L):ColsIn w ao cs L':=fun hne => by obtain ⟨b,off,h1,h2,h3⟩:=h hne;exact ⟨b,off,h1,fun hm => h2 (hL _ hm),h3⟩
theorem TblsIn.weaken {w:World} {ao:Option Addr} {ts:List Tbl} {L L':List Nat} (h:TblsIn w ao ts L) (hL:∀ x ∈ L',x ∈ L):TblsIn w ao ts L':=fun hne => by
 obtain ⟨b,off,h1,h2,h3⟩:=h hne
 exact ⟨b,off,h1,fun hm => h2 (hL _ hm),fun i hi => by
  obtain ⟨h4,co,c,h5,h6⟩:=h3 i hi
  exact ⟨h4,co,c,h5,h6.weaken hL⟩⟩
theorem zi0 (b:ByteArray):(⟨b.data.toList.toArray⟩ : ByteArray)=b:=by cases b; simp
theorem zi1 (l:List Tbl) (s:Bs):(l.map Tbl.name).findIdx? (fun x => decide (x=(⟨s.toArray⟩ : ByteArray)))=zbw (l.map zax) s:=by
 unfold zbw;rw [List.findIdx?_map,List.findIdx?_map];congr 1;funext t;show decide (t.name=_)=(t.name.data.toList == s);rw [Bool.eq_iff_iff,decide_eq_true_iff,beq_iff_eq];constructor
 ·intro h;rw [h]
 ·intro h;rw [← h,zi0]
theorem zc1 {l:List Tbl} {s:Bs} {k:Nat} (h:zbw (l.map zax) s=some k):zcx (l.map Tbl.name) ⟨s.toArray⟩ = .tuple #[.int .i64 k,.bool true]:=by unfold zcx;rw [zi1,h]
theorem zfG {l:List Tbl} {s:Bs} (h:zbw (l.map zax) s=none):zcx (l.map Tbl.name) ⟨s.toArray⟩ = .tuple #[.int .i64 0,.bool false]:=by unfold zcx;rw [zi1,h]
theorem zd0 {l:List Tbl} {s:Bs} {k:Nat} (h:zbw (l.map zax) s=some k):∃ hk:k < l.length,l[k].nm=s:=by unfold zbw at h;rw [List.findIdx?_eq_some_iff_getElem] at h;obtain ⟨hk,h1,-⟩:=h;refine ⟨by simpa using hk,?_⟩;simpa [zax] using h1
theorem zih (Lx Sl:List Nat) (w0 w:World) (sb:Nat) (cv:Value) (mb pos:Nat) (env:List EC) (hA:Adding Lx Sl w0 w sb cv mb 0 pos 0 env) (l:List Tbl) (n:Nat) (hn:l.length=n) (hn63:n ≤ 9223372036854775807) (ao:Option Addr) (cap:Nat) (hI:TblsIn w0 ao l Sl) (s:Bs) (at':Nat) (but:Int) (hf:zbw (l.map zax) s=none) :
  Calls Tryz.prog 27 #[zh sb,.slice ao n cap,.string ⟨s.toArray⟩,.int .i64 at',.int .i64 but] w fun r w' => r = .returned (.int .i64 0) ∧ Adding Lx Sl w0 w' sb cv mb 0 at' 13 env:=by
 have hcall:=zfh w l n hn hn63 ao cap ((hI.mods hA.mods).weaken AB) ⟨s.toArray⟩;rw [zfG hf] at hcall;have HA:=QH hA;generalize (⟨s.toArray⟩ : ByteArray)=S at *;clear hA hI hn hf;have gBg:=QH trivial;exact ydo
theorem zii (Lx Sl:List Nat) (w0 w:World) (sb:Nat) (cv:Value) (mb pos:Nat) (env:List EC) (hA:Adding Lx Sl w0 w sb cv mb 0 pos 0 env) (l:List Tbl) (n:Nat) (hn:l.length=n) (hn63:n ≤ 9223372036854775807) (ao:Option Addr) (cap:Nat) (hI:TblsIn w0 ao l Sl) (s:Bs) (at':Nat) (k:Nat) (hf:zbw (l.map zax) s=some k) :
  Calls Tryz.prog 27 #[zh sb,.slice ao n cap,.string ⟨s.toArray⟩,.int .i64 at',.int .i64 k] w fun r w' => r = .returned (.int .i64 k) ∧ Adding Lx Sl w0 w' sb cv mb 0 at' 4 env:=by
 have hcall:=zfh w l n hn hn63 ao cap ((hI.mods hA.mods).weaken AB) ⟨s.toArray⟩;rw [zc1 hf] at hcall;have HA:=QH hA;generalize (⟨s.toArray⟩ : ByteArray)=S at *;clear hA hI hn hf;have gBh:=QH trivial;exact ydo
def AddT (Lx Sl:List Nat) (w0 wr:World) (sb mb pos:Nat) (env es:List EC) (i:Nat):Prop:=∃ cv',Adding Lx Sl w0 wr sb cv' mb 0 pos 0 (env ++ es.take i)
theorem zij (Lx Sl:List Nat) (w0 w:World) (sb:Nat) (cv:Value) (mb pos:Nat) (env:List EC) (hA:Adding Lx Sl w0 w sb cv mb 0 pos 0 env) (l:List Tbl) (n:Nat) (hn:l.length=n) (hn63:n ≤ 9223372036854775807) (ao:Option Addr) (cap:Nat) (hI:TblsIn w0 ao l Sl) (s:Bs) (at':Nat) (but:Int) (k:Nat) (hf:zbw (l.map zax) s=some k) (hbut:but ≠ k)
  (hs:s ≠ []) (hsl:s.length ≤ 5000) (t:Tbl) (ht:l[k]? = some t) (hlen:env.length + t.cols.length ≤ 1000) (hfit:∀ c ∈ t.cols,c.nm.length ≤ 5000 ∧ 0 ≤ c.k ∧ 0 ≤ c.s) (hnew:∀ c ∈ t.cols,∀ e ∈ env,e.name ≠ c.nm) (hnd:(t.cols.map Col.nm).Nodup) :
  Calls Tryz.prog 27 #[zh sb,.slice ao n cap,.string ⟨s.toArray⟩,.int .i64 at',.int .i64 but] w fun r w' => r = .returned (.int .i64 k) ∧ ∃ cv',Adding Lx Sl w0 w' sb cv' mb 0 pos 0 (env ++ (zax t).env):=by
 have hcall:=zfh w l n hn hn63 ao cap ((hI.mods hA.mods).weaken AB) ⟨s.toArray⟩;rw [zc1 hf] at hcall;obtain ⟨hk,hnm⟩:=zd0 hf;have htk:l[k]=t:=by rw [List.getElem?_eq_getElem hk] at ht;exact Option.some.inj ht
 rw [htk] at hnm;obtain ⟨tb,off,rfl,htb,hcells⟩:=hI (by intro h; rw [h] at hk; simp at hk);obtain ⟨hc0,co,cc,hc1,hcols⟩:=hcells k hk;rw [htk] at hc1 hcols;rw [hn] at hk;obtain ⟨m,hm⟩:=EX (t.cols.length);rw [hm] at hc1;have hes:(zax t).env.length=m:=by simp [TblT.env,zax,hm]
 have hbf:((k:Int) == but)=false:=by rw [beq_eq_false_iff_ne]; exact fun h => hbut h.symm
 have HA:=QH (AI hA (AI hnm (AI hcols (AI hm (AI hes (AI hs (AI hsl (AI hlen (AI hfit (AI hnew (AI hnd (AI hc1 htb))))))))))));obtain ⟨S,hS⟩:=EX ((⟨s.toArray⟩ : ByteArray):ByteArray);rw [hS] at hcall ⊢;have HS:=QH hS;have hm63:m ≤ 9223372036854775807:=by omega
 clear hA hI hn hf hnm hcells hc0 hc1 hcols hm hes hs hsl hlen hfit hnew hnd hS htk ht hbut htb;have gBi:=QH trivial;exact ydo
def OptN (w:World) (L:List Nat) (v:Value):Option NT → Prop
 | none => v = .pointer none
 | some n => NAt w L v n
def zch (w:World) (sb:Nat) (cv:Value) (mb pos e:Nat) (r0:Chk (Option NT)) (r:Ending) (w':World):Prop:=
 ∃ v,r = .returned v ∧ ((∃ b,v=zh b) ∨ v = .pointer none) ∧ Mods [sb] w w' ∧ zaX w' sb cv mb 0 (zai r0 pos e).1 (zai r0 pos e).2 ∧ (e=0 → ∀ o,r0 = .ok o → ∀ L:List Nat,(∀ x ∈ L,x < w.heap.size) → OptN w' L v o)
theorem zgO (env:List EC) (o:Option Tree):NZ (zbB env o):=by
 cases o with
 | none => exact NZ.ok _
 | some t =>
  refine NZ.bind (zdZ env t 0) fun n _ => ?_;split
  ·exact NZ.four _
  ·exact NZ.ok _
theorem zlf (w:World) (sb:Nat) (cv:Value) (mb pos e:Nat) (env:List EC) (hS:zaX w sb cv mb 0 pos e) :
  Calls Tryz.prog 28 #[zh sb,.pointer none] w (zch w sb cv mb pos e (zbB env none)):=by
 have hfin:zch w sb cv mb pos e (zbB env none) (.returned (.pointer none)) w:=⟨_,rfl,.inr rfl,QM _ _,by show zaX w sb cv mb 0 (zai (.ok _) pos e).1 (zai (.ok _) pos e).2; rw [zaP]; exact hS,fun _ o ho L _ => by cases ho; rfl⟩;have HFIN:=QH hfin;obtain ⟨PP,hPP⟩:=EX (zch w sb cv mb pos e (zbB env none));rw [hPP] at HFIN ⊢;unfold zh;clear hfin hPP hS;exact ybT
theorem zlg (w:World) (sb:Nat) (cv:Value) (mb pos e:Nat) (env:List EC) (hS:zaX w sb cv mb 0 pos e) (he:e ≠ 0) (xb:Nat) (t:Tree) :
  Calls Tryz.prog 28 #[zh sb,zh xb] w (zch w sb cv mb pos e (zbB env (some t))):=by
 have hfin:zch w sb cv mb pos e (zbB env (some t)) (.returned (.pointer none)) w:=⟨_,rfl,.inr rfl,QM _ _,by unfold zai; rw [if_pos he]; exact hS,fun h => absurd h he⟩;have HFIN:=QH hfin;obtain ⟨PP,hPP⟩:=EX (zch w sb cv mb pos e (zbB env (some t)));rw [hPP] at HFIN ⊢;have c4:=za hS 4;change w.cell? _=some (.int .i64 (e:Nat)) at c4;have z0:((e:Int) != 0)=true:=bne_iff_ne.2 AA;unfold zh;clear hfin hPP hS he;exact ybT
theorem zlh (w:World) (hV:CkVars w) (sb:Nat) (hsg : 0 ≠ sb ∧ 2 ≠ sb) (cv:Value) (mb pos:Nat) (env:List EC) (hS:Scope w sb cv mb 0 pos 0 env) (xb:Nat) (t:Tree) (hA:ExprAt 171 103 w [sb] (zh xb) t) (hE:ExprOk sb cv mb env t 0) :
  Calls Tryz.prog 28 #[zh sb,zh xb] w (zch w sb cv mb pos 0 (zbB env (some t))):=by
 have he:=hE w pos 0 (zh xb) hV hS hA;obtain ⟨va,hxb,hxs⟩ : ∃ va,w.heap[xb]? = some (.cells (hdC t.hd va).toArray 171 (0,0)) ∧ xb ≠ sb:=by
  cases t with
  | leaf h => obtain ⟨b,h1,h2,h3⟩:=hA; cases h1; exact ⟨_,h3,by simpa using h2⟩
  | un h a => obtain ⟨b,c,u,h1,h2,h3,h4,-⟩:=hA; cases h1; exact ⟨_,h4,by simpa using h2⟩
  | bin h a d => obtain ⟨b,c,u,x,h1,h2,h3,h4,-⟩:=hA; cases h1; exact ⟨_,h4,by simpa using h2⟩
 have c4:=za hS.st 4;change w.cell? _=some (.int .i64 ((0:Nat):Int)) at c4;change w.cell? _=some (.int .i64 0) at c4;obtain ⟨PP,hPP⟩:=EX (zch w sb cv mb pos 0 (zbB env (some t)));rw [hPP];have HH:=QH (AI hPP (AI hS (AI hV (AI hxb hsg))));unfold zh at *;clear hPP hS hV hA hE hxb hsg;go_enter Tryz.func28, Tryz.ntmps28;go_wp2_with fail;(with_reducible refine he.mono ?_);rintro r w2 ⟨nb,rfl,hnb,hM2,hst2,hk⟩;unfold zh;have hV2:=HH.out.2.2.1.past hM2 HH.out.2.2.2.2;have hx2:=hM2.heap HH.out.2.2.2.1 (by simpa using hxs);have x1:=za hx2 1;change w2.cell? _=some (.int .i64 t.hd.pos) at x1;obtain ⟨⟨v0,v1⟩,-⟩:=hV2;have HE:=QH (AI hnb (AI hM2 (AI hst2 hk)));clear he hnb hM2 hst2 hk hx2 c4;obtain ⟨PX,hPX⟩:=EX (zai (zq env t 0) pos 0);obtain ⟨p1,e1⟩:=PX;have hst:zaX w2 sb cv mb 0 p1 e1:=by have:=HE.out.2.2.1; rw [hPX] at this; exact this
 have c4:=za hst 4;change w2.cell? _=some (.int .i64 (e1:Nat)) at c4;have HX:=QH (AI hPX hst);clear hPX hst;go_upto_region 4 with fail;by_cases he1:e1=0
 ·obtain ⟨-,hp,n,hn⟩:=zaU (zdZ env t 0) (show zai (zq env t 0) pos 0=(p1,0) from by have h9:=HX.out.1; rw [he1] at h9; exact h9);have hNA:=HE.out.2.2.2 AB n hn [sb] (by simp; exact zj HH.out.2.1.st);obtain ⟨b',args,hb',hbs,hnd⟩:=hNA.head;cases hb';have hbs:nb ≠ sb:=by simpa using hbs
  have t0:=za hnd 1;have t1:=za hnd 2;change w2.cell? _=some (.int .i64 n.hd.t.k) at t0;change w2.cell? _=some (.int .i64 n.hd.t.s) at t1;have z1:((e1:Int) == 0)=true:=by rw [beq_iff_eq]; omega
  have hq:zbB env (some t)=if n.hd.t ≠ tyBool ∨ hasN n=true then .bad t.hd.pos 4 else .ok (some n):=by show (zq env t 0).bind _=_;rw [hn]; rfl
  have HN:=QH (AI hq (AI hn (AI hNA (AI hbs (AI hp he1)))));clear hq hn hNA hnd hp hbs he1;have htri:=zgB n.hd.t;obtain ⟨T,hT⟩:=EX (n.hd.t);rw [hT] at htri t0 t1;have HT:=QH hT;clear hT;rcases htri with ⟨a1,a2,a3⟩ | ⟨a1,a2,a3⟩ | ⟨a1,a3⟩
  ·subst a3;change w2.cell? _=some (.int .i64 4) at t0;change w2.cell? _=some (.int .i64 0) at t1;have a3:tyBool=tyBool:=rfl;have HA3:=QH a3;clear a1 a2 a3
   cases hh:hasN n with
   | true =>have gB6:=QH trivial;exact ydK
   | false =>have gB7:=QH trivial;exact ydK
  ·exact yai
  ·exact yai
 ·have z1:((e1:Int) == 0)=false:=by rw [beq_eq_false_iff_ne]; omega
  apply zr AC [0,1,2,3,4,5,6,7,8,9,10,11,12,13,14,18,19,20,21] [(15,[16,17]),(22,[])] false AC (fun y => y.cell? ⟨sb,4,none⟩ = some (.int .i64 e1) ∧ y.cell? ⟨xb,1,none⟩ = some (.int .i64 t.hd.pos))
  case hC => exact ⟨c4,x1⟩
  case hwalk =>rintro y ⟨y4,yx⟩;exact ycw
  case hrun =>
   change zct _ _ _ _ _ [(_,[_,_]),(_,[])] _ _;refine zP fun R1 hR1 => ?_;go_wp2_with fail;refine zd ?_;apply hR1 _ w2.drew (.inr ⟨c4,x1⟩)
   ·rintro y ⟨y4,yx⟩;exact ycu
   ·clear hR1 R1;refine zv fun R2 hR2 => ?_;have hcl:=zF w2.drew sb cv mb 0 p1 e1 (HX.out.2) false 4 t.hd.pos;change Calls _ _ #[.pointer (some ⟨sb,0,none⟩),.bool false,.int .i64 4,.int .i64 t.hd.pos] _ _ at hcl;go_wp2_with fail;(with_reducible refine hcl.mono ?_);rintro r w8 ⟨rfl,hM8,st8⟩;clear hcl;have hfin:PP (.returned (.pointer (some ⟨nb,0,none⟩))) w8:=by
     rw [← HH.out.1];have hst:=zdA (zdZ env t 0) HX.out.1 he1 (f:=fun n => if n.hd.t ≠ tyBool ∨ hasN n=true then Chk.bad t.hd.pos 4 else Chk.ok (some n));have hst:zai (zbB env (some t)) pos 0=(p1,e1):=hst;refine ⟨_,rfl,.inl ⟨nb,rfl⟩,HE.out.2.1.trans (((QM [] w2).drew.mono (L':=[sb]) AB).trans hM8 AB),?_,fun _ o ho => ?_⟩
     ·rw [hst];rw [zaw] at st8;exact st8
     ·exfalso;rw [ho,zaP] at hst;simp only [Prod.mk.injEq] at hst;omega
    exact ycv
theorem AllR.at {α:Type} {R:zel α} {w:World} {L:List Nat} {k:Nat} (hk:∀ c x,R w L c x → c.length=k):∀ {css:List (List Value)} {xs:List α},AllR R w L css xs → ∀ j (hj:j < xs.length),∃ c,R w L c xs[j] ∧ ∀ i u,c[i]? = some u → css.flatten[j * k + i]? = some u:=by
 intro css
 induction css with
 | nil => intro xs h j hj; cases xs with
  | nil => simp at hj
  | cons x xs => exact h.elim
 | cons c css ih => intro xs h j hj; cases xs with
  | nil => exact h.elim
  | cons x xs =>
   have hl:=hk c x h.1
   cases j with
   | zero =>
    refine ⟨c,h.1,fun i u hi => ?_⟩;have hlt:i < c.length:=by
     rcases Nat.lt_or_ge i c.length with h | h
     ·exact h
     ·rw [List.getElem?_eq_none h] at hi; cases hi
    rw [List.flatten_cons,Nat.zero_mul,Nat.zero_add,List.getElem?_append_left hlt];exact hi
   | succ j =>obtain ⟨c2,h2,h3⟩:=ih h.2 j (by simpa using hj);refine ⟨c2,h2,fun i u hi => ?_⟩;rw [List.flatten_cons,List.getElem?_append_right (by rw [hl,Nat.add_mul]; omega),hl,show (j + 1) * k + i - k=j * k + i by rw [Nat.add_mul]; omega];exact h3 i u hi
theorem ListAt.read {α:Type} {R:zel α} {w:World} {k:Nat} {v:Value} {l:List α} (hk:∀ c x,R w [] c x → c.length=k) (h:ListAt R w [] v l) :
  ∃ ao cap,v = .slice ao l.length cap ∧ (0 < l.length → ∃ g,ao=some ⟨g,0,none⟩ ∧ ∀ j (hj:j < l.length),∃ c,R w [] c l[j] ∧ ∀ i u,c[i]? = some u → w.cell? ⟨g,j * k + i,none⟩ = some u):=by
 rcases h with ⟨rfl,rfl⟩ | ⟨g,cap,css,rfl,-,-,hc,hA⟩
 ·exact ⟨none,0,rfl,fun h => by simp at h⟩
 ·refine ⟨_,_,rfl,fun _ => ⟨g,rfl,fun j hj => ?_⟩⟩;obtain ⟨c,h1,h2⟩:=AllR.at hk hA j hj;exact ⟨c,h1,fun i u hi => hc _ u (h2 i u hi)⟩
theorem itemLen {w:World} {L:List Nat}:∀ c x,ItemR w L c x → c.length=2:=fun c x ⟨b,h,_⟩ => by rw [h]; rfl
theorem treeLen {w:World} {L:List Nat}:∀ c x,TreeR w L c x → c.length=1:=fun c x ⟨b,h,_⟩ => by rw [h]; rfl
theorem keyLen {w:World} {L:List Nat}:∀ c x,KeyR w L c x → c.length=4:=fun c x h => by unfold KeyR at h; rw [h]; rfl
def NodR:zel NT:=fun w L cs n => ∃ b,cs=[zh b] ∧ NAt w L (zh b) n
theorem nodRep:Rep NodR:=⟨fun ⟨b,h1,h2⟩ hM => ⟨b,h1,h2.mods hM⟩,fun hL ⟨b,h1,h2⟩ => ⟨b,h1,h2.weaken hL⟩,fun hg ⟨b,h1,h2⟩ => ⟨b,h1,h2.fresh hg⟩⟩
def Far (w1:World) (its nms:Value) (x:Nat):Prop:=x < w1.heap.size ∨ its.ownBlock=some x ∨ nms.ownBlock=some x
structure Coll (w1 wr:World) (its nms:Value) (ns:List NT) (ss:List Bs):Prop where
 size:w1.heap.size ≤ wr.heap.size
 rowI:∃ css,wr.ownsRow 0 51 1 its ns.length css.flatten ∧ ∀ L:List Nat,(∀ x ∈ L,Far w1 its nms x) → AllR NodR wr L css ns
 rowN:wr.ownsRow 0 9 1 nms ss.length (ss.map fun s => Value.string ⟨s.toArray⟩)
 apart:∀ g,its.ownBlock=some g → w1.heap.size ≤ g ∧ nms.ownBlock ≠ some g
 later:∀ g,nms.ownBlock=some g → w1.heap.size ≤ g
theorem Coll.start (w1:World):Coll w1 w1 (.slice none 0 0) (.slice none 0 0) [] []:=
 ⟨LR _,⟨[],World.ownsRow_nil _ _ _ _,fun L _ => trivial⟩,World.ownsRow_nil _ _ _ _,(fun g hg => nomatch (show (none:Option Nat)=some g from hg)),(fun g hg => nomatch (show (none:Option Nat)=some g from hg))⟩
theorem Coll.go {w1 wr w2:World} {its nms:Value} {ns:List NT} {ss:List Bs} {P:List Nat} (h:Coll w1 wr its nms ns ss) (hM:Mods P wr w2) (hP:∀ x ∈ P,x < w1.heap.size):Coll w1 w2 its nms ns ss:=by
 obtain ⟨css,h1,h2⟩:=h.rowI;have hs:=hM.size;have h0:=h.size;refine ⟨by omega,⟨css,zm h1 hM (fun g hg hm => by have:=(h.apart g hg).1; have:=hP g hm; omega),fun L hL => ?_⟩,zm h.rowN hM (fun g hg hm => by have:=h.later g hg; have:=hP g hm; omega),h.apart,h.later⟩
 have a:=h2 (P ++ L) (fun x hx => by
  rcases List.mem_append.1 hx with hx | hx
  ·exact .inl (hP x hx)
  ·exact hL x hx)
 exact (a.map fun c x hx => nodRep.mods hx (hM.mono (fun y hy => .inl (by simp [hy])))).map fun c x hx => nodRep.weaken (fun y hy => List.mem_append_right _ hy) hx
theorem Coll.node {w1 wr w3:World} {its nms:Value} {ns:List NT} {ss:List Bs} (h:Coll w1 wr its nms ns ss) {css:List (List Value)} (hcs:∀ L:List Nat,(∀ x ∈ L,Far w1 its nms x) → AllR NodR wr L css ns) {b:Nat} {n:NT} (hn:∀ L:List Nat,(∀ x ∈ L,Far w1 its nms x) → NAt wr L (zh b) n) {g cap k:Nat} (hk:ns.length=k)
  (hown:w3.ownsRow 0 51 1 (.slice (some ⟨g,0,none⟩) (k + 1) cap) (k + 1) (css.flatten ++ [zh b])) (hM:Mods its.ownBlock.toList wr w3) (hg:its.ownBlock=some g ∨ wr.heap.size ≤ g):Coll w1 w3 (.slice (some ⟨g,0,none⟩) (k + 1) cap) nms (ns ++ [n]) ss:=by
 have hs:=hM.size;have h0:=h.size;have hgs:w1.heap.size ≤ g ∧ nms.ownBlock ≠ some g:=by
  rcases hg with hg | hg
  ·exact h.apart g hg
  ·refine ⟨by omega,fun he => ?_⟩;have:=(h.rowN.lt g he).2;omega
 refine ⟨by omega,⟨css ++ [[zh b]],by rw [List.length_append,List.flatten_append,List.length_singleton,hk]; simpa using hown,fun L hL => ?_⟩,zm h.rowN hM (fun x hx hm => ?_),fun x hx => ?_,h.later⟩
 ·have hL':∀ x ∈ its.ownBlock.toList ++ L.filter (fun x => decide (x ≠ g)),Far w1 its nms x:=fun x hx => by
   rcases List.mem_append.1 hx with hx | hx
   ·exact .inr (.inl AJ)
   ·rw [List.mem_filter] at hx;rcases hL x hx.1 with q | q | q
    ·exact .inl q
    ·have q:some g=some x:=q;cases q;simp at hx
    ·exact .inr (.inr q)
  have a4:=AllR.snoc (R:=NodR) (c:=[zh b]) ⟨b,rfl,hn _ hL'⟩ (hcs _ hL');have a6:AllR NodR wr (g :: (its.ownBlock.toList ++ L.filter (fun x => decide (x ≠ g)))) (css ++ [[zh b]]) (ns ++ [n]):=by exact ybs
  exact (a6.map (R:=NodR) (w':=w3) (L':=g :: (its.ownBlock.toList ++ L.filter (fun x => decide (x ≠ g)))) fun c x hx => nodRep.mods hx (hM.mono (fun y hy => .inl (CM _ (List.mem_append_left _ hy))))).map fun c x hx => nodRep.weaken (fun y hy => by
   by_cases hyg:y=g
   ·rw [hyg]; exact List.mem_cons_self
   ·exact CM _ (List.mem_append_right _ (List.mem_filter.2 ⟨hy,by simpa using hyg⟩))) hx
 ·exact (h.apart x AH).2 hx
 ·have hx:some g=some x:=hx;cases hx;exact hgs
theorem Coll.name {w1 wr w3:World} {its nms:Value} {ns:List NT} {ss:List Bs} (h:Coll w1 wr its nms ns ss) {s:Bs} {g cap k:Nat} (hk:ss.length=k)
  (hown:w3.ownsRow 0 9 1 (.slice (some ⟨g,0,none⟩) (k + 1) cap) (k + 1) ((ss.map fun s => Value.string ⟨s.toArray⟩) ++ [.string ⟨s.toArray⟩])) (hM:Mods nms.ownBlock.toList wr w3) (hg:nms.ownBlock=some g ∨ wr.heap.size ≤ g):Coll w1 w3 its (.slice (some ⟨g,0,none⟩) (k + 1) cap) ns (ss ++ [s]):=by
 have hs:=hM.size;have h0:=h.size;obtain ⟨css,h1,h2⟩:=h.rowI;have hgs:w1.heap.size ≤ g ∧ its.ownBlock ≠ some g:=by
  rcases hg with hg | hg
  ·exact ⟨h.later g hg,fun he => (h.apart g he).2 hg⟩
  ·refine ⟨by omega,fun he => ?_⟩;have:=(h1.lt g he).2;omega
 refine ⟨by omega,⟨css,zm h1 hM (fun x hx hm => ?_),fun L hL => ?_⟩,by rw [List.length_append,List.map_append,List.length_singleton,hk]; exact hown,fun x hx => ⟨(h.apart x hx).1,fun he => ?_⟩,fun x hx => ?_⟩
 ·exact (h.apart x hx).2 AH
 ·have hL':∀ x ∈ nms.ownBlock.toList ++ L.filter (fun x => decide (x ≠ g)),Far w1 its nms x:=fun x hx => by
   rcases List.mem_append.1 hx with hx | hx
   ·exact .inr (.inr AJ)
   ·rw [List.mem_filter] at hx;rcases hL x hx.1 with q | q | q
    ·exact .inl q
    ·exact .inr (.inl q)
    ·have q:some g=some x:=q;cases q;simp at hx
  have a4:=h2 _ hL';have a6:AllR NodR wr (g :: (nms.ownBlock.toList ++ L.filter (fun x => decide (x ≠ g)))) css ns:=by exact ybs
  exact (a6.map (R:=NodR) (w':=w3) (L':=g :: (nms.ownBlock.toList ++ L.filter (fun x => decide (x ≠ g)))) fun c x hx => nodRep.mods hx (hM.mono (fun y hy => .inl (CM _ (List.mem_append_left _ hy))))).map fun c x hx => nodRep.weaken (fun y hy => by
   by_cases hyg:y=g
   ·rw [hyg]; exact List.mem_cons_self
   ·exact CM _ (List.mem_append_right _ (List.mem_filter.2 ⟨hy,by simpa using hyg⟩))) hx
 ·have he:some g=some x:=he;cases he;exact hgs.2 hx
 ·have hx:some g=some x:=hx;cases hx;exact hgs.1
def CSt (w:World) (rb:Nat) (lf rt:Int) (von vwh:Value) (gr:Bool) (vg its nms vo:Value) (lim off:Int):Prop:=
 w.heap[rb]? = some (.cells #[.int .i64 lf,.int .i64 rt,von,vwh,.bool gr,vg,its,nms,vo,.int .i64 lim,.int .i64 off] 56 (0,0))
end Go.Proofs.YtcabeljiobiojaaGreatDoor
