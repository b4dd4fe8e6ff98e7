/-
  value.TypeRight, value.Fits, walked (for the seats that do not hold package page: the texts of PagA, PagB). No condition.
-/
import Derived.Test.YtcabeljiobiojaaGreatDoorQ34
set_option linter.unusedVariables false
set_option maxRecDepth 100000
set_option maxHeartbeats 4000000
namespace Go.Proofs.YtcabeljiobiojaaGreatDoor
open Go.RowKit
theorem yfJ {p:Prop} (h:p:=by
  refine zcK AC AC ?_;(repeat go_big_quiet_step (with_reducible exact HK.out _));refine QW ?_;rintro _ ⟨kk,rfl⟩
  first
  |guard_hyp gF7
   clear F1 F2;obtain ⟨hM,hO,hend,hsk,hsw,hsl,hln,hmm,hmem,hl,hox,hoy,hgj⟩:=HE.out;have hM5:=hM.trans (kk.mods.mono (L':=[g])) (fun x hx => .inl hx);have hO5:=zm hO kk.mods AB;have c1:=kk.mods.cell k1;have c0:=kk.mods.cell k0;clear k1 k0;generalize kk.val=w5 at *;by_cases hneg:o < 0
   ·rw [if_pos hneg,hsl] at hsw;rw [hsl] at hln hmm;have hO6:=zpY (zpY hO5 hg1 yv hoy) hg0 xv hox;have hM6:=(hM5.setCell (p:=⟨g,j + 1,none⟩) (.inl AB) yv).setCell (p:=⟨g,j,none⟩) (.inl AB) xv;clear HE;go_upto_region 6 with fail;apply zfv AC [2,3,4] [0,1,5,6,7,8,9,10,11,12,13,14] (.one 15 [] (.one 16 [] (.one 17 [] .fin))) [15,16,17] AC (fun y => y.cell? ⟨g,j + 1,none⟩ = some xv ∧ y.cell? ⟨g,j,none⟩ = some yv)
    case hC => exact ⟨c1,c0⟩
    case hfree =>intro y;change wpQuiet _ _ _ _ [_,_,_] (Act.mk _ _);(repeat go_big_quiet_step (fail));refine QW ?_;exact rfl
    case hwalk =>rintro y ⟨y1,y0⟩;exact yfB
    case hrun =>
     change segV _ _ _ _ (.one _ _ [] (.one _ _ [] (.one _ _ [] .fin))) _ _;have HD:=QH (AI (hM5.drew) (zm hO5 (QM [] w5).drew AB));have d1:=(QM [] w5).drew.cell c1;have d0:=(QM [] w5).drew.cell c0;have f1:=zpS HD.out.2 (j + 1);have p1:=zqK Tryz.prog w5.drew g (j + 1) yv _ hoy d1 f1;clear hM6 hO6 hM5 hO5 c1 c0;generalize w5.drew=w6 at *;refine zu (zp fun R hR => ?_);go_wp2_with fail;rw [p1];go_wp2_with fail;refine zd (hR _ _ (.inl rfl) ?_);clear hR R;have HD2:=QH (AI (HD.out.1.setCell (p:=⟨g,j + 1,none⟩) (.inl AB) yv) (zpY HD.out.2 hg1 yv hoy));have e0:(w6.setCell ⟨g,j + 1,none⟩ yv).cell? ⟨g,j,none⟩ = some yv:=(zar HD2.out.2).2.2 j yv (by rw [List.getElem?_set_ne AA]; exact hgj);have f0:=zpS HD2.out.2 j;have p0:=zqK Tryz.prog _ g j xv _ hox e0 f0;clear HD d0 d1 f1 p1;generalize w6.setCell ⟨g,j + 1,none⟩ yv=w7 at *;refine zu (zp fun R hR => ?_);go_wp2_with fail;refine zd (hR _ _ (.inl rfl) ?_);clear hR R;refine zu (zp fun R hR => ?_);go_wp2_with fail;rw [p0];go_wp2_with fail;refine zd (hR _ _ (.inl rfl) ?_);clear hR R;have HD3:=QH (AI (HD2.out.1.setCell (p:=⟨g,j,none⟩) (.inl AB) xv) (zpY HD2.out.2 hg0 xv hox));clear HD2 e0 f0 p0;generalize w7.setCell ⟨g,j,none⟩ xv=w8 at *;refine zcr ?_;have hs2:sinkL (ordP ord) dPR i L0=sinkL (ordP ord) dPR j ((l.set (j + 1) (yv,yr)).set j (xv,xr)):=hsk.trans hsw;have hmp:((l.set (j + 1) (yv,yr)).set j (xv,xr)).map (·.1)=((l.map (·.1)).set (j + 1) yv).set j xv:=by simp [List.map_set]
     have HL:=QH (AI hs2 (AI (hln.trans hl) (AI (fun p hp => hmem p (hmm p hp)) hmp)));clear hs2 hmp hln hl hmm hmem hsk hsw hsl hend hM hO;go_wp2_with fail;go_roundg j
     case measure => omega
     case rel => exact ⟨_,by go_num,by omega,HL.out.1,HL.out.2.1,HL.out.2.2.1,HD3.out.1,by rw [HL.out.2.2.2]; exact HD3.out.2⟩
   ·rw [if_neg hneg] at hsw;have HD:=QH (AI hM5 (AI hO5 (hend l (hsk.symm ▸ hsw))));clear hM hO hend hsk hsw hsl hln hmm hmem hl hox hoy hgj hM5 hO5 HE;go_wp2_with fail;go_roundg (n - (i + 1))
    case measure => omega
    case rel => exact ⟨i + 1,by omega,by omega,by go_num,HD.out.1,by rw [HD.out.2.2]; exact HD.out.2.1⟩
  |guard_hyp gF8
   clear F1 F2 F3 F4 F5 F6 F7 F8;have hMk:=kk.mods;generalize kk.val=w6 at *;obtain ⟨x0,x1,x2⟩:=HX.out;replace x0:=hMk.cell x0;replace x1:=hMk.cell x1;replace x2:=hMk.cell x2;obtain ⟨hput,hkeep,hst⟩:=HQ.out;have ho6:=hMk.heap HP.out.2.2.2.2.2;have HH6:=QH hMk;by_cases hcw:C=wn
   ·have HF:=QH (hput w6 (intV x) hMk (by rw [hst,if_pos hcw]; rfl));subst hcw;clear hput hkeep hst hMk;go_wp2_with (refine wpList_store_row rfl 35 (.tmp 7) (.tmp 119) rfl ob #[.bool false,.int .i64 x,.string ⟨#[]⟩] rfl rfl 35 _ ho6 zpv rfl (zpW _ _ _) ?_);exact yfx
   ·clear hput;have HF:=QH (hkeep w6 hMk (by rw [hst,if_neg hcw]));have hcb:(C == wn)=false:=by rw [beq_eq_false_iff_ne]; exact hcw
    clear hkeep hst hMk;go_wp2_with fail;exact yfx
  |guard_hyp gF9
   clear F1 F2 F3 F4;have hMk:=kk.mods;generalize kk.val=w6 at *
   cases B with
   | true =>
    obtain ⟨hMx,hMw,hB,hmet,hnew,hhq,hv⟩:=HQ.out;have hh:=hmet (metB_iff.1 hB);have hM6:=hMx.trans hMk;have HZ:=QH (AI hM6 (show (heads (rs.take (q + 1))).length=i by rw [hh]; exact hhq));clear hMx hMw hB hmet hnew hhq hv hh hM6 hMk;go_wp2_with fail;go_roundg (R - (q + 1))
    case measure => omega
    case rel => exact ⟨q + 1,by omega,by go_num,HZ.out.1,HZ.out.2⟩
   | false =>
    obtain ⟨hMx,hMw,hB,hmet,hnew,hhq,hv⟩:=HQ.out;obtain ⟨-,-,hrl,hr4,hG,hng⟩:=HX.out;obtain ⟨hac,hM5,hA⟩:=HA.out;obtain ⟨hhd,hh1⟩:=hnew (fun h => by rw [metB_iff.2 h] at hB; cases hB);have hiG:i < G.length:=by omega
    have hinv:=zr6 _ rs rfl;have hGm:G[i] ∈ zrU [2] rs:=by rw [hG]; exact List.getElem_mem hiG
    have hne:=hinv.ne _ hGm;have hhe:zso G[i]=rs[q]:=by unfold heads at hhd;rw [hG,List.getElem?_map,List.getElem?_eq_getElem hiG] at hhd;exact Option.some.inj hhd
    obtain ⟨m1,m2,hm1,hm2,hm12⟩:=zs1 (l:=G[i].map fun r => (r.getD 0 zeroV0).n) AS;have hsum:=hinv.sum;rw [hG,hrl] at hsum;have hil:i < (G.map (outR grItems)).length:=by rw [List.length_map]; exact hiG
    obtain ⟨ab,aof,rfl,-,hAc⟩:=hA (fun h0 => by rw [h0] at hil; simp at hil);obtain ⟨va,c1,hc1,a0,hVa⟩:=hAc i hil;rw [List.getElem_map,zs0,hm1,hm2,hhe,hv] at a0 hVa;have htk:((G.map List.length).take (i + 1)).sum=((G.map List.length).take i).sum + G[i].length:=by rw [List.take_succ_eq_append_getElem (by rw [List.length_map]; exact hiG),List.sum_append,List.getElem_map];simp
    have htl:((G.map List.length).take (i + 1)).sum ≤ R:=by rw [← hsum];have:=List.take_append_drop (i + 1) (G.map List.length);have h2:=congrArg List.sum this;rw [List.sum_append] at h2;omega
    obtain ⟨S0,hS0⟩:=EX (((G.map List.length).take i).sum);have hgl:0 < G[i].length:=List.length_pos_iff.2 hne;obtain ⟨gl,hgl2⟩:=EX (G[i].length);rw [hgl2] at a0 hVa htk hgl;rw [hS0] at htk ⊢;rw [htk] at htl;obtain ⟨u,uo,rfl,-,hu⟩:=hVa AB;obtain ⟨u0,u1,u2⟩:=hu 0 AB;obtain ⟨-,u4',-⟩:=hu 1 AB;obtain ⟨-,u7',-⟩:=hu 2 AB;obtain ⟨-,u10',-⟩:=hu 3 AB;change w5.cell? ⟨u,uo,none⟩ = some (.bool z) at u0;change w5.cell? ⟨u,uo + 1,none⟩ = some (.int .i64 x) at u1;change w5.cell? ⟨u,uo + 2,none⟩ = some (.string t) at u2;change w5.cell? ⟨u,uo + 4,none⟩ = some (.int .i64 (gl:Nat)) at u4';change w5.cell? ⟨u,uo + 7,none⟩ = some (.int .i64 m1) at u7';change w5.cell? ⟨u,uo + 10,none⟩ = some (.int .i64 m2) at u10';change w5.cell? _=some (.slice (some ⟨u,uo,none⟩) 4 c1) at a0;have hM6:=hMx.trans hMk;replace a0:=hM6.cell a0;replace u0:=hM6.cell u0;replace u1:=hM6.cell u1;replace u2:=hM6.cell u2;replace u4':=hM6.cell u4';replace u7':=hM6.cell u7';replace u10':=hM6.cell u10';obtain ⟨k0,p0,p1,p2⟩:=HP.out;replace k0:=hMk.cell k0;replace p0:=hMk.cell p0;replace p1:=hMk.cell p1;replace p2:=hMk.cell p2;have hne2:=fun W => zrq z z x x t t W;simp only [decide_true,Bool.not_true] at hne2;have z1:¬ (gl:Int) < 1:=by omega
    have z2:¬ m2 < m1:=by omega
    have z3:((q:Int) == (R:Int))=false:=by rw [beq_eq_false_iff_ne]; omega
    have z4:¬ (q:Int)=(R:Int):=by omega
    have HZ:=QH (AI hM6 (AI hh1 htk));clear hMx hMw hB hmet hnew hhq hv hrl hr4 hG hng hac hM5 hA hhd hh1 hinv hGm hhe hm1 hm2 hm12 hsum hil hAc hc1 htk hS0 hgl2 hu hM6 hMk hne hiG hVa;go_wp2_with fail;go_quiet (fail);have hMz:=HZ.out.1.drewN nq;have a1:(w6.drewN nq).cell? ⟨ab,aof + i,none⟩ = some (.slice (some ⟨u,uo,none⟩) 4 c1):=a0;have a4:(w6.drewN nq).cell? ⟨u,uo + 4,none⟩ = some (.int .i64 (gl:Nat)):=u4';generalize w6.drewN nq=wz at *;clear k0 p0 p1 p2 a0 u0 u1 u2 u4' u7' u10' hne2;go_wp2_with fail;go_roundg (ng - (i + 1))
    case measure => omega
    case rel => exact ⟨i + 1,q + 1,by omega,by go_num,by go_num,by rw [HZ.out.2.2]; go_num,hMz,HZ.out.2.1,by omega⟩
 ):p:=h
theorem ycJ {p:Prop} (h:p:=by
  go_wp2_with fail;all_goals go_ret
  all_goals refine hfin _ hM ?_
  all_goals unfold zee
  all_goals rw [ht,ziR]
  all_goals simp_all
 ):p:=h
theorem yaU {p:Prop} (h:p:=by
  by_cases h0:str.size=0
  ·obtain rfl:=ze2 h0;exact ycJ
  ·have hne:str ≠ ⟨#[]⟩:=fun h => h0 (by rw [h]; rfl);have hnl:¬ str.toList=[]:=fun h => h0 ((zfT str).1 h);exact ycJ
 ):p:=h
theorem yfB {p:Prop} (h:p:=by
  change wpQuiet _ _ _ _ [_,_,_,_,_,_,_,_,_,_,_,_] (Act.mk _ _);(repeat go_big_quiet_step (fail));refine QW ?_;exact rfl
 ):p:=h
def zee (k s:Int) (null z:Bool) (n:Int) (str:ByteArray):Bool:=
 zaN k s && (if z=true then null && (n == 0 && str.size == 0) else if k=3 then n == 0 && decide (str.size ≤ 200) else str.size == 0 && (k != 4 || n / 2 == 0))
theorem ze2 {s:ByteArray} (h:s.size=0):s = ⟨#[]⟩:=by obtain ⟨d⟩:=s;simp [ByteArray.size] at h;rw [h]
theorem zk0 (w:World) (A B:Array Value) (t u:TypeId) (j:Nat):((w.alloc (.cells A t)).alloc (.cells B u)).cell? ⟨w.heap.size,j,none⟩ = A[j]?:=
 za ((Below.heap_alloc (w.alloc (.cells A t)) _ _ (by rw [zl]; omega)).trans (QN w _)) j
theorem ze3 (w:World) (A B:Array Value) (t u:TypeId) (j:Nat):((w.alloc (.cells A t)).alloc (.cells B u)).cell? ⟨w.heap.size + 1,j,none⟩ = B[j]?:=by have h:=QN (w.alloc (.cells A t)) (.cells B u);rw [zl] at h;exact za h j
theorem zfT (s:ByteArray):s.toList=[] ↔ s.size=0:=by rw [ByteArray.toList_eq];show s.data.toList=[] ↔ s.data.size=0;rw [← Array.length_toList];exact List.length_eq_zero_iff.symm
theorem zh2 (n:Nat):decide ((n:Int) ≤ 200)=decide (n ≤ 200):=by rw [decide_eq_decide]; omega
theorem ziR (s:ByteArray):(s.size == 0)=decide (s = ⟨#[]⟩):=by
 by_cases h:s.size=0
 ·rw [ze2 h]; rfl
 ·have:s ≠ ⟨#[]⟩:=fun e => h (by rw [e]; rfl);simp [h,this]
theorem ziS (k s:Int) (null z:Bool) (n:Int) (str:ByteArray) (hs:str.size ≤ 9223372036854775807) (w:World) :
  Calls Tryz.prog 107 #[.agg #[.int .i64 k,.int .i64 s],.bool null,.agg #[.bool z,.int .i64 n,.string str]] w fun e w' => e = .returned (.bool (zee k s null z n str)) ∧ Mods [] w w':=by
 have hM1:=((QM [] w).alloc (.cells #[.int .i64 k,.int .i64 s] 59)).alloc (.cells #[.bool z,.int .i64 n,.string str] 35);have fin:∀ w' b,Mods [] ((w.alloc (.cells #[.int .i64 k,.int .i64 s] 59)).alloc (.cells #[.bool z,.int .i64 n,.string str] 35)) w' → b=zee k s null z n str → Ending.returned (.bool b) = .returned (.bool (zee k s null z n str)) ∧ Mods [] w w':=fun w' b h1 h2 => ⟨by rw [h2],hM1.trans h1⟩;go_enter Tryz.func107, Tryz.ntmps107;go_wp2_with fail;refine (zdg k s _).mono ?_;rintro e w1 ⟨rfl,hM⟩;have c0:w1.cell? ⟨w.heap.size,0,none⟩ = some (.int .i64 k):=hM.cell ((zk0 _ _ _ _ _ _).trans rfl);have d0:w1.cell? ⟨w.heap.size + 1,0,none⟩ = some (.bool z):=hM.cell ((ze3 _ _ _ _ _ _).trans rfl);have d1:w1.cell? ⟨w.heap.size + 1,1,none⟩ = some (.int .i64 n):=hM.cell ((ze3 _ _ _ _ _ _).trans rfl);have d2:w1.cell? ⟨w.heap.size + 1,2,none⟩ = some (.string str):=hM.cell ((ze3 _ _ _ _ _ _).trans rfl);have hfin:=fin w1
 cases ht:zaN k s with
 | false =>go_wp2_with fail;go_ret;exact hfin _ hM (by simp [zee,ht])
 | true =>
  cases z with
  | true =>
   cases null with
   | false =>go_wp2_with fail;go_ret;exact hfin _ hM (by simp [zee])
   | true =>exact yaU
  | false =>
   by_cases h3:k=3
   ·subst h3;go_wp2_with fail;all_goals go_ret
    all_goals refine hfin _ hM ?_
    all_goals unfold zee
    all_goals rw [ht,← zh2]
    all_goals simp_all
   ·exact yaU
instance:DecidableEq V:=fun ⟨a,b,c⟩ ⟨d,e,f⟩ => decidable_of_iff (a=d ∧ b=e ∧ c=f) AB
theorem zsO (z z2:Bool) (x x2:Int) (t t2:ByteArray) (W:World) :
  (binOp .eql 35 (.agg #[.bool z,.int .i64 x,.string t]) (.agg #[.bool z2,.int .i64 x2,.string t2])).run Tryz.prog W = .ok (.bool (decide ((⟨z,x,t⟩ : V) = ⟨z2,x2,t2⟩))) W:=by
 rw [run_eql_struct,show (10000:Nat)=9999 + 1 from rfl,run_equalIn_agg W 9999 _ _ _ zrS zrP,zrT];rfl
def FiltRes (w:World) (rs:List (List V)) (e:Ending) (w':World):Prop:=∃ t,e = .returned t ∧ Mods [] w w' ∧ RowsC w w' t rs
theorem zqp (w:World) (rb:Nat) (ao lo:Option Addr) (cap lc:Nat) (rs:List (List V)) (n:Nat) (hn:rs.length=n) (hI:RowsIn w ao rs []) (hF:zpp rs) :
  Calls Tryz.prog 35 #[zh rb,.slice ao n cap,.int .i64 0,.slice lo 0 lc] w (FiltRes w rs):=by
 obtain ⟨PP,hPP⟩:=EX (FiltRes w rs);rw [hPP];have hn1:n ≤ 1000:=by rw [← hn]; exact hF.1
 have HH:=QH (AI hPP (AI hI (AI hF hn)));clear hI hF hn hPP;obtain ⟨i0,hi,hz0,hz1,hz2⟩:=info_parts zqG;obtain ⟨j0,hj,hj0,hj1,hj2⟩:=info_parts (show (Tryz.prog.info? 37).map (fun i => (i.zero,i.size,i.bytes))=some (some (.slice none 0 0),1,24) by kernel_rfl);have HU:=QH (AI hi (AI hz0 (AI hz1 (AI hz2 (AI hj (AI hj0 (AI hj1 hj2)))))));clear hi hz0 hz1 hz2 hj hj0 hj1 hj2;unfold zh;go_enter Tryz.func35, Tryz.ntmps35;go_wp2_with fail;go_loopg [8,13] n (fun gk t8 t13 wr => ∃ i:Nat,i + gk=n ∧ t13 = .int .i64 i ∧ Mods [] w wr ∧ RowsC w wr t8 (rs.take i))
 case atStart => exact ⟨0,by omega,rfl,QM _ _,RowsC.start w⟩
 obtain ⟨i,hin,rfl,hM,hC⟩:=hrel;by_cases hlt:i < n
 ·have hil:i < rs.length:=by rw [HH.out.2.2.2]; exact hlt
  obtain ⟨b,off,rfl,-,hcs⟩:=HH.out.2.1 (fun h0 => by rw [h0] at hil; simp at hil);obtain ⟨vo,c,hc,k0,hV⟩:=hcs i hil;have hf:=HH.out.2.2.1.2 rs[i] (List.getElem_mem hil);have htk:rs.take (i + 1)=rs.take i ++ [rs[i]]:=List.take_succ_eq_append_getElem hil;have hlen:(rs.take i).length=i:=by rw [List.length_take]; omega
  generalize rs[i]=r at *;obtain ⟨m,hm⟩:=EX (r.length);rw [hm] at k0 hf hc;obtain ⟨tb,vof,rfl,-,hvs⟩:=hV (fun h0 => by rw [h0] at hm; simp at hm; omega);replace k0:=hM.cell k0;have hmk:∀ W,(Instr.makeSlice 37 (.int .i64 0) (.int .i64 (m:Nat))).run Tryz.prog W = .ok (.slice (some ⟨W.heap.size,0,none⟩) 0 m) (W.alloc (.cells (mkC m) 35)):=fun W => zqH W 0 m AA AA;have hcv:=zpX hvs;have hma:=(QM [] wr).alloc (.cells (mkC m) 35);have hown:(wr.alloc (.cells (mkC m) 35)).ownsRow 0 35 3 (.slice (some ⟨wr.heap.size,0,none⟩) 0 m) 0 []:=World.ownsRow_made wr (mkC m) m (Nat.zero_le _) BP (size_madeCells _ _);have hlit:∀ j u,(zph r)[j]? = some u → (wr.alloc (.cells (mkC m) 35)).cell? ((⟨tb,vof,none⟩ : Addr).add j)=some u:=fun j u hj => by rw [zci];exact (hM.trans hma).cell (hcv j u hj)
  have HR:=QH (AI hM (AI hC (AI htk (AI hlen (AI hm (AI hma (AI hown hlit)))))));have hm1:0 < m ∧ m ≤ 100:=hf;clear hM hC htk hlen hcs hc hV hf hvs hcv hma hown hlit hm hil;obtain ⟨hi,hz0,hz1,hz2,hj,hj0,hj1,hj2⟩:=HU.out;go_wp2_with (at_builtin; refine zw _ rfl _ _ 37 rfl 35 i0 _ 3 32 Tryz.underlying37 hi hz0 hz1 hz2 rfl AD (.slice (some ⟨wr.heap.size,0,none⟩) 0 m) 0 [] rfl HR.out.2.2.2.2.2.2.1 ⟨tb,vof,none⟩ m c (zph r) rfl ?a1 ?a2 ?a3 ?a4 ?a5 ?a6 ?_)
  case a1 => rw [zpR,HR.out.2.2.2.2.1]
  case a2 => exact HR.out.2.2.2.2.2.2.2
  case a3 => exact zqn r
  case a4 => exact hm1.1
  case a5 => unfold maxLen; omega
  case a6 => omega
  intro g cap2 w2 hown2 hM2 hg2;obtain ⟨hM,hC,htk,hlen,hm,hma,-,-⟩:=HR.out;have hgl:wr.heap.size ≤ g:=by
   rcases hg2 with h | h
   ·have:wr.heap.size=g:=by simpa [Value.ownBlock] using h
    omega
   ·omega
  have hMr:Mods [] wr w2:=hma.trans hM2 (fun x hx => .inr (by
                                  have:x=wr.heap.size:=by simpa [Value.ownBlock] using hx
                                  omega))
  have hmc:=(zar hown2).2.1;have hh:=zqF w2 rb lo lc (.slice (some ⟨g,0,none⟩) m cap2);have hMl:=(QM [] w2).alloc (.cells #[.slice (some ⟨g,0,none⟩) m cap2] 37);have hC3:=hC.later (hMr.trans hMl) AB;obtain ⟨css,hrow,hall⟩:=hC3.row;have hlt8:∀ x,u8.ownBlock=some x → x < wr.heap.size:=fun x hx => by obtain ⟨css',hrow',-⟩:=hC.row;exact (hrow'.lt x hx).2
  have hr:∀ L:List Nat,(∀ x ∈ L,x < w.heap.size ∨ u8.ownBlock=some x) → RowR (w2.alloc (.cells #[.slice (some ⟨g,0,none⟩) m cap2] 37)) L [.slice (some ⟨g,0,none⟩) m cap2] r:=fun L hL =>
   ⟨some ⟨g,0,none⟩,cap2,by rw [hm],by rw [hm]; exact hmc,(zqe hm hown2 (fun hx => by
    have hs:=hM.size;rcases hL g hx with h | h
    ·omega
    ·have:=hlt8 g h
     omega)).mods (hMl.mono)⟩
  have hlit2:=zdy w2 #[.slice (some ⟨g,0,none⟩) m cap2] 37;rw [hlen] at hrow;have HW:=QH (AI hC3 (AI hrow (AI hall (AI hr (AI hlit2 (AI (hM.trans (hMr.trans hMl AB)) hlen))))));clear hM hC htk hlen hm hma hgl hMr hown2 hM2 hg2 hmc hMl hC3 hrow hall hlt8 hr hlit2;unfold zh at hh;go_wp2_with fail;(with_reducible refine hh.mono ?_);rintro e w3 ⟨rfl,rfl⟩;clear hh;go_wp2_with (at_builtin; refine zw _ rfl _ _ 24 rfl 37 j0 _ 1 24 Tryz.underlying24 hj hj0 hj1 hj2 rfl AD u8 i css.flatten rfl HW.out.2.1 ⟨w3.heap.size,0,none⟩ 1 1 [.slice (some ⟨g,0,none⟩) m cap2] rfl rfl ?b2 ?b3 AD ?b5 ?b6 ?_)
  case b2 => exact HW.out.2.2.2.2.1
  case b3 => intro u hu; simp at hu; subst hu; rfl
  case b5 => unfold maxLen; omega
  case b6 => omega
  intro g9 cap9 w9 hown9 hM9 hg9;have hnew:=HW.out.1.push (by rw [HW.out.2.2.2.2.2.2]; exact HW.out.2.1) HW.out.2.2.1 HW.out.2.2.2.1 HW.out.2.2.2.2.2.2 hown9 hM9 BJ;have hM99:Mods [] w w9:=HW.out.2.2.2.2.2.1.trans hM9 (fun x hx => .inr (HW.out.1.own x AJ));have HA:=QH (AI hnew hM99);clear hnew hM99 hown9 hM9 hg9 hi hz0 hz1 hz2 hj hj0 hj1 hj2;go_wp2_with fail;go_roundg (n - (i + 1))
  case measure => omega
  case rel => exact ⟨i + 1,by omega,by go_num,HA.out.2,by rw [HR.out.2.2.1]; exact HA.out.1⟩
 ·obtain rfl:n=i:=by omega
  rw [List.take_of_length_le (by rw [HH.out.2.2.2]; exact LR _)] at hC;have hfin:PP (.returned u8) wr:=by rw [← HH.out.1];exact ⟨_,rfl,hM,hC⟩
  have HFIN:=QH hfin;clear hfin hM hC;go_wp2_with fail;exact HFIN.out
theorem zeD (w:World) (rb pb cb:Nat) (c:CQ) (hQ:RunQ w rb pb cb c) (hpl:∃ lo lc vr vt vk,w.heap[pb]? = some (.cells #[zh cb,.int .i64 4,.slice lo 0 lc,vr,vt,vk] 49 (0,0))) (hr:c.right=none) (ao:Option Addr) (cap:Nat) (rs:List (List V)) (n:Nat) (hn:rs.length=n) (hI:RowsIn w ao rs []) (hF:zpp rs) (v2:Value) :
  Calls Tryz.prog 20 #[zh rb,.slice ao n cap,v2] w (FiltRes w rs):=by
 obtain ⟨lo,lc,vr,vt,vk,hp⟩:=hpl;obtain ⟨-,von,vwh,vg,its,nms,vo,hst,-⟩:=hQ.q;have hca:=zqp w rb ao lo cap lc rs n hn hI hF;unfold FiltRes at hca ⊢;have r0:=za hQ.run 0;have p0:=za hp 0;have p2:=za hp 2;have q1:=za hst 1;rw [hr] at q1;change w.cell? _=some (zh pb) at r0;change w.cell? _=some (zh cb) at p0;change w.cell? _=some (.slice lo 0 lc) at p2;change w.cell? _=some (.int .i64 (-1)) at q1;clear hst hp hQ hr hn hI hF;unfold zh at *;go_enter Tryz.func20, Tryz.ntmps20;go_wp2_with fail;(with_reducible refine hca.mono ?_);rintro e w2 ⟨t,rfl,hM2,hC⟩;replace r0:=hM2.cell r0;replace p0:=hM2.cell p0;replace q1:=hM2.cell q1;have HC:=QH (AI hM2 hC);clear hca hM2 hC p2;go_wp2_with fail;go_ret;exact ⟨t,rfl,HC.out⟩
theorem zsz (w:World) (gc rc g b off n cap:Nat) (u1 u2:Value) (r1 r2:List V) (hgc:w.cell? ⟨gc,0,none⟩ = some (zh g)) (hrc:w.cell? ⟨rc,0,none⟩ = some u2)
  (hg:w.cell? ⟨g,0,none⟩ = some (.slice (some ⟨b,off,none⟩) n cap)) (hn:0 < n) (hb:w.cell? ⟨b,off,none⟩ = some u1) {L:List Nat} (h1:RowU w L u1 r1) (h2:RowU w L u2 r2) (m:Nat) (l1:r1.length=m) (l2:r2.length=m) (k:Nat) (hk:k < m) :
  Calls Tryz.prog 77 #[.int .i64 k,zh gc,zh rc] w fun e w' => e = .returned (.bool (diffC r1 r2 k)) ∧ Mods [] w w':=by
 obtain ⟨va,c1,rfl,ac1,hVa⟩:=h1;obtain ⟨vb,c2,rfl,ac2,hVb⟩:=h2;have hk1:k < r1.length:=by omega
 have hk2:k < r2.length:=by omega
 obtain ⟨p,po,rfl,-,hp⟩:=hVa (by intro h; rw [h] at hk1; simp at hk1);obtain ⟨s,so,rfl,-,hq⟩:=hVb (by intro h; rw [h] at hk2; simp at hk2);obtain ⟨p0,p1,p2⟩:=hp k hk1;obtain ⟨q0,q1,q2⟩:=hq k hk2;have e1:r1.getD k zeroV0=r1[k]:=by simp [List.getD_eq_getElem?_getD,List.getElem?_eq_getElem hk1]
 have e2:r2.getD k zeroV0=r2[k]:=by simp [List.getD_eq_getElem?_getD,List.getElem?_eq_getElem hk2]
 unfold diffC;rw [e1,e2];rw [l1] at hb;rw [l2] at hrc;clear hp hq e1 e2 hVa hVb ac1 ac2;generalize r1[k]=v at *;generalize r2[k]=u at *;obtain ⟨z,x,t⟩:=v;obtain ⟨z2,x2,t2⟩:=u;simp only at p0 p1 p2 q0 q1 q2;have hv:=fun W => zrq z z2 x x2 t t2 W;generalize (!decide ((⟨z,x,t⟩ : V) = ⟨z2,x2,t2⟩))=D at *;have hM:=QM [] w;clear l1 l2 hk1 hk2;unfold zh at *;go_enter Tryz.func77, Tryz.ntmps77;go_wp2_with fail;go_quiet (fail);have hMz:=hM.drewN nq;generalize w.drewN nq=wz at *;go_wp2_with fail;go_ret;exact ⟨rfl,hMz⟩
theorem zsv (w:World) (ks:List Nat) (bs:List Bool) (ao:Option Addr) (cap n:Nat) (gc rc:Nat) (hl:bs.length=n) (hn:ks.length=n) (hn1:n ≤ 1000)
  (hao:0 < n → ∃ c,ao=some ⟨c,0,none⟩ ∧ ∀ i (hi:i < ks.length),w.cell? ⟨c,i,none⟩ = some (.int .i64 (ks[i]:Nat)))
  (hsub:∀ i (hi:i < ks.length) (hx:i < bs.length) W,Mods [] w W → Calls Tryz.prog 77 #[.int .i64 (ks[i]:Nat),zh gc,zh rc] W fun e w' => e = .returned (.bool bs[i]) ∧ Mods [] W w') :
  Calls Tryz.prog 105 #[.slice ao n cap,.func (.func 77) #[] #[zh gc,zh rc]] w (zrZ bs w):=by
 have HA:=QH (AI hao (AI hsub (AI hn hl)));clear hao hsub hl hn;unfold zh at *;go_enter Tryz.func105, Tryz.ntmps105;have gF2:=QH trivial;exact yfH
theorem zsg (w:World) (ks:List Nat) (bs:List Bool) (ao:Option Addr) (cap n:Nat) (gc rc:Nat) (hl:bs.length=n) (hn:ks.length=n) (hn1:n ≤ 1000)
  (hao:0 < n → ∃ c,ao=some ⟨c,0,none⟩ ∧ ∀ i (hi:i < ks.length),w.cell? ⟨c,i,none⟩ = some (.int .i64 (ks[i]:Nat)))
  (hsub:∀ i (hi:i < ks.length) (hx:i < bs.length) W,Mods [] w W → Calls Tryz.prog 77 #[.int .i64 (ks[i]:Nat),zh gc,zh rc] W fun e w' => e = .returned (.bool bs[i]) ∧ Mods [] W w') :
  Calls Tryz.prog 76 #[.slice ao n cap,.func (.func 77) #[] #[zh gc,zh rc]] w fun e w' => e = .returned (.bool (bs.any id)) ∧ Mods [] w w':=by
 have h:=zsv w ks bs ao cap n gc rc hl hn hn1 hao hsub;unfold zrZ zh at h;clear hl hn hao hsub;generalize bs.any id=r at *;clear ks bs;unfold zh;go_enter Tryz.func76, Tryz.ntmps76;exact yfv
theorem zss (w:World) (rx rb pb cb:Nat) (c:CQ) (hQ:RunQ w rb pb cb c) (hx:w.cell? ⟨rx,0,none⟩ = some (zh rb)) (rc g b off n cap:Nat) (u1 u2:Value) (r1 r2:List V) (hrc:w.cell? ⟨rc,0,none⟩ = some u2)
  (hg:w.cell? ⟨g,0,none⟩ = some (.slice (some ⟨b,off,none⟩) n cap)) (hn:0 < n) (hb:w.cell? ⟨b,off,none⟩ = some u1) {L:List Nat} (h1:RowU w L u1 r1) (h2:RowU w L u2 r2) (m:Nat) (l1:r1.length=m) (l2:r2.length=m) (hk:∀ k ∈ c.group,k < m) (k:Nat) (hk0:c.group.length=k) (hk1:k ≤ 1000) :
  Calls Tryz.prog 75 #[zh g,zh rx,zh rc] w fun e w' => e = .returned (.bool (!zr1 c.group r1 r2)) ∧ Mods [] w w':=by
 obtain ⟨vl,vr,vt,vk,hp⟩:=hQ.plan;obtain ⟨-,von,vwh,vg,its,nms,vo,hst,-,-,hgr,-⟩:=hQ.q;have r0:=za hQ.run 0;have p0:=za hp 0;have q5:=za hst 5;change w.cell? _=some (zh pb) at r0;change w.cell? _=some (zh cb) at p0;change w.cell? _=some vg at q5;obtain ⟨ao,gcap,rfl,hgc⟩:=hgr;have hM:=(QM [] w).alloc (.cells #[zh g] 138);have hnew:=za (QN w (.cells #[zh g] 138)) 0;change World.cell? _ _=some (zh g) at hnew;have hsub:∀ i (hi:i < c.group.length) (hx:i < (c.group.map (diffC r1 r2)).length) W,Mods [] (w.alloc (.cells #[zh g] 138)) W → Calls Tryz.prog 77 #[.int .i64 (c.group[i]:Nat),zh w.heap.size,zh rc] W fun e w' => e = .returned (.bool (c.group.map (diffC r1 r2))[i]) ∧ Mods [] W w':=by intro i hi hx W hW;have hMw:=hM.trans hW;rw [List.getElem_map];exact zsz W w.heap.size rc g b off n cap u1 u2 r1 r2 (hW.cell hnew) (hMw.cell hrc) (hMw.cell hg) hn (hMw.cell hb) (h1.mods (hMw.mono)) (h2.mods (hMw.mono)) m l1 l2 _ (hk _ (List.getElem_mem hi))
 have hca:=zsg (w.alloc (.cells #[zh g] 138)) c.group (c.group.map (diffC r1 r2)) ao gcap k w.heap.size rc (by rw [List.length_map]; exact hk0) hk0 hk1
  (fun h0 => by
   obtain ⟨gb,h1,-,h2⟩:=hgc AA
   exact ⟨gb,h1,fun i hi => hM.cell (h2 i hi)⟩) hsub
 replace r0:=hM.cell r0;replace p0:=hM.cell p0;replace q5:=hM.cell q5;replace hx:=hM.cell hx;have HD:Hid ((c.group.map (diffC r1 r2)).any id=zr1 c.group r1 r2):=QH rfl;rw [hk0] at q5;generalize (c.group.map (diffC r1 r2)).any id=A at *;have HM:=QH hM;clear hM hsub hgc hst hp hQ hnew hrc hg hb h1 h2 l1 l2 hk hn;unfold zh at *;go_enter Tryz.func75, Tryz.ntmps75;go_wp2_with fail;(with_reducible refine hca.mono ?_);rintro e w2 ⟨rfl,hM2⟩;have hMz:=HM.out.trans hM2;clear hca hM2 r0 p0 q5 hx HM;go_wp2_with fail;go_ret;exact ⟨by rw [HD.out]; rfl,hMz⟩
theorem zsw:∀ (l:List Bool) (i:Nat),NoneYet l i → l[i]? = some true → firstN l=i
 | [],i,_,h => by simp at h
 | true :: l,0,_,_ => rfl
 | true :: l,i + 1,h,_ => by have:=h 0 (Nat.succ_pos _); simp at this
 | false :: l,0,_,h => by simp at h
 | false :: l,i + 1,h,ht => by show firstN l + 1=i + 1;rw [zsw l i (fun j hj => by have:=h (j + 1) AA; simpa using this) (by simpa using ht)]
theorem zsi:∀ (l:List Bool),NoneYet l l.length → firstN l=l.length
 | [],_ => rfl
 | true :: l,h => by have:=h 0 (Nat.succ_pos _); simp at this
 | false :: l,h => by show firstN l + 1=l.length + 1;rw [zsi l (fun j hj => by have:=h (j + 1) (by simpa using hj); simpa using this)]
def zsr (l:List Bool):Int:=if firstN l < l.length then (firstN l:Nat) else -1
theorem zsp (w:World) (us:List Value) (bs:List Bool) (t:Value) (n:Nat) (rx rc:Nat) (hl:bs.length=n) (hn1:n ≤ 1000) (hown:w.ownsRow 0 138 1 t n us) (hu:us.length=n)
  (hsub:∀ i (hi:i < us.length) (hx:i < bs.length) W,Mods [] w W → Calls Tryz.prog 75 #[us[i],zh rx,zh rc] W fun e w' => e = .returned (.bool bs[i]) ∧ Mods [] W w') :
  Calls Tryz.prog 78 #[t,.func (.func 75) #[] #[zh rx,zh rc]] w fun e w' => e = .returned (.int .i64 (zsr bs)) ∧ Mods [] w w':=by
 obtain ⟨ao,cap,rfl,hcells⟩ : ∃ ao cap,t = .slice ao n cap ∧ (0 < n → ∃ c,ao=some ⟨c,0,none⟩ ∧ ∀ i (hi:i < us.length),w.cell? ⟨c,i,none⟩ = some us[i]):=zrY hown hu;have HA:=QH (AI hcells (AI hsub (AI hu hl)));clear hcells hsub hl hu hown;unfold zh at *;go_enter Tryz.func78, Tryz.ntmps78;have gF3:=QH trivial;exact yfH
section
variable {α:Type} (ord:α → α → Int) (d:α)
def zpt (l:List α) (j:Nat):List α:=(l.set (j + 1) (l.getD j d)).set j (l.getD (j + 1) d)
def sinkL:Nat → List α → List α
 | 0,l => l
 | j + 1,l => if ord (l.getD (j + 1) d) (l.getD j d) < 0 then sinkL j (zpt d l j) else l
def insL:Nat → List α → List α
 | 0,l => l
 | k + 1,l => sinkL ord d (k + 1) (insL k l)
end
theorem zpo {α:Type} (d:α) (l:List α) (j:Nat):(zpt d l j).length=l.length:=by simp [zpt]
theorem zp1 {α:Type} (d:α) {l:List α} {j:Nat} (hj:j + 1 < l.length) {x:α} (h:x ∈ zpt d l j):x ∈ l:=by
 unfold zpt at h;have g:∀ i,i < l.length → l.getD i d ∈ l:=fun i hi => by rw [List.getD_eq_getElem?_getD,List.getElem?_eq_getElem hi]; exact List.getElem_mem hi
 rcases List.mem_or_eq_of_mem_set h with h | h
 ·rcases List.mem_or_eq_of_mem_set h with h | h
  ·exact h
  ·rw [h]; exact g j AA
 ·rw [h]; exact g (j + 1) hj
theorem zqI {α:Type} (ord:α → α → Int) (d:α):∀ (j:Nat) (l:List α),(sinkL ord d j l).length=l.length:=by
 intro j
 induction j with
 | zero => intro l; rfl
 | succ j ih => intro l; unfold sinkL; split; rw [ih,zpo]; rfl
theorem zpl {α:Type} (ord:α → α → Int) (d:α):∀ (k:Nat) (l:List α),(insL ord d k l).length=l.length:=by
 intro k
 induction k with
 | zero => intro l; rfl
 | succ k ih => intro l; unfold insL; rw [zqI,ih]
theorem zqJ {α:Type} (ord:α → α → Int) (d:α):∀ (j:Nat) (l:List α),j < l.length → ∀ x ∈ sinkL ord d j l,x ∈ l:=by
 intro j
 induction j with
 | zero => intro l _ x h; exact h
 | succ j ih =>
  intro l hj x h;unfold sinkL at h;split at h
  ·exact zp1 d hj (ih _ (by rw [zpo]; omega) x h)
  ·exact h
theorem zqf {α:Type} (ord:α → α → Int) (d:α):∀ (k:Nat) (l:List α),k < l.length ∨ k=0 → ∀ x ∈ insL ord d k l,x ∈ l:=by
 intro k
 induction k with
 | zero => intro l _ x h; exact h
 | succ k ih =>
  intro l hk x h;unfold insL at h;have hk:k + 1 < l.length:=by omega
  exact ih l AA x (zqJ ord d (k + 1) _ (by rw [zpl]; exact hk) x h)
theorem zpY {w:World} {T:TypeId} {g n cap:Nat} {xs:List Value} (h:w.ownsRow 0 T 1 (.slice (some ⟨g,0,none⟩) n cap) n xs) {j:Nat} (hj:j < n) (u:Value) (hu:u.oneCell'=true) :
  (w.setCell ⟨g,j,none⟩ u).ownsRow 0 T 1 (.slice (some ⟨g,0,none⟩) n cap) n (xs.set j u):=by
 refine ⟨by rw [List.length_set]; exact h.1,.inr ?_⟩;rcases h.2 with ⟨hv,-⟩ | ⟨g',cap',cur,hv,hb,hg,hnc,hcm,hcs,htake⟩
 ·cases hv
 ·cases hv;refine ⟨g,cap,cur.setIfInBounds j u,rfl,hb,zb hg j u,hnc,hcm,by simpa using hcs,?_⟩;rw [Array.toList_setIfInBounds,List.take_set,htake]
def ordP (ord:List V → List V → Int) (p q:PR):Int:=ord p.2 q.2
theorem zpZ {α:Type} {l:List α} {i:Nat} (h:i < l.length) (d:α):l.getD i d=l[i]:=by rw [List.getD_eq_getElem?_getD,List.getElem?_eq_getElem h]; rfl
theorem zpS {w:World} {T:TypeId} {g n cap:Nat} {xs:List Value} (h:w.ownsRow 0 T 1 (.slice (some ⟨g,0,none⟩) n cap) n xs) (j:Nat):w.frozen? ⟨g,j,none⟩ = false:=by
 rcases h.2 with ⟨hv,-⟩ | ⟨g',cap',cur,hv,hb,hg,hnc,hcm,hcs,htake⟩
 ·cases hv
 ·cases hv;exact zc hg j
theorem zqK (P:Program) (w:World) (b o:Nat) (v u:Value) (h1:v.oneCell'=true) (hc:w.cell? ⟨b,o,none⟩ = some u) (hf:w.frozen? ⟨b,o,none⟩ = false):Sem.run P (storeCells ⟨b,o,none⟩ [v]) w = .ok () (w.setCell ⟨b,o,none⟩ v):=by
 have hst:=run_store P w ⟨b,o,none⟩ v .plain h1;rw [hc] at hst;simp only [hf] at hst;have e0:(⟨b,o,none⟩ : Addr).add 0 = ⟨b,o,none⟩:=by simp [Addr.add]
 simp [storeCells,e0,hst]
theorem zrw (w:World) (rb g n cap:Nat) (ps:List PR) (hn:ps.length=n) (hn0:0 < n) (hn1:n ≤ 1000) (hown:w.ownsRow 0 37 1 (.slice (some ⟨g,0,none⟩) n cap) n (ps.map (·.1))) (hone:∀ p ∈ ps,p.1.oneCell'=true)
  (ord:List V → List V → Int) (hcmp:∀ W,Mods [g] w W → ∀ p ∈ ps,∀ q ∈ ps,Calls Tryz.prog 23 #[zh rb,p.1,q.1] W fun e w' => e = .returned (.int .i64 (ord p.2 q.2)) ∧ Mods [] W w') :
  Calls Tryz.prog 81 #[.slice (some ⟨g,0,none⟩) n cap,.int .i64 0,.int .i64 n,.func (.func 23) #[zh rb] #[]] w
   fun e w' => e = .returned (.tuple #[]) ∧ Mods [g] w w' ∧ w'.ownsRow 0 37 1 (.slice (some ⟨g,0,none⟩) n cap) n ((insL (ordP ord) dPR (n - 1) ps).map (·.1)):=by
 have HH:=QH (AI hn (AI hone (AI hcmp hown)));clear hn hone hcmp hown;unfold zh;go_enter Tryz.func81, Tryz.ntmps81;go_wp2_with fail;go_loopg [8] (n - 1) (fun gk t8 wr => ∃ i:Nat,i + gk=n ∧ 1 ≤ i ∧ t8 = .int .i64 i ∧ Mods [g] w wr ∧ wr.ownsRow 0 37 1 (.slice (some ⟨g,0,none⟩) n cap) n ((insL (ordP ord) dPR (i - 1) ps).map (·.1)))
 case atStart => exact ⟨1,by omega,by omega,rfl,QM _ _,HH.out.2.2.2⟩
 obtain ⟨i,hin,hi1,rfl,hM,hO⟩:=hrel;by_cases hlt:i < n
 ·obtain ⟨L0,hL0⟩:=EX (insL (ordP ord) dPR (i - 1) ps);have hsk:insL (ordP ord) dPR i ps=sinkL (ordP ord) dPR i L0:=by
   rw [← hL0];obtain ⟨k,rfl⟩ : ∃ k,i=k + 1:=⟨i - 1,by omega⟩;rfl
  have hl0:L0.length=n:=by rw [← hL0,zpl]; exact HH.out.1
  have hm0:∀ p ∈ L0,p ∈ ps:=by rw [← hL0]; exact zqf _ _ _ _ (.inl (by rw [HH.out.1]; omega))
  rw [hL0] at hO;have HR:=QH (AI hM (AI hsk (AI hl0 (AI hm0 hO))));clear hM hsk hl0 hm0 hO hL0;go_wp2_with fail;generalize wr=wo at *;go_loopg [9] i (fun gk2 t9 wx => ∃ l:List PR,t9 = .int .i64 gk2 ∧ gk2 ≤ i ∧ sinkL (ordP ord) dPR i L0=sinkL (ordP ord) dPR gk2 l ∧ l.length=n ∧ (∀ p ∈ l,p ∈ ps) ∧ Mods [g] w wx ∧ wx.ownsRow 0 37 1 (.slice (some ⟨g,0,none⟩) n cap) n (l.map (·.1)))
  case atStart => exact ⟨L0,rfl,LR _,rfl,HR.out.2.2.1,HR.out.2.2.2.1,HR.out.1,HR.out.2.2.2.2⟩
  obtain ⟨l,rfl,hji,hsk,hl,hmem,hM,hO⟩:=hrel;have hend:∀ L1,sinkL (ordP ord) dPR gk l=L1 → insL (ordP ord) dPR (i + 1 - 1) ps=L1:=fun L1 h => by rw [Nat.add_sub_cancel,HR.out.2.1,hsk,h]
  by_cases hj:gk=0
  ·subst hj;have HE:=QH (AI hM (AI hO (hend l rfl)));clear hM hO hsk hmem hend;go_upto_region 4 with fail;go_quiet (fail);have hMd:=HE.out.1.drewN nq;have hOd:=zm HE.out.2.1 ((QM [] wr).drewN nq) AB;generalize wr.drewN nq=w5 at *;have HD:=QH (AI hMd hOd);clear hMd hOd;go_wp2_with fail;go_roundg (n - (i + 1))
   case measure => omega
   case rel => exact ⟨i + 1,by omega,by omega,by go_num,HD.out.1,by rw [HE.out.2.2]; exact HD.out.2⟩
  ·obtain ⟨j,rfl⟩ : ∃ j,gk=j + 1:=⟨gk - 1,by omega⟩;have hj1:j + 1 < l.length:=by omega
   have hj0:j < l.length:=by omega
   have hx:=hmem l[j + 1] (List.getElem_mem hj1);have hy:=hmem l[j] (List.getElem_mem hj0);have k1:wr.cell? ⟨g,j + 1,none⟩ = some l[j + 1].1:=(zar hO).2.2 (j + 1) _ (by simp [hj1]);have k0:wr.cell? ⟨g,j,none⟩ = some l[j].1:=(zar hO).2.2 j _ (by simp [hj0]);have hca:=fun W (hW:Mods [] wr W) => HH.out.2.2.1 W (hM.trans (hW.mono) (fun x hx => .inl hx)) _ hx _ hy;have hox:=HH.out.2.1 _ hx;have hoy:=HH.out.2.1 _ hy;have hsw:sinkL (ordP ord) dPR (j + 1) l=if ord l[j + 1].2 l[j].2 < 0 then sinkL (ordP ord) dPR j (zpt dPR l j) else l:=by rw [sinkL];unfold ordP;rw [zpZ hj1,zpZ hj0]
   have hsl:zpt dPR l j=(l.set (j + 1) l[j]).set j l[j + 1]:=by unfold zpt; rw [zpZ hj1,zpZ hj0]
   have hln:=zpo dPR l j;have hmm:=fun x => zp1 dPR (x:=x) hj1;have hgj:(l.map (·.1))[j]? = some l[j].1:=by simp [hj0]
   generalize hxe:l[j + 1]=X at *;generalize hye:l[j]=Y at *;obtain ⟨xv,xr⟩:=X;obtain ⟨yv,yr⟩:=Y;obtain ⟨o,ho⟩:=EX (ord xr yr);simp only [ho] at hca hsw;unfold zh at hca;dsimp only at hca hsw hox hoy k0 k1 hgj;have F1:∀ k:zay wr,k.val.cell? ⟨g,j + 1,none⟩ = some xv:=fun k => k.mods.cell k1;have F2:∀ k:zay wr,k.val.cell? ⟨g,j,none⟩ = some yv:=fun k => k.mods.cell k0;have HK:=QH (fun k:zay wr => (hca k.val k.mods).mono fun e w' h => (show e=_ ∧ ∃ k':zay wr,w'=k'.val from ⟨h.1,⟨w',k.mods.trans h.2⟩,rfl⟩));have HE:=QH (AI hM (AI hO (AI hend (AI hsk (AI hsw (AI hsl (AI hln (AI hmm (AI hmem (AI hl (AI hox (AI hoy hgj))))))))))));have hg1:j + 1 < n:=by omega
   have hg0:j < n:=by omega
   clear hM hO hend hsk hsw hsl hln hmm hmem hl hox hoy hgj hca hx hy hxe hye ho hj1 hj0 hj;go_upto_region 4 with fail;have gF7:=QH trivial;exact yfJ
 ·obtain rfl:n=i:=by omega
  have HZ:=QH (AI hM hO);clear hM hO;go_wp2_with fail;go_end0;exact ⟨rfl,HZ.out.1,HZ.out.2⟩
def groupsP (gs:List Nat) (ps:List PR):List (List PR):=ps.foldl (putG gs) []
theorem zrX (gs:List Nat) (ps:List PR) (p:PR):groupsP gs (ps ++ [p])=putG gs (groupsP gs ps) p:=by simp [groupsP,List.foldl_append]
end Go.Proofs.YtcabeljiobiojaaGreatDoor
