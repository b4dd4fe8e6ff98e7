/-
  law15.PlanSorts, walked. No condition but that Go's own variables hold what they were laid with.
-/
import Derived.Test.YtebljciefhfgbaaGreatDoorQ46
set_option linter.unusedVariables false
set_option maxRecDepth 100000
namespace Go.Proofs.YtebljciefhfgbaaGreatDoor
open Go.RowKit
theorem yfe {p:Prop} (h:p:=by
  refine zd (hR _ _ (.inr ⟨hz.cell f1,hz.cell f2⟩) ?_);clear hR RR;replace f1:=hz.cell f1;replace f2:=hz.cell f2
  first
  |guard_hyp gFa
   replace e1:=hz.cell e1;have HD2:=QH (HD1.out.trans hz);clear hz
   first
   |guard_hyp gBt
    generalize W1.alloc (.cells #[.slice vc 3 c2] 39)=W2 at *;generalize W1.heap.size=k2 at *;have hcl:=HC.out.1 W2 k1 k2 HD2.out e1 e2;exact yaI
   |guard_hyp gBu
    generalize W1.alloc (.cells #[.slice va 3 c1] 39)=W2 at *;generalize W1.heap.size=k2 at *;have hcl:=HC.out.1 W2 k2 k1 HD2.out e2 e1;exact yaI
  |guard_hyp gFb
   have HD1:=QH (HDR.out.trans hz);clear hz;generalize W0.alloc (.cells #[.slice va 3 c1] 39)=W1 at *;generalize W0.heap.size=k1 at *;refine zu (zp fun RR hR => ?_);go_wp2_with fail;have hz:Mods [] W1 (W1.alloc (.cells #[.slice vc 3 c2] 39)):=(QM _ _).alloc _;have e2:=za (QN W1 (.cells #[.slice vc 3 c2] 39)) 0;change World.cell? _ _=some (.slice vc 3 c2) at e2;have gBt:=QH trivial;exact ydu
  |guard_hyp gFc
   have HD1:=QH (HDR.out.trans hz);clear hz;generalize W0.alloc (.cells #[.slice vc 3 c2] 39)=W1 at *;generalize W0.heap.size=k1 at *;refine zu (zp fun RR hR => ?_);go_wp2_with fail;have hz:Mods [] W1 (W1.alloc (.cells #[.slice va 3 c1] 39)):=(QM _ _).alloc _;have e2:=za (QN W1 (.cells #[.slice va 3 c1] 39)) 0;change World.cell? _ _=some (.slice va 3 c1) at e2;have gBu:=QH trivial;exact ydu
 ):p:=h
theorem ydu {p:Prop} (h:p:=by
  have gFa:=QH trivial;exact yfe
 ):p:=h
theorem yaI {p:Prop} (h:p:=by
  refine zu (zp fun RR hR => ?_);go_wp2_with fail;(with_reducible refine hcl.mono ?_);rintro e W3 ⟨rfl,hM3⟩;clear hcl;go_wp2_with fail;refine zd (hR _ _ (.inr ⟨hM3.cell f1,hM3.cell f2⟩) ?_);clear hR RR;replace f1:=hM3.cell f1;replace f2:=hM3.cell f2;have HD3:=QH (HD2.out.trans hM3);clear hM3;refine zu (zp fun RR hR => ?_);go_wp2_with fail;refine zd (hR _ _ (.inr ⟨f1,f2⟩) ?_);clear hR RR;refine zcr ?_;go_wp2_with fail
  go_meet
  exact ⟨rfl,HD3.out⟩
 ):p:=h
theorem ybD {p:Prop} (h:p:=by
  go_wp2_with fail;(with_reducible refine hs1.mono ?_);rintro e w10 ⟨rfl,hM10⟩;clear hs1;have HZ:=QH (HE.out.1.trans hM10);clear hM10;go_wp2_with fail;go_ret;exact ⟨rfl,HZ.out⟩
 ):p:=h
theorem zrF:(Tryz.prog.info? 3).map (fun i => (i.zero,i.size,i.bytes))=some (some (.int .i64 0),1,8):=by kernel_rfl
def zpL (us:List Nat):Array Value:=(us.map fun u => Value.int .i64 (u:Nat)).toArray
theorem zrG (w:World) (n:Nat) (h:n ≤ 1000) :
  (Instr.makeSlice 35 (.int .i64 n) (.int .i64 n)).run Tryz.prog w = .ok (.slice (some ⟨w.heap.size,0,none⟩) n n) (w.alloc (.cells (zpL (List.replicate n 0)) 3)):=by
 obtain ⟨i0,hi,hz0,hz1,hz2⟩:=info_parts zrF;have:=run_make (P:= Tryz.prog) w 35 3 i0 (.int .i64 0) Tryz.underlying35 hi hz0 .i64 .i64 n n AA AA (by rw [hz2]; omega) AA;rw [this,hz1];have e:madeCells #[.int .i64 0] (n * 1)=zpL (List.replicate n 0):=by apply Array.toList_inj.1;rw [toList_madeCells_one];simp [zpL]
 show Result.ok _ (w.alloc (.cells (madeCells #[.int .i64 0] (n * 1)) 3))=_;rw [e];rfl
set_option maxHeartbeats 4000000 in
theorem zq3 (w:World) (hT:Tabs3 w) (lao:Option Addr) (n cl:Nat) (hn:n ≤ 9223372036854775807) (C:Nat → Int × ByteArray × Bool) (hC:CellsIn w lao n C) (off lim:Nat) (ho:off < 256) (hl:lim < 256) (d:Bool) :
  Calls Tryz.prog 3 #[.slice lao n cl,.int .u8 off,.int .u8 lim,.bool d] w fun e w' => e = .returned (.bool true) ∧ Mods [] w w':=by
 have hex:=zpM w hT;have HH:=QH (AI hT (AI hn hC));clear hT hn hC;go_enter Tryz.func3, Tryz.ntmps3;go_wp2_with fail;(with_reducible refine hex.mono ?_);rintro e w2 ⟨rfl,hM2⟩;clear hex;have htb:=tables15 w2;have HM2:=QH hM2;clear hM2;go_wp2_with fail;(with_reducible refine htb.mono ?_);rintro e w3 ⟨tb,rfl,hM3,-,g,dd,hb,hg⟩;clear htb;have t0:=za hb 0;have t1:=za hb 1;change w3.cell? _=some (.string ⟨#[116]⟩) at t0;change w3.cell? _=some (.slice (some ⟨g,0,none⟩) 4 4) at t1;have hMw:=HM2.out.trans hM3
 have hrw:=lawrows15 w3 ⟨#[116]⟩ g hg lao n cl HH.out.2.1 C (fun h0 => by
  obtain ⟨b,o,h1,h2⟩:=HH.out.2.2 h0
  exact ⟨b,o,h1,fun i hi => ⟨⟨hMw.cell (h2 i hi).1.1 AB,hMw.cell (h2 i hi).1.2.1 AB,hMw.cell (h2 i hi).1.2.2 AB⟩,(h2 i hi).2⟩⟩) 8 AD
 change Calls _ _ #[_,_,.int .i64 8] _ _ at hrw;have HM3:=QH (AI hMw (HH.out.1.later hMw));clear hM3 hb hg hMw;go_wp2_with fail;(with_reducible refine hrw.mono ?_);rintro e w4 ⟨t,rfl,hM4,hRC⟩;clear hrw;obtain ⟨R,hR⟩:=EX (rowsN n 8);have hR8:R ≤ 8:=by rw [← hR]; exact zqh n
 have hRn:4 * R ≤ n:=by rw [← hR]; unfold rowsN; split <;> omega
 rw [hR] at hRC;obtain ⟨xo,xc,rfl,hxc,hx0,hxr⟩:=hRC.slice;rw [zpi] at hxc ⊢;have hXI:RowsIn w4 xo (zpk C R) []:=fun h0 => by obtain ⟨g',h1,h2⟩:=hx0 h0;exact ⟨g',0,h1,by simp,fun i hi => by rw [Nat.zero_add]; exact hxr [] AB g' h1 i hi⟩
 have hXF:zpp (zpk C R):=by rw [← hR]; exact zq1 C n
 have hCb:∀ i,i < R → -9223372036854775808 ≤ (C (4 * i)).1 ∧ (C (4 * i)).1 ≤ 9223372036854775807:=fun i hi => by obtain ⟨b,o,h1,h2⟩:=HH.out.2.2 AA;exact (h2 (4 * i) AA).2.1
 obtain ⟨rs2,hrs2⟩:=EX ((zpk C R).map (zpj soItems));have hn2:rs2.length=R:=by rw [← hrs2,List.length_map,zpi]
 have hT4:=HM3.out.2.later hM4;have hMw4:=HM3.out.1.trans hM4;have HX:=QH (AI hMw4 (AI hT4 (AI hXI (AI hXF (AI hCb (AI hrs2 hn2))))));clear hRC hM4 hxc hx0 hxr hR hRn hXI hXF hCb hrs2 hn2 hT4 hMw4
 have hans:∀ (W:World) (l:Bs) (o:List KeyC) (li of:Int),Mods [] w4 W → askOk false [] soItems o li of (zaI l)=true → l.length ≤ 1000 → -1 ≤ li → li ≤ 9 → -1 ≤ of → of ≤ 9 → (o=[] ∨ o=[⟨0,d⟩]) →
   Calls Tryz.prog 8 #[.string ⟨l.toArray⟩,.slice xo R xc,.slice none 0 0] W (AnsRes W (winR li of (insL (if o=[] then fun _ _ => 0 else ordS d) [] (R - 1) rs2))):=by
  intro W l o li of hM hq hl h1 h2 h3 h4 ho;obtain ⟨c,hc,hA⟩:=zrQ hq;obtain ⟨hMw,hT4,hXI,hXF,hCb,hrs2,hn2⟩:=HX.out;refine answer15 W (hT4.later hM) l hl c hc hA.one xo xc (zpk C R) R (zpi _ _) (fun h0 => ?_) hXF rs2 R hn2 AA (fun W rb pb cb bo bc hQ hI => ?_) _ (fun W rb pb cb hQ va ra hra vb rc hrc e1 e2 => ?_) li of hA.limit hA.offset h1 h2 h3 h4 _
  ·obtain ⟨g,o,q1,q2,q3⟩:=hXI h0
   exact ⟨g,o,q1,q2,fun i hi => by
    obtain ⟨vo,k,q4,q5,q6⟩:=q3 i hi
    exact ⟨vo,k,q4,hM.cell q5,q6.mods hM⟩⟩
  ·rw [← hrs2]; exact zrs hA C R hR8 W rb pb cb bo bc hQ hI
  ·rcases ho with rfl | rfl
   ·exact zqq W rb pb cb c hQ hA.order va vb
   ·rw [← hrs2] at hra hrc;exact zrt hA C R hCb W rb pb cb hQ va ra hra vb rc hrc e1 e2
 have HA:=QH hans;clear hans;go_upto_if 34 with fail;go_cut [11] from 35 to 36 (fun s wx => s = .string ⟨(zpP d).toArray⟩ ∧ w4=wx)
 case first =>
  cases d
  all_goals
   go_wp2_with fail
   go_meet
   exact ⟨rfl,rfl⟩
 case rest =>
 obtain ⟨rfl,rfl⟩:=hcut;obtain ⟨lm,hlm⟩:=EX (lim % 10);obtain ⟨om,hom⟩:=EX (off % 10);have hlm10:lm < 10:=by omega
 have hom10:om < 10:=by omega
 have hlI:(lim:Int) % 10=(lm:Int):=by omega
 have hoI:(off:Int) % 10=(om:Int):=by omega
 have ha1:=HA.out w4 (zpP d) [⟨0,d⟩] (-1) (-1) (QM _ _) (zrv d) (by cases d <;> decide) AD AD AD AD (.inr rfl);rw [if_neg AB,zqj] at ha1;obtain ⟨S,hS⟩:=EX ((⟨(zpP d).toArray⟩ : ByteArray):ByteArray);have hSz:S.size ≤ 100:=by rw [← hS]; cases d <;> decide
 have hcat:S ++ ⟨#[32,76,73,77,73,84,32]⟩ ++ ⟨[UInt8.ofNat (48 + lm)].toArray⟩ ++ ⟨#[32,79,70,70,83,69,84,32]⟩ ++ ⟨[UInt8.ofNat (48 + om)].toArray⟩ = ⟨(soCut d lm om).toArray⟩:=by rw [← hS]; apply ByteArray.ext; apply Array.toList_inj.1; simp [ByteArray.data_append,soCut]
 rw [hS] at ha1 ⊢;have HS:=QH (AI hS (AI hlm (AI hom hcat)));clear hS hlm hom hcat;go_wp2_with fail;(with_reducible refine ha1.mono ?_);rintro e w5 ⟨ao,ac,rfl,hac,hM5,hA⟩;clear ha1;have HA1:=QH (AI hac (AI hM5 hA));clear hac hM5 hA;obtain ⟨A1,hA1⟩:=EX (insL (ordS d) [] (R - 1) rs2);have hA1l:A1.length=R:=by rw [← hA1,zpl]; exact HX.out.2.2.2.2.2.2
 rw [hA1,hA1l] at HA1 ⊢;go_wp2_with fail;have hM5:=HA1.out.2.1;have hdg1:=digits15 w5 lm hlm10;obtain ⟨D1,hD1⟩:=EX ((⟨[UInt8.ofNat (48 + lm)].toArray⟩ : ByteArray):ByteArray);obtain ⟨D2,hD2⟩:=EX ((⟨[UInt8.ofNat (48 + om)].toArray⟩ : ByteArray):ByteArray);have hD1s:D1.size=1:=by rw [← hD1]; rfl
 have hD2s:D2.size=1:=by rw [← hD2]; rfl
 have ha2:=fun W hM => HA.out W (soCut d lm om) [⟨0,d⟩] (lm:Nat) (om:Nat) hM (zrI d ⟨lm,hlm10⟩ ⟨om,hom10⟩) (by cases d <;> simp [soCut,zpP,soPlain]) AA AA AA AA (.inr rfl);rw [← HS.out.2.2.2,if_neg AB,hA1,hD1,hD2] at ha2;rw [hD1] at hdg1;have HD:=QH (AI hD1 hD2);clear hM5 hD1 hD2;(with_reducible refine hdg1.mono ?_);rintro e w6 ⟨rfl,hM6⟩;clear hdg1;have hdg2:=digits15 w6 om hom10;rw [HD.out.2] at hdg2;have HM6:=QH (AI (HA1.out.2.1.trans hM6) hM6);clear hM6;go_wp2_with fail;(with_reducible refine hdg2.mono ?_);rintro e w7 ⟨rfl,hM7⟩;clear hdg2;replace ha2:=ha2 w7 (HM6.out.1.trans hM7);have HM7:=QH (AI (HM6.out.1.trans hM7) (HM6.out.2.trans hM7));clear hM7;go_wp2_with fail;(with_reducible refine ha2.mono ?_);rintro e w8 ⟨bo,bc,rfl,hbc,hM8,hB⟩;clear ha2;obtain ⟨B1,hB1⟩:=EX (winR (lm:Int) (om:Int) A1);rw [hB1] at hB hbc ⊢;have hM48:=HM7.out.1.trans hM8;have ha3:Calls Tryz.prog 8 #[.string ⟨#[83,69,76,69,67,84,32,97,44,32,98,44,32,99,32,70,82,79,77,32,116]⟩,.slice xo R xc,.slice none 0 0] w8 _:=HA.out w8 soPlain [] (-1) (-1) hM48 zq7 AD AD AD AD AD (.inl rfl);rw [if_pos rfl,zqj,zrE] at ha3;have HM8:=QH (AI hM48 (AI hbc (AI hB (AI hB1 (HM7.out.2.trans hM8)))));clear hM48 hbc hM8 hB hB1;go_wp2_with fail;(with_reducible refine ha3.mono ?_);rintro e w9 ⟨co,cc,rfl,hcc,hM9,hCR⟩;clear ha3;have hrl:rs2.length=R:=HX.out.2.2.2.2.2.2;rw [hrl] at hcc ⊢;have hM49:=HM8.out.1.trans hM9;have hM59:=HM8.out.2.2.2.2.trans hM9;have hAI:RowsIn w9 ao A1 []:=fun h0 => by
  obtain ⟨g,o,h1,h2,h3⟩:=HA1.out.2.2 [] AB h0
  exact ⟨g,o,h1,h2,fun i hi => by
   obtain ⟨vo,k,h4,h5,h6⟩:=h3 i hi
   exact ⟨vo,k,h4,hM59.cell h5,h6.mods hM59⟩⟩
 have hBI:RowsIn w9 bo B1 []:=fun h0 => by
  obtain ⟨g,o,h1,h2,h3⟩:=HM8.out.2.2.1 [] AB h0
  exact ⟨g,o,h1,h2,fun i hi => by
   obtain ⟨vo,k,h4,h5,h6⟩:=h3 i hi
   exact ⟨vo,k,h4,hM9.cell h5,h6.mods hM9⟩⟩
 have hCI:=hCR [] AB;have hmk:=fun W => zrG W R AA;have hlen3:∀ r ∈ rs2,r.length=3:=fun r hr => by rw [← HX.out.2.2.2.2.2.1] at hr;obtain ⟨q,-,rfl⟩:=List.mem_map.1 hr;rfl
 have hperm:A1.Perm rs2:=by rw [← hA1]; exact zqW _ _ _ _ AA
 have hsort:∀ i,i + 1 < R → keyV d (A1.getD i []) ≤ keyV d (A1.getD (i + 1) []):=fun i hi => by rw [← hA1];exact zqa (keyV d) [] (ordS d) (zrD d) (R - 1) rs2 AA i (i + 1) AA AA
 have hM9w:Mods [] w w9:=HX.out.1.trans hM49;have HF:=QH (AI hAI (AI hBI (AI hCI (AI hlen3 (AI hperm (AI hsort (AI hM9w (AI hA1l (AI hrl (AI HS.out.2.1 (AI HS.out.1 (AI HA1.out.1 HM8.out))))))))))));clear hM9 hM49 hM59 hAI hBI hCI hlen3 hperm hsort hM9w hA1l hrl HX HS HA HM8 HM7 HM6 HD HA1 HM3 HM2 HH t0 t1 hA1 hCR;go_wp2_with fail;have hub:=QN w9 (.cells (zpL (List.replicate R 0)) 3);have hMu:=(QM [] w9).alloc (.cells (zpL (List.replicate R 0)) 3);have hus:w9.heap.size ≤ w9.heap.size:=LR _;have hp0:(zpu rs2 (List.replicate R 0)).Perm (A1.drop 0):=by rw [← HF.out.2.2.2.2.2.2.2.2.1,zqZ]; exact HF.out.2.2.2.2.1.symm
 obtain ⟨ub,hube⟩:=EX (w9.heap.size);have HU:=QH (AI hub (AI hMu (AI hp0 hube)));clear hub hMu hus hp0;rw [hube];go_loopg [19] R (fun gk t19 wr => ∃ (i:Nat) (us:List Nat),i + gk=R ∧ t19 = .int .i64 i ∧ us.length=R ∧ (zpu rs2 us).Perm (A1.drop i) ∧ wr.heap[ub]? = some (.cells (zpL us) 3 (0,0)) ∧ Mods [] w9 wr)
 case atStart => exact ⟨0,List.replicate R 0,by omega,rfl,by simp,HU.out.2.2.1,by rw [← HU.out.2.2.2]; exact HU.out.1,HU.out.2.1⟩
 obtain ⟨i,us,hi,rfl,hul,hpu,hub,hM9⟩:=hrel;by_cases hin:i < R
 ·obtain ⟨hAI,hBI,hCI,hlen3,hperm,hsort,hM9w,hA1l,hrl,hrest⟩:=HF.out;have hiA:i < A1.length:=by omega
  obtain ⟨ab,aof,rfl,-,hAc⟩:=hAI (by intro h; rw [h] at hiA; simp at hiA);have hmem:A1[i] ∈ rs2:=hperm.mem_iff.1 (List.getElem_mem hiA);have hrow:∀ j (hj:j < A1.length),∃ q qo c x,3 ≤ c ∧ wr.cell? ⟨ab,aof + j,none⟩ = some (.slice (some ⟨q,qo,none⟩) 3 c) ∧ wr.cell? ⟨q,qo + 1,none⟩ = some (.int .i64 x) ∧ (A1.getD j []).getD 0 zeroV0=A1[j].getD 0 zeroV0 ∧ (A1[j].getD 0 zeroV0).n=x:=fun j hj => by
   obtain ⟨vo,c,h1,h2,h3⟩:=hAc j hj;have h4:=hlen3 _ (hperm.mem_iff.1 (List.getElem_mem hj));rw [h4] at h1 h2;have h5:0 < A1[j].length:=by omega
   obtain ⟨q,qo,rfl,-,h6⟩:=h3 (by intro h; rw [h] at h5; simp at h5);have h7:=(h6 0 h5).2.1;rw [Nat.zero_mul,Nat.add_zero] at h7;exact ⟨q,qo,c,_,h1,hM9.cell h2,hM9.cell h7,by rw [zp0 hj],by rw [zp0 h5]⟩
  have HR:=QH (AI hrow (AI hpu (AI hub (AI hM9 (AI hsort hA1l)))));clear hrow hpu hub hM9 hsort hAI hBI hCI hlen3 hperm hM9w hA1l hrl hrest hmem hAc;go_upto_region 17 with fail;go_cut [143] from 99 to 142 (fun s wx => s = .bool false ∧ Mods [] wr wx)
  case first =>
   by_cases h0:i=0
   ·subst h0;clear HR HF HU;exact ybd
   ·obtain ⟨j,rfl⟩ : ∃ j,i=j + 1:=⟨i - 1,by omega⟩;obtain ⟨q,qo,c,x,-,r1,r2,r3,r4⟩:=HR.out.1 (j + 1) hiA;obtain ⟨s,so,e,y,-,s1,s2,s3,s4⟩:=HR.out.1 j AA;have hs:=HR.out.2.2.2.2.1 j hin;unfold keyV at hs;rw [r3,r4,s3,s4] at hs;clear HR HF HU r3 r4 s3 s4 hiA;cases d
    ·simp only [Bool.false_eq_true,if_false] at hs;have hc1:¬ x < y:=by omega
     clear hs;by_cases hc2:y < x
     ·exact ybd
     ·exact ybd
    ·simp only [if_true] at hs;have hc1:¬ y < x:=by omega
     clear hs;by_cases hc2:x < y
     ·exact ybd
     ·exact ybd
  case rest =>
  obtain ⟨rfl,hMx⟩:=hcut;have HW:=QH (AI (HR.out.2.2.2.1.trans hMx) (AI (hMx.heap HR.out.2.2.1) HR.out.2.1));clear hMx HR;generalize wc=wo at *;go_wp2_with fail;go_loopg [20,21] R (fun gk2 t20 t21 wx => ∃ k:Nat,k + gk2=R ∧ t20 = .int .i64 (-1) ∧ t21 = .int .i64 k ∧ (∀ j,j < k → ¬ (rs2[j]? = some A1[i] ∧ us[j]? = some 0)) ∧ Mods [] wo wx)
  case atStart => exact ⟨0,by omega,rfl,rfl,fun j hj => by omega,QM _ _⟩
  obtain ⟨k,hk,rfl,rfl,hno,hMk⟩:=hrel;by_cases hkR:k < R
  ·obtain ⟨hAI,hBI,hCI,hlen3,hperm,hsort,hM9w,hA1l,hrl,hrest⟩:=HF.out;have hkC:k < rs2.length:=by omega
   obtain ⟨cb,cof,rfl,-,hCc⟩:=hCI (by intro h; rw [h] at hkC; simp at hkC);obtain ⟨cb',aof',e1,-,hAc⟩:=hAI (by intro h; rw [h] at hiA; simp at hiA);cases e1;obtain ⟨va,c1,a1,a2,a3⟩:=hAc i hiA;obtain ⟨vc,c2,b1,b2,b3⟩:=hCc k hkC;have l1:=hlen3 _ (hperm.mem_iff.1 (List.getElem_mem hiA));have l2:=hlen3 _ (List.getElem_mem hkC);rw [l1] at a1 a2;rw [l2] at b1 b2;have hM9k:=HW.out.1.trans hMk;replace a2:=hM9k.cell a2;replace b2:=hM9k.cell b2;have hu:=hMk.heap HW.out.2.1;have HK:=QH (AI hno (AI hMk (AI hM9k (AI a1 (AI a3 (AI b1 (AI b3 (AI l1 (AI l2 hu)))))))));clear hno hMk hM9k a1 a3 b1 b3 l1 l2 hu hAI hBI hCI hlen3 hperm hsort hM9w hA1l hrl hrest hCc hAc;obtain ⟨BB,hBB⟩:=EX (decide (A1[i]=rs2[k]));have hone:∀ {W:World} {g:Nat} {v:Option Addr} {c:Nat} {r:List V},r.length=3 → 3 ≤ c → W.cell? ⟨g,0,none⟩ = some (.slice v 3 c) → ValsIn W v r [] → RowsIn W (some ⟨g,0,none⟩) [r] []:=fun {W g v c r} e1 e2 e3 e4 h0 =>
    ⟨g,0,rfl,by simp,fun j hj => by
     obtain rfl:j=0:=by simp at hj; omega
     exact ⟨v,c,by rw [List.getElem_cons_zero,e1]; exact e2,by rw [List.getElem_cons_zero,e1,Nat.add_zero]; exact e3,e4⟩⟩
   have hcall:∀ (W:World) (kA kC:Nat),Mods [] wr W → W.cell? ⟨kA,0,none⟩ = some (.slice va 3 c1) → W.cell? ⟨kC,0,none⟩ = some (.slice vc 3 c2) →
     Calls Tryz.prog 10 #[.slice (some ⟨kA,0,none⟩) 1 1,.slice (some ⟨kC,0,none⟩) 1 1] W fun e w' => e = .returned (.bool BB) ∧ Mods [] W w':=fun W kA kC hM e1 e2 => by
    obtain ⟨-,-,hM9k,a1,a3,b1,b3,l1,l2,-⟩:=HK.out;have hMW:=hM9k.trans hM;have:=same15 W (some ⟨kA,0,none⟩) (some ⟨kC,0,none⟩) [A1[i]] [rs2[k]] 1 1 1 1 rfl rfl AA AE AE (hone l1 a1 e1 (a3.mods hMW)) (hone l2 b1 e2 (b3.mods hMW));rw [show decide ([A1[i]]=[rs2[k]])=BB by rw [← hBB]; simp] at this;exact this
   have HC:=QH (AI hcall hBB);clear hcall hone hBB;go_upto_region 23 with fail;go_cut [22] from 150 to 160 (fun s wx => s = .bool BB ∧ Mods [] wr wx)
   case first =>
    apply zfv AC [] [0,1,2,3,5,6,7,8] (.two 4 [] (.one 9 [] (.one 10 [] (.one 11 [] .fin))) 9 [] (.one 4 [] (.one 10 [] (.one 11 [] .fin)))) [] AC (fun y => y.cell? ⟨ab,aof + i,none⟩ = some (.slice va 3 c1) ∧ y.cell? ⟨cb,cof + k,none⟩ = some (.slice vc 3 c2))
    case hC => exact ⟨a2,b2⟩
    case hfree =>intro y;exact rfl
    case hwalk =>rintro y ⟨y1,y2⟩;change wpQuiet _ _ _ _ [_,_,_,_,_,_,_,_] (Act.mk _ _);(repeat go_big_quiet_step (fail));refine QW ?_;exact rfl
    case hrun =>
     change segV _ _ _ _ (.two _ _ [] (.one _ _ [] (.one _ _ [] (.one _ _ [] .fin))) _ _ [] (.one _ _ [] (.one _ _ [] (.one _ _ [] .fin)))) _ _;have hdr:=(QM [] wr).drew;have f1:=hdr.cell a2;have f2:=hdr.cell b2;have HDR:=QH hdr;clear hdr a2 b2;generalize wr.drew=W0 at *;refine zdK ?_ ?_
     ·refine zp fun RR hR => ?_;go_wp2_with fail;have hz:Mods [] W0 (W0.alloc (.cells #[.slice va 3 c1] 39)):=(QM _ _).alloc _;have e1:=za (QN W0 (.cells #[.slice va 3 c1] 39)) 0;change World.cell? _ _=some (.slice va 3 c1) at e1;have gFb:=QH trivial;exact yfe
     ·refine zp fun RR hR => ?_;go_wp2_with fail;have hz:Mods [] W0 (W0.alloc (.cells #[.slice vc 3 c2] 39)):=(QM _ _).alloc _;have e1:=za (QN W0 (.cells #[.slice vc 3 c2] 39)) 0;change World.cell? _ _=some (.slice vc 3 c2) at e1;have gFc:=QH trivial;exact yfe
   case rest =>
   obtain ⟨rfl,hMx⟩:=hcut;obtain ⟨hno,hMk,hM9k,-,-,-,-,-,-,hu⟩:=HK.out;have hku:k < us.length:=by omega
   obtain ⟨u,hue⟩:=EX (us[k]);have hus:us[k]? = some u:=by rw [List.getElem?_eq_getElem hku,hue]
   have hrs:rs2[k]? = some rs2[k]:=List.getElem?_eq_getElem hkC;have hu2:=hMx.heap hu;have uc:wc.cell? ⟨ub,k,none⟩ = some (.int .i64 (u:Nat)):=by rw [za hu2 k];unfold zpL;simp [hus]
   have hBB:=HC.out.2;have HN:=QH (AI hno (AI (hMk.trans hMx) (AI (hM9k.trans hMx) (AI hu2 (AI hus (AI hrs hBB))))));clear hno hMk hM9k hu hku hue hus hrs hMx hBB HC HK a2 b2;generalize wc=wz at *;have hnext:(BB=false ∨ ¬ u=0) → ∀ j,j < k + 1 → ¬ (rs2[j]? = some A1[i] ∧ us[j]? = some 0):=fun h j hj hh => by
    obtain ⟨hno,-,-,-,hus,hrs,hBB⟩:=HN.out;rcases Nat.lt_or_ge j k with h1 | h1
    ·exact hno j h1 hh
    ·obtain rfl:j=k:=by omega
     rcases h with h | h
     ·rw [h] at hBB;rw [hrs] at hh;exact absurd (Option.some.inj hh.1).symm (of_decide_eq_false hBB)
     ·rw [hus] at hh;exact h (Option.some.inj hh.2)
   have HX:=QH hnext;clear hnext
   cases BB with
   | false =>
    clear uc;go_wp2_with fail;go_roundg (R - (k + 1))
    case measure => omega
    case rel => exact ⟨k + 1,by omega,rfl,by go_num,HX.out (.inl AB),HN.out.2.1⟩
   | true =>
    by_cases hu0:u=0
    ·subst hu0;have hfz:wz.frozen? ⟨ub,k,none⟩ = false:=zc HN.out.2.2.2.1 k;go_wp2_with fail;have hne:=HN.out.2.2.2.2.2.2;have hee:A1[i]=rs2[k]:=of_decide_eq_true hne;have hst:wz.heap[ub]? = _:=HN.out.2.2.2.1;have hset:(zpL us).setIfInBounds k (.int .i64 1)=zpL (us.set k 1):=by unfold zpL; simp [List.map_set]
     have hh:=zb hst k (.int .i64 1);rw [hset] at hh;have HY:=QH (AI hh (AI (zq0 (k:=k) HW.out.2.2 hiA (by rw [hee]; exact HN.out.2.2.2.2.2.1) HN.out.2.2.2.2.1) (HN.out.2.2.1.setCell (p:=⟨ub,k,none⟩) (.inr (Nat.le_of_eq HU.out.2.2.2)) (.int .i64 1))));clear hh hset hst hee hne;go_roundg (R - (i + 1))
     case measure => omega
     case rel => exact ⟨i + 1,us.set k 1,by omega,by go_num,by rw [List.length_set]; exact hul,HY.out.2.1,HY.out.1,HY.out.2.2⟩
    ·have hu1:¬ (u:Int)=0:=by omega
     go_wp2_with fail;go_roundg (R - (k + 1))
     case measure => omega
     case rel => exact ⟨k + 1,by omega,rfl,by go_num,HX.out (.inr hu0),HN.out.2.1⟩
  ·exfalso;obtain rfl:k=R:=by omega
   obtain ⟨j,h1,h2⟩:=zrr HW.out.2.2 hiA;exact hno j (by have:=(List.getElem?_eq_some_iff.1 h2).1; omega) ⟨h1,h2⟩
 ·obtain rfl:i=R:=by omega
  obtain ⟨f,hf⟩:=EX (min om i);obtain ⟨t,ht⟩:=EX (min (f + lm) i);obtain ⟨hAI,hBI,hCI,hlen3,hperm,hsort,hM9w,hA1l,hrl,-,-,hac,-,-,-,hB1,-⟩:=HF.out;have hft:f ≤ t:=by omega
  have hti:t ≤ i:=by omega
  have hfI:min (om:Int) (i:Int)=(f:Int):=by omega
  have htI:min ((f:Int) + (lm:Int)) (i:Int)=(t:Int):=by omega
  have hQl:((A1.take t).drop f).length=t - f:=by simp; omega
  have hBQ:B1=(A1.take t).drop f:=by
   rw [← hB1];unfold winR;rw [if_pos AA];simp only [Int.toNat_natCast];rw [List.drop_take];by_cases ho:om < i
   ·obtain rfl:f=om:=by omega
    rcases Nat.le_total (f + lm) i with h | h
    ·rw [show t - f=lm by omega]
    ·rw [List.take_of_length_le AE,List.take_of_length_le AE]
   ·rw [List.drop_of_length_le AA,List.drop_of_length_le AA,List.take_nil,List.take_nil]
  have h3:∀ r ∈ (A1.take t).drop f,r.length ≤ 1000:=fun r hr => by rw [hlen3 r (hperm.mem_iff.1 (List.mem_of_mem_take (List.mem_of_mem_drop hr)))]; decide
  have hsame:∀ (so:Option Addr) (sc:Nat),(so=ao.map (·.add f) ∨ t - f=0) → Calls Tryz.prog 10 #[.slice bo B1.length bc,.slice so (t - f) sc] wr fun e w' => e = .returned (.bool true) ∧ Mods [] wr w':=fun so sc hso => by
   have:=same15 wr bo so B1 ((A1.take t).drop f) B1.length (t - f) bc sc rfl hQl (by rw [hBQ,hQl]; omega) (by rw [hBQ]; exact h3) h3 (fun h0 => by
    obtain ⟨g,o,q1,q2,q3⟩:=hBI h0
    exact ⟨g,o,q1,q2,fun j hj => by
     obtain ⟨vo,k,q4,q5,q6⟩:=q3 j hj
     exact ⟨vo,k,q4,hM9.cell q5,q6.mods hM9⟩⟩) (fun h0 => by
    have hpos:0 < ((A1.take t).drop f).length:=List.length_pos_iff.2 h0;obtain ⟨g,o,rfl,q2,q3⟩:=hAI (by intro h; rw [h] at hA1l; simp at hA1l; omega);refine ⟨g,o + f,?_,by simp,fun j hj => ?_⟩
    ·rcases hso with h | h
     ·rw [h]; simp [Addr.add]
     ·omega
    ·have hj3:f + j < A1.length:=by simp at hj; omega
     obtain ⟨vo,k,q4,q5,q6⟩:=q3 (f + j) hj3;have he:((A1.take t).drop f)[j]=A1[f + j]:=by simp
     rw [he]
     exact ⟨vo,k,q4,by rw [Nat.add_assoc]; exact hM9.cell q5,q6.mods hM9⟩)
   rw [decide_eq_true hBQ] at this;exact this
  have HE:=QH (AI (hM9w.trans hM9) hsame);have htc:t ≤ ac:=by omega
  clear hpu hub hM9 hf ht hAI hBI hCI hlen3 hperm hsort hM9w hA1l hrl hac hB1 hQl hBQ h3 hsame HF HU;by_cases hcf:ac=f
  ·have hs1:=HE.out.2 ao 0 (.inr AA);subst hcf;rw [show t - ac=0 by omega] at hs1;exact ybD
  ·have hs1:=HE.out.2 _ (ac - f) (.inl rfl);exact ybD
theorem zpN (w:World) (hT:Tabs2 w ∧ CkVars w) (lao:Option Addr) (n cl:Nat) (C:Nat → Int × ByteArray × Bool) (hn:n ≤ 9223372036854775807) (hC:CellsIn w lao n C) (off:Nat) (ho:off < 256) (lim:Nat) (hl:lim < 256) (d:Bool) :
  Calls Tryz.prog 3 #[.slice lao n cl,.int .u8 off,.int .u8 lim,.bool d] w fun e w' => e = .returned (.bool true) ∧ Mods [] w w':=zq3 w hT lao n cl hn C hC off lim ho hl d
open Go.ChangeShapes Go.WideShapes Go.ChangeAt Go.RowKit Go.Deep
theorem zq4:∃ fs:Array Field,Tryz.prog.underlying 66 = some (.struct fs) ∧ oneCellFields Tryz.prog fs=true ∧ fs.size=3 ∧ fs.map (·.type) = #[2, 9, 4]:=
 ⟨_,Tryz.underlying66, by kernel_rfl,by kernel_rfl,by kernel_rfl⟩
theorem zq5 {H:Type} {enc:TypeId × Value → H} {W:World} {v:Value} {d:DataW H} {p:List MemPlace} (hval:Value.okWide Tryz.prog W .any 0 22 v) (h:DataW.Trod enc Tryz.prog W 0 (fun _ => true) true 22 v d p) :
  ∃ (ao:Option Addr) (len cap:Nat) (C:Nat → Int × ByteArray × Bool),v = .slice ao len cap ∧ (len ≤ 9223372036854775807 ∧ len ≤ cap ∧ (ao=none → len=0)) ∧ CellsIn W ao len C:=by
 have hC : Tryz.prog.cellsOf 66 = 3:=by kernel_rfl
 obtain ⟨fs,hs,h1,h6,hty⟩:=zq4;obtain ⟨ao,len,cap,hv,hl,hel⟩:=zhJ Tryz.underlying22 (Nat.lt_of_lt_of_eq (by decide:0 < 3) hC.symm) hval h;by_cases h0:0 < len
 ·obtain ⟨b,off,rfl,hi⟩:=hel h0;rw [hC] at hi
  obtain ⟨C,hX⟩:=choose_lt (α:=Int × ByteArray × Bool) (p:=fun i z => (W.cell? ⟨b,off + i * 3,none⟩ = some (.int .i64 z.1) ∧ W.cell? ⟨b,off + i * 3 + 1,none⟩ = some (.string z.2.1) ∧ W.cell? ⟨b,off + i * 3 + 2,none⟩ = some (.bool z.2.2)) ∧ (-9223372036854775808 ≤ z.1 ∧ z.1 ≤ 9223372036854775807) ∧ z.2.1.size ≤ 9223372036854775807) (n:=len) (fun i hil => by
   obtain ⟨cs,n,x,hcl,hcells,ht⟩:=hi i hil;have fld:∀ (j:Nat) (t:TypeId),(#[2, 9, 4]:Array TypeId)[j]? = some t → ∃ (v:Value) (m:Nat) (y:DataW H × List MemPlace),cs[j]? = some v ∧ DataW.trod enc Tryz.prog W 0 (fun _ => true) true m t [v]=some y:=by intro j t hj;rw [← hty,Array.getElem?_map] at hj;obtain ⟨f,hf,rfl⟩:=Option.map_eq_some_iff.1 hj;exact zhI hs h1 (hC.trans h6.symm) ht hf
   obtain ⟨v0,m0,y0,c0,t0⟩:=fld 0 _ rfl;obtain ⟨v1,m1,y1,c1,t1⟩:=fld 1 _ rfl;obtain ⟨v2,m2,y2,c2,t2⟩:=fld 2 _ rfl;obtain ⟨S,rfl,hS⟩:=zq6 Tryz.underlying2 t0;obtain ⟨s,rfl,hs5⟩:=ziD Tryz.underlying9 t1;obtain ⟨F,rfl⟩:=zqv Tryz.underlying4 t2;refine ⟨(S,s,F),⟨?_,?_,?_⟩,hS,hs5⟩
   ·have:=hcells 0 AA; rw [Nat.add_zero] at this; exact this.trans c0
   ·exact (hcells 1 AA).trans c1
   ·exact (hcells 2 AA).trans c2)
  exact ⟨_,len,cap,C,hv,hl,fun _ => ⟨b,off,rfl,hX⟩⟩
 ·exact ⟨ao,len,cap,fun _ => (0,⟨#[]⟩,false),hv,hl,fun h => absurd h h0⟩
end Go.Proofs.YtebljciefhfgbaaGreatDoor
