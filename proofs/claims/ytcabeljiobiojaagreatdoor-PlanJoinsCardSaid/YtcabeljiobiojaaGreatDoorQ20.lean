/-
  schema's names.fresh and names.right, walked: a table's names are noted. No condition but that Go's own variables hold what they were laid with.
-/
import Derived.Test.YtcabeljiobiojaaGreatDoorQ19
import Derived.Laws.StructEq
set_option linter.unusedVariables false
set_option maxRecDepth 100000
set_option maxHeartbeats 4000000
namespace Go.Proofs.YtcabeljiobiojaaGreatDoor
open Go.RowKit
theorem BG {p:Prop} (h:p:=by simp [results,Tryz.results44, go_sem,e0,e1,e2,Result.andThen]; try rfl):p:=h
theorem yfM {p:Prop} (h:p:=by
  have hM0:=(QM [] w).alloc (.cells #[.bool false,.int .i64 0,.string ⟨#[]⟩] 35);have hr0:=QN w (.cells #[.bool false,.int .i64 0,.string ⟨#[]⟩] 35)
  first
  |guard_hyp gGg
   have c0:=za hb 0;have c3:=za hb 3;have c7:=za hb 7;change w.cell? _=some (.string ⟨h.op.toArray⟩) at c0;rw [hop] at c0;change w.cell? _=some (.string ⟨#[99,111,108,117,109,110]⟩) at c0;change w.cell? _=some (.int .i64 (h.col:Nat)) at c3;change w.cell? _=some (.slice none 0 0) at c7;rw [hk] at c3 hc;have hM1:=hM0.alloc (.cells #[.bool false,.int .i64 0,.string ⟨#[]⟩,.bool false,.int .i64 0,.string ⟨#[]⟩] 35);have hr1:=((QM [] (w.alloc (.cells #[.bool false,.int .i64 0,.string ⟨#[]⟩] 35))).alloc (.cells #[.bool false,.int .i64 0,.string ⟨#[]⟩,.bool false,.int .i64 0,.string ⟨#[]⟩] 35)).heap hr0;replace c0:=hM1.cell c0;replace c3:=hM1.cell c3;replace c7:=hM1.cell c7;replace x0:=hM1.cell x0;replace x1:=hM1.cell x1;replace x2:=hM1.cell x2;have hmk:=zrc;have HM:=QH hM1;have HR:=QH hr1;clear hb hcs hxe hx hl hM0 hr0 hM1 hr1 hk hop hn hV;unfold zh;go_enter Tryz.func74, Tryz.ntmps74;go_wp2_with fail;generalize (w.alloc (.cells #[.bool false,.int .i64 0,.string ⟨#[]⟩] 35)).alloc (.cells #[.bool false,.int .i64 0,.string ⟨#[]⟩,.bool false,.int .i64 0,.string ⟨#[]⟩] 35)=w2 at *;go_loopg [20] 0 (fun gk t20 wr => gk=0 ∧ t20 = .int .i64 0 ∧ w2=wr)
   case atStart => exact ⟨rfl,rfl,rfl⟩
   obtain ⟨rfl,rfl,rfl⟩:=hrel;go_wp2_with (refine wpList_store_row rfl 35 (.tmp 4) (.tmp 77) rfl w.heap.size #[.bool x.z,.int .i64 x.n,.string x.s] rfl rfl 35 _ HR.out zpv rfl (zpW _ _ _) ?_);refine bodyPost_ret (zg rfl _ _ w.heap.size 35 #[.bool x.z,.int .i64 x.n,.string x.s] (0,0) _ rfl (zi _ HR.out) Tryz.underlying35 rfl zpv _ rfl) rfl ?_;exact ⟨rfl,HM.out.setRow (.inr (LR _)) _⟩
  |guard_hyp gGh
   have hca:=hE _ hM0;unfold zto at hca;have hrl:=zj hR;have HH:=QH (AI hM0 (AI hr0 (AI hR hrl)));clear hE hM0 hr0 hR hrl;unfold zh;go_enter Tryz.func42, Tryz.ntmps42;go_wp2_with fail;(with_reducible refine hca.mono ?_);rintro e w2 ⟨rfl,hM2⟩;obtain ⟨hM0,hr0,hR,hrl⟩:=HH.out;have hMw:=hM0.trans hM2;have hr2:=hM2.heap hr0;have hR2:=hMw.heap hR;have hMa:=(QM [] w2).alloc (.cells #[.bool false,.int .i64 0,.string ⟨#[]⟩] 35);have hba:=QN w2 (.cells #[.bool false,.int .i64 0,.string ⟨#[]⟩] 35);have hlt:=zj hr2;have hMb:Mods [] w2 ((w2.alloc (.cells #[.bool false,.int .i64 0,.string ⟨#[]⟩] 35)).setRow w2.heap.size #[.bool x.z,.int .i64 x.n,.string x.s]):=hMa.setRow (.inr (LR _)) _;have hbb:=zi #[.bool x.z,.int .i64 x.n,.string x.s] hba;have k1:=hMb.cell (za hR2 1);have f1:=zc (hMb.heap hR2) 1;change World.cell? _ _=some (.int .i64 0) at k1;have HB:=QH (AI hMw (AI hr2 (AI hR2 (AI hba (AI hMb (AI hbb (AI hlt hrl)))))));clear hca hM0 hr0 hR hMw hr2 hR2 hMa hlt hMb hbb hrl hM2;go_upto_region 4 with (refine wpList_store_row rfl 35 (.tmp 7) (.tmp 13) rfl w2.heap.size #[.bool x.z,.int .i64 x.n,.string x.s] rfl rfl 35 _ hba zpv rfl (zpW _ _ _) ?_);obtain ⟨hMw,hr2,hR2,-,hMb,hbb,hlt,hrl⟩:=HB.out;have hMc:Mods [rb] ((w2.alloc (.cells #[.bool false,.int .i64 0,.string ⟨#[]⟩] 35)).setRow w2.heap.size #[.bool x.z,.int .i64 x.n,.string x.s]) (((w2.alloc (.cells #[.bool false,.int .i64 0,.string ⟨#[]⟩] 35)).setRow w2.heap.size #[.bool x.z,.int .i64 x.n,.string x.s]).setCell ⟨rb,1,none⟩ (.int .i64 0)):=(QM _ _).setCell (.inl AB) _;have hs:=hMw.size;have hn7:w2.heap.size ≠ rb:=by omega
   have hn6:w.heap.size ≠ rb:=by omega
   have h7:=hMc.heap hbb (by simpa using hn7);have h6:=hMc.heap (hMb.heap hr2) (by simpa using hn6);have hRz:RunAt (((w2.alloc (.cells #[.bool false,.int .i64 0,.string ⟨#[]⟩] 35)).setRow w2.heap.size #[.bool x.z,.int .i64 x.n,.string x.s]).setCell ⟨rb,1,none⟩ (.int .i64 0)) rb pb:=zb (hMb.heap hR2) 1 _;have hMz:=((hMw.trans hMb).mono (L':=[rb])).trans hMc;generalize ((w2.alloc (.cells #[.bool false,.int .i64 0,.string ⟨#[]⟩] 35)).setRow w2.heap.size #[.bool x.z,.int .i64 x.n,.string x.s]).setCell ⟨rb,1,none⟩ (.int .i64 0)=w4 at *;have e0:=za h7 0;have e1:=za h7 1;have e2:=za h7 2;change w4.cell? _=some (.bool x.z) at e0;change w4.cell? _=some (.int .i64 x.n) at e1;change w4.cell? _=some (.string x.s) at e2;have HZ:=QH (AI hMz hRz);clear hMw hr2 hR2 hMb hbb hlt hrl hMc hs hn7 hn6 h7 hRz hMz hba k1 f1 HB;go_wp2_with (refine wpList_store_row rfl 35 (.tmp 6) (.tmp 24) rfl w.heap.size #[.bool x.z,.int .i64 x.n,.string x.s] rfl rfl 35 _ h6 zpv rfl (zpW _ _ _) ?_);have h3:=zi #[.bool x.z,.int .i64 x.n,.string x.s] h6;have e0:=za h3 0;have e1:=za h3 1;have e2:=za h3 2;change World.cell? _ _=some (.bool x.z) at e0;change World.cell? _ _=some (.int .i64 x.n) at e1;change World.cell? _ _=some (.string x.s) at e2;have hfz:=HZ.out.1.setRow (.inr (LR _)) #[.bool x.z,.int .i64 x.n,.string x.s];have hrz:RunAt (w4.setRow w.heap.size #[.bool x.z,.int .i64 x.n,.string x.s]) rb pb:=by have hrl:=HH.out.2.2.2;exact ((QM [w.heap.size] w4).setRow (.inl AB) _).heap HZ.out.2 AE
   refine bodyPost_ret (by simp [results,Tryz.results42, go_sem,e0,e1,e2,Result.andThen]; try rfl) rfl ?_;exact ⟨rfl,hfz,hrz⟩
  |guard_hyp gGi
   replace c0:=hM0.cell c0;replace hg:=hM0.cell hg;have hMz:=hM0.setRow (.inr (LR _)) #[.bool false,.int .i64 (n:Nat),.string ⟨#[]⟩];have h3:=zi #[.bool false,.int .i64 (n:Nat),.string ⟨#[]⟩] hr0;have HM:=QH hMz;clear hb hop he hM0 hMz;unfold zh;go_enter Tryz.func44, Tryz.ntmps44;go_wp2_with (refine wpList_store_row rfl 35 (.tmp 6) (.tmp 28) rfl w.heap.size #[.bool false,.int .i64 (n:Nat),.string ⟨#[]⟩] rfl rfl 35 _ hr0 zpv rfl (zpW _ _ _) ?_);have e0:=za h3 0;have e1:=za h3 1;have e2:=za h3 2;change World.cell? _ _=some (.bool false) at e0;change World.cell? _ _=some (.int .i64 (n:Nat)) at e1;change World.cell? _ _=some (.string ⟨#[]⟩) at e2;refine bodyPost_ret BG rfl ?_;exact ⟨rfl,HM.out⟩
 ):p:=h
open Go.Maps
def NMap (w:World) (mb:Nat) (met:Met):Prop:=∃ es clock,w.heap[mb]? = some (.map es clock) ∧ NRow es clock met
theorem NMap.mods {w w':World} {mb:Nat} {met:Met} {L:List Nat} (h:NMap w mb met) (hM:Mods L w w') (hn:mb ∉ L):NMap w' mb met:=by obtain ⟨es,c,h1,h2⟩:=h;exact ⟨es,c,hM.heap h1 hn,h2⟩
theorem zhz (w0 w:World) (hT:Tabs w0) (hM0:Mods [] w0 w) (mb:Nat) (hmb:w0.heap.size ≤ mb) (met:Met) (hN:NMap w mb met) (t:Int) (s:ByteArray) (hp:okP (t,s.data.toList)) :
  Calls Tryz.prog 72 #[.map (some mb),.int .i64 t,.string s] w fun e w' => e = .returned (.bool (!decide ((t,s.data.toList) ∈ met) && zbj s.data.toList)) ∧ Mods [mb] w w' ∧ ((t,s.data.toList) ∉ met → NMap w' mb ((t,s.data.toList) :: met)):=by
 obtain ⟨es,clock,hb,hR⟩:=hN;by_cases hn:(t,s.data.toList) ∈ met
 ·refine (zlc w mb es clock hb met hR t s hp hn).mono fun e w' h => ⟨?_,h.2,fun h2 => absurd hn h2⟩;rw [h.1]; simp [hn]
 ·refine (zlb w0 w hT hM0 mb hmb es clock hb met hR t s hp hn).mono fun e w' h => ⟨?_,h.2.1,fun _ => h.2.2⟩;rw [h.1]; simp [hn]
theorem ziZ {α:Type} {l:List α} {i:Nat} (h:i < l.length):l.drop i=l[i] :: l.drop (i + 1):=List.drop_eq_getElem_cons h
theorem zjO (k:Int) (met:Met) (c:Col) (cs:List Col):zeH k met (c :: cs)=if (k,c.nm) ∈ met then none else if zbj c.nm=true then (if zaN c.k c.s=true then zeH k ((k,c.nm) :: met) cs else none) else none:=rfl
theorem zle (w0 w:World) (hT:Tabs w0) (hM0:Mods [] w0 w) (mb:Nat) (hmb:w0.heap.size ≤ mb) (hmw:mb < w.heap.size) (met:Met) (hN:NMap w mb met) (k:Int) (hk : -9223372036854775808 ≤ k ∧ k ≤ 9223372036854775807) (t:Tbl) (ht:t.ok) (n:Nat) (hn:t.cols.length=n) (co:Option Addr) (cap:Nat) (hC:ColsIn w co t.cols [mb]) :
  Calls Tryz.prog 33 #[.map (some mb),.int .i64 k,.agg #[.string t.name,.slice co n cap]] w fun e w' => e = .returned (.bool (tblK k met t).isSome) ∧ Mods [mb] w w' ∧ ∀ m,tblK k met t=some m → NMap w' mb m:=by
 obtain ⟨hnm,hcl,hco⟩:=ht;have hMA:=((QM [mb] w).alloc (.cells #[.string t.name,.slice co n cap] 28));have hb5:=QN w (.cells #[.string t.name,.slice co n cap] 28);have hNA:=hN.mods ((QM [] w).alloc (.cells #[.string t.name,.slice co n cap] 28)) AB;have hneq:w.heap.size ≠ mb:=by omega
 have hmw1:mb < (w.alloc (.cells #[.string t.name,.slice co n cap] 28)).heap.size:=by rw [zl]; omega
 have HC:=QH hC;have HN:=QH hn;have HCO:=QH hco;have HRES:Hid (∀ x w',tblK k met t=x → Mods [mb] w w' → (∀ m,x=some m → NMap w' mb m) → (Ending.returned (.bool x.isSome):Ending) = .returned (.bool (tblK k met t).isSome) ∧ Mods [mb] w w' ∧ ∀ m,tblK k met t=some m → NMap w' mb m):=QH (fun x w' h1 h2 h3 => ⟨by rw [h1],h2,fun m hm => h3 m (by rw [← h1,hm])⟩);clear hC hn hN hco;go_enter Tryz.func33, Tryz.ntmps33;go_wp2_with fail;generalize w.alloc (.cells #[.string t.name,.slice co n cap] 28)=w1 at *;generalize w.heap.size=tb at *;go_loopw [12] (fun t12 wr => ∃ (i:Nat) (m:Met),i ≤ n ∧ t12 = .int .i64 i ∧ Mods [mb] w1 wr ∧ NMap wr mb m ∧ Hid (zeH k met t.cols=zeH k m (t.cols.drop i))) (fun t12 _ => n - (intOf t12).toNat)
 case atStart => exact ⟨0,met,by omega,rfl,QM _ _,hNA,QH rfl⟩
 case round =>
  clear hNA;obtain ⟨i,m,hi,rfl,hM,hN,HK⟩:=hrel;by_cases hlt:i < n
  ·have hil:i < t.cols.length:=by rw [HN.out]; exact hlt
   have hne:t.cols ≠ []:=fun h => by rw [h] at hil; simp at hil
   obtain ⟨cb,off,rfl,hcb,hcells⟩:=HC.out hne;obtain ⟨c0,c1,c2,c3⟩:=hcells i hil;have hMx:=hMA.trans hM;have d0:=hMx.cell c0 hcb;have d1:=hMx.cell c1 hcb;have d2:=hMx.cell c2 hcb;have d3:=hMx.cell c3 hcb;have hK:=HK.out;rw [ziZ hil,zjO] at hK;have hcok:=HCO.out _ (List.getElem_mem hil);obtain ⟨c,hc⟩:=EX (t.cols[i]);rw [hc] at d0 d1 d2 d3 hK hcok;clear c0 c1 c2 c3 hc hcells HK;have hp:okP (k,c.name.data.toList):=⟨hk,hcok.2⟩;have hMB:=(QM [] wr).alloc (.cells #[.string c.name,.int .i64 c.k,.int .i64 c.s,.bool c.null] 61);have hM0r:Mods [] w0 (wr.alloc (.cells #[.string c.name,.int .i64 c.k,.int .i64 c.s,.bool c.null] 61)):=(hM0.trans (hMx.trans hMB) (fun x hx => .inr AQ));have hfr:=zhz w0 _ hT hM0r mb hmb m (hN.mods hMB AB) k c.name hp;have hty:=fun W => zdg c.k c.s W;have hKK:=QH hK;clear hM0r hK hp hcok;go_wp2_with fail;(with_reducible refine hfr.mono ?_);rintro e w2 ⟨rfl,hM2,hN2⟩;clear hfr;have hM2x:=hMx.trans (hMB.mono (L':=[mb]) AB);have hM3:=hM2x.trans hM2;have hlt2:=hM.size;have hne2:wr.heap.size ≠ mb:=by omega
   have hb9:=hM2.heap (QN wr (.cells #[.string c.name,.int .i64 c.k,.int .i64 c.s,.bool c.null] 61)) (by simpa using hne2);have e1:=za hb9 1;have e2:=za hb9 2;change w2.cell? _=some (.int .i64 c.k) at e1;change w2.cell? _=some (.int .i64 c.s) at e2;generalize wr.heap.size=cbk at *
   cases hb:(!decide ((k,c.name.data.toList) ∈ m) && zbj c.name.data.toList) with
   | false =>
    have hno:tblK k met t=none:=by
     unfold tblK;rw [hKK.out];by_cases h1:(k,c.nm) ∈ m
     ·rw [if_pos h1]
     ·rw [if_neg h1];have:¬ zbj c.nm=true:=by
       intro h2;have:(!decide ((k,c.nm) ∈ m) && zbj c.nm)=true:=by rw [h2]; simp [h1]
       rw [show (!decide ((k,c.nm) ∈ m) && zbj c.nm)=false from hb] at this;cases this
      rw [if_neg this]
    have fin:=QH (fun w' h => HRES.out none w' hno h (fun m hm => by cases hm));clear hno hKK HRES hN2 hM2 hM2x hb;go_wp2_with fail;go_ret;exact fin.out _ hM3
   | true =>
    simp only [Bool.and_eq_true,Bool.not_eq_true',decide_eq_false_iff_not] at hb;obtain ⟨hb1,hb2⟩:=hb;have hN3:=hN2 hb1;have hK:=hKK.out;rw [if_neg (show ¬ (k,c.nm) ∈ m from hb1),if_pos (show zbj c.nm=true from hb2)] at hK;clear hKK hN2 hb1 hb2
    cases htr:zaN c.k c.s with
    | false =>
     rw [htr] at hK hty;rw [if_neg AD] at hK;have hno:tblK k met t=none:=by unfold tblK;rw [hK]
     have fin:=QH (fun w' h => HRES.out none w' hno h (fun m hm => by cases hm));clear hno hK HRES hM2 hM2x htr hN3;go_wp2_with fail;(with_reducible refine (hty _).mono ?_);rintro e w3 ⟨rfl,hM4⟩;go_wp2_with fail;go_ret;exact fin.out _ (hM3.trans hM4)
    | true =>
     rw [htr] at hK hty;rw [if_pos rfl] at hK;have hKn:=QH hK;have hM12:=(hM.trans (hMB.mono (L':=[mb]) AB)).trans hM2;clear hK HRES hM2 hM2x htr;go_wp2_with fail;(with_reducible refine (hty _).mono ?_);rintro e w3 ⟨rfl,hM4⟩;have hM1:Mods [mb] w1 w3:=hM12.trans hM4;go_wp2_with fail;go_roundw
     case measure => simp [intOf]; omega
     case rel => exact ⟨i + 1,_,by omega,by go_num,hM1,hN3.mods hM4 AB,hKn⟩
  ·obtain rfl:n=i:=by omega
   have hK:=HK.out;have hnl:t.cols.length=n:=HN.out;rw [List.drop_of_length_le AA] at hK;change zeH k met t.cols=some m at hK;have hMx:=hMA.trans hM;have hbr:=hM.heap hb5 (by simpa using hneq);have hM0r:Mods [] w0 wr:=hM0.trans hMx (fun x hx => .inr AQ);have hp:okP (-1,t.name.data.toList):=⟨⟨by show (-9223372036854775808:Int) ≤ -1; omega,by show (-1:Int) ≤ _; omega⟩,hnm⟩;have hfr:=zhz w0 _ hT hM0r mb hmb m hN (-1) t.name hp;have hT1:tblK k met t=if (-1,t.nm) ∈ m then none else if zbj t.nm=true ∧ 1 ≤ t.cols.length ∧ t.cols.length ≤ 16 then some ((-1,t.nm) :: m) else none:=by unfold tblK;rw [hK]
   rw [hnl] at hT1;have HT1:=QH hT1;clear hT1 hK HK hM0r hp hnl;have e0:=za hbr 0;have e1:=za hbr 1;change wr.cell? _=some (.string t.name) at e0;change wr.cell? _=some (.slice co n cap) at e1;go_wp2_with fail;(with_reducible refine hfr.mono ?_);rintro e w2 ⟨rfl,hM2,hN2⟩;clear hfr;have g1:=hM2.cell e1 (by simpa using hneq);have hM3:=hMx.trans hM2
   cases hb:(!decide ((-1,t.name.data.toList) ∈ m) && zbj t.name.data.toList) with
   | false =>
    have hno:tblK k met t=none:=by
     rw [HT1.out];by_cases h1:(-1,t.nm) ∈ m
     ·rw [if_pos h1]
     ·rw [if_neg h1];have:¬ zbj t.nm=true:=by
       intro h2;have:(!decide ((-1,t.nm) ∈ m) && zbj t.nm)=true:=by rw [h2]; simp [h1]
       rw [show (!decide ((-1,t.nm) ∈ m) && zbj t.nm)=false from hb] at this;cases this
      rw [if_neg (fun h => this h.1)]
    have fin:=QH (fun w' h => HRES.out none w' hno h (fun m hm => by cases hm));clear hno HT1 HRES hN2 hM2 hb;go_wp2_with fail;go_ret;exact fin.out _ hM3
   | true =>
    simp only [Bool.and_eq_true,Bool.not_eq_true',decide_eq_false_iff_not] at hb;obtain ⟨hb1,hb2⟩:=hb;have hN3:=hN2 hb1;have hK:=HT1.out;rw [if_neg (show ¬ (-1,t.nm) ∈ m from hb1)] at hK;by_cases hrng:1 ≤ n ∧ n ≤ 16
    ·rw [if_pos ⟨hb2,hrng⟩] at hK;have fin:=QH (fun w' h h2 => HRES.out _ w' hK h h2);clear hK HT1 HRES hN2 hM2 hb1 hb2;have z1:(1:Int) ≤ n:=by omega
     have z2:(n:Int) ≤ 16:=by omega
     go_wp2_with fail;go_ret;exact fin.out _ hM3 (fun m' hm => by cases hm; exact hN3)
    ·rw [if_neg (fun h => hrng h.2)] at hK;have fin:=QH (fun w' h => HRES.out none w' hK h (fun m hm => by cases hm));clear hK HT1 HRES hN2 hM2 hb1 hb2;by_cases z1:(1:Int) ≤ n
     ·have z2:=decide_eq_false (show ¬ (n:Int) ≤ 16 by omega);go_wp2_with fail;go_ret;exact fin.out _ hM3
     ·have z3:=decide_eq_false z1;go_wp2_with fail;go_ret;exact fin.out _ hM3
theorem zrc (w:World):(Instr.makeSlice 36 (.int .i64 0) (.int .i64 2)).run Tryz.prog w = .ok (.slice (some ⟨w.heap.size,0,none⟩) 0 2) (w.alloc (.cells #[.bool false,.int .i64 0,.string ⟨#[]⟩,.bool false,.int .i64 0,.string ⟨#[]⟩] 35)):=by kernel_rfl
theorem zpv:(Tryz.prog.info? 35).map (·.size)=some 3:=by kernel_rfl
theorem zpW (z:Bool) (n:Int) (s:ByteArray):(#[.bool z,.int .i64 n,.string s]:Array Value).all (·.oneCell')=true:=by simp [Value.oneCell']
def zto (w:World) (v:V) (e:Ending) (w':World):Prop:=e = .returned (.tuple #[.agg #[.bool v.z,.int .i64 v.n,.string v.s],.int .i64 0]) ∧ Mods [] w w'
theorem zrd (w:World) (h:NHd) (v:Value) (hN:NAt w [] v (.leaf h)) (hop:h.op=oColumn) (ao:Option Addr) (cap:Nat) (vs:List V) (n:Nat) (hn:vs.length=n) (hV:ValsIn w ao vs []) (hc:h.col < n) (k:Nat) (hk:h.col=k) (x:V) (hx:vs[k]? = some x) :
  Calls Tryz.prog 74 #[v,.slice ao n cap] w (zto w x):=by
 obtain ⟨b,rfl,-,hb⟩:=hN;have hl:k < vs.length:=(List.getElem?_eq_some_iff.1 hx).1;have hxe:vs[k]=x:=(List.getElem?_eq_some_iff.1 hx).2;obtain ⟨tb,off,rfl,-,hcs⟩:=hV (fun h0 => by rw [h0] at hl; simp at hl);obtain ⟨x0,x1,x2⟩:=hcs k hl;rw [hxe] at x0 x1 x2;have gGg:=QH trivial;exact yfM
def RunAt (w:World) (rb pb:Nat):Prop:=w.heap[rb]? = some (.cells #[zh pb,.int .i64 0] 83 (0,0))
theorem RunAt.mods {w w':World} {rb pb:Nat} {L:List Nat} (h:RunAt w rb pb) (hM:Mods L w w') (hn:rb ∉ L):RunAt w' rb pb:=hM.heap h hn
def valA (v:V):Value:=.agg #[.bool v.z,.int .i64 v.n,.string v.s]
theorem zre (w:World) (rb pb:Nat) (hR:RunAt w rb pb) (v row:Value) (x:V)
  (hE:∀ W,Mods [] w W → Calls Tryz.prog 74 #[v,row] W (zto W x)) :
  Calls Tryz.prog 42 #[zh rb,v,row] w fun e w' => e = .returned (valA x) ∧ Mods [rb] w w' ∧ RunAt w' rb pb:=by
 have gGh:=QH trivial;exact yfM
theorem ValsIn.weaken {w:World} {ao:Option Addr} {vs:List V} {L L':List Nat} (hL:∀ x ∈ L',x ∈ L) (h:ValsIn w ao vs L):ValsIn w ao vs L':=fun h0 => by obtain ⟨tb,off,h1,h2,h3⟩:=h h0;exact ⟨tb,off,h1,fun hm => h2 (hL _ hm),h3⟩
theorem ValsIn.fresh {w:World} {ao:Option Addr} {vs:List V} {L:List Nat} {g:Nat} (hg:w.heap.size ≤ g) (h:ValsIn w ao vs L):ValsIn w ao vs (g :: L):=fun h0 => by
 obtain ⟨tb,off,h1,h2,h3⟩:=h h0;refine ⟨tb,off,h1,fun hm => ?_,h3⟩;rcases MC hm with rfl | hm
 ·have:=zD (h3 0 (List.length_pos_iff.2 h0)).1;change tb < w.heap.size at this;omega
 ·exact h2 hm
def RowR:zel (List V):=fun w L cs r => ∃ vo c,cs=[.slice vo r.length c] ∧ r.length ≤ c ∧ ValsIn w vo r L
theorem rowRep:Rep RowR:=⟨fun ⟨vo,c,h1,h2,h3⟩ hM => ⟨vo,c,h1,h2,h3.mods hM⟩,fun hL ⟨vo,c,h1,h2,h3⟩ => ⟨vo,c,h1,h2,h3.weaken hL⟩,fun hg ⟨vo,c,h1,h2,h3⟩ => ⟨vo,c,h1,h2,h3.fresh hg⟩⟩
structure RowsC (w1 wr:World) (t:Value) (rs:List (List V)):Prop where
 size:w1.heap.size ≤ wr.heap.size
 row:∃ css,wr.ownsRow 0 37 1 t rs.length css.flatten ∧ ∀ L:List Nat,(∀ x ∈ L,x < w1.heap.size ∨ t.ownBlock=some x) → AllR RowR wr L css rs
 own:∀ g,t.ownBlock=some g → w1.heap.size ≤ g
theorem RowsC.start (w1:World):RowsC w1 w1 (.slice none 0 0) []:=
 ⟨LR _,⟨[],World.ownsRow_nil _ _ _ _,fun L _ => trivial⟩,fun g hg => nomatch (show (none:Option Nat)=some g from hg)⟩
theorem RowsC.later {w1 wr w':World} {t:Value} {rs:List (List V)} (h:RowsC w1 wr t rs) {Lw:List Nat} (hM:Mods Lw wr w') (hL:∀ x ∈ Lw,x < w1.heap.size):RowsC w1 w' t rs:=by
 obtain ⟨h1,⟨css,h2,h3⟩,h4⟩:=h;refine ⟨Nat.le_trans h1 hM.size,⟨css,zm h2 hM (fun g hg hm => by have:=h4 g hg; have:=hL g hm; omega),fun L hx => ?_⟩,h4⟩
 have h5:=h3 (L ++ Lw) (fun x hm => by
  rcases List.mem_append.1 hm with hm | hm
  ·exact hx x hm
  ·exact .inl (hL x hm))
 exact (h5.map fun c x hc => rowRep.mods hc (hM.mono (fun y hy => .inl (List.mem_append_right _ hy)))).map fun c x hc => rowRep.weaken (fun y hy => List.mem_append_left _ hy) hc
theorem RowsC.push {w1 wr w':World} {t:Value} {rs:List (List V)} (h:RowsC w1 wr t rs) {css:List (List Value)} (hrow:wr.ownsRow 0 37 1 t rs.length css.flatten) (hall:∀ L:List Nat,(∀ x ∈ L,x < w1.heap.size ∨ t.ownBlock=some x) → AllR RowR wr L css rs)
  {r:List V} {c:List Value} (hr:∀ L:List Nat,(∀ x ∈ L,x < w1.heap.size ∨ t.ownBlock=some x) → RowR wr L c r) {g cap k:Nat} (hk:rs.length=k)
  (hown:w'.ownsRow 0 37 1 (.slice (some ⟨g,0,none⟩) (k + 1) cap) (k + 1) (css.flatten ++ c)) (hM:Mods t.ownBlock.toList wr w') (hg:t.ownBlock=some g ∨ wr.heap.size ≤ g) :
  RowsC w1 w' (.slice (some ⟨g,0,none⟩) (k + 1) cap) (rs ++ [r]):=by
 subst hk;refine ⟨Nat.le_trans h.size hM.size,⟨css ++ [c],by simpa using hown,fun L hL => ?_⟩,fun x hx => ?_⟩
 ·have hL2:∀ x ∈ (L.filter (fun x => decide (x < w1.heap.size))) ++ t.ownBlock.toList,x < w1.heap.size ∨ t.ownBlock=some x:=fun x hx => by
   rcases List.mem_append.1 hx with hx | hx
   ·exact .inl (by simpa using (List.mem_filter.1 hx).2)
   ·exact .inr AJ
  have h1:=AllR.snoc (hr _ hL2) (hall _ hL2);rcases hg with hg | hg
  ·have h2:=h1.map (L':=L.filter (fun x => decide (x < w1.heap.size)) ++ t.ownBlock.toList) fun c x hc => rowRep.mods (w':=w') hc (hM.mono (fun y hy => .inl (List.mem_append_right _ hy)));refine h2.map fun c x hc => rowRep.weaken (fun y hy => ?_) hc;rcases hL y hy with h | h
   ·exact List.mem_append_left _ (List.mem_filter.2 ⟨hy,by simpa using h⟩)
   ·obtain rfl:g=y:=by simpa [Value.ownBlock] using h
    exact List.mem_append_right _ (by simp [hg])
  ·have h0:=h1.map (L':=g :: (L.filter (fun x => decide (x < w1.heap.size)) ++ t.ownBlock.toList)) fun c x hc => rowRep.fresh hg hc;have h2:=h0.map (L':=g :: (L.filter (fun x => decide (x < w1.heap.size)) ++ t.ownBlock.toList)) fun c x hc => rowRep.mods (w':=w') hc (hM.mono (fun y hy => .inl (CM _ (List.mem_append_right _ hy))));refine h2.map fun c x hc => rowRep.weaken (fun y hy => ?_) hc;rcases hL y hy with h | h
   ·exact CM _ (List.mem_append_left _ (List.mem_filter.2 ⟨hy,by simpa using h⟩))
   ·obtain rfl:g=y:=by simpa [Value.ownBlock] using h
    exact List.mem_cons_self
 ·obtain rfl:g=x:=by simpa [Value.ownBlock] using hx
  rcases hg with hg | hg
  ·exact h.own g hg
  ·exact Nat.le_trans h.size hg
instance:DecidableEq V:=fun ⟨a,b,c⟩ ⟨d,e,f⟩ => decidable_of_iff (a=d ∧ b=e ∧ c=f) AB
theorem zrS : Tryz.prog.underlying 35 = some (.struct (Tryz.prog.fieldsOf 35)):=by kernel_rfl
theorem zrP : Tryz.prog.stoodInHeld 35 = false:=by kernel_rfl
theorem zrp:(Tryz.prog.fieldsOf 35).toList.map (fun f => (f.name,f.type,f.offset))=[("Null", 4, 0),("N", 2, 1),("S", 9, 2)]:=by kernel_rfl
theorem zrz (z:Bool) (x:Int) (t:ByteArray) (W:World):(part 4 #[.bool z,.int .i64 x,.string t] 0).run Tryz.prog W = .ok (.bool z) W:=by kernel_rfl
theorem zrA (z:Bool) (x:Int) (t:ByteArray) (W:World):(part 2 #[.bool z,.int .i64 x,.string t] 1).run Tryz.prog W = .ok (.int .i64 x) W:=by kernel_rfl
theorem zrB (z:Bool) (x:Int) (t:ByteArray) (W:World):(part 9 #[.bool z,.int .i64 x,.string t] 2).run Tryz.prog W = .ok (.string t) W:=by kernel_rfl
theorem zrT (z z2:Bool) (x x2:Int) (t t2:ByteArray) (W:World) :
  (Op.eqFields 9999 #[.bool z,.int .i64 x,.string t] #[.bool z2,.int .i64 x2,.string t2] (Tryz.prog.fieldsOf 35).toList).run Tryz.prog W = .ok (decide ((⟨z,x,t⟩ : V) = ⟨z2,x2,t2⟩)) W:=by
 have h:=zrp;generalize (Tryz.prog.fieldsOf 35).toList=fs at *;obtain _ | ⟨f,_ | ⟨g,_ | ⟨k,_ | ⟨l,fs⟩⟩⟩⟩:=fs <;> simp at h;obtain ⟨⟨a1,a2,a3⟩,⟨b1,b2,b3⟩,c1,c2,c3⟩:=h;have q0:=fun w => run_equalIn_bool' (P:= Tryz.prog) w 9998 4 z z2 AC;have q1:=fun w => run_equalIn_int (P:= Tryz.prog) w 9998 2 .i64 .i64 x x2 AC;have q2:=fun w => run_equalIn_string (P:= Tryz.prog) w 9998 9 t t2 AC;simp only [Nat.reduceAdd] at q0 q1 q2;have e2:(t.toList == t2.toList)=decide (t=t2):=by
  rw [ByteArray.toList_eq,ByteArray.toList_eq];by_cases h:t=t2
  ·subst h; simp
  ·have h2:¬ t.data.toList=t2.data.toList:=fun e => h (ByteArray.ext (Array.ext' e));simp only [h,decide_false,beq_eq_false_iff_ne,ne_eq];exact h2
 rw [e2] at q2;simp only [Op.eqFields,a1,a2,a3,b1,b2,b3,c1,c2,c3,Sem.run_bind,zrz,zrA,zrB,Result.andThen_ok,q0,q1,q2,Sem.run_ite,Sem.run_pure];by_cases hz:z=z2
 ·by_cases hx:x=x2
  ·by_cases ht:t=t2
   ·simp [hz,hx,ht]
   ·simp [hz,hx,ht]
  ·simp [hz,hx]
 ·simp [hz]
theorem zrq (z z2:Bool) (x x2:Int) (t t2:ByteArray) (W:World) :
  (binOp .neq 35 (.agg #[.bool z,.int .i64 x,.string t]) (.agg #[.bool z2,.int .i64 x2,.string t2])).run Tryz.prog W = .ok (.bool (!decide ((⟨z,x,t⟩ : V) = ⟨z2,x2,t2⟩))) W:=by
 rw [run_neq_struct,show (10000:Nat)=9999 + 1 from rfl,run_equalIn_agg W 9999 _ _ _ zrS zrP,zrT];rfl
theorem zqF (w:World) (rb:Nat) (ao:Option Addr) (cap:Nat) (row:Value) :
  Calls Tryz.prog 41 #[zh rb,.slice ao 0 cap,row] w fun e w' => e = .returned (.bool true) ∧ w'=w:=by
 unfold zh;go_enter Tryz.func41, Tryz.ntmps41;go_wp2_with fail;go_loopg [12] 0 (fun gk t12 wr => gk=0 ∧ t12 = .int .i64 0 ∧ w=wr)
 case atStart => exact ⟨rfl,rfl,rfl⟩
 obtain ⟨rfl,rfl,rfl⟩:=hrel;go_wp2_with fail;go_ret;exact ⟨rfl,rfl⟩
def zV3:Value:=.agg #[.bool false,.int .i64 0,.string ⟨#[]⟩]
theorem zqG:(Tryz.prog.info? 35).map (fun i => (i.zero,i.size,i.bytes))=some (some zV3,3,32):=by kernel_rfl
def mkC (n:Nat):Array Value:=madeCells zV3.cells (n * 3)
theorem zqH (w:World) (l n:Nat) (hl:l ≤ n) (h:n ≤ 1000) :
  (Instr.makeSlice 37 (.int .i64 l) (.int .i64 n)).run Tryz.prog w = .ok (.slice (some ⟨w.heap.size,0,none⟩) l n) (w.alloc (.cells (mkC n) 35)):=by
 obtain ⟨i0,hi,hz0,hz1,hz2⟩:=info_parts zqG;have:=run_make (P:= Tryz.prog) w 37 35 i0 zV3 Tryz.underlying37 hi hz0 .i64 .i64 l n AA AA (by rw [hz2]; omega) AA;rw [this,hz1];rfl
def zph (vs:List V):List Value:=vs.flatMap fun v => [.bool v.z,.int .i64 v.n,.string v.s]
theorem zpR (vs:List V):(zph vs).length=vs.length * 3:=by
 induction vs with
 | nil => rfl
 | cons v vs ih => simp only [zph,List.flatMap_cons,List.length_append,List.length_cons,List.length_nil] at ih ⊢; omega
theorem zpX {w:World} {tb:Nat}:∀ {vs:List V} {off:Nat},(∀ i (h:i < vs.length),w.cell? ⟨tb,off + i * 3,none⟩ = some (.bool vs[i].z) ∧ w.cell? ⟨tb,off + i * 3 + 1,none⟩ = some (.int .i64 vs[i].n) ∧ w.cell? ⟨tb,off + i * 3 + 2,none⟩ = some (.string vs[i].s)) →
  ∀ j u,(zph vs)[j]? = some u → w.cell? ⟨tb,off + j,none⟩ = some u:=by
 intro vs
 induction vs with
 | nil => intro off h j u hj; simp [zph] at hj
 | cons v vs ih =>
  intro off h j u hj;obtain ⟨h0,h1,h2⟩:=h 0 AB
  match j,hj with
  | 0,hj => cases (show some (Value.bool v.z)=some u from hj); exact h0
  | 1,hj => cases (show some (Value.int .i64 v.n)=some u from hj); exact h1
  | 2,hj => cases (show some (Value.string v.s)=some u from hj); exact h2
  | j + 3,hj =>
   have:=ih (off:=off + 3) (fun i hi => by
    have h:=h (i + 1) BA;rw [show off + (i + 1) * 3=off + 3 + i * 3 by omega] at h
    exact h) j u hj
   rw [show off + (j + 3)=off + 3 + j by omega];exact this
theorem zpw {w:World} {g:Nat}:∀ {vs:List V} {off:Nat},(∀ j u,(zph vs)[j]? = some u → w.cell? ⟨g,off + j,none⟩ = some u) →
  ∀ i (h:i < vs.length),w.cell? ⟨g,off + i * 3,none⟩ = some (.bool vs[i].z) ∧ w.cell? ⟨g,off + i * 3 + 1,none⟩ = some (.int .i64 vs[i].n) ∧ w.cell? ⟨g,off + i * 3 + 2,none⟩ = some (.string vs[i].s):=by
 intro vs
 induction vs with
 | nil => intro off h i hi; simp at hi
 | cons v vs ih =>
  intro off h i hi
  cases i with
  | zero => exact ⟨h 0 _ rfl,h 1 _ rfl,h 2 _ rfl⟩
  | succ i =>
   have:=ih (off:=off + 3) (fun j u hj => by
    have h:=h (j + 3) u hj;rw [show off + (j + 3)=off + 3 + j by omega] at h
    exact h) i BA
   rw [show off + (i + 1) * 3=off + 3 + i * 3 by omega];exact this
theorem zqn (vs:List V):∀ u ∈ zph vs,u.oneCell'=true:=by intro u hu;simp only [zph,List.mem_flatMap,List.mem_cons,List.not_mem_nil,or_false] at hu;obtain ⟨v,-,rfl | rfl | rfl⟩:=hu <;> rfl
theorem zqe {w:World} {g n cap:Nat} {vs:List V} {L:List Nat} (hn:vs.length=n) (h:w.ownsRow 0 35 3 (.slice (some ⟨g,0,none⟩) n cap) n (zph vs)) (hg:g ∉ L):ValsIn w (some ⟨g,0,none⟩) vs L:=
 fun _ => ⟨g,0,rfl,hg,zpw (off:=0) (fun j u hj => by rw [Nat.zero_add]; exact (zar h).2.2 j u hj)⟩
def zpp (rs:List (List V)):Prop:=rs.length ≤ 1000 ∧ ∀ r ∈ rs,0 < r.length ∧ r.length ≤ 100
end Go.Proofs.YtcabeljiobiojaaGreatDoor
