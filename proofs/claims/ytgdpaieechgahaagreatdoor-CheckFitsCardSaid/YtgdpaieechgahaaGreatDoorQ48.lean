/-
  The law's digits, letters, walked. No condition but sizes.
-/
import Derived.Test.YtgdpaieechgahaaGreatDoorQ47
set_option linter.unusedVariables false
set_option maxRecDepth 100000
set_option maxHeartbeats 8000000
namespace Go.Proofs.YtgdpaieechgahaaGreatDoor
open Go.RowKit
theorem zo1 (n:Nat):(UInt8.ofNat (48 + n % 10)).toNat=48 + n % 10:=by rw [UInt8.toNat_ofNat'];omega
theorem convD (w:World) (n:Nat):(convert 73 9 (.slice (some ⟨w.heap.size,0,none⟩) 1 1)).run Tryz.prog (w.alloc (.cells #[.int .u8 (48 + (n:Int) % 10)] 5)) = .ok (.string ⟨(dg n).toArray⟩) (w.alloc (.cells #[.int .u8 (48 + (n:Int) % 10)] 5)):=by
 have:=run_convert_bytes_back (P:= Tryz.prog) (w.alloc (.cells #[.int .u8 (48 + (n:Int) % 10)] 5)) 73 9 5 ⟨w.heap.size,0,none⟩ 1 (dg n) Tryz.underlying73 Tryz.underlying5 Tryz.underlying9 (by
  intro j hj;obtain rfl:j=0:=by simp only [dg,List.length_cons,List.length_nil] at hj; omega
  rw [zci,za (QN w _)];have:(((UInt8.ofNat (48 + n % 10)).toNat:Nat):Int)=48 + (n:Int) % 10:=by rw [zo1]; omega
  show some (Value.int .u8 (48 + (n:Int) % 10))=some (Value.int .u8 (((UInt8.ofNat (48 + n % 10)).toNat:Nat):Int))
  rw [this])
 exact this
theorem zlY {f m:Nat} {s:Bs} (h:¬ 9 < m):digF f m s=s:=by
 cases f with
 | zero => rfl
 | succ f => unfold digF; rw [if_neg h]
theorem zcU (w:World) (n:Nat) (hn:n < 65536):Calls Tryz.prog 11 #[.int .u16 n] w fun e w' => e = .returned (.string ⟨(zdo n).toArray⟩) ∧ Mods [] w w':=by
 have hc0:=convD w n;have hwz:∀ m:Nat,IntKind.u16.wrap (48 + (m:Int) % 10)=48 + (m:Int) % 10:=fun m => IntWalk.u16_in _ (by omega);have hvz:∀ m:Nat,IntKind.u8.wrap (48 + (m:Int) % 10)=48 + (m:Int) % 10:=fun m => IntWalk.u8_in _ (by omega);have hw1:=hwz n;have hv1:=hvz n;have hD:(⟨(dg n).toArray⟩ : ByteArray).size ≤ 1:=LR _;obtain ⟨D,hDe⟩:=EX ((⟨(dg n).toArray⟩ : ByteArray):ByteArray);rw [hDe] at hc0;have HD:=QH hDe;have hM0:=(QM [] w).alloc (.cells #[.int .u8 (48 + (n:Int) % 10)] 5);clear hDe hD;go_enter Tryz.func11, Tryz.ntmps11;go_wp2_with fail;clear hc0 hw1 hv1;go_loopg [0,3] 5 (fun gk t0 t3 wr => ∃ (m:Nat) (s:Bs),t0 = .int .u16 m ∧ t3 = .string ⟨s.toArray⟩ ∧ m < 10 ^ gk ∧ m < 65536 ∧ s.length + gk=6 ∧ digF gk m s=zdo n ∧ Mods [] w wr)
 case atStart => exact ⟨n,dg n,rfl,by rw [HD.out],by omega,hn,rfl,rfl,hM0⟩
 obtain ⟨m,s,rfl,rfl,hm10,hm,hsl,hF,hMr⟩:=hrel;by_cases h9:9 < m
 ·cases gk with
  | zero => omega
  | succ gk =>
  have hF2:digF gk (m / 10) (dg (m / 10) ++ s)=zdo n:=by
   rw [← hF];show _=if 9 < m then _ else _
   rw [if_pos h9]
  have hlen:(dg (m / 10) ++ s).length + gk=6:=by rw [List.length_append];show 1 + s.length + gk=6;omega
  have hm2:m / 10 < 10 ^ gk:=by rw [Nat.pow_succ] at hm10;exact Nat.div_lt_of_lt_mul (by omega)
  have hqz:IntKind.u16.wrap ((m:Int).tdiv 10)=((m / 10:Nat):Int):=by rw [Int.tdiv_eq_ediv_of_nonneg (by omega)];exact (IntWalk.u16_in _ (by omega)).trans (by omega)
  have hc:=convD wr (m / 10);have hw1:=hwz (m / 10);have hv1:=hvz (m / 10);have hcat:(⟨(dg (m / 10)).toArray⟩ : ByteArray) ++ ⟨s.toArray⟩ = ⟨(dg (m / 10) ++ s).toArray⟩:=cat2 _ _;have hs1:(⟨s.toArray⟩ : ByteArray).size ≤ 6:=by show s.length ≤ 6; omega
  have hs2:(⟨(dg (m / 10)).toArray⟩ : ByteArray).size=1:=rfl;have hMn:=hMr.alloc (.cells #[.int .u8 (48 + ((m / 10:Nat):Int) % 10)] 5);have hM6:m / 10 < 65536:=by omega
  have hgz:(9:Int) < (m:Int):=by omega
  have e10:((m / 10:Nat):Int)=(m:Int) / 10:=by omega
  rw [e10] at hc hw1 hv1 hMn hqz;obtain ⟨D1,hD1⟩:=EX ((⟨(dg (m / 10)).toArray⟩ : ByteArray):ByteArray);obtain ⟨S1,hS1⟩:=EX ((⟨s.toArray⟩ : ByteArray):ByteArray);rw [hD1] at hc hcat hs2;rw [hS1] at hcat hs1;rw [hS1];have n1:¬ 9223372036854775807 < D1.size + S1.size:=by omega
  have HC:=QH hcat;have HF:=QH (AI hm2 (AI hlen hF2));clear hcat hF hF2 hlen hm2 hm10 h9 hD1 hS1 hwz hvz hsl HD e10;go_wp2_with fail;go_roundg gk
  case measure => omega
  case rel => exact ⟨m / 10,dg (m / 10) ++ s,by go_num,by rw [HC.out],HF.out.1,hM6,HF.out.2.1,HF.out.2.2,hMn⟩
 ·rw [zlY h9] at hF;subst hF;have hgz:¬ (9:Int) < (m:Int):=by omega
  clear hm10 h9 hwz hvz hsl HD;go_wp2_with fail;go_ret;exact ⟨rfl,hMr⟩
def letN (s:Bs) (i:Nat):Bs:=(s.take i).filter (fun c => decide (c ≠ 39))
theorem zlZ (s:Bs) (i:Nat) (h:i < s.length):letN s (i + 1)=if s[i]=39 then letN s i else letN s i ++ [s[i]]:=by
 unfold letN;rw [List.take_add_one,List.getElem?_eq_getElem h,List.filter_append];by_cases hc:s[i]=39
 ·rw [if_pos hc,hc]; simp
 ·rw [if_neg hc]; simp [hc]
theorem znz (s:Bs) (i:Nat) (h:s.length ≤ i ∨ i=20) (h20:i ≤ 20):letN s i=letV s:=by
 unfold letN letV;rcases h with h | rfl
 ·rw [List.take_of_length_le h,List.take_of_length_le (by omega)]
 ·rfl
theorem znA (s:Bs) (i:Nat):(letN s i).length ≤ i:=by have h1:(letN s i).length ≤ (s.take i).length:=List.length_filter_le _ _;rw [List.length_take] at h1;omega
theorem ziA (w:World) (S:ByteArray) (hS:S.size ≤ 9223372036854775807):Calls Tryz.prog 33 #[.string S] w fun e w' => e = .returned (.string ⟨(letV S.data.toList).toArray⟩) ∧ Mods [] w w':=by
 have hM:=QM [] w;go_enter Tryz.func33, Tryz.ntmps33;go_wp2_with fail;go_loopg [3,4] 20 (fun gk t3 t4 wr => ∃ i:Nat,i + gk=20 ∧ i ≤ S.size ∧ t4 = .int .i64 i ∧ t3 = .string ⟨(letN S.data.toList i).toArray⟩ ∧ w=wr)
 case atStart => exact ⟨0,by omega,by omega,rfl,rfl,rfl⟩
 obtain ⟨i,hi,his,rfl,rfl,rfl⟩:=hrel;by_cases hlt:i < S.size ∧ i < 20
 ·obtain ⟨hlt2,hlt3⟩:=hlt;have hz1:(i:Int) < (S.size:Int):=by omega
  have hz2:(i:Int) < 20:=by omega
  have hl:S.data.toList.length=S.size:=rfl;have hil:i < S.data.toList.length:=by omega
  have hn:=zlZ S.data.toList i hil;have hsz:=znA S.data.toList i;obtain ⟨c,hc⟩:=EX (S.data.toList[i]);rw [hc] at hn;have hci:S[i]'hlt2=c:=by have hx:=s_at S i hlt2;rw [List.getElem?_eq_getElem hil,hc] at hx;exact (Option.some.inj hx).symm
  have hX:S.extract i (i + 1) = ⟨#[c]⟩:=by refine zgl (l:=[c]) ?_;rw [zbW,List.drop_eq_getElem_cons hil,hc]; rfl
  by_cases h39:c=39
  ·rw [if_pos h39] at hn;have z:((c.toNat:Int) != 39)=false:=by rw [h39]; rfl
   have HN:=QH hn;clear hn hsz hc hX h39;go_wp2_with fail;go_roundg (20 - (i + 1))
   case measure => omega
   case rel => exact ⟨i + 1,by omega,by omega,by go_num,by rw [HN.out],rfl⟩
  ·rw [if_neg h39] at hn;have z:((c.toNat:Int) != 39)=true:=bne_iff_ne.2 (fun h => h39 (UInt8.toNat_inj.1 (by show c.toNat=39; omega)));have hcat:(⟨(letN S.data.toList i).toArray⟩ : ByteArray) ++ ⟨#[c]⟩ = ⟨(letN S.data.toList i ++ [c]).toArray⟩:=cat2 _ [c];rw [← hn] at hcat;have hsz2:(⟨(letN S.data.toList i).toArray⟩ : ByteArray).size ≤ 20:=by show (letN S.data.toList i).length ≤ 20; omega
   obtain ⟨N,hN⟩:=EX ((⟨(letN S.data.toList i).toArray⟩ : ByteArray):ByteArray);rw [hN] at hcat hsz2;rw [hN];have n1:¬ 9223372036854775807 < N.size + 1:=by omega
   have HC:=QH hcat;have hi1:(i:Int) + 1 ≤ (S.size:Int):=by omega
   have hi2:((i:Int) + 1).toNat=i + 1:=by omega
   have hi3:IntKind.i64.wrap ((i:Int) + 1)=(i:Int) + 1:=IntWalk.i64_in _ (by omega);have hi4:(0:Int) ≤ (i:Int) + 1:=by omega
   have hi5:(i:Int) ≤ (i:Int) + 1:=by omega
   clear hn hsz hc h39 hcat hN;go_wp2_with fail;go_roundg (20 - (i + 1))
   case measure => omega
   case rel => exact ⟨i + 1,by omega,by omega,by go_num,by rw [HC.out],rfl⟩
 ·have hend:=znz S.data.toList i (by have hl:S.data.toList.length=S.size:=rfl; omega) (by omega);rw [hend];have hcase:(i:Int) < (S.size:Int) ∧ ¬ (i:Int) < 20 ∨ ¬ (i:Int) < (S.size:Int):=by omega
  clear hend hlt;rcases hcase with ⟨z1,z2⟩ | z1
  ·go_wp2_with fail;go_ret;exact ⟨rfl,hM⟩
  ·go_wp2_with fail;go_ret;exact ⟨rfl,hM⟩
theorem zl0 {n:Nat} (hn:n < 6) (hb:n < 1 ∨ 4 < n):∃ q,zaj (zdn n) = .good q ∧ zao tblsL q = .bad 75 13:=by
 have h:=zhB n hn;unfold namesOk at h
 cases hr:zaI (zdn n) with
 | none => rw [hr] at h; cases h
 | some r =>
  obtain ⟨q,hq,he⟩:=zgT hr (by simp);rw [hr] at h;cases he
  cases hc:zao tblsL q with
  | ok c =>rw [hc] at h;simp only [Bool.and_eq_true] at h;have:=of_decide_eq_true h.1;omega
  | bad p e =>rw [hc] at h;obtain ⟨-,rfl,rfl⟩:=of_decide_eq_true h;exact ⟨q,hq,hc⟩
theorem zj5 {n:Nat} (hn:n < 6) (hb:¬ (n < 1 ∨ 4 < n)):∃ q c,zaj (zdn n) = .good q ∧ zao tblsL q = .ok c ∧ c.names=[[97],[113],[99,51],[120]] ∧ c.order=[⟨1,true⟩,⟨2,false⟩,⟨3,false⟩,⟨n - 1,false⟩] ∧ c.right=some 1 ∧ c.grouped=false:=by
 have h:=zhB n hn;unfold namesOk at h
 cases hr:zaI (zdn n) with
 | none => rw [hr] at h; cases h
 | some r =>
  obtain ⟨q,hq,he⟩:=zgT hr (by simp);rw [hr] at h;cases he
  cases hc:zao tblsL q with
  | ok c =>rw [hc] at h;simp only [Bool.and_eq_true,Bool.not_eq_true'] at h;exact ⟨q,c,hq,hc,of_decide_eq_true h.2.1,of_decide_eq_true h.2.2.1,of_decide_eq_true h.2.2.2.1,h.2.2.2.2⟩
  | bad p e =>rw [hc] at h;exact absurd (of_decide_eq_true h).1 hb
theorem ziB {w:World} {v:Value} {a b c d:Bs} (h:ListIn NameR w [] v [a,b,c,d] 1):∃ g cap,v = .slice (some ⟨g,0,none⟩) 4 cap ∧ w.cell? ⟨g,0,none⟩ = some (.string ⟨a.toArray⟩) ∧ w.cell? ⟨g,1,none⟩ = some (.string ⟨b.toArray⟩) ∧ w.cell? ⟨g,2,none⟩ = some (.string ⟨c.toArray⟩) ∧ w.cell? ⟨g,3,none⟩ = some (.string ⟨d.toArray⟩):=by obtain ⟨ao,cap,rfl,h⟩:=h;obtain ⟨g,rfl,-,-,h4⟩:=h (by simp);obtain ⟨c0,e0,-,f0⟩:=h4 0 (by simp);obtain ⟨c1,e1,-,f1⟩:=h4 1 (by simp);obtain ⟨c2,e2,-,f2⟩:=h4 2 (by simp);obtain ⟨c3,e3,-,f3⟩:=h4 3 (by simp);exact ⟨g,cap,rfl,f0 0 _ (by rw [e0]; rfl),f1 0 _ (by rw [e1]; rfl),f2 0 _ (by rw [e2]; rfl),f3 0 _ (by rw [e3]; rfl)⟩
theorem zj6 {w:World} {v:Value} {a b c d:KeyC} (h:ListIn KeyCR w [] v [a,b,c,d] 2):∃ g cap,v = .slice (some ⟨g,0,none⟩) 4 cap ∧ w.cell? ⟨g,0,none⟩ = some (.int .i64 (a.item:Nat)) ∧ w.cell? ⟨g,1,none⟩ = some (.bool a.desc) ∧ w.cell? ⟨g,2,none⟩ = some (.int .i64 (b.item:Nat)) ∧ w.cell? ⟨g,4,none⟩ = some (.int .i64 (c.item:Nat)) ∧ w.cell? ⟨g,6,none⟩ = some (.int .i64 (d.item:Nat)):=by obtain ⟨ao,cap,rfl,h⟩:=h;obtain ⟨g,rfl,-,-,h4⟩:=h (by simp);obtain ⟨c0,e0,-,f0⟩:=h4 0 (by simp);obtain ⟨c1,e1,-,f1⟩:=h4 1 (by simp);obtain ⟨c2,e2,-,f2⟩:=h4 2 (by simp);obtain ⟨c3,e3,-,f3⟩:=h4 3 (by simp);exact ⟨g,cap,rfl,f0 0 _ (by rw [e0]; rfl),f0 1 _ (by rw [e0]; rfl),f1 0 _ (by rw [e1]; rfl),f2 0 _ (by rw [e2]; rfl),f3 0 _ (by rw [e3]; rfl)⟩
def namesS:Bs:=[83,69,76,69,67,84,32,97,44,32,98,32,65,83,32,113,44,32,97,32,43,32,49,44,32,117,46,120,32,70,82,79,77,32,116,32,74,79,73,78,32,117,32,79,78,32,84,82,85,69,32,79,82,68,69,82,32,66,89,32,113,32,68,69,83,67,44,32,99,51,44,32,120,44,32]
theorem zl1:∀ n,n < 6 → (⟨namesS.toArray⟩ : ByteArray) ++ ⟨(zdo n).toArray⟩ = ⟨(zdn n).toArray⟩:=by decide +kernel
theorem znB:∀ n,n < 6 → (⟨(zdo n).toArray⟩ : ByteArray).size=1:=by decide +kernel
theorem zl2 (n:Nat):(zdn n).length=76:=rfl
theorem zfu (w:World) (hT:Tabs3 w) (k:Nat) (hk:k < 256) :
  Calls Tryz.prog 4 #[.int .u8 k] w fun e w' => e = .returned (.bool true) ∧ Mods [] w w':=by
 have hex:=zb4 w hT;obtain ⟨n,hn,hnz⟩ : ∃ m:Nat,m < 6 ∧ (k:Int).tmod 6=(m:Int):=⟨k % 6,by omega,by rw [Int.tmod_eq_emod_of_nonneg (by omega)]; omega⟩;have hw16:IntKind.u16.wrap (n:Int)=n:=IntWalk.u16_in _ (by omega);obtain ⟨DN,hDN⟩:=EX ((⟨(zdo n).toArray⟩ : ByteArray):ByteArray);have hds:DN.size=1:=by rw [← hDN]; exact znB n hn
 have hcat:=zl1 n hn;rw [hDN] at hcat;have hdig:∀ W,Calls Tryz.prog 11 #[.int .u16 n] W fun e w' => e = .returned (.string DN) ∧ Mods [] W w':=fun W => by rw [← hDN]; exact zcU W n (by omega)
 have m1:¬ 9223372036854775807 < 75 + DN.size:=by omega
 have HT:=QH (AI hT (AI hcat hDN));clear hT hcat hDN;go_enter Tryz.func4, Tryz.ntmps4;go_wp2_with fail;(with_reducible refine hex.mono ?_);rintro e w2 ⟨rfl,hM2⟩;clear hex;go_wp2_with fail;(refine (hdig w2).mono ?_);rintro e w3 ⟨rfl,hM3⟩;have hM03:=hM2.trans hM3;clear hdig hM2 hM3;have hpp:∀ q,zaj (zdn n) = .good q → Calls Tryz.prog 10 #[.string ((⟨namesS.toArray⟩ : ByteArray) ++ DN)] w3 _:=fun q hq => by rw [HT.out.2.1]; exact zcb w3 (HT.out.1.later hM03).1.1 (zdn n) q hq (by rw [zl2]; decide)
 by_cases hb:n < 1 ∨ 4 < n
 ·obtain ⟨q,hq,hc⟩:=zl0 hn hb;have hp1:=hpp q hq;clear hpp;go_wp2_with fail;(refine (hp1.mono ?_));rintro e w4 ⟨qb,rfl,hM4,hQ,hok⟩;unfold zh;have htb:=zbI w4;have HQ:=QH (AI hM4 (AI hQ hok));have HM:=QH hM03;clear hM4 hQ hok hM03 hp1;go_wp2_with fail;(with_reducible refine htb.mono ?_);rintro e w5 ⟨tb,rfl,hM5,hI⟩;clear htb;have hM05:=(HM.out.trans HQ.out.1).trans hM5;have hck:=zbJ w5 (HT.out.1.later hM05) hI hq (HQ.out.2.1.later hM5) HQ.out.2.2;have HM5:=QH hM05;unfold zh at hck;clear hM5 hI hM05 hq;go_wp2_with fail;(with_reducible refine hck.mono ?_);rintro e w6 ⟨hM6,hres⟩;rw [hc] at hres;clear hck;have hres:e=_:=hres;subst hres;have h06:=HM5.out.trans hM6;clear hM6 hc;have hn2:n=0 ∨ n=5:=by omega
  clear hnz hw16 hb hn;rcases hn2 with rfl | rfl
  ·go_wp2_with fail;go_ret;exact ⟨rfl,h06⟩
  ·go_wp2_with fail;go_ret;exact ⟨rfl,h06⟩
 ·obtain ⟨q,c,hq,hc,hnm,hor,hri,hgr⟩:=zj5 hn hb;have hp1:=hpp q hq;have HC:=QH (AI hnm (AI hor (AI hri hgr)));clear hpp hnm hor hri hgr;go_wp2_with fail;(refine (hp1.mono ?_));rintro e w4 ⟨qb,rfl,hM4,hQ,hok⟩;unfold zh;have htb:=zbI w4;have HQ:=QH (AI hM4 (AI hQ hok));have HM:=QH hM03;clear hM4 hQ hok hM03 hp1;go_wp2_with fail;(with_reducible refine htb.mono ?_);rintro e w5 ⟨tb,rfl,hM5,hI⟩;clear htb;have hM05:=(HM.out.trans HQ.out.1).trans hM5;have hck:=zbJ w5 (HT.out.1.later hM05) hI hq (HQ.out.2.1.later hM5) HQ.out.2.2;have HM5:=QH hM05;unfold zh at hck;clear hM5 hI hM05 hq;go_wp2_with fail;(with_reducible refine hck.mono ?_);rintro e w6 ⟨hM6,hres⟩;rw [hc] at hres;clear hck;obtain ⟨cb,rfl,-,-,hCA⟩:=hres;unfold zh;obtain ⟨-,von,vwh,vg,its,nms,vo,hst,-,-,-,-,hnms,hvo⟩:=hCA [] (by simp);obtain ⟨e1,e2,e3,e4⟩:=HC.out;rw [e1] at hnms;rw [e2] at hvo;rw [e3,e4] at hst;obtain ⟨g,cap,rfl,a0,a1,a2,a3⟩:=ziB hnms;obtain ⟨g2,cap2,rfl,b0,b1,b2,b4,b6⟩:=zj6 hvo;have c1:=za hst 1;have c4:=za hst 4;have c7:=za hst 7;have c8:=za hst 8;change w6.cell? _=some (.int .i64 1) at c1;change w6.cell? _=some (.bool false) at c4;change w6.cell? _=some (.slice (some ⟨g,0,none⟩) 4 cap) at c7;change w6.cell? _=some (.slice (some ⟨g2,0,none⟩) 4 cap2) at c8;change w6.cell? _=some (.string ⟨#[97]⟩) at a0;change w6.cell? _=some (.string ⟨#[113]⟩) at a1;change w6.cell? _=some (.string ⟨#[99,51]⟩) at a2;change w6.cell? _=some (.string ⟨#[120]⟩) at a3;change w6.cell? _=some (.int .i64 1) at b0;change w6.cell? _=some (.bool true) at b1;change w6.cell? _=some (.int .i64 2) at b2;change w6.cell? _=some (.int .i64 3) at b4;have h06:=HM5.out.trans hM6;have HM6:=QH h06;clear hM6 hc hCA hst hnms hvo e1 e2 e3 e4 HC h06;have hn2:n=1 ∨ n=2 ∨ n=3 ∨ n=4:=by omega
  clear hnz hw16 hb hn HT HM5 HQ HM;rcases hn2 with rfl | rfl | rfl | rfl
  ·change w6.cell? _=some (.int .i64 0) at b6;go_wp2_with fail;go_ret;exact ⟨rfl,HM6.out⟩
  ·change w6.cell? _=some (.int .i64 1) at b6;go_wp2_with fail;go_ret;exact ⟨rfl,HM6.out⟩
  ·change w6.cell? _=some (.int .i64 2) at b6;go_wp2_with fail;go_ret;exact ⟨rfl,HM6.out⟩
  ·change w6.cell? _=some (.int .i64 3) at b6;go_wp2_with fail;go_ret;exact ⟨rfl,HM6.out⟩
end Go.Proofs.YtgdpaieechgahaaGreatDoor
