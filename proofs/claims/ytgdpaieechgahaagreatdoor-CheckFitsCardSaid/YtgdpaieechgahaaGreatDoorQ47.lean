/-
  law14.typed, walked: the type of an expr's text. No condition but that Go's own variables hold what they were laid with.
-/
import Derived.Test.YtgdpaieechgahaaGreatDoorQ46
set_option linter.unusedVariables false
set_option maxRecDepth 100000
set_option maxHeartbeats 8000000
namespace Go.Proofs.YtgdpaieechgahaaGreatDoor
open Go.RowKit
def tyR:Option Ty → Value
 | some t => .tuple #[.agg #[.int .i64 (t.k:Nat),.int .i64 (t.s:Nat)],.bool true]
 | none => .tuple #[.agg #[.int .i64 0,.int .i64 0],.bool false]
def TypedRes (w:World) (r:Option Ty) (e:Ending) (w':World):Prop:=e = .returned (tyR r) ∧ Mods [] w w'
theorem zjg {tb:List TblT} {q:zt} {p k:Nat} (h:zao tb q = .bad p k):k ≠ 0:=by
 have hz:NZ (zao tb q):=by
  rw [ck0];refine NZ.bind (fun p k h => zeA h) fun left _ => ?_
  refine NZ.bind (by
   unfold joinQ;split
   ·exact NZ.ok _
   ·exact NZ.bind (fun p k h => zeA h) fun x _ => NZ.ok _) fun right _ => ?_
  refine NZ.bind (zgO _ _) fun on _ => NZ.bind (zgO _ _) fun whr _ => NZ.bind (zez _ _) fun g _ => NZ.bind (znH _ _ _) fun x _ => NZ.bind (zgP _ _ _) fun o _ => NZ.ok _
 exact hz p k h
theorem zlX {w:World} {v:Value} {ns:List NT} (h:ListIn NodR w [] v ns 1):∃ ao cap,v = .slice ao ns.length cap:=by obtain ⟨ao,cap,rfl,-⟩:=h;exact ⟨ao,cap,rfl⟩
theorem ziy (w:World) (hT:Tabs3 w) (s:Bs) (hs:s.length ≤ 4000):Calls Tryz.prog 9 #[.string ⟨s.toArray⟩] w (TypedRes w (zaR s)):=by
 have hcat:(⟨#[83,69,76,69,67,84,32]⟩ : ByteArray) ++ ⟨s.toArray⟩ ++ ⟨#[32,70,82,79,77,32,116,32,74,79,73,78,32,117,32,79,78,32,116,46,97,32,61,32,117,46,120]⟩ = ⟨(selS ++ s ++ joinT).toArray⟩:=cat3 selS s joinT;have hlen:(selS ++ s ++ joinT).length ≤ 4100:=by simp [selS,joinT]; omega
 obtain ⟨L,hL⟩:=EX (selS ++ s ++ joinT);obtain ⟨S,hS⟩:=EX ((⟨s.toArray⟩ : ByteArray):ByteArray);have hsz:S.size ≤ 4000:=by rw [← hS]; exact hs
 rw [hL] at hcat hlen;rw [hS] at hcat ⊢;have hty:zaR s=zd6 (zaI L):=by unfold zaR; rw [hL]
 rw [hty];obtain ⟨PP,hPP⟩:=EX (TypedRes w (zd6 (zaI L)));rw [hPP];have HPP:=QH hPP;clear hty hs hL hS hPP;have hM0:=(QM [] w).alloc (.cells #[.int .i64 0,.int .i64 0] 26);have hb0:=QN w (.cells #[.int .i64 0,.int .i64 0] 26);have hbig:¬ 9223372036854775807 < 7 + S.size:=by omega
 have hbig2:¬ 9223372036854775807 < 7 + S.size + 27:=by omega
 obtain ⟨X,hX⟩ : ∃ X:ByteArray,(⟨#[83,69,76,69,67,84,32]⟩ : ByteArray) ++ S ++ ⟨#[32,70,82,79,77,32,116,32,74,79,73,78,32,117,32,79,78,32,116,46,97,32,61,32,117,46,120]⟩ = X:=⟨_,rfl⟩;have hXL:X = ⟨L.toArray⟩:=by rw [← hX,hcat]
 have HH:=QH (AI hT (AI hM0 (AI hb0 (AI hcat hlen))));have HXL:=QH (AI hX hXL);clear hT hM0 hcat hX hXL hlen;go_enter Tryz.func9, Tryz.ntmps9;go_upto_region 1 with fail;have r0:=za hb0 0;have r1:=za hb0 1;change World.cell? _ _=some (.int .i64 0) at r0;change World.cell? _ _=some (.int .i64 0) at r1;have HB0:=QH hb0;clear hb0;generalize w.alloc (.cells #[.int .i64 0,.int .i64 0] 26)=w1 at *;have HTB:=QH (LR w.heap.size);obtain ⟨tb,htbe⟩:=EX (w.heap.size);rw [htbe] at r0 r1 HB0;rw [htbe];replace HTB:=QH (show w.heap.size ≤ tb by omega);clear htbe
 cases hp:zaj L with
 | bad p k =>
  have hpc:=zhp w1 (HH.out.1.later HH.out.2.1).1.1 L p k hp (by have:=HH.out.2.2.2.2; omega);rw [← HXL.out.2,← HXL.out.1] at hpc;have hk:k ≠ 0:=znO hp;have hfin:∀ w',Mods [] w w' → PP (.returned (tyR none)) w':=fun w' h => by rw [← HPP.out,show zd6 (zaI L)=none by unfold zaI; rw [hp]; rfl];exact ⟨rfl,h⟩
  have HFIN:=QH hfin;clear hp hfin;go_wp2_with fail;(with_reducible refine hpc.mono ?_);rintro e w2 ⟨rfl,hM2⟩;clear hpc;have hrr:=hM2.heap HB0.out;have hMw:=HH.out.2.1.trans hM2;replace r0:=hM2.cell r0;replace r1:=hM2.cell r1;have g0:=zc hrr 0;have g1:=zc (zb hrr 0 (.int .i64 0)) 1;have hh3:=zb (zb hrr 0 (.int .i64 0)) 1 (.int .i64 0);have e0:=za hh3 0;have e1:=za hh3 1;change World.cell? _ _=some (.int .i64 0) at e0;change World.cell? _ _=some (.int .i64 0) at e1;have hput:Mods [tb] w2 ((w2.setCell ⟨tb,0,none⟩ (.int .i64 0)).setCell ⟨tb,1,none⟩ (.int .i64 0)):=((QM _ _).setCell (.inl (by simp)) _).setCell (.inl (by simp)) _;have HX:=QH (HFIN.out _ (hMw.trans hput (fun x hx => .inr (by simp at hx; rw [hx]; exact HTB.out))));clear hrr hh3 hput;clear hMw hM2;go_wp2_with fail;refine bodyPost_ret (by simp [results,Tryz.results9, go_sem,e0,e1,Result.andThen]; try rfl) rfl ?_;exact HX.out
 | good q =>
  have hpc:=zcb w1 (HH.out.1.later HH.out.2.1).1.1 L q hp (by have:=HH.out.2.2.2.2; omega);rw [← HXL.out.2,← HXL.out.1] at hpc;have HQ:=QH hp;clear hp;go_wp2_with fail;(with_reducible refine hpc.mono ?_);rintro e w2 ⟨qb,rfl,hM2,hQ,hok⟩;unfold zh;clear hpc;have htb:=zbI w2;have HM2:=QH (AI (HH.out.2.1.trans hM2) (AI hM2 (AI hQ hok)));clear hM2 hQ hok r0 r1;go_wp2_with fail;(with_reducible refine htb.mono ?_);rintro e w3 ⟨ub,rfl,hM3,hI⟩;clear htb;have hM03:=HM2.out.1.trans hM3;have hck:=zbJ w3 (HH.out.1.later hM03) hI HQ.out (HM2.out.2.2.1.later hM3) HM2.out.2.2.2;have HM3:=QH (AI hM03 (HM2.out.2.1.trans hM3));unfold zh at hck;clear hM3 hI hM03;go_wp2_with fail;(with_reducible refine hck.mono ?_);rintro e w4 ⟨hM4,hres⟩;clear hck;have hMw:=HM3.out.1.trans hM4;have hrr:=(HM3.out.2.trans hM4).heap HB0.out;have r0:=za hrr 0;have r1:=za hrr 1;change w4.cell? _=some (.int .i64 0) at r0;change w4.cell? _=some (.int .i64 0) at r1
  cases hc:zao tblsL q with
  | bad p k =>
   rw [hc] at hres;have hres:e=_:=hres;subst hres;have hk:k ≠ 0:=by have:=zjg hc;exact this
   have hfin:∀ w',Mods [] w w' → PP (.returned (tyR none)) w':=fun w' h => by rw [← HPP.out,show zd6 (zaI L)=none by unfold zaI; rw [HQ.out,zd3,hc]; rfl];exact ⟨rfl,h⟩
   have HFIN:=QH hfin;clear hc hfin;have g0:=zc hrr 0;have g1:=zc (zb hrr 0 (.int .i64 0)) 1;have hh3:=zb (zb hrr 0 (.int .i64 0)) 1 (.int .i64 0);have e0:=za hh3 0;have e1:=za hh3 1;change World.cell? _ _=some (.int .i64 0) at e0;change World.cell? _ _=some (.int .i64 0) at e1;have hput:Mods [tb] w4 ((w4.setCell ⟨tb,0,none⟩ (.int .i64 0)).setCell ⟨tb,1,none⟩ (.int .i64 0)):=((QM _ _).setCell (.inl (by simp)) _).setCell (.inl (by simp)) _;have HX:=QH (HFIN.out _ (hMw.trans hput (fun x hx => .inr (by simp at hx; rw [hx]; exact HTB.out))));clear hrr hh3 hput;clear hMw hM4;go_wp2_with fail;refine bodyPost_ret (by simp [results,Tryz.results9, go_sem,e0,e1,Result.andThen]; try rfl) rfl ?_;exact HX.out
  | ok c =>
   rw [hc] at hres;obtain ⟨cb,rfl,-,-,hCA⟩:=hres;unfold zh;obtain ⟨-,von,vwh,vg,its,nms,vo,hst,-,-,-,hits,-⟩:=hCA [] (by simp);have hty:zd6 (zaI L)=zd7 c:=by unfold zaI; rw [HQ.out,zd3,hc]; rfl
   have c6:=za hst 6;change w4.cell? _=some its at c6;by_cases h1:c.items.length=1
   ·obtain ⟨n,hn⟩ : ∃ n,c.items=[n]:=by
     match hci:c.items,h1 with
     | [n],_ => exact ⟨n,rfl⟩
    rw [hn] at hits;obtain ⟨g,gcap,nb,rfl,hg0,hN⟩:=zf4 hits;obtain ⟨b',args,hb',-,hnd⟩:=hN.head;cases hb';have n1:=za hnd 1;have n2:=za hnd 2;change w4.cell? _=some (.int .i64 (n.hd.t.k:Nat)) at n1;change w4.cell? _=some (.int .i64 (n.hd.t.s:Nat)) at n2;unfold zh at hg0;have hfin:∀ w',Mods [] w w' → PP (.returned (tyR (some n.hd.t))) w':=fun w' h => by rw [← HPP.out,hty,show zd7 c=some n.hd.t by unfold zd7; rw [hn]];exact ⟨rfl,h⟩
    have HFIN:=QH hfin;clear hc hfin hty hCA hst hits hN hnd h1 hn;obtain ⟨tk,htk⟩:=EX (n.hd.t.k);obtain ⟨ts,hts⟩:=EX (n.hd.t.s);have hty2:n.hd.t = ⟨tk,ts⟩:=by rw [← htk,← hts]
    rw [htk] at n1;rw [hts] at n2;rw [hty2] at HFIN;clear htk hts hty2;have g0:=zc hrr 0;have g1:=zc (zb hrr 0 (.int .i64 (tk:Nat))) 1;have hh3:=zb (zb hrr 0 (.int .i64 (tk:Nat))) 1 (.int .i64 (ts:Nat));have e0:=za hh3 0;have e1:=za hh3 1;change World.cell? _ _=some (.int .i64 (tk:Nat)) at e0;change World.cell? _ _=some (.int .i64 (ts:Nat)) at e1;have hput:Mods [tb] w4 ((w4.setCell ⟨tb,0,none⟩ (.int .i64 (tk:Nat))).setCell ⟨tb,1,none⟩ (.int .i64 (ts:Nat))):=((QM _ _).setCell (.inl (by simp)) _).setCell (.inl (by simp)) _;have HX:=QH (HFIN.out _ (hMw.trans hput (fun x hx => .inr (by simp at hx; rw [hx]; exact HTB.out))));clear hrr hh3 hput;clear hMw hM4;go_wp2_with fail;refine bodyPost_ret (by simp [results,Tryz.results9, go_sem,e0,e1,Result.andThen]; try rfl) rfl ?_;exact HX.out
   ·obtain ⟨iao,icap,rfl⟩:=zlX hits;have hfin:∀ w',Mods [] w w' → PP (.returned (tyR none)) w':=fun w' h => by
     rw [← HPP.out,hty,show zd7 c=none by
      unfold zd7
      match hci:c.items with
      | [] => rfl
      | [n] => rw [hci] at h1; exact absurd rfl h1
      | _ :: _ :: _ => rfl]
     exact ⟨rfl,h⟩
    have HFIN:=QH hfin;obtain ⟨il,hil⟩:=EX (c.items.length);rw [hil] at c6 h1;have h1z:¬ (il:Int)=1:=by omega
    have h1b:((il:Int) != 1)=true:=bne_iff_ne.2 h1z;clear hc hfin hty hCA hst hits hil;have g0:=zc hrr 0;have g1:=zc (zb hrr 0 (.int .i64 0)) 1;have hh3:=zb (zb hrr 0 (.int .i64 0)) 1 (.int .i64 0);have e0:=za hh3 0;have e1:=za hh3 1;change World.cell? _ _=some (.int .i64 0) at e0;change World.cell? _ _=some (.int .i64 0) at e1;have hput:Mods [tb] w4 ((w4.setCell ⟨tb,0,none⟩ (.int .i64 0)).setCell ⟨tb,1,none⟩ (.int .i64 0)):=((QM _ _).setCell (.inl (by simp)) _).setCell (.inl (by simp)) _;have HX:=QH (HFIN.out _ (hMw.trans hput (fun x hx => .inr (by simp at hx; rw [hx]; exact HTB.out))));clear hrr hh3 hput;clear hMw hM4;go_wp2_with fail;refine bodyPost_ret (by simp [results,Tryz.results9, go_sem,e0,e1,Result.andThen]; try rfl) rfl ?_;exact HX.out
theorem ziz (w:World) (hT:Tabs3 w) (L:Bs) (hl:L.length ≤ 4100):Calls Tryz.prog 14 #[.string ⟨L.toArray⟩] w fun e w' => e = .returned (.bool (zaD L)) ∧ Mods [] w w':=by
 cases hp:zaj L with
 | bad p k =>have hpc:=zhp w hT.1.1 L p k hp (by omega);have hk:k ≠ 0:=znO hp;have HF:=QH (show zaD L=false by unfold zaD zaI; rw [hp]);rw [HF.out];clear hp HF;go_enter Tryz.func14, Tryz.ntmps14;go_wp2_with fail;(with_reducible refine hpc.mono ?_);rintro e w2 ⟨rfl,hM2⟩;clear hpc;go_wp2_with fail;go_ret;exact ⟨rfl,hM2⟩
 | good q =>
  have hpc:=zcb w hT.1.1 L q hp (by omega);obtain ⟨G,hG⟩:=EX (zaD L);rw [hG];have HH:=QH (AI hT (AI hp hG));clear hT hp hG;go_enter Tryz.func14, Tryz.ntmps14;go_wp2_with fail;(with_reducible refine hpc.mono ?_);rintro e w2 ⟨qb,rfl,hM2,hQ,hok⟩;unfold zh;clear hpc;have htb:=zbI w2;have HM2:=QH (AI hM2 (AI hQ hok));clear hM2 hQ hok;go_wp2_with fail;(with_reducible refine htb.mono ?_);rintro e w3 ⟨ub,rfl,hM3,hI⟩;clear htb;have hM03:=HM2.out.1.trans hM3;have hck:=zbJ w3 (HH.out.1.later hM03) hI HH.out.2.1 (HM2.out.2.1.later hM3) HM2.out.2.2;have HM3:=QH hM03;unfold zh at hck;clear hM3 hI hM03;go_wp2_with fail;(with_reducible refine hck.mono ?_);rintro e w4 ⟨hM4,hres⟩;clear hck;have HM4:=QH (HM3.out.trans hM4)
  cases hc:zao tblsL q with
  | bad p k =>rw [hc] at hres;have hres:e=_:=hres;subst hres;have hk:k ≠ 0:=zjg hc;have HG:=QH (show G=false by rw [← HH.out.2.2]; unfold zaD zaI; rw [HH.out.2.1]; simp only; rw [hc]);clear hc hM4;go_wp2_with fail;go_ret;exact ⟨by rw [HG.out]; rfl,HM4.out⟩
  | ok c =>rw [hc] at hres;obtain ⟨cb,rfl,-,-,hCA⟩:=hres;unfold zh;obtain ⟨-,von,vwh,vg,its,nms,vo,hst,-⟩:=hCA [] (by simp);have c4:=za hst 4;change w4.cell? _=some (.bool c.grouped) at c4;have HG:=QH (show G=c.grouped by rw [← HH.out.2.2]; unfold zaD zaI; rw [HH.out.2.1]; simp only; rw [hc]);clear hc hM4 hCA hst;go_wp2_with fail;go_ret;exact ⟨by rw [HG.out]; rfl,HM4.out⟩
def CallG (w:World) (S:ByteArray) (b:Bool):Prop:=∀ W,Mods [] w W → Calls Tryz.prog 14 #[.string S] W fun e w' => e = .returned (.bool b) ∧ Mods [] W w'
theorem zoA:∀ x,x < 4 → ∀ y,y < 4 → ∀ f,f < 3 → (⟨#[83,69,76,69,67,84,32]⟩ : ByteArray) ++ ⟨(zfy x).toArray⟩ ++ (⟨#[44,32]⟩ : ByteArray) ++ ⟨(aggT f).toArray⟩ ++ (⟨#[97,41,32,70,82,79,77,32,116,32,71,82,79,85,80,32,66,89,32]⟩ : ByteArray) ++ ⟨(zfy y).toArray⟩ = ⟨(grT1 x y f).toArray⟩:=by decide +kernel
theorem zoB:∀ x,x < 4 → ∀ f,f < 3 → (⟨#[83,69,76,69,67,84,32]⟩ : ByteArray) ++ ⟨(aggT f).toArray⟩ ++ ⟨(zfy x).toArray⟩ ++ (⟨#[41,32,70,82,79,77,32,116]⟩ : ByteArray) = ⟨(grT2 x f).toArray⟩:=by decide +kernel
theorem zoC:∀ x,x < 4 → ∀ y,y < 4 → ∀ f,f < 3 → (⟨#[83,69,76,69,67,84,32]⟩ : ByteArray) ++ ⟨(aggT f).toArray⟩ ++ ⟨(zfy x).toArray⟩ ++ (⟨#[41,32,70,82,79,77,32,116,32,71,82,79,85,80,32,66,89,32,97,44,32]⟩ : ByteArray) ++ ⟨(zfy y).toArray⟩ = ⟨(grT3 x y f).toArray⟩:=by decide +kernel
theorem zoD:∀ x,x < 4 → ∀ f,f < 3 → (⟨#[83,69,76,69,67,84,32]⟩ : ByteArray) ++ ⟨(aggT f).toArray⟩ ++ ⟨(aggT f).toArray⟩ ++ ⟨(zfy x).toArray⟩ ++ (⟨#[41,41,32,70,82,79,77,32,116]⟩ : ByteArray) = ⟨(grT4 x f).toArray⟩:=by decide +kernel
theorem zoE:∀ x,x < 4 → ∀ f,f < 3 → (⟨#[83,69,76,69,67,84,32]⟩ : ByteArray) ++ ⟨(aggT f).toArray⟩ ++ ⟨(zfy x).toArray⟩ ++ (⟨#[41,32,70,82,79,77,32,116,32,87,72,69,82,69,32]⟩ : ByteArray) ++ ⟨(aggT f).toArray⟩ ++ (⟨#[97,41,32,61,32,49]⟩ : ByteArray) = ⟨(grT5 x f).toArray⟩:=by decide +kernel
theorem zoF:∀ x,x < 4 → ∀ f,f < 3 → (⟨#[83,69,76,69,67,84,32,97,44,32]⟩ : ByteArray) ++ ⟨(aggT f).toArray⟩ ++ ⟨(zfy x).toArray⟩ ++ (⟨#[41,32,70,82,79,77,32,116]⟩ : ByteArray) = ⟨(grT6 x f).toArray⟩:=by decide +kernel
theorem CallG.of {w:World} (hT:Tabs3 w) {L:Bs} {S:ByteArray} {b:Bool} (hS:S = ⟨L.toArray⟩) (hl:S.size ≤ 4100) (hb:zaD L=b):CallG w S b:=fun W hM => by rw [hS,← hb];exact ziz W (hT.later hM) L (by rw [hS] at hl; exact hl)
theorem zek (w:World) (hT:Tabs3 w) (a:Nat) (ha:a < 65536) (b:Nat) (hb:b < 65536) (agg:Nat) (hagg:agg < 256) :
  Calls Tryz.prog 5 #[.int .u16 a,.int .u16 b,.int .u8 agg] w fun e w' => e = .returned (.bool true) ∧ Mods [] w w':=by
 have hex:=zb4 w hT;obtain ⟨x,hx,hxz⟩ : ∃ k:Nat,k < 4 ∧ (a:Int).tmod 4=(k:Int):=⟨a % 4,by omega,by rw [Int.tmod_eq_emod_of_nonneg (by omega)]; omega⟩;obtain ⟨y,hy,hyz⟩ : ∃ k:Nat,k < 4 ∧ (b:Int).tmod 4=(k:Int):=⟨b % 4,by omega,by rw [Int.tmod_eq_emod_of_nonneg (by omega)]; omega⟩;obtain ⟨f,hf,hfz⟩ : ∃ k:Nat,k < 3 ∧ (agg:Int).tmod 3=(k:Int):=⟨agg % 3,by omega,by rw [Int.tmod_eq_emod_of_nonneg (by omega)]; omega⟩;have hx4:(x:Int) < 4:=by omega
 have hy4:(y:Int) < 4:=by omega
 have hf4:(f:Int) < 3:=by omega
 obtain ⟨X,hX⟩:=EX ((⟨(zfy x).toArray⟩ : ByteArray):ByteArray);obtain ⟨Y,hY⟩:=EX ((⟨(zfy y).toArray⟩ : ByteArray):ByteArray);obtain ⟨F,hF⟩:=EX ((⟨(aggT f).toArray⟩ : ByteArray):ByteArray);have HT:=QH hT;clear hT;have sx:X.size=1:=by
  rw [← hX];have h2:x=0 ∨ x=1 ∨ x=2 ∨ x=3:=by omega
  rcases h2 with rfl | rfl | rfl | rfl <;> rfl
 have sy:Y.size=1:=by
  rw [← hY];have h2:y=0 ∨ y=1 ∨ y=2 ∨ y=3:=by omega
  rcases h2 with rfl | rfl | rfl | rfl <;> rfl
 have sf:F.size ≤ 6:=by
  rw [← hF];have h2:f=0 ∨ f=1 ∨ f=2:=by omega
  rcases h2 with rfl | rfl | rfl <;> exact of_decide_eq_true rfl
 have hgb:=zjX x hx y hy f hf;unfold groupsB at hgb;rw [Bool.and_eq_true,Bool.and_eq_true,Bool.and_eq_true,Bool.and_eq_true,Bool.and_eq_true,Bool.not_eq_true',Bool.not_eq_true',Bool.not_eq_true'] at hgb;obtain ⟨e1,e2,e3,e4,e5,e6⟩:=hgb;have e1:=eq_of_beq e1;obtain ⟨D,hD⟩:=EX (decide (x=y));rw [hD] at e1;have g1:CallG w ((⟨#[83,69,76,69,67,84,32]⟩ : ByteArray) ++ X ++ (⟨#[44,32]⟩ : ByteArray) ++ F ++ (⟨#[97,41,32,70,82,79,77,32,116,32,71,82,79,85,80,32,66,89,32]⟩ : ByteArray) ++ Y) D:=by
  refine CallG.of HT.out (L:=grT1 x y f) ?_ ?_ e1
  ·rw [← hX,← hY,← hF]; exact zoA x hx y hy f hf
  ·simp only [ByteArray.size_append,sx,sy];have h:∀ l:Array UInt8,(⟨l⟩ : ByteArray).size=l.size:=fun _ => rfl;simp only [h];simp;omega
 have g2:CallG w ((⟨#[83,69,76,69,67,84,32]⟩ : ByteArray) ++ F ++ X ++ (⟨#[41,32,70,82,79,77,32,116]⟩ : ByteArray)) true:=by
  refine CallG.of HT.out (L:=grT2 x f) ?_ ?_ e2
  ·rw [← hX,← hF]; exact zoB x hx f hf
  ·simp only [ByteArray.size_append,sx];have h:∀ l:Array UInt8,(⟨l⟩ : ByteArray).size=l.size:=fun _ => rfl;simp only [h];simp;omega
 have g3:CallG w ((⟨#[83,69,76,69,67,84,32]⟩ : ByteArray) ++ F ++ X ++ (⟨#[41,32,70,82,79,77,32,116,32,71,82,79,85,80,32,66,89,32,97,44,32]⟩ : ByteArray) ++ Y) true:=by
  refine CallG.of HT.out (L:=grT3 x y f) ?_ ?_ e3
  ·rw [← hX,← hY,← hF]; exact zoC x hx y hy f hf
  ·simp only [ByteArray.size_append,sx,sy];have h:∀ l:Array UInt8,(⟨l⟩ : ByteArray).size=l.size:=fun _ => rfl;simp only [h];simp;omega
 have g4:CallG w ((⟨#[83,69,76,69,67,84,32]⟩ : ByteArray) ++ F ++ F ++ X ++ (⟨#[41,41,32,70,82,79,77,32,116]⟩ : ByteArray)) false:=by
  refine CallG.of HT.out (L:=grT4 x f) ?_ ?_ e4
  ·rw [← hX,← hF]; exact zoD x hx f hf
  ·simp only [ByteArray.size_append,sx];have h:∀ l:Array UInt8,(⟨l⟩ : ByteArray).size=l.size:=fun _ => rfl;simp only [h];simp;omega
 have g5:CallG w ((⟨#[83,69,76,69,67,84,32]⟩ : ByteArray) ++ F ++ X ++ (⟨#[41,32,70,82,79,77,32,116,32,87,72,69,82,69,32]⟩ : ByteArray) ++ F ++ (⟨#[97,41,32,61,32,49]⟩ : ByteArray)) false:=by
  refine CallG.of HT.out (L:=grT5 x f) ?_ ?_ e5
  ·rw [← hX,← hF]; exact zoE x hx f hf
  ·simp only [ByteArray.size_append,sx];have h:∀ l:Array UInt8,(⟨l⟩ : ByteArray).size=l.size:=fun _ => rfl;simp only [h];simp;omega
 have g6:CallG w ((⟨#[83,69,76,69,67,84,32,97,44,32]⟩ : ByteArray) ++ F ++ X ++ (⟨#[41,32,70,82,79,77,32,116]⟩ : ByteArray)) false:=by
  refine CallG.of HT.out (L:=grT6 x f) ?_ ?_ e6
  ·rw [← hX,← hF]; exact zoF x hx f hf
  ·simp only [ByteArray.size_append,sx];have h:∀ l:Array UInt8,(⟨l⟩ : ByteArray).size=l.size:=fun _ => rfl;simp only [h];simp;omega
 have g7:CallG w ⟨#[83,69,76,69,67,84,32,42,32,70,82,79,77,32,116,32,71,82,79,85,80,32,66,89,32,97]⟩ false:=CallG.of HT.out rfl (by decide) zip;have hxy:(X == Y)=D:=by
  rw [← hX,← hY,← hD];have:∀ x,x < 4 → ∀ y,y < 4 → ((⟨(zfy x).toArray⟩ : ByteArray) == ⟨(zfy y).toArray⟩)=decide (x=y):=by decide +kernel
  exact this x hx y hy
 have htl:(X.toList == Y.toList)=D:=by
  rw [← hX,← hY,← hD];have:∀ x,x < 4 → ∀ y,y < 4 → ((⟨(zfy x).toArray⟩ : ByteArray).toList == (⟨(zfy y).toArray⟩ : ByteArray).toList)=decide (x=y):=by decide +kernel
  exact this x hx y hy
 go_enter Tryz.func5, Tryz.ntmps5;go_wp2_with fail;(with_reducible refine hex.mono ?_);rintro e w2 ⟨rfl,hM2⟩;clear hex;have hc1:(w2.alloc (.cells #[.string ⟨#[97]⟩,.string ⟨#[98]⟩,.string ⟨#[99]⟩,.string ⟨#[100]⟩] 9)).cell? ⟨w2.heap.size,x,none⟩ = some (.string X):=by
  rw [za (QN w2 _) x,← hX];have h2:x=0 ∨ x=1 ∨ x=2 ∨ x=3:=by omega
  rcases h2 with rfl | rfl | rfl | rfl <;> rfl
 have hz1:=(QM [] w2).alloc (.cells #[.string ⟨#[97]⟩,.string ⟨#[98]⟩,.string ⟨#[99]⟩,.string ⟨#[100]⟩] 9);have HM:=QH (hM2.trans hz1);clear hM2 hz1;go_upto_region 5 with fail;generalize w2.alloc (.cells #[.string ⟨#[97]⟩,.string ⟨#[98]⟩,.string ⟨#[99]⟩,.string ⟨#[100]⟩] 9)=w3 at *;clear hc1;have hc1:(w3.alloc (.cells #[.string ⟨#[97]⟩,.string ⟨#[98]⟩,.string ⟨#[99]⟩,.string ⟨#[100]⟩] 9)).cell? ⟨w3.heap.size,y,none⟩ = some (.string Y):=by
  rw [za (QN w3 _) y,← hY];have h2:y=0 ∨ y=1 ∨ y=2 ∨ y=3:=by omega
  rcases h2 with rfl | rfl | rfl | rfl <;> rfl
 have hz1:=(QM [] w3).alloc (.cells #[.string ⟨#[97]⟩,.string ⟨#[98]⟩,.string ⟨#[99]⟩,.string ⟨#[100]⟩] 9);have HM2:=QH (HM.out.trans hz1);clear hz1 HM;go_upto_region 6 with fail;generalize w3.alloc (.cells #[.string ⟨#[97]⟩,.string ⟨#[98]⟩,.string ⟨#[99]⟩,.string ⟨#[100]⟩] 9)=w4 at *;clear hc1;have hc1:(w4.alloc (.cells #[.string ⟨#[67,79,85,78,84,40]⟩,.string ⟨#[77,73,78,40]⟩,.string ⟨#[77,65,88,40]⟩] 9)).cell? ⟨w4.heap.size,f,none⟩ = some (.string F):=by
  rw [za (QN w4 _) f,← hF];have h2:f=0 ∨ f=1 ∨ f=2:=by omega
  rcases h2 with rfl | rfl | rfl <;> rfl
 have hz1:=(QM [] w4).alloc (.cells #[.string ⟨#[67,79,85,78,84,40]⟩,.string ⟨#[77,73,78,40]⟩,.string ⟨#[77,65,88,40]⟩] 9);have HM3:=QH (HM2.out.trans hz1);clear hz1 HM2;go_upto_region 7 with fail;generalize w4.alloc (.cells #[.string ⟨#[67,79,85,78,84,40]⟩,.string ⟨#[77,73,78,40]⟩,.string ⟨#[77,65,88,40]⟩] 9)=w5 at *;clear hc1;have h0:=HM3.out;have n0:¬ 9223372036854775807 < 7 + X.size:=by omega
 have n1:¬ 9223372036854775807 < 7 + X.size + 2:=by omega
 have n2:¬ 9223372036854775807 < 7 + X.size + 2 + F.size:=by omega
 have n3:¬ 9223372036854775807 < 7 + X.size + 2 + F.size + 19:=by omega
 have n4:¬ 9223372036854775807 < 7 + X.size + 2 + F.size + 19 + Y.size:=by omega
 have n5:¬ 9223372036854775807 < 7 + F.size:=by omega
 have n6:¬ 9223372036854775807 < 7 + F.size + X.size:=by omega
 have n7:¬ 9223372036854775807 < 7 + F.size + X.size + 8:=by omega
 have n8:¬ 9223372036854775807 < 7 + F.size + X.size + 21:=by omega
 have n9:¬ 9223372036854775807 < 7 + F.size + X.size + 21 + Y.size:=by omega
 have n10:¬ 9223372036854775807 < 7 + F.size + F.size:=by omega
 have n11:¬ 9223372036854775807 < 7 + F.size + F.size + X.size:=by omega
 have n12:¬ 9223372036854775807 < 7 + F.size + F.size + X.size + 9:=by omega
 have n13:¬ 9223372036854775807 < 7 + F.size + X.size + 15:=by omega
 have n14:¬ 9223372036854775807 < 7 + F.size + X.size + 15 + F.size:=by omega
 have n15:¬ 9223372036854775807 < 7 + F.size + X.size + 15 + F.size + 6:=by omega
 have n16:¬ 9223372036854775807 < 10 + F.size:=by omega
 have n17:¬ 9223372036854775807 < 10 + F.size + X.size:=by omega
 have n18:¬ 9223372036854775807 < 10 + F.size + X.size + 8:=by omega
 clear HT HM3 hX hY hF sx sy e1 e2 e3 e4 e5 e6 hxz hyz hfz hx4 hy4 hf4 ha hb hagg hx hy hf hD;go_wp2_with fail;(refine (g1 _ h0).mono ?_);rintro e v1 ⟨rfl,hM⟩;have h1:=h0.trans hM;clear g1 hM h0;have hbb:(D == D)=true:=by simp
 go_wp2_with fail;(refine (g2 _ h1).mono ?_);rintro e v2 ⟨rfl,hM⟩;have h2:=h1.trans hM;clear g2 hM h1;go_wp2_with fail;(refine (g3 _ h2).mono ?_);rintro e v3 ⟨rfl,hM⟩;have h3:=h2.trans hM;clear g3 hM h2;go_wp2_with fail;(refine (g4 _ h3).mono ?_);rintro e v4 ⟨rfl,hM⟩;have h4:=h3.trans hM;clear g4 hM h3;go_wp2_with fail;(refine (g5 _ h4).mono ?_);rintro e v5 ⟨rfl,hM⟩;have h5:=h4.trans hM;clear g5 hM h4;go_wp2_with fail;(refine (g6 _ h5).mono ?_);rintro e v6 ⟨rfl,hM⟩;have h6:=h5.trans hM;clear g6 hM h5;go_wp2_with fail;(refine (g7 _ h6).mono ?_);rintro e v7 ⟨rfl,hM⟩;have h7:=h6.trans hM;clear g7 hM h6;go_wp2_with fail;go_ret;exact ⟨rfl,h7⟩
end Go.Proofs.YtgdpaieechgahaaGreatDoor
