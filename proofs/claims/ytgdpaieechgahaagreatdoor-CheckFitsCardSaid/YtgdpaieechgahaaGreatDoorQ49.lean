/-
  How an argument that is a slice lies in memory: its elements' cells, and their readings; a struct's cells and their readings. Plain facts; no condition.
-/
import Derived.Deep.Slices
import Derived.Deep.Fields
import Derived.Test.YtgdpaieechgahaaGreatDoorQ48
set_option linter.unusedVariables false
set_option maxRecDepth 100000
set_option maxHeartbeats 8000000
namespace Go.Proofs.YtgdpaieechgahaaGreatDoor
open Go.ChangeShapes Go.WideShapes Go.ChangeAt Go.RowKit Go.Deep
section
variable {H:Type} {enc:TypeId × Value → H} {P:Program} {w:World} {base:Nat} {spare:Nat → Bool} {held:Bool}
theorem zl3 {a:Addr} {v:Value} (h:w.cell? a=some v):a = ⟨a.block,a.off,none⟩:=by
 obtain ⟨b,o,s⟩:=a
 cases s with
 | none => rfl
 | some k =>
  unfold World.cell? at h;split at h
  ·simp at h
  ·cases h
theorem ziC {r:Reach} {b0:Nat} {t e:TypeId} {v:Value} {d:DataW H} {ps:List MemPlace} (ht:P.underlying t=some (.slice e)) (hC:0 < P.cellsOf e) (hval:Value.okWide P w r b0 t v) (h:DataW.Trod enc P w base spare held t v d ps) :
  ∃ (ao:Option Addr) (len cap:Nat),v = .slice ao len cap ∧ len ≤ 9223372036854775807 ∧ (0 < len → ∃ b off,ao=some ⟨b,off,none⟩ ∧ ∀ i,i < len → ∃ (cs:List Value) (n:Nat) (x:DataW H × List MemPlace),cs.length=P.cellsOf e ∧
   (∀ j,j < P.cellsOf e → w.cell? ⟨b,off + i * P.cellsOf e + j,none⟩ = cs[j]?) ∧ DataW.trod enc P w base spare held n e cs=some x):=by
 obtain ⟨ao,len,cap,rfl⟩:=okWide_slice ht hval;obtain ⟨fuel,hf⟩:=h;rcases open_slice ht hf with ⟨hcs,-⟩ | ⟨a,len',cap',m,n,D,Pl,hcs,-,hl,hm,hmm,-,hi⟩
 ·simp only [Value.cells,List.cons.injEq,Value.slice.injEq,and_true] at hcs;obtain ⟨rfl,rfl,rfl⟩:=hcs;exact ⟨none,0,0,rfl,by omega,fun h => by omega⟩
 ·simp only [Value.cells,List.cons.injEq,Value.slice.injEq,and_true] at hcs;obtain ⟨rfl,rfl,rfl⟩:=hcs;refine ⟨some a,len,cap,rfl,by unfold maxLen at hm; omega,fun h0 => ?_⟩;have hlm:len ≤ m:=by rw [hmm]; split <;> omega
  obtain ⟨cs0,hc0,-⟩:=hi 0 (by omega);obtain ⟨-,hcl0,hat0⟩:=World.cells?_some hc0;have h00:=hat0 0 hC;have ea:(a.add (0 * P.cellsOf e)).add 0=a:=by simp [Addr.add]
  rw [ea,List.getElem?_eq_getElem (by omega)] at h00;have hsp:=zl3 h00;refine ⟨a.block,a.off,congrArg some hsp,fun i hil => ?_⟩;obtain ⟨cs,hc,ht'⟩:=hi i (by omega);obtain ⟨-,hcl,hat⟩:=World.cells?_some hc;refine ⟨cs,n,_,hcl,fun j hj => ?_,ht'⟩;rw [← hat j hj,hsp,zci,zci]
theorem zhI {e:TypeId} {fs:Array Field} {n:Nat} {cs:List Value} {x:DataW H × List MemPlace} (he:P.underlying e=some (.struct fs)) (hone:oneCellFields P fs=true) (hC:P.cellsOf e=fs.size) (h:DataW.trod enc P w base spare held n e cs=some x) {j:Nat} {f:Field} (hj:fs[j]? = some f) :
  ∃ (v:Value) (m:Nat) (y:DataW H × List MemPlace),cs[j]? = some v ∧ DataW.trod enc P w base spare held m f.type [v]=some y:=by
 obtain ⟨ys,m,-,-,hlen,hyl,hf⟩:=DataW.trod_struct he h;obtain ⟨ho,hk⟩:=hone_of hone j f hj;have hjl:j < fs.size:=(Array.getElem?_eq_some_iff.1 hj).1;have h1:=hf j f hj;rw [ho,hk,List.getElem?_eq_getElem (by omega)] at h1;have hlt:j < cs.length:=by omega
 refine ⟨cs[j],m,ys[j]'(by omega),List.getElem?_eq_getElem hlt,?_⟩;have e1:List.take 1 (List.drop j cs)=[cs[j]]:=by rw [List.drop_eq_getElem_cons hlt]; rfl
 rw [e1] at h1;exact h1
theorem zoG {e:TypeId} {n:Nat} {v:Value} {x:DataW H × List MemPlace} (he:P.underlying e=some (.int .u8)) (h:DataW.trod enc P w base spare held n e [v]=some x):∃ k:Nat,v = .int .u8 k ∧ k < 256:=by obtain ⟨m,hc,-,hw⟩:=DataW.trod_int he h;obtain ⟨k,rfl,hk⟩:=znW hw;exact ⟨k,by simpa using hc,hk⟩
theorem ziD {e:TypeId} {n:Nat} {v:Value} {x:DataW H × List MemPlace} (he:P.underlying e=some .string) (h:DataW.trod enc P w base spare held n e [v]=some x):∃ s:ByteArray,v = .string s ∧ s.size ≤ 9223372036854775807:=by obtain ⟨m,hc,-,hm⟩:=DataW.trod_string he h;exact ⟨m,by simpa using hc,by unfold maxLen at hm; exact hm⟩
end
open Go.RowKit
open Go.ChangeShapes Go.WideShapes Go.ChangeAt Go.RowKit Go.Deep
section
variable {H:Type} {enc:TypeId × Value → H} {P:Program} {w:World} {base:Nat} {spare:Nat → Bool} {held:Bool}
theorem zhJ {r:Reach} {b0:Nat} {t e:TypeId} {v:Value} {d:DataW H} {ps:List MemPlace} (ht:P.underlying t=some (.slice e)) (hC:0 < P.cellsOf e) (hval:Value.okWide P w r b0 t v) (h:DataW.Trod enc P w base spare held t v d ps) :
  ∃ (ao:Option Addr) (len cap:Nat),v = .slice ao len cap ∧ (len ≤ 9223372036854775807 ∧ len ≤ cap ∧ (ao=none → len=0)) ∧ (0 < len → ∃ b off,ao=some ⟨b,off,none⟩ ∧ ∀ i,i < len → ∃ (cs:List Value) (n:Nat) (x:DataW H × List MemPlace),cs.length=P.cellsOf e ∧
   (∀ j,j < P.cellsOf e → w.cell? ⟨b,off + i * P.cellsOf e + j,none⟩ = cs[j]?) ∧ DataW.trod enc P w base spare held n e cs=some x):=by
 obtain ⟨ao,len,cap,rfl⟩:=okWide_slice ht hval;have h':=h;obtain ⟨fuel,hf⟩:=h';obtain ⟨ao',len',cap',he,hl,hx⟩:=ziC ht hC hval h;simp only [Value.slice.injEq] at he;obtain ⟨rfl,rfl,rfl⟩:=he;refine ⟨ao,len,cap,rfl,?_,hx⟩;rcases open_slice ht hf with ⟨hcs,-⟩ | ⟨a,len',cap',m,n,D,Pl,hcs,-,hl2,hm,hmm,-,hi⟩
 ·simp only [Value.cells,List.cons.injEq,Value.slice.injEq,and_true] at hcs;obtain ⟨rfl,rfl,rfl⟩:=hcs;exact ⟨by omega,by omega,fun _ => rfl⟩
 ·simp only [Value.cells,List.cons.injEq,Value.slice.injEq,and_true] at hcs;obtain ⟨rfl,rfl,rfl⟩:=hcs;exact ⟨hl,hl2,fun h => by cases h⟩
end
theorem zj7 (w:World) (n:Nat) (hn:n < 65536):Calls Tryz.prog 34 #[.int .u16 n] w fun e w' => e = .returned (.string ⟨(wdL (n % 14)).toArray⟩) ∧ Mods [] w w':=by
 obtain ⟨k,hk⟩:=EX (n % 14);have hk14:k < 14:=by omega
 have hkz:(n:Int).tmod 14=(k:Int):=by rw [Int.tmod_eq_emod_of_nonneg (by omega)]; omega
 rw [hk];have hki:(k:Int) < 14:=by omega
 have hc:∀ (w:World),(w.alloc (.cells #[.string ⟨#[97]⟩,.string ⟨#[98]⟩,.string ⟨#[99]⟩,.string ⟨#[100]⟩,.string ⟨#[120]⟩,.string ⟨#[121]⟩,.string ⟨#[116,46,97]⟩,.string ⟨#[116,46,98]⟩,.string ⟨#[117,46,120]⟩,.string ⟨#[117,46,121]⟩,.string ⟨#[116,46,99]⟩,.string ⟨#[117,46,122]⟩,.string ⟨#[110,111,110,101]⟩,.string ⟨#[117,46,97]⟩] 9)).cell? ⟨w.heap.size,k,none⟩ = some (.string ⟨(wdL k).toArray⟩):=fun w => by
  rw [za (QN w _) k];have h2:k=0 ∨ k=1 ∨ k=2 ∨ k=3 ∨ k=4 ∨ k=5 ∨ k=6 ∨ k=7 ∨ k=8 ∨ k=9 ∨ k=10 ∨ k=11 ∨ k=12 ∨ k=13:=by omega
  rcases h2 with h | h | h | h | h | h | h | h | h | h | h | h | h | h <;> rw [h] <;> rfl
 have c0:=hc w;have hM:=(QM [] w).alloc (.cells #[.string ⟨#[97]⟩,.string ⟨#[98]⟩,.string ⟨#[99]⟩,.string ⟨#[100]⟩,.string ⟨#[120]⟩,.string ⟨#[121]⟩,.string ⟨#[116,46,97]⟩,.string ⟨#[116,46,98]⟩,.string ⟨#[117,46,120]⟩,.string ⟨#[117,46,121]⟩,.string ⟨#[116,46,99]⟩,.string ⟨#[117,46,122]⟩,.string ⟨#[110,111,110,101]⟩,.string ⟨#[117,46,97]⟩] 9);clear hc hk;generalize wdL k=W at *;go_enter Tryz.func34, Tryz.ntmps34;go_wp2_with fail;go_ret;exact ⟨rfl,hM⟩
def PartsIn (w:World) (a:Option Addr) (l:List zbc):Prop:=
 0 < l.length → ∃ b off,a=some ⟨b,off,none⟩ ∧ ∀ i (h:i < l.length),w.cell? ⟨b,off + i * 3,none⟩ = some (.int .u8 (l[i].kind:Nat)) ∧ w.cell? ⟨b,off + i * 3 + 1,none⟩ = some (.int .u16 (l[i].n:Nat)) ∧ w.cell? ⟨b,off + i * 3 + 2,none⟩ = some (.string ⟨l[i].s.toArray⟩)
def PartOk (p:zbc):Prop:=p.kind < 256 ∧ p.n < 65536 ∧ p.s.length ≤ 9223372036854775807
theorem PartsIn.mods {w w':World} {a:Option Addr} {l:List zbc} (h:PartsIn w a l) (hM:Mods [] w w'):PartsIn w' a l:=fun h0 => by obtain ⟨b,off,e,hc⟩:=h h0;exact ⟨b,off,e,fun i hi => ⟨hM.cell (hc i hi).1 (by simp),hM.cell (hc i hi).2.1 (by simp),hM.cell (hc i hi).2.2 (by simp)⟩⟩
def atomV (l:List zbc) (i:Nat):Bs:=match l[i]? with | none => [49] | some p => zb2 p
theorem zo2 {p:zbc} {q:Nat} (h:p.kind / 8 % 8=q):zb2 p=if q=0 then zdo p.n else if q=1 then zdo p.n ++ [46] ++ zdo (p.n % 1000) else if q=2 then [39] ++ letV p.s ++ [39] else if q=3 then constV (p.n % 3) else wdL (p.n % 14):=by unfold zb2; rw [h]
theorem znC (w:World) (i:Nat) (h:i < 3):(w.alloc (.cells #[.string ⟨#[84,82,85,69]⟩,.string ⟨#[102,97,108,115,101]⟩,.string ⟨#[78,85,76,76]⟩] 9)).cell? ⟨w.heap.size,i,none⟩ = some (.string ⟨(constV i).toArray⟩):=by
 rw [za (QN w _) i];have h3:i=0 ∨ i=1 ∨ i=2:=by omega
 rcases h3 with rfl | rfl | rfl <;> rfl
theorem znD (w:World) (a:Option Addr) (l:List zbc) (cap:Nat) (hP:PartsIn w a l) (hl:l.length ≤ 9223372036854775807) (hok:∀ p ∈ l,PartOk p) (i:Nat) (hi:i ≤ 100) :
  Calls Tryz.prog 18 #[.slice a l.length cap,.int .i64 i] w fun e w' => e = .returned (.string ⟨(atomV l i).toArray⟩) ∧ Mods [] w w':=by
 by_cases hlt:i < l.length
 ·obtain ⟨b,off,rfl,hc⟩:=hP (by omega);obtain ⟨c1,c2,c3⟩:=hc i hlt;have hpk:=hok _ (List.getElem_mem hlt);have hav:atomV l i=zb2 l[i]:=by unfold atomV; rw [List.getElem?_eq_getElem hlt]
  rw [hav];clear hc hav hok hP;generalize l[i]=p at *;obtain ⟨h256,hn,hs⟩:=hpk;obtain ⟨q,hq⟩:=EX (p.kind / 8 % 8);have hqz:(p.kind:Int) / 8 % 8=(q:Int):=by omega
  have hq8:q < 8:=by omega
  rw [zo2 hq];clear hq;generalize p.kind=kd at *;generalize p.n=n at *;generalize p.s=s at *;have hz1:(i:Int) < (l.length:Int):=by omega
  have hge:¬ (l.length:Int) ≤ (i:Int):=by omega
  generalize l.length=len at *;have hM0:=QM [] w;have hq5:q=0 ∨ q=1 ∨ q=2 ∨ q=3 ∨ (q ≠ 0 ∧ q ≠ 1 ∧ q ≠ 2 ∧ q ≠ 3):=by omega
  rcases hq5 with rfl | rfl | rfl | rfl | ⟨q0,q1,q2,q3⟩
  ·have hd:=zcU w n hn;rw [if_pos rfl];change (kd:Int) / 8 % 8=0 at hqz;go_enter Tryz.func18, Tryz.ntmps18;go_wp2_with fail;(with_reducible refine hd.mono ?_);rintro e w2 ⟨rfl,hM⟩;clear hd;go_wp2_with fail;go_ret;exact ⟨rfl,hM⟩
  ·rw [if_neg (by decide),if_pos rfl];change (kd:Int) / 8 % 8=1 at hqz;obtain ⟨D1,hD1⟩:=EX ((⟨(zdo n).toArray⟩ : ByteArray):ByteArray);obtain ⟨D2,hD2⟩:=EX ((⟨(zdo (n % 1000)).toArray⟩ : ByteArray):ByteArray);have hs1:D1.size ≤ 6:=by rw [← hD1]; exact zdJ n
   have hs2:D2.size ≤ 6:=by rw [← hD2]; exact zdJ (n % 1000)
   have hcat:D1 ++ ⟨#[46]⟩ ++ D2 = ⟨(zdo n ++ [46] ++ zdo (n % 1000)).toArray⟩:=by rw [← hD1,← hD2]; exact cat3 (zdo n) [46] (zdo (n % 1000))
   have e10:((n % 1000:Nat):Int)=(n:Int) % 1000:=by omega
   have kd1:∀ k:zay w,Calls Tryz.prog 11 #[.int .u16 n] k.val fun e w' => e = .returned (.string D1) ∧ ∃ k':zay w,w'=k'.val:=fun k =>
    (zcU k.val n hn).mono fun e w' h => ⟨by rw [h.1,hD1],⟨_,k.mods.trans h.2⟩,rfl⟩
   have kd2:∀ k:zay w,Calls Tryz.prog 11 #[.int .u16 ((n:Int) % 1000)] k.val fun e w' => e = .returned (.string D2) ∧ ∃ k':zay w,w'=k'.val:=fun k => by have:=zcU k.val (n % 1000) (by omega);rw [e10] at this;exact this.mono fun e w' h => ⟨by rw [h.1,hD2],⟨_,k.mods.trans h.2⟩,rfl⟩
   have k1:∀ k:zay w,k.val.cell? ⟨b,off + i * 3 + 1,none⟩ = some (.int .u16 (n:Nat)):=fun k => k.mods.cell c2;rw [← hcat];clear hcat hD1 hD2 e10;have n1:¬ 9223372036854775807 < D1.size + 1:=by omega
   have n2:¬ 9223372036854775807 < D1.size + 1 + D2.size:=by omega
   have HK1:=QH kd1;have HK2:=QH kd2;clear kd1 kd2;go_enter Tryz.func18, Tryz.ntmps18;go_upto_region 7 with fail;refine zcK (by kernel_rfl) (by kernel_rfl) ?_;(repeat go_big_quiet_step (first | with_reducible exact HK1.out _ | with_reducible exact HK2.out _));refine QW ?_;rintro _ ⟨kk,rfl⟩;go_wp2_with fail;go_ret;exact ⟨rfl,kk.mods⟩
  ·have hd:=ziA w ⟨s.toArray⟩ hs;rw [if_neg (by decide),if_neg (by decide),if_pos rfl];change (kd:Int) / 8 % 8=2 at hqz;obtain ⟨L,hL⟩:=EX ((⟨(letV s).toArray⟩ : ByteArray):ByteArray);have hLs:L.size ≤ 20:=by rw [← hL]; exact zje s
   have hcat:(⟨#[39]⟩ : ByteArray) ++ L ++ ⟨#[39]⟩ = ⟨([39] ++ letV s ++ [39]).toArray⟩:=by rw [← hL]; exact cat3 [39] (letV s) [39]
   rw [show (⟨s.toArray⟩ : ByteArray).data.toList=s from rfl,hL] at hd;rw [← hcat];clear hcat hL;have n1:¬ 9223372036854775807 < 1 + L.size:=by omega
   have n2:¬ 9223372036854775807 < 1 + L.size + 1:=by omega
   go_enter Tryz.func18, Tryz.ntmps18;go_wp2_with fail;(with_reducible refine hd.mono ?_);rintro e w2 ⟨rfl,hM⟩;clear hd;go_wp2_with fail;go_ret;exact ⟨rfl,hM⟩
  ·rw [if_neg (by decide),if_neg (by decide),if_neg (by decide),if_pos rfl];change (kd:Int) / 8 % 8=3 at hqz;obtain ⟨k,hk⟩:=EX (n % 3);have hk3:k < 3:=by omega
   have hkz:(n:Int) % 3=(k:Int):=by omega
   have hki:(k:Int) < 3:=by omega
   have cc:=znC w k hk3;have hMa:=(QM [] w).alloc (.cells #[.string ⟨#[84,82,85,69]⟩,.string ⟨#[102,97,108,115,101]⟩,.string ⟨#[78,85,76,76]⟩] 9);have d2:=hMa.cell c2;rw [hk];clear hk;generalize constV k=W at *;go_enter Tryz.func18, Tryz.ntmps18;go_wp2_with fail;go_ret;exact ⟨rfl,hMa⟩
  ·have hd:=zj7 w n hn;rw [if_neg q0,if_neg q1,if_neg q2,if_neg q3];have z0:((q:Int) == 0)=false:=beq_eq_false_iff_ne.2 (by omega);have z1:((q:Int) == 1)=false:=beq_eq_false_iff_ne.2 (by omega);have z2:((q:Int) == 2)=false:=beq_eq_false_iff_ne.2 (by omega);have z3:((q:Int) == 3)=false:=beq_eq_false_iff_ne.2 (by omega);clear q0 q1 q2 q3;go_enter Tryz.func18, Tryz.ntmps18;go_wp2_with fail;(with_reducible refine hd.mono ?_);rintro e w2 ⟨rfl,hM⟩;clear hd;go_wp2_with fail;go_ret;exact ⟨rfl,hM⟩
 ·have hav:atomV l i=[49]:=by unfold atomV; rw [List.getElem?_eq_none (by omega)]
  rw [hav];have hz1:(l.length:Int) ≤ (i:Int):=by omega
  have hM0:=QM [] w;clear hav hok hP;generalize l.length=len at *;go_enter Tryz.func18, Tryz.ntmps18;go_wp2_with fail;go_ret;exact ⟨rfl,hM0⟩
open Go.ChangeShapes Go.WideShapes Go.ChangeAt Go.RowKit Go.Deep
theorem zl4:∃ fs:Array Field,Tryz.prog.underlying 59 = some (.struct fs) ∧ oneCellFields Tryz.prog fs=true ∧ fs.size=3 ∧ fs.map (·.type) = #[5, 35, 9]:=
 ⟨_,Tryz.underlying59, by kernel_rfl,by kernel_rfl,by kernel_rfl⟩
theorem znE {H:Type} {enc:TypeId × Value → H} {P:Program} {w:World} {base:Nat} {spare:Nat → Bool} {held:Bool} {e:TypeId} {n:Nat} {v:Value} {x:DataW H × List MemPlace} (he:P.underlying e=some (.int .u16)) (h:DataW.trod enc P w base spare held n e [v]=some x):∃ k:Nat,v = .int .u16 k ∧ k < 65536:=by obtain ⟨m,hc,-,hw⟩:=DataW.trod_int he h;obtain ⟨k,rfl,hk⟩:=zoL hw;exact ⟨k,by simpa using hc,hk⟩
theorem zl5 {H:Type} {enc:TypeId × Value → H} {W:World} {v:Value} {d:DataW H} {p:List MemPlace} (hval:Value.okWide Tryz.prog W .any 0 22 v) (h:DataW.Trod enc Tryz.prog W 0 (fun _ => true) true 22 v d p) :
  ∃ (ao:Option Addr) (cap:Nat) (l:List zbc),v = .slice ao l.length cap ∧ l.length ≤ 9223372036854775807 ∧ PartsIn W ao l ∧ ∀ p ∈ l,PartOk p:=by
 have hC : Tryz.prog.cellsOf 59 = 3:=by kernel_rfl
 obtain ⟨fs,hs,h1,h6,hty⟩:=zl4;obtain ⟨ao,len,cap,hv,hl,hel⟩:=zhJ Tryz.underlying22 (Nat.lt_of_lt_of_eq (by decide:0 < 3) hC.symm) hval h;by_cases h0:0 < len
 ·obtain ⟨b,off,rfl,hi⟩:=hel h0;rw [hC] at hi;have:Inhabited zbc:=⟨⟨0,0,[]⟩⟩
  obtain ⟨C,hX⟩:=choose_lt (α:=zbc) (p:=fun i z => (W.cell? ⟨b,off + i * 3,none⟩ = some (.int .u8 (z.kind:Nat)) ∧ W.cell? ⟨b,off + i * 3 + 1,none⟩ = some (.int .u16 (z.n:Nat)) ∧ W.cell? ⟨b,off + i * 3 + 2,none⟩ = some (.string ⟨z.s.toArray⟩)) ∧ PartOk z) (n:=len) (fun i hil => by
   obtain ⟨cs,n,x,hcl,hcells,ht⟩:=hi i hil;have fld:∀ (j:Nat) (t:TypeId),(#[5, 35, 9]:Array TypeId)[j]? = some t → ∃ (v:Value) (m:Nat) (y:DataW H × List MemPlace),cs[j]? = some v ∧ DataW.trod enc Tryz.prog W 0 (fun _ => true) true m t [v]=some y:=by intro j t hj;rw [← hty,Array.getElem?_map] at hj;obtain ⟨f,hf,rfl⟩:=Option.map_eq_some_iff.1 hj;exact zhI hs h1 (hC.trans h6.symm) ht hf
   obtain ⟨v0,m0,y0,c0,t0⟩:=fld 0 _ rfl;obtain ⟨v1,m1,y1,c1,t1⟩:=fld 1 _ rfl;obtain ⟨v2,m2,y2,c2,t2⟩:=fld 2 _ rfl;obtain ⟨K,rfl,hK⟩:=zoG Tryz.underlying5 t0;obtain ⟨N,rfl,hN⟩:=znE Tryz.underlying35 t1;obtain ⟨s,rfl,hs5⟩:=ziD Tryz.underlying9 t2;refine ⟨⟨K,N,s.data.toList⟩,⟨?_,?_,?_⟩,hK,hN,hs5⟩
   ·have:=hcells 0 (by omega); rw [Nat.add_zero] at this; exact this.trans c0
   ·exact (hcells 1 (by omega)).trans c1
   ·exact (hcells 2 (by omega)).trans c2)
  refine ⟨_,cap,(List.range len).map C,by rw [hv]; simp,by simp; omega,fun _ => ⟨b,off,rfl,fun i hil => ?_⟩,fun z hz => ?_⟩
  ·have hil':i < len:=by simpa using hil
   simp only [List.getElem_map,List.getElem_range];exact (hX i hil').1
  ·simp only [List.mem_map,List.mem_range] at hz;obtain ⟨i,hi',rfl⟩:=hz;exact (hX i hi').2
 ·refine ⟨ao,cap,[],?_,by simp,fun h => absurd h (by simp),fun v hv => by cases hv⟩;rw [hv];have:len=0:=by omega
  rw [this];rfl
theorem zj8 {l:List zbc} {j:Nat} (h:l.length ≤ j + 1):∀ m,j ≤ m → zaS l m=zaS l j:=by
 intro m
 induction m with
 | zero =>
      intro hm; obtain rfl:j=0:=by omega
      rfl
 | succ m ih =>
  intro hm;rcases Nat.lt_or_ge m j with h2 | h2
  ·obtain rfl:j=m + 1:=by omega
   rfl
  ·rw [← ih h2];show (match l[m + 1]? with | none => zaS l m | some p => zfB (zaS l m) p)=_;rw [List.getElem?_eq_none (by omega)]
theorem zj9 (l:List zbc):zaS l 0=atomV l 0:=by cases l <;> rfl
theorem zka (l:List zbc) (i:Nat) (h0:1 ≤ i) (h:i < l.length):zaS l i=zfB (zaS l (i - 1)) l[i]:=by obtain ⟨j,rfl⟩ : ∃ j,i=j + 1:=⟨i - 1,by omega⟩;show (match l[j + 1]? with | none => zaS l j | some p => zfB (zaS l j) p)=_;rw [List.getElem?_eq_getElem h];rfl
theorem znQ (w:World) (j:Nat) (h:j < 12):(w.alloc (.cells #[.string ⟨#[32,43,32]⟩,.string ⟨#[32,45,32]⟩,.string ⟨#[32,42,32]⟩,.string ⟨#[32,47,32]⟩,.string ⟨#[32,61,32]⟩,.string ⟨#[32,60,32]⟩,.string ⟨#[32,65,78,68,32]⟩,.string ⟨#[32,79,82,32]⟩,.string ⟨#[32,60,62,32]⟩,.string ⟨#[32,62,61,32]⟩,.string ⟨#[32,60,61,32]⟩,.string ⟨#[32,62,32]⟩] 9)).cell? ⟨w.heap.size,j,none⟩ = some (.string ⟨(opS j).toArray⟩):=by rw [za (QN w _) j];rcases op12 h with rfl | rfl | rfl | rfl | rfl | rfl | rfl | rfl | rfl | rfl | rfl | rfl <;> rfl
theorem zo3 {s:Bs} {p:zbc} {q:Nat} (h:p.kind % 8=q):zfB s p=if q=0 then brk s ++ opS (p.n % 12) ++ zb2 p
 else if q=1 then zb2 p ++ opS (p.n % 12) ++ brk s
 else if q=2 then [78,79,84,32] ++ brk s
 else if q=3 then [45,32] ++ brk s
 else if q=4 then brk s ++ [32,73,83,32,78,85,76,76]
 else if q=5 then brk s ++ [32,105,115,32,110,111,116,32,110,117,108,108]
 else brk s ++ opS (p.n % 4) ++ zb2 p:=by
 unfold zfB; rw [h]
theorem zkb (w:World) (a:Option Addr) (l:List zbc) (cap:Nat) (hP:PartsIn w a l) (hl:l.length ≤ 9223372036854775807) (hok:∀ p ∈ l,PartOk p) :
  Calls Tryz.prog 8 #[.slice a l.length cap] w fun e w' => e = .returned (.string ⟨(zc8 l).toArray⟩) ∧ Mods [] w w':=by
 have hat:=fun (w1:World) (hM:Mods [] w w1) (i:Nat) (hi:i ≤ 100) => znD w1 a l cap (hP.mods hM) hl hok i hi;have h0:Calls Tryz.prog 18 #[.slice a l.length cap,.int .i64 0] w _:=hat w (QM [] w) 0 (by decide);rw [← zj9] at h0;have HAT:=QH hat;have HP:=QH (AI hP hok);clear hat hP hok;obtain ⟨len,hlen⟩:=EX (l.length);have HLEN:=QH hlen;rw [hlen] at h0 hl;rw [hlen];clear hlen;go_enter Tryz.func8, Tryz.ntmps8;go_wp2_with fail;(with_reducible refine h0.mono ?_);rintro e w1 ⟨rfl,hM1⟩;clear h0;go_wp2_with fail;go_loopg [3,4] 11 (fun gk t3 t4 wr => ∃ i:Nat,i + gk=12 ∧ 1 ≤ i ∧ t4 = .int .i64 i ∧ t3 = .string ⟨(zaS l (i - 1)).toArray⟩ ∧ Mods [] w wr)
 case atStart => exact ⟨1,by omega,by omega,rfl,rfl,hM1⟩
 obtain ⟨i,hi,hi1,rfl,rfl,hMr⟩:=hrel;have hsz:=zfp l (i - 1);by_cases hlt:i < len ∧ i < 12
 ·obtain ⟨hlt1,hlt2⟩:=hlt;have hil:i < l.length:=by rw [HLEN.out]; exact hlt1
  have hz1:(i:Int) < (len:Int):=by omega
  have hz2:(i:Int) < 12:=by omega
  obtain ⟨b,off,rfl,hc⟩:=HP.out.1 (by omega);obtain ⟨c1,c2,-⟩:=hc i hil;obtain ⟨hp1,hp2,-⟩:=HP.out.2 _ (List.getElem_mem hil);have hnx:=zka l i hi1 hil;have hav:atomV l i=zb2 l[i]:=by unfold atomV; rw [List.getElem?_eq_getElem hil]
  have hMa:=hMr.trans ((QM [] wr).alloc (.cells #[.string ⟨#[32,43,32]⟩,.string ⟨#[32,45,32]⟩,.string ⟨#[32,42,32]⟩,.string ⟨#[32,47,32]⟩,.string ⟨#[32,61,32]⟩,.string ⟨#[32,60,32]⟩,.string ⟨#[32,65,78,68,32]⟩,.string ⟨#[32,79,82,32]⟩,.string ⟨#[32,60,62,32]⟩,.string ⟨#[32,62,61,32]⟩,.string ⟨#[32,60,61,32]⟩,.string ⟨#[32,62,32]⟩] 9));have hca:=HAT.out _ hMa i (by omega);rw [hav,HLEN.out] at hca;obtain ⟨p,hp⟩:=EX (l[i]);rw [hp] at c1 c2 hp1 hp2 hnx hca;obtain ⟨q,hq⟩:=EX (p.kind % 8);have hqz:(p.kind:Int) % 8=(q:Int):=by omega
  rw [zo3 hq] at hnx;obtain ⟨m,hm⟩:=EX (p.n % 12);obtain ⟨m4,hm4⟩:=EX (p.n % 4);rw [hm,hm4] at hnx;have hmz:(p.n:Int) % 12=(m:Int):=by omega
  have hm4z:(p.n:Int) % 4=(m4:Int):=by omega
  have hm12:m < 12:=by omega
  have hm44:m4 < 4:=by omega
  have hmi:(m:Int) < 12:=by omega
  have hm4i:(m4:Int) < 12:=by omega
  have hops:=zgX hm12;have hops4:=zgX (j:=m4) (by omega);have hAs:=zdj p;have o1:=znQ wr m hm12;have o2:=znQ wr m4 (by omega);have hq7:q=0 ∨ q=1 ∨ q=2 ∨ q=3 ∨ q=4 ∨ q=5 ∨ (q ≠ 0 ∧ q ≠ 1 ∧ q ≠ 2 ∧ q ≠ 3 ∧ q ≠ 4 ∧ q ≠ 5):=by omega
  have hEs:(⟨(zaS l (i - 1)).toArray⟩ : ByteArray).size ≤ 400:=by show (zaS l (i - 1)).length ≤ 400; omega
  have hTs:(⟨(zb2 p).toArray⟩ : ByteArray).size ≤ 22:=hAs;have hOs:(⟨(opS m).toArray⟩ : ByteArray).size ≤ 5:=hops;have hO4:(⟨(opS m4).toArray⟩ : ByteArray).size ≤ 5:=hops4
  have hcat:(⟨(zaS l i).toArray⟩ : ByteArray)=if q=0 then ⟨#[40]⟩ ++ ⟨(zaS l (i - 1)).toArray⟩ ++ ⟨#[41]⟩ ++ ⟨(opS m).toArray⟩ ++ ⟨(zb2 p).toArray⟩
    else if q=1 then ⟨(zb2 p).toArray⟩ ++ ⟨(opS m).toArray⟩ ++ ⟨#[40]⟩ ++ ⟨(zaS l (i - 1)).toArray⟩ ++ ⟨#[41]⟩
    else if q=2 then ⟨#[78,79,84,32,40]⟩ ++ ⟨(zaS l (i - 1)).toArray⟩ ++ ⟨#[41]⟩
    else if q=3 then ⟨#[45,32,40]⟩ ++ ⟨(zaS l (i - 1)).toArray⟩ ++ ⟨#[41]⟩
    else if q=4 then ⟨#[40]⟩ ++ ⟨(zaS l (i - 1)).toArray⟩ ++ ⟨#[41,32,73,83,32,78,85,76,76]⟩
    else if q=5 then ⟨#[40]⟩ ++ ⟨(zaS l (i - 1)).toArray⟩ ++ ⟨#[41,32,105,115,32,110,111,116,32,110,117,108,108]⟩
    else ⟨#[40]⟩ ++ ⟨(zaS l (i - 1)).toArray⟩ ++ ⟨#[41]⟩ ++ ⟨(opS m4).toArray⟩ ++ ⟨(zb2 p).toArray⟩:=by
   rw [hnx];have e1:(⟨#[40]⟩ : ByteArray) = ⟨([40]:Bs).toArray⟩:=rfl;have e2:(⟨#[41]⟩ : ByteArray) = ⟨([41]:Bs).toArray⟩:=rfl;have e3:(⟨#[78,79,84,32,40]⟩ : ByteArray) = ⟨([78,79,84,32,40]:Bs).toArray⟩:=rfl;have e4:(⟨#[45,32,40]⟩ : ByteArray) = ⟨([45,32,40]:Bs).toArray⟩:=rfl;have e5:(⟨#[41,32,73,83,32,78,85,76,76]⟩ : ByteArray) = ⟨([41,32,73,83,32,78,85,76,76]:Bs).toArray⟩:=rfl;have e6:(⟨#[41,32,105,115,32,110,111,116,32,110,117,108,108]⟩ : ByteArray) = ⟨([41,32,105,115,32,110,111,116,32,110,117,108,108]:Bs).toArray⟩:=rfl;rw [e1,e2,e3,e4,e5,e6];simp only [cat2];unfold brk;split
   ·simp
   split
   ·simp
   split
   ·simp
   split
   ·simp
   split
   ·simp
   split
   ·simp
   ·simp
  have HC:=QH hcat;clear hcat hnx hq hm hm4 hops hops4 hAs hav hp hc hsz;generalize (⟨(zaS l (i - 1)).toArray⟩ : ByteArray)=S at *;generalize (⟨(zb2 p).toArray⟩ : ByteArray)=T at *;generalize (⟨(opS m).toArray⟩ : ByteArray)=O at *;generalize (⟨(opS m4).toArray⟩ : ByteArray)=O4 at *;generalize p.kind=kd at *;generalize p.n=n at *;go_upto_region 6 with fail;have c1a:=((QM [] wr).alloc (.cells #[.string ⟨#[32,43,32]⟩,.string ⟨#[32,45,32]⟩,.string ⟨#[32,42,32]⟩,.string ⟨#[32,47,32]⟩,.string ⟨#[32,61,32]⟩,.string ⟨#[32,60,32]⟩,.string ⟨#[32,65,78,68,32]⟩,.string ⟨#[32,79,82,32]⟩,.string ⟨#[32,60,62,32]⟩,.string ⟨#[32,62,61,32]⟩,.string ⟨#[32,60,61,32]⟩,.string ⟨#[32,62,32]⟩] 9)).cell (hMr.cell c1 (by simp));have c2a:=((QM [] wr).alloc (.cells #[.string ⟨#[32,43,32]⟩,.string ⟨#[32,45,32]⟩,.string ⟨#[32,42,32]⟩,.string ⟨#[32,47,32]⟩,.string ⟨#[32,61,32]⟩,.string ⟨#[32,60,32]⟩,.string ⟨#[32,65,78,68,32]⟩,.string ⟨#[32,79,82,32]⟩,.string ⟨#[32,60,62,32]⟩,.string ⟨#[32,62,61,32]⟩,.string ⟨#[32,60,61,32]⟩,.string ⟨#[32,62,32]⟩] 9)).cell (hMr.cell c2 (by simp));generalize wr.alloc (.cells #[.string ⟨#[32,43,32]⟩,.string ⟨#[32,45,32]⟩,.string ⟨#[32,42,32]⟩,.string ⟨#[32,47,32]⟩,.string ⟨#[32,61,32]⟩,.string ⟨#[32,60,32]⟩,.string ⟨#[32,65,78,68,32]⟩,.string ⟨#[32,79,82,32]⟩,.string ⟨#[32,60,62,32]⟩,.string ⟨#[32,62,61,32]⟩,.string ⟨#[32,60,61,32]⟩,.string ⟨#[32,62,32]⟩] 9)=wa at *;generalize wr.heap.size=g at *;go_wp2_with fail;(with_reducible refine hca.mono ?_);rintro e w2 ⟨rfl,hM2⟩;have d1:=hM2.cell c1a;have d2:=hM2.cell c2a;have x1:=hM2.cell o1;have x2:=hM2.cell o2;have hMw:=hMa.trans hM2;clear hca c1 c2 c1a c2a o1 o2 hMa hM2 hMr hM1;rcases hq7 with rfl | rfl | rfl | rfl | rfl | rfl | ⟨q0,q1,q2,q3,q4,q5⟩
  ·have hC:=HC.out;rw [if_pos rfl] at hC;change (kd:Int) % 8=0 at hqz;have HD:=QH hC.symm;clear hC HC;have n1:¬ 9223372036854775807 < 1 + S.size:=by omega
   have n2:¬ 9223372036854775807 < 1 + S.size + 1:=by omega
   have n3:¬ 9223372036854775807 < 1 + S.size + 1 + O.size:=by omega
   have n4:¬ 9223372036854775807 < 1 + S.size + 1 + O.size + T.size:=by omega
   go_wp2_with fail;go_roundg (12 - (i + 1))
   case measure => omega
   case rel => exact ⟨i + 1,by omega,by omega,by go_num,by rw [HD.out,Nat.add_sub_cancel],hMw⟩
  ·have hC:=HC.out;rw [if_neg (by decide),if_pos rfl] at hC;change (kd:Int) % 8=1 at hqz;have HD:=QH hC.symm;clear hC HC;have n1:¬ 9223372036854775807 < T.size + O.size:=by omega
   have n2:¬ 9223372036854775807 < T.size + O.size + 1:=by omega
   have n3:¬ 9223372036854775807 < T.size + O.size + 1 + S.size:=by omega
   have n4:¬ 9223372036854775807 < T.size + O.size + 1 + S.size + 1:=by omega
   go_wp2_with fail;go_roundg (12 - (i + 1))
   case measure => omega
   case rel => exact ⟨i + 1,by omega,by omega,by go_num,by rw [HD.out,Nat.add_sub_cancel],hMw⟩
  ·have hC:=HC.out;rw [if_neg (by decide),if_neg (by decide),if_pos rfl] at hC;change (kd:Int) % 8=2 at hqz;have HD:=QH hC.symm;clear hC HC;have n1:¬ 9223372036854775807 < 5 + S.size:=by omega
   have n2:¬ 9223372036854775807 < 5 + S.size + 1:=by omega
   go_wp2_with fail;go_roundg (12 - (i + 1))
   case measure => omega
   case rel => exact ⟨i + 1,by omega,by omega,by go_num,by rw [HD.out,Nat.add_sub_cancel],hMw⟩
  ·have hC:=HC.out;rw [if_neg (by decide),if_neg (by decide),if_neg (by decide),if_pos rfl] at hC;change (kd:Int) % 8=3 at hqz;have HD:=QH hC.symm;clear hC HC;have n1:¬ 9223372036854775807 < 3 + S.size:=by omega
   have n2:¬ 9223372036854775807 < 3 + S.size + 1:=by omega
   go_wp2_with fail;go_roundg (12 - (i + 1))
   case measure => omega
   case rel => exact ⟨i + 1,by omega,by omega,by go_num,by rw [HD.out,Nat.add_sub_cancel],hMw⟩
  ·have hC:=HC.out;rw [if_neg (by decide),if_neg (by decide),if_neg (by decide),if_neg (by decide),if_pos rfl] at hC;change (kd:Int) % 8=4 at hqz;have HD:=QH hC.symm;clear hC HC;have n1:¬ 9223372036854775807 < 1 + S.size:=by omega
   have n2:¬ 9223372036854775807 < 1 + S.size + 9:=by omega
   go_wp2_with fail;go_roundg (12 - (i + 1))
   case measure => omega
   case rel => exact ⟨i + 1,by omega,by omega,by go_num,by rw [HD.out,Nat.add_sub_cancel],hMw⟩
  ·have hC:=HC.out;rw [if_neg (by decide),if_neg (by decide),if_neg (by decide),if_neg (by decide),if_neg (by decide),if_pos rfl] at hC;change (kd:Int) % 8=5 at hqz;have HD:=QH hC.symm;clear hC HC;have n1:¬ 9223372036854775807 < 1 + S.size:=by omega
   have n2:¬ 9223372036854775807 < 1 + S.size + 13:=by omega
   go_wp2_with fail;go_roundg (12 - (i + 1))
   case measure => omega
   case rel => exact ⟨i + 1,by omega,by omega,by go_num,by rw [HD.out,Nat.add_sub_cancel],hMw⟩
  ·have hC:=HC.out;rw [if_neg q0,if_neg q1,if_neg q2,if_neg q3,if_neg q4,if_neg q5] at hC;have z0:((q:Int) == 0)=false:=beq_eq_false_iff_ne.2 (by omega);have z1:((q:Int) == 1)=false:=beq_eq_false_iff_ne.2 (by omega);have z2:((q:Int) == 2)=false:=beq_eq_false_iff_ne.2 (by omega);have z3:((q:Int) == 3)=false:=beq_eq_false_iff_ne.2 (by omega);have z4:((q:Int) == 4)=false:=beq_eq_false_iff_ne.2 (by omega);have z5:((q:Int) == 5)=false:=beq_eq_false_iff_ne.2 (by omega);clear q0 q1 q2 q3 q4 q5;have HD:=QH hC.symm;clear hC HC;have n1:¬ 9223372036854775807 < 1 + S.size:=by omega
   have n2:¬ 9223372036854775807 < 1 + S.size + 1:=by omega
   have n3:¬ 9223372036854775807 < 1 + S.size + 1 + O4.size:=by omega
   have n4:¬ 9223372036854775807 < 1 + S.size + 1 + O4.size + T.size:=by omega
   go_wp2_with fail;go_roundg (12 - (i + 1))
   case measure => omega
   case rel => exact ⟨i + 1,by omega,by omega,by go_num,by rw [HD.out,Nat.add_sub_cancel],hMw⟩
 ·have hend:zaS l (i - 1)=zc8 l:=by
   by_cases h12:i=12
   ·rw [h12]; rfl
   ·exact (zj8 (j:=i - 1) (by rw [HLEN.out]; omega) 11 (by omega)).symm
  rw [hend];have hcase:(i:Int) < (len:Int) ∧ ¬ (i:Int) < 12 ∨ ¬ (i:Int) < (len:Int):=by omega
  clear hend hlt hsz;rcases hcase with ⟨z1,z2⟩ | z1
  ·go_wp2_with fail;go_ret;exact ⟨rfl,hMr⟩
  ·go_wp2_with fail;go_ret;exact ⟨rfl,hMr⟩
end Go.Proofs.YtgdpaieechgahaaGreatDoor
