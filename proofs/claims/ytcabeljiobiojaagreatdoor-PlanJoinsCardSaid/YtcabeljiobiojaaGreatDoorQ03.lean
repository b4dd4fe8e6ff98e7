/-
  A scanner's method text, walked. No condition.
-/
import Derived.Test.YtcabeljiobiojaaGreatDoorQ02
set_option linter.unusedVariables false
set_option maxRecDepth 100000
set_option maxHeartbeats 4000000
namespace Go.Proofs.YtcabeljiobiojaaGreatDoor
open Go.RowKit
theorem ydm {p:Prop} (h:p:=by
  go_wp2_with fail;(with_reducible refine hcall.mono ?_);rintro e w2 ⟨k,a,x,n,cc,len,rfl,hr2,hfin⟩;have HF:=QH (hfin HT1.out);clear hfin hcall
  first
  |clear gA8
   go_wp2_with (refine wpList_store_row rfl 92 (.tmp 4) (.tmp 25) rfl w.heap.size (zn k a x n cc) rfl rfl 92 _ hr2 hinfo rfl (zam _ _ _ _ _) ?_);exact yaN
  |clear gA9
   go_wp2_with (refine wpList_store_row rfl 92 (.tmp 4) (.tmp 39) rfl w.heap.size (zn k a x n cc) rfl rfl 92 _ hr2 hinfo rfl (zam _ _ _ _ _) ?_);exact yaN
  |clear gBa
   go_wp2_with (refine wpList_store_row rfl 92 (.tmp 4) (.tmp 47) rfl w.heap.size (zn k a x n cc) rfl rfl 92 _ hr2 hinfo rfl (zam _ _ _ _ _) ?_);exact yaN
  |clear gBb
   go_wp2_with (refine wpList_store_row rfl 92 (.tmp 4) (.tmp 52) rfl w.heap.size (zn k a x n cc) rfl rfl 92 _ hr2 hinfo rfl (zam _ _ _ _ _) ?_);exact yaN
 ):p:=h
theorem yaN {p:Prop} (h:p:=by
  exact bodyPost_ret (zg rfl _ _ w.heap.size 92 (zn k a x n cc) (0,0) _ rfl (zi _ hr2) Tryz.underlying92 rfl hinfo (.int .i64 len) rfl) rfl HF.out
 ):p:=h
theorem ybz {p:Prop} (h:p:=by
  refine bodyPost_ret (zg rfl _ _ w.heap.size 92 (zn 0 0 ⟨#[]⟩ 0 0) (0,0) _ rfl (zi _ hr) Tryz.underlying92 rfl hinfo _ rfl) rfl ?_;rw [HE.out];exact ⟨rfl,hM.setRow (.inr (LR _)) _⟩
 ):p:=h
theorem ycf {p:Prop} (h:p:=by
  ·obtain rfl:g=g':=by simpa [Value.ownBlock] using hg'
   rcases hg with h | h
   ·exact h5 g h
   ·have:=h1.size; omega
 ):p:=h
def TextSt (w:World) (rb bb:Nat) (acc:List UInt8) (wr:World):Prop:=
 Mods [] w wr ∧ wr.heap[rb]? = some (.cells (zn 0 0 ⟨#[]⟩ 0 0) 92 (0,0)) ∧ ∃ arr v,arr.size=2 ∧ Bld wr bb 0 242 arr v acc ∧ ∀ g,v.ownBlock=some g → w.heap.size ≤ g
theorem TextSt.wrote {w wr w':World} {rb bb:Nat} {acc acc':List UInt8} {arr:Array Value} {v:Value} (hrb:w.heap.size ≤ rb) (hbb:w.heap.size ≤ bb) (hne:rb ≠ bb) (hM:Mods [] w wr) (hr:wr.heap[rb]? = some (.cells (zn 0 0 ⟨#[]⟩ 0 0) 92 (0,0)))
  (ha:arr.size=2) (hB:Bld wr bb 0 242 arr v acc) (hv:∀ g,v.ownBlock=some g → w.heap.size ≤ g) (h:Wrote wr bb 0 242 arr v acc' w'):TextSt w rb bb acc' w':=by
 obtain ⟨h1,v',h2,h3⟩:=h;have hvr:v.ownBlock ≠ some rb:=Lib.ownBlock_ne hB.own hr AD;refine ⟨hM.trans h1 (fun x hx => ?_),h1.heap hr ?_,_,v',?_,h2,fun g hg => ?_⟩
 ·simp only [List.mem_cons,Option.mem_toList] at hx;rcases hx with rfl | hx
  ·exact .inr hbb
  ·exact .inr (hv x hx)
 ·simp only [List.mem_cons,Option.mem_toList];rintro (h | h)
  ·exact hne h
  ·exact hvr h
 ·simp [ha]
 ·rcases h3 g hg with h | h
  ·exact hv g h
  ·exact Nat.le_trans hM.size h
theorem zhR (l:List UInt8):Lib.hasPrefix l [39]=decide (l.head? = some 39):=by exact ybP
def TRel (l:List UInt8) (s:ByteArray) (at_ k:Nat) (acc:List UInt8):Prop:=textL (l.drop 1)=(textL (s.data.toList.drop k)).map (fun x => (acc ++ x.1,x.2 + (k - at_ - 1)))
theorem TRel.bad {l:List UInt8} {s:ByteArray} {at_ k:Nat} {acc:List UInt8} (h:TRel l s at_ k acc) (hn:textL (s.data.toList.drop k)=none):zcV l=none:=by unfold TRel at h;rw [hn] at h;unfold zcV;rw [h]; rfl
theorem TRel.step {l:List UInt8} {s:ByteArray} {at_ k n:Nat} {acc:List UInt8} (h:TRel l s at_ k acc) (hat:at_ < k) (hn:k + n < s.size) (hq:(s.data.toList.drop k)[n]? = some 39) (ht:textL (s.data.toList.drop k)=(textL ((s.data.toList.drop k).drop n)).map (fun x => ((s.data.toList.drop k).take n ++ x.1,x.2 + n))) :
  if (s.data.toList.drop (k + n + 1)).head? = some 39 then TRel l s at_ (k + n + 2) (acc ++ (s.data.toList.drop k).take n ++ [39])
  else zcV l=if 200 < (acc ++ (s.data.toList.drop k).take n).length then none else some (⟨4,acc ++ (s.data.toList.drop k).take n,0,0⟩,k + n + 1 - at_):=by
 have e1:(s.data.toList.drop k).drop n=39 :: s.data.toList.drop (k + n + 1):=by rw [List.getElem?_drop] at hq;rw [List.drop_drop];obtain ⟨h1,h2⟩:=List.getElem?_eq_some_iff.1 hq;rw [List.drop_eq_getElem_cons h1,h2]
 rw [e1] at ht;unfold TRel at h;rw [ht] at h
 cases hd:s.data.toList.drop (k + n + 1) with
 | nil =>
  rw [if_neg AB];rw [hd] at h;have e2:textL [39]=some ([],1):=by simp [textL]
  rw [e2] at h;unfold zcV;rw [h];simp only [Option.map_some,List.append_nil];split
  ·rfl
  ·congr 2; omega
 | cons c r =>
  rw [hd] at h;by_cases hc:c=39
  ·subst hc;rw [List.head?_cons,if_pos rfl];have e3:s.data.toList.drop (k + n + 2)=r:=by
    rw [show k + n + 2=(k + n + 1) + 1 by omega,← List.drop_drop,hd]; rfl
   unfold TRel;rw [e3,h,zkp]
   cases textL r with
   | none => rfl
   | some x =>simp only [Option.map_some,List.append_assoc,List.cons_append,List.nil_append];congr 2; omega
  ·rw [if_neg (by simp [hc])];rw [zg3 c r hc] at h;unfold zcV;rw [h];simp only [Option.map_some,List.append_nil];split
   ·rfl
   ·congr 2; omega
theorem zmq (w:World) (b:Nat) (s:ByteArray) (hS:Scan w b s) (hs:s.size ≤ 4096) (at_:Nat) (hat:at_ < s.size) :
  Calls Tryz.prog 86 #[.pointer (some ⟨b,0,none⟩),.int .i64 at_] w (zc4 w (zcV (s.data.toList.drop at_)) at_):=by
 obtain ⟨l,hl⟩:=EX (s.data.toList.drop at_);have hst:TRel l s at_ (at_ + 1) []:=by unfold TRel;rw [← hl,List.drop_drop,show at_ + 1 - at_ - 1=0 by omega];cases textL (s.data.toList.drop (at_ + 1)) <;> simp
 rw [hl];have hM0:=((QM [] w).alloc (.cells (zn 0 0 ⟨#[]⟩ 0 0) 92)).alloc (.cells #[.pointer none,.slice none 0 0] 242);have hr0:=((QM [] (w.alloc (.cells (zn 0 0 ⟨#[]⟩ 0 0) 92))).alloc (.cells #[.pointer none,.slice none 0 0] 242)).heap (QN w (.cells (zn 0 0 ⟨#[]⟩ 0 0) 92)) AB;have hb0:=QN (w.alloc (.cells (zn 0 0 ⟨#[]⟩ 0 0) 92)) (.cells #[.pointer none,.slice none 0 0] 242);rw [zl] at hb0
 have hSt:TextSt w w.heap.size (w.heap.size + 1) [] ((w.alloc (.cells (zn 0 0 ⟨#[]⟩ 0 0) 92)).alloc (.cells #[.pointer none,.slice none 0 0] 242)):=
  ⟨hM0,hr0,_,.slice none 0 0,rfl,⟨hb0,.inl rfl,rfl,World.ownsRow_nil _ _ _ _,fun _ => rfl⟩,fun g hg => by cases hg⟩
 have HL:=QH hl;clear hM0 hr0 hb0 hl;go_enter Tryz.func86, Tryz.ntmps86;go_wp2_with fail;generalize (w.alloc (.cells (zn 0 0 ⟨#[]⟩ 0 0) 92)).alloc (.cells #[.pointer none,.slice none 0 0] 242)=w0 at *;have HSt:=QH hSt;have HTR:=QH hst;clear hSt hst;go_loopw [7] (fun t7 wr => ∃ (k:Nat) (acc:List UInt8),at_ < k ∧ k ≤ s.size ∧ t7 = .int .i64 k ∧ acc.length ≤ k ∧ Hid (TextSt w w.heap.size (w.heap.size + 1) acc wr) ∧ Hid (TRel l s at_ k acc)) (fun t7 _ => s.size + 1 - (intOf t7).toNat)
 case atStart => exact ⟨at_ + 1,[],by omega,by omega,by go_num,by simp,HSt,HTR⟩
 case round =>
  clear HSt HTR;obtain ⟨k,acc,hk,hks,rfl,hacc,HSt,HTR⟩:=hrel;obtain ⟨hM,hr,arr,v,ha,hB,hv⟩:=HSt.out;have hSr:=hS.mods hM;have c0:=hSr.text;have hib:=fun w => (Tryz.strings_IndexByte (s.extract k s.size) 39 w).mono (fun e w' h => (⟨h.1,h.2.symm⟩ : _ ∧ w=w'));rw [zhP,show ((39:Int).toNat.toUInt8)=(39:UInt8) from rfl] at hib;have hinfo:=zer;have hrbw:w.heap.size ≤ w.heap.size:=LR _;rcases zhN (s.data.toList.drop k) with ⟨h1,h2⟩ | ⟨n,h1,h2,h3,h4⟩
  ·have HE:=QH (HTR.out.bad h2);rw [h1] at hib;clear h1 h2 hB hv;go_wp2_with fail;(with_reducible refine (hib _).mono ?_);rintro e w2 ⟨rfl,rfl⟩;clear hib;go_wp2_with (refine wpList_store_row rfl 92 (.tmp 4) (.tmp 20) rfl w.heap.size (zn 0 0 ⟨#[]⟩ 0 0) rfl rfl 92 _ hr hinfo rfl (zam _ _ _ _ _) ?_);exact ybz
  ·have hdl:(s.data.toList.drop k).length=s.size - k:=by rw [List.length_drop]; rfl
   have hkn:k + n < s.size:=by omega
   have hstep:=HTR.out.step hk hkn h3 h4;have hpl:(s.extract k (k + n)).data.toList=(s.data.toList.drop k).take n:=zbW s k n;have hps:(s.extract k (k + n)).size=n:=by have e1:(s.extract k (k + n)).size=(s.extract k (k + n)).data.toList.length:=rfl;rw [e1,hpl,List.length_take]; omega
   have hws:=zeQ ziI ha hB (s.extract k (k + n)) (by rw [hps]; omega);have hwr:=fun w' h => TextSt.wrote (acc':=acc ++ (s.extract k (k + n)).data.toList) (w':=w') hrbw (Nat.le_succ _) AA hM hr ha hB hv h;rw [hpl] at hwr hws;rw [h1] at hib;have hkz:(k:Int) + ((n:Int) + 1) ≤ (s.size:Int):=by omega
   have hlenacc:(acc ++ (s.data.toList.drop k).take n).length ≤ k + n:=by rw [List.length_append,List.length_take]; omega
   have HP:=QH hpl;have HSTEP:=QH hstep;have HLEN:=QH hlenacc;generalize hacc':acc ++ (s.data.toList.drop k).take n=acc' at *;have hpre:=fun w => (Tryz.strings_HasPrefix (s.extract (k + (n + 1)) s.size) ⟨#[39]⟩ w).mono (fun e w' h => (⟨h.1,h.2.symm⟩ : _ ∧ w=w'));have hpe:Lib.hasPrefix (s.extract (k + (n + 1)) s.size).data.toList (⟨#[39]⟩ : ByteArray).data.toList=decide ((s.data.toList.drop (k + n + 1)).head? = some 39):=by rw [zhP]; exact zhR _
   rw [hpe] at hpre;obtain ⟨PF,hPF⟩:=EX (decide ((s.data.toList.drop (k + n + 1)).head? = some 39));rw [hPF] at hpre;have HPF:=QH hPF;clear h1 h2 h3 h4 hpl hps hstep hB hv hdl hlenacc hacc' hpe hPF;go_wp2_with fail;(with_reducible refine (hib _).mono ?_);rintro e w2 ⟨rfl,rfl⟩;clear hib;go_wp2_with fail;refine hws.mono ?_;rintro e w3 ⟨rfl,hW⟩;have HSt3:=hwr w3 hW;clear hws hwr hW hr hM;obtain ⟨hM,hr,arr3,v3,ha3,hB3,hv3⟩:=id HSt3;have hS3:=hS.mods hM;have c3:=hS3.text;clear c0;go_wp2_with fail;(with_reducible refine (hpre _).mono ?_);rintro e w4 ⟨rfl,rfl⟩;clear hpre
   cases PF with
   | false =>
    have hT:=HSTEP.out;rw [if_neg (of_decide_eq_false HPF.out)] at hT;have hlen:=znZ hB3;obtain ⟨L,hL⟩:=EX (acc'.length);rw [hL] at hlen hT;have hLk:L ≤ s.size:=by rw [← hL]; have:=HLEN.out; omega
    by_cases h200:200 < L
    ·have h200z:(200:Int) < (L:Int):=by omega
     rw [if_pos h200] at hT;have HE:=QH hT;clear hT hL hB3 hv3 ha3;go_wp2_with fail;(with_reducible refine hlen.mono ?_);rintro e w5 ⟨rfl,h5⟩;subst h5;clear hlen;go_wp2_with (refine wpList_store_row rfl 92 (.tmp 4) (.tmp 45) rfl w.heap.size (zn 0 0 ⟨#[]⟩ 0 0) rfl rfl 92 _ hr hinfo rfl (zam _ _ _ _ _) ?_);exact ybz
    ·have h200z:¬ (200:Int) < (L:Int):=by omega
     rw [if_neg h200] at hT;have HE:=QH hT;have hstr:=zju hB3;have hv3r:v3.ownBlock ≠ some w.heap.size:=Lib.ownBlock_ne hB3.own hr AD;have hmv:∀ x ∈ v3.ownBlock.toList,x ∈ [] ∨ w.heap.size ≤ x:=fun x hx => .inr (hv3 x AJ);have HMV:=QH (AI hmv hv3r);clear hT hL hB3 hv3 ha3 hv3r hmv;go_wp2_with fail;(with_reducible refine hlen.mono ?_);rintro e w5 ⟨rfl,h5⟩;subst h5;clear hlen;go_wp2_with fail;(with_reducible refine hstr.mono ?_);rintro e w6 ⟨rfl,hM6⟩;have hr6:=hM6.heap hr (by simpa using HMV.out.2);have hM7:=hM.trans hM6 HMV.out.1;clear hstr hM6 hr;go_wp2_with (refine wpList_store_row rfl 92 (.tmp 4) (.tmp 48) rfl w.heap.size (zn 4 at_ ⟨acc'.toArray⟩ 0 0) rfl rfl 92 _ hr6 hinfo rfl (zam _ _ _ _ _) ?_);refine bodyPost_ret (zg rfl _ _ w.heap.size 92 (zn 4 at_ ⟨acc'.toArray⟩ 0 0) (0,0) _ rfl (zi _ hr6) Tryz.underlying92 rfl hinfo _ rfl) rfl ?_;rw [HE.out];refine ⟨?_,hM7.setRow (.inr (LR _)) _⟩;show Ending.returned (.tuple #[_,.int .i64 _])=Ending.returned (.tuple #[_,.int .i64 ((k + n + 1 - at_:Nat):Int)]);rw [show ((k + n + 1 - at_:Nat):Int)=(k:Int) + ((n:Int) + 1) - (at_:Int) by omega];rfl
   | true =>
    have hT:=HSTEP.out;rw [if_pos (of_decide_eq_true HPF.out)] at hT;have hwb:=zgo ziI ha3 hB3 39 (by have:=HLEN.out; omega);change Calls _ _ #[.pointer _,.int .u8 39] _ _ at hwb;have hwr:=fun w' h => TextSt.wrote (acc':=acc' ++ [39]) (w':=w') hrbw (Nat.le_succ _) AA hM hr ha3 hB3 hv3 h;have hdl2:k + n + 2 ≤ s.size:=by
     have:=of_decide_eq_true HPF.out;have e2:(s.data.toList.drop (k + n + 1)) ≠ []:=by intro h; rw [h] at this; simp at this
     have e3:=List.length_pos_iff.2 e2;rw [List.length_drop] at e3;have e4:s.data.toList.length=s.size:=rfl;omega
    have HTR2:=QH hT;clear hT hB3 hv3 ha3 hM hr;go_wp2_with fail;(with_reducible refine hwb.mono ?_);rintro e w5 ⟨rfl,hW⟩;have HSt5:=hwr w5 hW;have HST5:=QH HSt5;clear hwb hwr hW HSt5;go_wp2_with fail;go_roundw
    case measure => simp [intOf]; omega
    case rel => exact ⟨k + n + 2,acc' ++ [39],by omega,by omega,by go_num,by rw [List.length_append]; have:=HLEN.out; simp; omega,HST5,HTR2⟩
theorem zkw (l:List UInt8) (c:UInt8):decide (0 ≤ Lib.indexByte l c)=l.contains c:=by
 induction l with
 | nil => rfl
 | cons b r ih =>
  have h1:=Lib.indexByte_ge r c;unfold Lib.indexByte;by_cases hb:b=c
  ·subst hb; simp
  ·have hb2:(b == c)=false:=by simpa using hb
   have hb3:(c == b)=false:=by simpa using fun e => hb e.symm
   rw [hb2,List.contains_cons,hb3,Bool.false_or,← ih];by_cases h2:Lib.indexByte r c = -1
   ·simp [h2]
   ·have h3:(Lib.indexByte r c == -1)=false:=by simpa using h2
    simp [h3]; omega
def MRel (l:List UInt8) (n:Nat):Prop:=(n=1 → ∀ c r,l=c :: r → zcv l=if marks1.contains c=true then some (⟨5,[c],0,0⟩,1) else none) ∧ (n=0 → zcv l=none) ∧ n ≤ l.length
theorem zmr (l:List UInt8) (h:marks2.contains (l.take 2)=true):zcv l=some (⟨5,l.take 2,0,0⟩,2):=by unfold zcv; rw [if_pos h]
theorem ziJ {c:UInt8} {r:List UInt8} (h:marks2.contains ((c :: r).take 2)=false):zcv (c :: r)=if marks1.contains c=true then some (⟨5,[c],0,0⟩,1) else none:=by unfold zcv; rw [if_neg (by rw [h]; decide)]
theorem zha {x:List UInt8}:(x=[60,62] ∨ x=[60,61] ∨ x=[62,61]) ∨ (x ≠ [60,62] ∧ x ≠ [60,61] ∧ x ≠ [62,61] ∧ marks2.contains x=false):=by
 by_cases h1:x=[60,62]
 ·exact .inl (.inl h1)
 ·by_cases h2:x=[60,61]
  ·exact .inl (.inr (.inl h2))
  ·by_cases h3:x=[62,61]
   ·exact .inl (.inr (.inr h3))
   ·refine .inr ⟨h1,h2,h3,?_⟩;simp [marks2,h1,h2,h3]
theorem zgp {a:ByteArray} {l:List UInt8} (h:a.data.toList ≠ l):(a == ⟨l.toArray⟩)=false:=by
 cases hb:a == (⟨l.toArray⟩ : ByteArray) with
 | false => rfl
 | true => exact absurd (by rw [(MapKept.bytes_beq _ _).1 hb]) h
theorem zms (w:World) (b:Nat) (s:ByteArray) (hS:Scan w b s) (hs:s.size ≤ 4096) (at_:Nat) (hat:at_ < s.size) :
  Calls Tryz.prog 87 #[.pointer (some ⟨b,0,none⟩),.int .i64 at_] w (zc4 w (zcv (s.data.toList.drop at_)) at_):=by
 obtain ⟨l,hl⟩:=EX (s.data.toList.drop at_);have hll:l.length=s.size - at_:=by rw [← hl,List.length_drop]; rfl
 rw [hl];obtain ⟨m,hm⟩ : ∃ m:Nat,(2 ≤ s.size - at_ ∧ m=2) ∨ (s.size - at_=1 ∧ m=1):=by
  by_cases h:2 ≤ s.size - at_
  ·exact ⟨2,.inl ⟨h,rfl⟩⟩
  ·exact ⟨1,.inr ⟨by omega,rfl⟩⟩
 have hmin:=fun w => znU (P:= Tryz.prog) w 3 3 3 .i64 2 ((s.size:Int) - (at_:Int)) m AA;have hst:MRel l m:=by
  refine ⟨fun h1 c r hc => ?_,fun h0 => by omega,by omega⟩;subst hc;have:r=[]:=by
            have h2:(c :: r).length=1:=by omega
            simpa using h2
  subst this;exact ziJ (by simp [marks2])
 have hm2:m ≤ 2 ∧ at_ + m ≤ s.size:=by omega
 have HL:=QH hl;have HLL:=QH hll;have HST:=QH hst;have gCW:=QH trivial;exact yec
theorem zkx (o:Option (TokC × Nat)) (at_:Nat):∃ (k a:Int) (x:ByteArray) (n c len:Int),tokV o at_ = .tuple #[.agg (zn k a x n c),.int .i64 len]:=by
 cases o with
 | none => exact ⟨0,0,⟨#[]⟩,0,0,0,rfl⟩
 | some x => exact ⟨_,_,_,_,_,_,rfl⟩
theorem zky (w:World) (b:Nat) (s:ByteArray) (hS:Scan w b s) (hT:Tabs w) (hs:s.size ≤ 4096) (at_:Nat) (hat:at_ < s.size) :
  Calls Tryz.prog 50 #[.pointer (some ⟨b,0,none⟩),.int .i64 at_] w (zc4 w (zc3 (s.data.toList.drop at_)) at_):=by
 obtain ⟨c,hc⟩:=EX (s[at_]);have hl:s.data.toList.drop at_=c :: s.data.toList.drop (at_ + 1):=by have h1:at_ < s.data.toList.length:=hat;rw [List.drop_eq_getElem_cons h1];congr 1
 have htk:zc3 (s.data.toList.drop at_)=if zah c=true then wordL (s.data.toList.drop at_) else if zC c=true then zbt (s.data.toList.drop at_) else if c=39 then zcV (s.data.toList.drop at_) else zcv (s.data.toList.drop at_):=by rw [hl]; rfl
 have hdg:zC c=true → (s.data.toList.drop at_).takeWhile zC ≠ []:=fun h => by rw [hl,List.takeWhile_cons,if_pos h]; simp
 have gCX:=QH trivial;exact yec
theorem ziK (off:Nat):∀ (v:List Value) (k:Nat) (cs:Array Value),((v.zipIdx k).foldl (fun (cs:Array Value) (x:Value × Nat) => cs.setIfInBounds (off + x.2) x.1) cs).size=cs.size ∧
  ∀ i,((v.zipIdx k).foldl (fun (cs:Array Value) (x:Value × Nat) => cs.setIfInBounds (off + x.2) x.1) cs)[i]? = if off + k ≤ i ∧ i < off + k + v.length ∧ i < cs.size then v[i - (off + k)]? else cs[i]?
 | [],k,cs => by refine ⟨rfl,fun i => ?_⟩;rw [if_neg AE]; rfl
 | x :: v,k,cs => by
  have ih:=ziK off v (k + 1) (cs.setIfInBounds (off + k) x);rw [List.zipIdx_cons,List.foldl_cons];refine ⟨by rw [ih.1]; simp,fun i => ?_⟩;rw [ih.2 i];simp only [Array.size_setIfInBounds,List.length_cons];by_cases h1:off + (k + 1) ≤ i ∧ i < off + (k + 1) + v.length ∧ i < cs.size
  ·rw [if_pos h1,if_pos AA];rw [show i - (off + k)=(i - (off + (k + 1))) + 1 by omega,List.getElem?_cons_succ]
  ·rw [if_neg h1];by_cases h2:i=off + k
   ·subst h2;by_cases h3:off + k < cs.size
    ·rw [if_pos AA,Array.getElem?_setIfInBounds_self_of_lt h3]; simp
    ·rw [if_neg AA,Array.getElem?_eq_none AE,Array.getElem?_eq_none AA]
   ·rw [Array.getElem?_setIfInBounds_ne AA,if_neg AA]
theorem zgq (off:Nat) (v cs:Array Value):(v.zipIdx.foldl (fun (cs:Array Value) (x:Value × Nat) => cs.setIfInBounds (off + x.2) x.1) cs).size=cs.size ∧
  ∀ i,(v.zipIdx.foldl (fun (cs:Array Value) (x:Value × Nat) => cs.setIfInBounds (off + x.2) x.1) cs)[i]? = if off ≤ i ∧ i < off + v.size ∧ i < cs.size then v[i - off]? else cs[i]?:=by
 have h:=ziK off v.toList 0 cs;rw [← Array.foldl_toList,Array.toList_zipIdx];simpa using h
theorem zjv (s:ByteArray) (arr:Array Value) (mb:Nat) (ha:arr.size=256):∃ C,Tryz.prog.built 150 [(0,.string s),(1,.agg arr),(2,.map (some mb))]=some C ∧ C.size=258 ∧ C[0]? = some (.string s) ∧ (∀ j,j < 256 → C[1 + j]? = arr[j]?) ∧ C[257]? = some (.map (some mb)):=by
 obtain ⟨fs,hu,hp⟩ : ∃ fs,Tryz.prog.underlying 150 = some (.struct fs) ∧ fs.toList.mapM (fun f => (Tryz.prog.info? f.type).map fun i => (f.offset,i.size))=some [(0,1),(1,256),(257,1)]:=⟨_,Tryz.underlying150, by kernel_rfl⟩;obtain ⟨it,hit,z,hz,hzs⟩ : ∃ it,Tryz.prog.info? 150 = some it ∧ ∃ z,it.zero=some z ∧ z.cells.size=258:=by
  have h:(Tryz.prog.info? 150).map (fun i => i.zero.map (·.cells.size))=some (some 258):=by kernel_rfl
  obtain ⟨it,hit,h2⟩:=Option.map_eq_some_iff.1 h;obtain ⟨z,hz,h3⟩:=Option.map_eq_some_iff.1 h2;exact ⟨it,hit,z,hz,h3⟩
 generalize hZ:z.cells=Z at *;obtain ⟨s1,g1⟩:=zgq 0 #[.string s] Z;obtain ⟨s2,g2⟩:=zgq 1 arr (((#[.string s]:Array Value)).zipIdx.foldl (fun (cs:Array Value) (x:Value × Nat) => cs.setIfInBounds (0 + x.2) x.1) Z);obtain ⟨s3,g3⟩:=zgq 257 #[.map (some mb)] (arr.zipIdx.foldl (fun (cs:Array Value) (x:Value × Nat) => cs.setIfInBounds (1 + x.2) x.1) (((#[.string s]:Array Value)).zipIdx.foldl (fun (cs:Array Value) (x:Value × Nat) => cs.setIfInBounds (0 + x.2) x.1) Z));refine ⟨((#[.map (some mb)]:Array Value)).zipIdx.foldl (fun (cs:Array Value) (x:Value × Nat) => cs.setIfInBounds (257 + x.2) x.1) (arr.zipIdx.foldl (fun (cs:Array Value) (x:Value × Nat) => cs.setIfInBounds (1 + x.2) x.1) (((#[.string s]:Array Value)).zipIdx.foldl (fun (cs:Array Value) (x:Value × Nat) => cs.setIfInBounds (0 + x.2) x.1) Z)),?_,?_,?_,?_,?_⟩
 ·unfold Program.built;rw [hit,hu];simp only [hz,hp,hZ];have c1:(Value.string s).cells = #[.string s]:=rfl;have c2:(Value.agg arr).cells=arr:=rfl;have c3:(Value.map (some mb)).cells = #[.map (some mb)]:=rfl;have p0:(([(0,1),(1,256),(257,1)]:List (Nat × Nat)).toArray)[0]? = some (0,1):=rfl;have p1:(([(0,1),(1,256),(257,1)]:List (Nat × Nat)).toArray)[1]? = some (1,256):=rfl;have p2:(([(0,1),(1,256),(257,1)]:List (Nat × Nat)).toArray)[2]? = some (257,1):=rfl;rw [Instr.fill,p0];simp only [c1];rw [if_neg (by rw [hzs]; simp),Instr.fill,p1];simp only [c2];rw [if_neg (by rw [s1,hzs,ha]; decide),Instr.fill,p2];simp only [c3];rw [if_neg (by rw [s2,s1,hzs]; simp),Instr.fill]
 ·rw [s3,s2,s1,hzs]
 ·rw [g3,if_neg AA,g2,if_neg AA,g1,if_pos (by rw [hzs]; simp)]; rfl
 ·intro j hj;rw [g3,if_neg AA,g2,if_pos (by rw [s1,hzs,ha]; omega),Nat.add_sub_cancel_left]
 ·rw [g3,if_pos (by rw [s2,s1,hzs]; simp)]; rfl
theorem zhb {P:Program} {ops:Array Oper} {rest:List Oper} {o:Oper} {a:Act} {w:World} {Q:Exit → Act → World → Prop} (hg:o.guard=none) (t:TypeId) (parts:Array (Nat × Operand)) (ho:o.op = .build t parts)
  (vals:List (Nat × Value)) (hv:(parts.map fun (i,x) => (i,a.eval x)).toList=vals) (cells:Array Value) (hf:P.built t vals=some cells)
  (h:wpList P ops Q rest (a.put o.dst (.agg cells)) w):wpList P ops Q (o :: rest) a w:=by
 refine wpList_build hg t parts ho (by rw [hv,hf]; rfl) ?_;rw [hv,hf];exact h
def zdl (t:Tok):List Value:=[.int .i64 t.kind,.int .i64 t.pos,.string ⟨t.s.toArray⟩,.int .i64 t.n,.int .i64 t.scale]
def zc5 (ts:List Tok):List Value:=ts.flatMap zdl
theorem zfN (ts:List Tok) (t:Tok):zc5 (ts ++ [t])=zc5 ts ++ zdl t:=by simp [zc5]
def ToksOwn (T:TypeId) (w wr:World) (t:Value) (ts:List Tok):Prop:=
 Mods [] w wr ∧ wr.ownsRow 0 T 5 t ts.length (zc5 ts) ∧ ∀ g,t.ownBlock=some g → w.heap.size ≤ g
theorem ToksOwn.start (T:TypeId) (w:World):ToksOwn T w w (.slice none 0 0) []:=⟨QM _ _,World.ownsRow_nil _ _ _ _,fun g hg => by cases hg⟩
theorem ToksOwn.quiet {T:TypeId} {w wr w':World} {t:Value} {ts:List Tok} (h:ToksOwn T w wr t ts) (hM:Mods [] wr w'):ToksOwn T w w' t ts:=
 ⟨h.1.trans hM,zm h.2.1 hM AB,h.2.2⟩
theorem ToksOwn.push {T:TypeId} {w wr w':World} {t:Value} {ts:List Tok} (h:ToksOwn T w wr t ts) {u:Tok} {g cap:Nat} (hown:w'.ownsRow 0 T 5 (.slice (some ⟨g,0,none⟩) (ts.length + 1) cap) (ts.length + 1) (zc5 ts ++ zdl u))
  (hM:Mods t.ownBlock.toList wr w') (hg:t.ownBlock=some g ∨ wr.heap.size ≤ g):ToksOwn T w w' (.slice (some ⟨g,0,none⟩) (ts.length + 1) cap) (ts ++ [u]):=by
 obtain ⟨h1,-,h5⟩:=h;refine ⟨h1.trans hM (fun x hx => .inr (h5 x AJ)),?_,fun g' hg' => ?_⟩
 ·rw [zfN]; simpa using hown
 exact ycf
theorem ToksOwn.base {T:TypeId} {w wa wr:World} {t:Value} {ts:List Tok} (h:ToksOwn T wa wr t ts) (hM:Mods [] w wa):ToksOwn T w wr t ts:=
 ⟨hM.trans h.1,h.2.1,fun g hg => Nat.le_trans hM.size (h.2.2 g hg)⟩
theorem ToksOwn.slice {T:TypeId} {w wr:World} {t:Value} {ts:List Tok} (h:ToksOwn T w wr t ts):∃ ao cap,t = .slice ao ts.length cap:=by
 rcases h.2.1.2 with ⟨hv,h0⟩ | ⟨g,cap,cur,hv,_⟩
 ·exact ⟨none,0,by rw [hv,h0]⟩
 ·exact ⟨_,_,hv⟩
def zbu (T:TypeId) (w:World) (s:ByteArray) (e:Ending) (w':World):Prop:=
 if 4096 < s.size then e = .returned (.tuple #[.slice none 0 0,.int .i64 0,.int .i64 5]) ∧ Mods [] w w'
 else match za4 s.data.toList with
  | .bad p => e = .returned (.tuple #[.slice none 0 0,.int .i64 p,.int .i64 8]) ∧ Mods [] w w'
  | .good ts => ∃ t,e = .returned (.tuple #[t,.int .i64 0,.int .i64 0]) ∧ ToksOwn T w w' t ts
theorem zfO (w:World) (x y z u v:Value) (t:TypeId):∀ j q,([x,y,z,u,v]:List Value)[j]? = some q → (w.alloc (.cells #[x,y,z,u,v] t)).cell? ((⟨w.heap.size,0,none⟩ : Addr).add j)=some q:=by intro j q hq;rw [zci,za (QN w _),Nat.zero_add];simpa using hq
theorem zeR (w:World) (A:Obj) (x y z u v:Value) (t:TypeId):∀ j q,([x,y,z,u,v]:List Value)[j]? = some q → ((w.alloc A).alloc (.cells #[x,y,z,u,v] t)).cell? ((⟨w.heap.size + 1,0,none⟩ : Addr).add j)=some q:=by have:=zfO (w.alloc A) x y z u v t;rw [zl] at this;exact this
theorem zeS (t:Tok):∀ u ∈ zdl t,u.oneCell'=true:=by intro u hu; simp [zdl] at hu; rcases hu with rfl | rfl | rfl | rfl | rfl <;> rfl
theorem zmt {l:List UInt8} {p:Nat} {t:TokC} {n k:Nat} (h:zc3 (l.drop p)=some (t,n)) (hk:((l.drop (p + n)).takeWhile zbs).length=k):lexG (l.drop p) p=(lexG (l.drop (p + n + k)) (p + n + k)).pre [t.put p]:=by rw [zeM p h,List.drop_drop,zaM,hk,List.drop_drop]
theorem zkz (w:World) (hT:Tabs w) (s:ByteArray) (hs:s.size ≤ 9223372036854775807) :
  Calls Tryz.prog 24 #[.string s] w (zbu 92 w s):=by
 obtain ⟨i0,hi,hz0,hz1,hz2⟩:=info_parts (show (Tryz.prog.info? 92).map (fun i => (i.zero,i.size,i.bytes))=some (some (.agg (zn 0 0 ⟨#[]⟩ 0 0)),5,48) by kernel_rfl);by_cases hbig:4096 < s.size
 ·have hbz:(4096:Int) < (s.size:Int):=by omega
  have fin:∀ w',Mods [] w w' → zbu 92 w s (.returned (.tuple #[.slice none 0 0,.int .i64 0,.int .i64 5])) w':=fun w' h => by unfold zbu; rw [if_pos hbig]; exact ⟨rfl,h⟩
  have FIN:=QH fin;clear fin hbig;go_enter Tryz.func24, Tryz.ntmps24;go_wp2_with fail;go_returns;exact FIN.out _ (QM _ _)
 ·have hbz:¬ (4096:Int) < (s.size:Int):=by omega
  have hs4:s.size ≤ 4096:=by omega
  have finb:∀ p w',za4 s.data.toList = .bad p → Mods [] w w' → zbu 92 w s (.returned (.tuple #[.slice none 0 0,.int .i64 p,.int .i64 8])) w':=fun p w' hl h => by unfold zbu; rw [if_neg hbig,hl]; exact ⟨rfl,h⟩
  have fing:∀ ts t w',za4 s.data.toList = .good ts → ToksOwn 92 w w' t ts → zbu 92 w s (.returned (.tuple #[t,.int .i64 0,.int .i64 0])) w':=fun ts t w' hl h => by unfold zbu; rw [if_neg hbig,hl]; exact ⟨t,rfl,h⟩
  have FINB:=QH finb;have FING:=QH fing;clear finb fing hbig;go_enter Tryz.func24, Tryz.ntmps24;go_wp2_with fail;refine (zkq _).mono ?_;rintro e w1 ⟨arr,rfl,harr,hkd,hM1⟩;have HKD:=QH hkd;have HARR:=QH harr;clear hkd harr;go_wp2_with fail;refine (zml _ (hT.mods hM1)).mono ?_;rintro e w2 ⟨mb,rfl,hkm,hmb,hM2⟩;obtain ⟨C,hC1,hC2,hC3,hC4,hC5⟩:=zjv s arr mb HARR.out;have hMw2:=hM1.trans hM2;have hMA:=(QM [] w2).alloc (.cells C 150);have hSc:Scan (w2.alloc (.cells C 150)) w2.heap.size s:=⟨_,_,mb,QN w2 _,hC3,fun j hj => by rw [hC4 j hj]; exact HKD.out j hj,hC5,hkm.mods hMA AB⟩;have HSc:=QH hSc;clear hC3 hC4 hC5 hSc hkm HKD HARR;go_wp2_with (refine zhb rfl 150 #[(0,.tmp 11),(1,.tmp 12),(2,.tmp 13)] rfl [(0,.string s),(1,.agg arr),(2,.map (some mb))] (by simp only [List.map_toArray,List.map_cons,List.map_nil]; rfl) C hC1 ?_);clear hC1;have hM3:=hMw2.trans hMA;have HSc2:=HSc.out;generalize w2.alloc (.cells C 150)=w3 at *;generalize w2.heap.size=sb at *;have hrun0:=zdT w3 sb s HSc2 hs 0 AA 1 zbs zku;rw [show ((0:Nat):Int)=0 from rfl] at hrun0;have hp0:=zeO zbs s 0 AA;have hst:za4 s.data.toList=(lexG (s.data.toList.drop (runL zbs s 0)) (runL zbs s 0)).pre []:=by rw [Lexed.pre_nil];unfold za4;rw [zaM]; rfl
  have HST:=QH hst;have hT3:=hT.mods hM3;clear hst hMw2 hM1 hM2 hMA hT HSc hC2;refine hrun0.mono ?_;rintro e w4 ⟨rfl,hM4⟩;obtain ⟨p0,hp0e⟩:=EX (runL zbs s 0);rw [hp0e] at HST hp0 ⊢;have hT4:=hT3.mods hM4;have hSc4:=HSc2.mods hM4;have hM04:=hM3.trans hM4;clear hrun0 hp0e HSc2 hT3 hM3 hM4;go_wp2_with fail;go_loopw [2,3] (fun t2 t3 wr => ∃ (p:Nat) (ts:List Tok),p ≤ s.size ∧ t3 = .int .i64 p ∧ ts.length ≤ p ∧ Hid (ToksOwn 92 w4 wr t2 ts) ∧ Hid (za4 s.data.toList=(lexG (s.data.toList.drop p) p).pre ts)) (fun _ t3 _ => s.size - (intOf t3).toNat)
  case atStart => exact ⟨p0,[],by omega,rfl,by simp,QH (ToksOwn.start _ _),HST⟩
  case round =>
   clear HST;obtain ⟨p,ts,hp,rfl,hts,HO,HL⟩:=hrel;obtain ⟨hMr,hown,hblk⟩:=HO.out;obtain ⟨ao,cap,rfl⟩:=HO.out.slice;have hSr:=hSc4.mods hMr;have hTr:=hT4.mods hMr;have hMwr:=hM04.trans hMr;by_cases hps:p < s.size
   ·have hcall:=zky wr sb s hSr hTr hs4 p hps;have hdl:(s.data.toList.drop p).length=s.size - p:=by rw [List.length_drop]; rfl
    have hdne:s.data.toList.drop p ≠ []:=by intro h; rw [h] at hdl; simp at hdl; omega
    have hpz:(p:Int) < (s.size:Int):=by omega
    have HO2:=HO
    cases htk:zc3 (s.data.toList.drop p) with
    | none =>rw [htk] at hcall;have fin:=QH (fun w' => FINB.out p w' (HL.out.trans (by rw [zgf p hdne htk]; rfl)));clear htk hdl hdne hown hblk HL HO HO2;go_wp2_with fail;refine hcall.mono ?_;rintro e w5 ⟨rfl,hM5⟩;simp only [tokV];clear hcall;go_wp2_with fail;go_returns;exact fin.out _ ((hMwr.trans hM5).alloc _)
    | some x =>
     obtain ⟨t,n⟩:=x;rw [htk] at hcall;have hn:=zge htk;rw [hdl] at hn;have hn0:((n:Int) == 0)=false:=by rw [beq_eq_false_iff_ne]; omega
     have hn1:¬ (n:Int)=0:=by omega
     obtain ⟨k,hk⟩:=EX (runL zbs s (p + n));have hk1:=zeO zbs s (p + n) AA;rw [hk] at hk1;have hstep:=QH (zmt htk hk);have hrun:=fun W (hW:Scan W sb s) => zdT W sb s hW hs (p + n) AA 1 zbs zku;rw [hk,show ((p + n:Nat):Int)=(p:Int) + (n:Int) by omega] at hrun;have HRUN:=QH hrun;clear htk hdl hdne hown hblk hk hrun;go_wp2_with fail;refine hcall.mono ?_;rintro e w5 ⟨rfl,hM5⟩;simp only [tokV];have HO5:=QH (HO.out.quiet hM5);have hown5:=HO5.out.2.1;have hT5:=hTr.mods hM5;have hS5:=hSr.mods hM5;clear hcall hSr hTr HO HO2 hMr;go_wp2_with (at_builtin; refine zw _ rfl _ _ 88 rfl 92 i0 _ 5 48 Tryz.underlying88 hi hz0 hz1 hz2 rfl AD (.slice ao ts.length cap) ts.length (zc5 ts) rfl ((hown5.alloc _).alloc _) ⟨w5.heap.size + 1,0,none⟩ 1 1 (zdl (t.put p)) rfl rfl ?c1 (zeS _) AD ?c3 ?c4 ?_)
     case c1 => exact zeR _ _ _ _ _ _ _ _
     case c3 => unfold maxLen; omega
     case c4 => omega
     intro g cap2 w7 hown7 hM7 hg7;have hAA:=((QM [] w5).alloc (.cells (zn t.kind p ⟨t.s.toArray⟩ t.n t.scale) 92)).alloc (.cells (zn t.kind p ⟨t.s.toArray⟩ t.n t.scale) 92);have hO7:=(HO5.out.quiet hAA).push hown7 hM7 (by rw [zl,zl]; exact hg7);have hM47:=hO7.1;have hS7:=hSc4.mods hM47;have HO7:=QH hO7;clear hown7 hM7 hg7 hAA hO7 hown5 hS5 hT5 HO5 hM5 hM47;go_wp2_with fail;refine (HRUN.out w7 hS7).mono ?_;rintro e w8 ⟨rfl,hM8⟩;have HO8:=QH (HO7.out.quiet hM8);clear HO7 hM8 hS7;go_wp2_with fail;go_roundw
     case measure => simp [intOf]; omega
     case rel => exact ⟨p + n + k,ts ++ [t.put p],by omega,by go_num,by rw [List.length_append]; simp; omega,HO8,QH (by rw [HL.out,hstep.out,Lexed.pre_pre])⟩
   ·obtain rfl:p=s.size:=by omega
    have hdn:s.data.toList.drop s.size=[]:=List.drop_of_length_le (LR _);have fin:=QH (fun t w' => FING.out (ts ++ [⟨0,s.size,[],0,0⟩]) t w' (HL.out.trans (by rw [hdn,ziG]; rfl)));clear hdn hps hblk HL;go_wp2_with (at_builtin; refine zw _ rfl _ _ 88 rfl 92 i0 _ 5 48 Tryz.underlying88 hi hz0 hz1 hz2 rfl AD (.slice ao ts.length cap) ts.length (zc5 ts) rfl (hown.alloc _) ⟨wr.heap.size,0,none⟩ 1 1 (zdl ⟨0,s.size,[],0,0⟩) rfl rfl ?c1 (zeS _) AD ?c3 ?c4 ?_)
    case c1 => exact zfO _ _ _ _ _ _ _
    case c3 => unfold maxLen; omega
    case c4 => omega
    intro g cap2 w7 hown7 hM7 hg7;have hAA:=(QM [] wr).alloc (.cells (zn 0 s.size ⟨#[]⟩ 0 0) 92);have hO7:=QH ((HO.out.quiet hAA).push hown7 hM7 (by rw [zl]; exact hg7));clear hown7 hM7 hg7 hAA;go_wp2_with fail;go_returns;exact fin.out _ _ (hO7.out.base hM04)
end Go.Proofs.YtcabeljiobiojaaGreatDoor
