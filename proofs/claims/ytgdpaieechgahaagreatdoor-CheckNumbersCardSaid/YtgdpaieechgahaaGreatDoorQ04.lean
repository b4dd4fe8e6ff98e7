/-
  A scanner's method mark, walked. No condition.
-/
import Derived.Test.YtgdpaieechgahaaGreatDoorQ02
import Derived.Test.YtgdpaieechgahaaGreatDoorQ03
namespace Go.Proofs.YtgdpaieechgahaaGreatDoor
open Go.RowKit
set_option linter.unusedVariables false
theorem zgK (l:List UInt8) (c:UInt8):decide (0 ≤ Lib.indexByte l c)=l.contains c:=by
 induction l with
 | nil => rfl
 | cons b r ih =>
  have h1:=Lib.indexByte_ge r c
  unfold Lib.indexByte
  by_cases hb:b=c
  ·subst hb; simp
  ·have hb2:(b == c)=false:=by simpa using hb
   have hb3:(c == b)=false:=by simpa using fun e => hb e.symm
   rw [hb2,List.contains_cons,hb3,Bool.false_or,← ih]
   by_cases h2:Lib.indexByte r c = -1
   ·simp [h2]
   ·have h3:(Lib.indexByte r c == -1)=false:=by simpa using h2
    simp [h3]; omega
def MRel (l:List UInt8) (n:Nat):Prop:=(n=1 → ∀ c r,l=c :: r → markL l=if marks1.contains c=true then some (⟨5,[c],0,0⟩,1) else none) ∧ (n=0 → markL l=none) ∧ n ≤ l.length
theorem zig (l:List UInt8) (h:marks2.contains (l.take 2)=true):markL l=some (⟨5,l.take 2,0,0⟩,2):=by unfold markL; rw [if_pos h]
theorem zfg {c:UInt8} {r:List UInt8} (h:marks2.contains ((c :: r).take 2)=false):markL (c :: r)=if marks1.contains c=true then some (⟨5,[c],0,0⟩,1) else none:=by
 unfold markL; rw [if_neg (by rw [h]; decide)]
theorem zd1 {x:List UInt8}:(x=[60,62] ∨ x=[60,61] ∨ x=[62,61]) ∨ (x ≠ [60,62] ∧ x ≠ [60,61] ∧ x ≠ [62,61] ∧ marks2.contains x=false):=by
 by_cases h1:x=[60,62]
 ·exact .inl (.inl h1)
 ·by_cases h2:x=[60,61]
  ·exact .inl (.inr (.inl h2))
  ·by_cases h3:x=[62,61]
   ·exact .inl (.inr (.inr h3))
   ·refine .inr ⟨h1,h2,h3,?_⟩
    simp [marks2,h1,h2,h3]
theorem zdp {a:ByteArray} {l:List UInt8} (h:a.data.toList ≠ l):(a == ⟨l.toArray⟩)=false:=by
 cases hb:a == (⟨l.toArray⟩ : ByteArray) with
 | false => rfl
 | true => exact absurd (by rw [(MapKept.bytes_beq _ _).1 hb]) h
set_option maxRecDepth 100000 in
set_option maxHeartbeats 2000000 in
theorem zih (w:World) (b:Nat) (s:ByteArray) (hS:Scan w b s) (hs:s.size ≤ 4096) (at_:Nat) (hat:at_ < s.size) :
  Calls Tryz.prog 75 #[.pointer (some ⟨b,0,none⟩),.int .i64 at_] w (TokPost w (markL (s.data.toList.drop at_)) at_):=by
 obtain ⟨l,hl⟩ : ∃ l,s.data.toList.drop at_=l:=⟨_,rfl⟩
 have hll:l.length=s.size - at_:=by rw [← hl,List.length_drop]; rfl
 rw [hl]
 obtain ⟨m,hm⟩ : ∃ m:Nat,(2 ≤ s.size - at_ ∧ m=2) ∨ (s.size - at_=1 ∧ m=1):=by
  by_cases h:2 ≤ s.size - at_
  ·exact ⟨2,.inl ⟨h,rfl⟩⟩
  ·exact ⟨1,.inr ⟨by omega,rfl⟩⟩
 have hmin:=fun w => zi4 (P:= Tryz.prog) w 3 3 3 .i64 2 ((s.size:Int) - (at_:Int)) m (by omega)
 have hst:MRel l m:=by
  refine ⟨fun h1 c r hc => ?_,fun h0 => by omega,by omega⟩
  subst hc
  have:r=[]:=by
            have h2:(c :: r).length=1:=by omega
            simpa using h2
  subst this
  exact zfg (by simp [marks2])
 have hm2:m ≤ 2 ∧ at_ + m ≤ s.size:=by omega
 have HL:=Lib.hid hl
 have HLL:=Lib.hid hll
 have HST:=Lib.hid hst
 have hrb:=heap_alloc_new w (.cells (tokCells 0 0 ⟨#[]⟩ 0 0) 68)
 have hM0:=(Mods.refl [] w).alloc (.cells (tokCells 0 0 ⟨#[]⟩ 0 0) 68)
 have c0:=(hS.mods hM0).text
 have hinfo:=zb1
 clear hS hl hll hm hst
 go_enter Tryz.func75, Tryz.ntmps75
 go_wp2_with fail
 generalize w.alloc (.cells (tokCells 0 0 ⟨#[]⟩ 0 0) 68)=w0 at *
 generalize hrbn:w.heap.size=rb at *
 have HRB:=Lib.hid hrbn
 clear hrbn hmin
 go_loop [6] (fun t6 => ∃ n:Nat,n ≤ 2 ∧ at_ + n ≤ s.size ∧ t6 = .int .i64 n ∧ Hid (MRel l n)) (fun t6 => (intOf t6).toNat)
 case atStart => exact ⟨m,hm2.1,hm2.2,rfl,HST⟩
 case round =>
  clear HST hm2
  obtain ⟨n,hn2,hn3,rfl,HR⟩:=hrel
  have hcases:n=0 ∨ n=1 ∨ n=2:=by omega
  rcases hcases with rfl | rfl | rfl
  ·have HE:=Lib.hid (HR.out.2.1 rfl)
   go_wp2_with (refine wpList_store_row rfl 68 (.tmp 4) (.tmp 55) rfl rb (tokCells 0 0 ⟨#[]⟩ 0 0) rfl rfl 68 _ hrb hinfo rfl (zP _ _ _ _ _) ?_)
   refine bodyPost_ret (zg rfl _ _ rb 68 (tokCells 0 0 ⟨#[]⟩ 0 0) (0,0) _ rfl (zh _ hrb) Tryz.underlying68 rfl hinfo _ rfl) rfl ?_
   rw [HE.out]
   exact ⟨rfl,hM0.setRow (.inr (by rw [HRB.out]; exact Nat.le_refl _)) _⟩
  ·obtain ⟨c,r,hcr⟩ : ∃ c r,l=c :: r:=by
    cases l with
    | nil => have:=HR.out.2.2; simp at this
    | cons c r => exact ⟨c,r,rfl⟩
   have hX:s.extract at_ (at_ + 1) = ⟨#[c]⟩:=by
    refine zfe (l:=[c]) ?_
    rw [zaF,HL.out,hcr]; rfl
   have hc:=fun w => (Tryz.strings_Contains_one ⟨#[61,60,62,43,45,42,47,40,41,44,46]⟩ c w).mono (fun e w' h => (⟨h.1,h.2.symm⟩ : _ ∧ w=w'))
   rw [zgK] at hc
   have hmk:=HR.out.1 rfl c r hcr
   obtain ⟨q,hq⟩ : ∃ q,marks1.contains c=q:=⟨_,rfl⟩
   rw [show (⟨#[61,60,62,43,45,42,47,40,41,44,46]⟩ : ByteArray).data.toList.contains c=marks1.contains c from rfl,hq] at hc
   rw [hq] at hmk
   have HMK:=Lib.hid hmk
   have hkz:(at_:Int) + 1 ≤ (s.size:Int):=by omega
   have hrel0:MRel l 0 ∨ q=true:=by
    cases q with
    | true => exact .inr rfl
    | false => exact .inl ⟨fun h => by omega,fun _ => by have:=HMK.out; rw [if_neg (by decide)] at this; exact this,by omega⟩
   have HR0:=Lib.hid hrel0
   clear hcr hmk hq hrel0
   rw [show ((1:Nat):Int)=1 from rfl]
   cases q with
   | true =>
    go_wp2_with (first
     | (go_at_call 107; (with_reducible refine (hc _).mono ?_); rintro e w2 ⟨rfl,rfl⟩)
     | (refine wpList_store_row rfl 68 (.tmp 4) (.tmp 53) rfl rb (tokCells 5 at_ ⟨#[c]⟩ 0 0) rfl rfl 68 _ hrb hinfo rfl (zP _ _ _ _ _) ?_))
    refine bodyPost_ret (zg rfl _ _ rb 68 (tokCells 5 at_ ⟨#[c]⟩ 0 0) (0,0) _ rfl (zh _ hrb) Tryz.underlying68 rfl hinfo _ rfl) rfl ?_
    rw [HMK.out,if_pos trivial]
    exact ⟨rfl,hM0.setRow (.inr (by rw [HRB.out]; exact Nat.le_refl _)) _⟩
   | false =>
    go_wp2_with (go_at_call 107; (with_reducible refine (hc _).mono ?_); rintro e w2 ⟨rfl,rfl⟩)
    go_round
    case measure => simp [intOf]
    case rel => exact ⟨0,by omega,by omega,by go_num,Lib.hid (HR0.out.resolve_right (by decide))⟩
  ·have hX:(s.extract at_ (at_ + 2)).data.toList=l.take 2:=by rw [zaF,HL.out]
   have hkz:(at_:Int) + 2 ≤ (s.size:Int):=by omega
   rw [show ((2:Nat):Int)=2 from rfl]
   rcases zd1 (x:=l.take 2) with h | ⟨h1,h2,h3,h4⟩
   ·have hc:marks2.contains (l.take 2)=true:=by rcases h with h | h | h <;> rw [h] <;> decide
    have HMK:=Lib.hid (zig l hc)
    have HX:=Lib.hid hX
    clear hc
    rcases h with h | h | h
    all_goals
     rw [h] at hX
     have hX2:=zfe hX
     have HH:=Lib.hid h
     clear hX h
     go_wp2_with (refine wpList_store_row rfl 68 (.tmp 4) (.tmp 53) rfl rb (tokCells 5 at_ _ 0 0) rfl rfl 68 _ hrb hinfo rfl (zP _ _ _ _ _) ?_)
     refine bodyPost_ret (zg rfl _ _ rb 68 (tokCells 5 at_ _ 0 0) (0,0) _ rfl (zh _ hrb) Tryz.underlying68 rfl hinfo _ rfl) rfl ?_
     rw [HMK.out,HH.out]
     exact ⟨rfl,hM0.setRow (.inr (by rw [HRB.out]; exact Nat.le_refl _)) _⟩
   ·have n1:¬ (s.extract at_ (at_ + 2)).toList=[60,62]:=by rw [ByteArray.toList_eq,hX]; exact h1
    have n2:¬ (s.extract at_ (at_ + 2)).toList=[60,61]:=by rw [ByteArray.toList_eq,hX]; exact h2
    have n3:¬ (s.extract at_ (at_ + 2)).toList=[62,61]:=by rw [ByteArray.toList_eq,hX]; exact h3
    have m1:((s.extract at_ (at_ + 2)).toList == [60,62])=false:=by rw [beq_eq_false_iff_ne]; exact n1
    have o1:=zdp (a:=s.extract at_ (at_ + 2)) (l:=[60,62]) (by rw [hX]; exact h1)
    have m2:((s.extract at_ (at_ + 2)).toList == [60,61])=false:=by rw [beq_eq_false_iff_ne]; exact n2
    have o2:=zdp (a:=s.extract at_ (at_ + 2)) (l:=[60,61]) (by rw [hX]; exact h2)
    have m3:((s.extract at_ (at_ + 2)).toList == [62,61])=false:=by rw [beq_eq_false_iff_ne]; exact n3
    have o3:=zdp (a:=s.extract at_ (at_ + 2)) (l:=[62,61]) (by rw [hX]; exact h3)
    have HR1:Hid (MRel l 1):=Lib.hid ⟨fun _ c r hc => by subst hc; exact zfg h4,fun h => by omega,by have:=HR.out.2.2; omega⟩
    clear hX h1 h2 h3 h4
    go_wp2_with fail
    go_round
    case measure => simp [intOf]
    case rel => exact ⟨1,by omega,by omega,by go_num,HR1⟩
open Go.RowKit
set_option linter.unusedVariables false
theorem zgL (o:Option (TokC × Nat)) (at_:Nat):∃ (k a:Int) (x:ByteArray) (n c len:Int),tokV o at_ = .tuple #[.agg (tokCells k a x n c),.int .i64 len]:=by
 cases o with
 | none => exact ⟨0,0,⟨#[]⟩,0,0,0,rfl⟩
 | some x => exact ⟨_,_,_,_,_,_,rfl⟩
set_option maxRecDepth 100000 in
set_option maxHeartbeats 2000000 in
theorem zgM (w:World) (b:Nat) (s:ByteArray) (hS:Scan w b s) (hT:Tabs w) (hs:s.size ≤ 4096) (at_:Nat) (hat:at_ < s.size) :
  Calls Tryz.prog 38 #[.pointer (some ⟨b,0,none⟩),.int .i64 at_] w (TokPost w (tokL (s.data.toList.drop at_)) at_):=by
 obtain ⟨c,hc⟩ : ∃ c,s[at_]=c:=⟨_,rfl⟩
 have hl:s.data.toList.drop at_=c :: s.data.toList.drop (at_ + 1):=by
  have h1:at_ < s.data.toList.length:=hat
  rw [List.drop_eq_getElem_cons h1]
  congr 1
 have htk:tokL (s.data.toList.drop at_)=if isLet c=true then wordL (s.data.toList.drop at_) else if isDig c=true then numberL (s.data.toList.drop at_) else if c=39 then textT (s.data.toList.drop at_) else markL (s.data.toList.drop at_):=by rw [hl]; rfl
 have hdg:isDig c=true → (s.data.toList.drop at_).takeWhile isDig ≠ []:=fun h => by rw [hl,List.takeWhile_cons,if_pos h]; simp
 have hrb:=heap_alloc_new w (.cells (tokCells 0 0 ⟨#[]⟩ 0 0) 68)
 have hM0:=(Mods.refl [] w).alloc (.cells (tokCells 0 0 ⟨#[]⟩ 0 0) 68)
 have hS0:=hS.mods hM0
 have hT0:=hT.mods hM0
 have c0:=hS0.text
 have hc256:=UInt8.toNat_lt c
 have ck:=hS0.kind c.toNat (by omega)
 have hcz:(c.toNat:Int) < 256:=by omega
 have hatz:(at_:Int) < (s.size:Int):=by omega
 have hinfo:=zb1
 have HTK:=Lib.hid htk
 have HDG:=Lib.hid hdg
 have HC:=Lib.hid hc
 have H2:=Lib.hid (mask_let.2 c)
 have H4:=Lib.hid (mask_dig.2 c)
 clear hl htk hdg hS hT
 have ends:∀ (o:Option (TokC × Nat)) (w0 w1:World) (f:Nat) (args:Array Value),Mods [] w w0 → w0.heap[w.heap.size]? = some (.cells (tokCells 0 0 ⟨#[]⟩ 0 0) 68 (0,0)) → Calls Tryz.prog f args w0 (TokPost w0 o at_) → Calls Tryz.prog f args w0 fun e w1 => ∃ (k a:Int) (x:ByteArray) (n c len:Int),e = .returned (.tuple #[.agg (tokCells k a x n c),.int .i64 len]) ∧ w1.heap[w.heap.size]? = some (.cells (tokCells 0 0 ⟨#[]⟩ 0 0) 68 (0,0)) ∧ (tokL (s.data.toList.drop at_)=o → TokPost w (tokL (s.data.toList.drop at_)) at_ (.returned (.tuple #[.agg (tokCells k a x n c),.int .i64 len])) (w1.setRow w.heap.size (tokCells k a x n c))):=by
  intro o w0 w1 f args h0 h1 h
  refine h.mono fun e w1 he => ?_
  obtain ⟨he1,he2⟩:=he
  obtain ⟨k,a,x,n,c,len,hv⟩:=zgL o at_
  refine ⟨k,a,x,n,c,len,by rw [he1,hv],he2.heap h1 (by simp),fun ho => ⟨by rw [ho,hv],?_⟩⟩
  exact (h0.trans he2 (by simp)).setRow (.inr (Nat.le_refl _)) _
 have HE:=Lib.hid ends
 clear ends
 go_enter Tryz.func38, Tryz.ntmps38
 cases h2:isLet c with
 | true =>
  have hb2:(bits .and .u8 (kindB c.toNat:Int) 2 != 0)=true:=by rw [bne_iff_ne]; exact H2.out.1 h2
  have e:=HTK.out
  rw [if_pos h2] at e
  have hcall:=HE.out _ _ w _ _ hM0 hrb (zid _ b s hS0 hs at_ (by omega))
  have HT1:=Lib.hid e
  clear e h2
  go_wp2_with fail
  (with_reducible refine hcall.mono ?_)
  rintro e w2 ⟨k,a,x,n,cc,len,rfl,hr2,hfin⟩
  have HF:=Lib.hid (hfin HT1.out)
  clear hfin hcall
  go_wp2_with (refine wpList_store_row rfl 68 (.tmp 4) (.tmp 25) rfl w.heap.size (tokCells k a x n cc) rfl rfl 68 _ hr2 hinfo rfl (zP _ _ _ _ _) ?_)
  exact bodyPost_ret (zg rfl _ _ w.heap.size 68 (tokCells k a x n cc) (0,0) _ rfl (zh _ hr2) Tryz.underlying68 rfl hinfo (.int .i64 len) rfl) rfl HF.out
 | false =>
  have hb2:(bits .and .u8 (kindB c.toNat:Int) 2 != 0)=false:=by rw [bne_eq_false_iff_eq]; exact H2.out.2 h2
  have e1:=HTK.out
  rw [if_neg (by rw [h2]; decide)] at e1
  clear h2
  cases h4:isDig c with
  | true =>
   have hb4:(bits .and .u8 (kindB c.toNat:Int) 4 != 0)=true:=by rw [bne_iff_ne]; exact H4.out.1 h4
   rw [if_pos h4] at e1
   have hcall:=HE.out _ _ w _ _ hM0 hrb (zfO _ b s hS0 hT0 hs at_ (by omega) (HDG.out h4))
   have HT1:=Lib.hid e1
   clear e1 h4
   go_wp2_with fail
   (with_reducible refine hcall.mono ?_)
   rintro e w2 ⟨k,a,x,n,cc,len,rfl,hr2,hfin⟩
   have HF:=Lib.hid (hfin HT1.out)
   clear hfin hcall
   go_wp2_with (refine wpList_store_row rfl 68 (.tmp 4) (.tmp 39) rfl w.heap.size (tokCells k a x n cc) rfl rfl 68 _ hr2 hinfo rfl (zP _ _ _ _ _) ?_)
   exact bodyPost_ret (zg rfl _ _ w.heap.size 68 (tokCells k a x n cc) (0,0) _ rfl (zh _ hr2) Tryz.underlying68 rfl hinfo (.int .i64 len) rfl) rfl HF.out
  | false =>
   have hb4:(bits .and .u8 (kindB c.toNat:Int) 4 != 0)=false:=by rw [bne_eq_false_iff_eq]; exact H4.out.2 h4
   rw [if_neg (by rw [h4]; decide)] at e1
   clear h4
   by_cases h39:c=39
   ·have hq:((c.toNat:Int) == 39)=true:=by rw [h39]; rfl
    rw [if_pos h39] at e1
    have hcall:=HE.out _ _ w _ _ hM0 hrb (zif _ b s hS0 hs at_ (by omega))
    have HT1:=Lib.hid e1
    clear e1 h39
    go_wp2_with fail
    (with_reducible refine hcall.mono ?_)
    rintro e w2 ⟨k,a,x,n,cc,len,rfl,hr2,hfin⟩
    have HF:=Lib.hid (hfin HT1.out)
    clear hfin hcall
    go_wp2_with (refine wpList_store_row rfl 68 (.tmp 4) (.tmp 47) rfl w.heap.size (tokCells k a x n cc) rfl rfl 68 _ hr2 hinfo rfl (zP _ _ _ _ _) ?_)
    exact bodyPost_ret (zg rfl _ _ w.heap.size 68 (tokCells k a x n cc) (0,0) _ rfl (zh _ hr2) Tryz.underlying68 rfl hinfo (.int .i64 len) rfl) rfl HF.out
   ·have hn:c.toNat ≠ 39:=fun h => h39 (UInt8.toNat_inj.1 h)
    have hq:((c.toNat:Int) == 39)=false:=by rw [beq_eq_false_iff_ne]; omega
    have hq2:¬ (c.toNat:Int)=39:=by omega
    rw [if_neg h39] at e1
    have hcall:=HE.out _ _ w _ _ hM0 hrb (zih _ b s hS0 hs at_ (by omega))
    have HT1:=Lib.hid e1
    clear e1 h39 hn
    go_wp2_with fail
    (with_reducible refine hcall.mono ?_)
    rintro e w2 ⟨k,a,x,n,cc,len,rfl,hr2,hfin⟩
    have HF:=Lib.hid (hfin HT1.out)
    clear hfin hcall
    go_wp2_with (refine wpList_store_row rfl 68 (.tmp 4) (.tmp 52) rfl w.heap.size (tokCells k a x n cc) rfl rfl 68 _ hr2 hinfo rfl (zP _ _ _ _ _) ?_)
    exact bodyPost_ret (zg rfl _ _ w.heap.size 68 (tokCells k a x n cc) (0,0) _ rfl (zh _ hr2) Tryz.underlying68 rfl hinfo (.int .i64 len) rfl) rfl HF.out
open Go.RowKit
set_option linter.unusedVariables false
theorem zfh (off:Nat):∀ (v:List Value) (k:Nat) (cs:Array Value),((v.zipIdx k).foldl (fun (cs:Array Value) (x:Value × Nat) => cs.setIfInBounds (off + x.2) x.1) cs).size=cs.size ∧
  ∀ i,((v.zipIdx k).foldl (fun (cs:Array Value) (x:Value × Nat) => cs.setIfInBounds (off + x.2) x.1) cs)[i]? = if off + k ≤ i ∧ i < off + k + v.length ∧ i < cs.size then v[i - (off + k)]? else cs[i]?
 | [],k,cs => by
  refine ⟨rfl,fun i => ?_⟩
  rw [if_neg (by simp; omega)]; rfl
 | x :: v,k,cs => by
  have ih:=zfh off v (k + 1) (cs.setIfInBounds (off + k) x)
  rw [List.zipIdx_cons,List.foldl_cons]
  refine ⟨by rw [ih.1]; simp,fun i => ?_⟩
  rw [ih.2 i]
  simp only [Array.size_setIfInBounds,List.length_cons]
  by_cases h1:off + (k + 1) ≤ i ∧ i < off + (k + 1) + v.length ∧ i < cs.size
  ·rw [if_pos h1,if_pos (by omega)]
   rw [show i - (off + k)=(i - (off + (k + 1))) + 1 by omega,List.getElem?_cons_succ]
  ·rw [if_neg h1]
   by_cases h2:i=off + k
   ·subst h2
    by_cases h3:off + k < cs.size
    ·rw [if_pos (by omega),Array.getElem?_setIfInBounds_self_of_lt h3]; simp
    ·rw [if_neg (by omega),Array.getElem?_eq_none (by simp; omega),Array.getElem?_eq_none (by omega)]
   ·rw [Array.getElem?_setIfInBounds_ne (by omega),if_neg (by omega)]
theorem zdq (off:Nat) (v cs:Array Value):(v.zipIdx.foldl (fun (cs:Array Value) (x:Value × Nat) => cs.setIfInBounds (off + x.2) x.1) cs).size=cs.size ∧
  ∀ i,(v.zipIdx.foldl (fun (cs:Array Value) (x:Value × Nat) => cs.setIfInBounds (off + x.2) x.1) cs)[i]? = if off ≤ i ∧ i < off + v.size ∧ i < cs.size then v[i - off]? else cs[i]?:=by
 have h:=zfh off v.toList 0 cs
 rw [← Array.foldl_toList,Array.toList_zipIdx]
 simpa using h
theorem zfQ (s:ByteArray) (arr:Array Value) (mb:Nat) (ha:arr.size=256):∃ C,Tryz.prog.built 110 [(0,.string s),(1,.agg arr),(2,.map (some mb))]=some C ∧ C.size=258 ∧ C[0]? = some (.string s) ∧ (∀ j,j < 256 → C[1 + j]? = arr[j]?) ∧ C[257]? = some (.map (some mb)):=by
 obtain ⟨fs,hu,hp⟩ : ∃ fs,Tryz.prog.underlying 110 = some (.struct fs) ∧ fs.toList.mapM (fun f => (Tryz.prog.info? f.type).map fun i => (f.offset,i.size))=some [(0,1),(1,256),(257,1)]:=⟨_,Tryz.underlying110, by kernel_rfl⟩
 obtain ⟨it,hit,z,hz,hzs⟩ : ∃ it,Tryz.prog.info? 110 = some it ∧ ∃ z,it.zero=some z ∧ z.cells.size=258:=by
  have h:(Tryz.prog.info? 110).map (fun i => i.zero.map (·.cells.size))=some (some 258):=by kernel_rfl
  obtain ⟨it,hit,h2⟩:=Option.map_eq_some_iff.1 h
  obtain ⟨z,hz,h3⟩:=Option.map_eq_some_iff.1 h2
  exact ⟨it,hit,z,hz,h3⟩
 generalize hZ:z.cells=Z at *
 obtain ⟨s1,g1⟩:=zdq 0 #[.string s] Z
 obtain ⟨s2,g2⟩:=zdq 1 arr (((#[.string s]:Array Value)).zipIdx.foldl (fun (cs:Array Value) (x:Value × Nat) => cs.setIfInBounds (0 + x.2) x.1) Z)
 obtain ⟨s3,g3⟩:=zdq 257 #[.map (some mb)] (arr.zipIdx.foldl (fun (cs:Array Value) (x:Value × Nat) => cs.setIfInBounds (1 + x.2) x.1) (((#[.string s]:Array Value)).zipIdx.foldl (fun (cs:Array Value) (x:Value × Nat) => cs.setIfInBounds (0 + x.2) x.1) Z))
 refine ⟨((#[.map (some mb)]:Array Value)).zipIdx.foldl (fun (cs:Array Value) (x:Value × Nat) => cs.setIfInBounds (257 + x.2) x.1) (arr.zipIdx.foldl (fun (cs:Array Value) (x:Value × Nat) => cs.setIfInBounds (1 + x.2) x.1) (((#[.string s]:Array Value)).zipIdx.foldl (fun (cs:Array Value) (x:Value × Nat) => cs.setIfInBounds (0 + x.2) x.1) Z)),?_,?_,?_,?_,?_⟩
 ·unfold Program.built
  rw [hit,hu]
  simp only [hz,hp,hZ]
  have c1:(Value.string s).cells = #[.string s]:=rfl
  have c2:(Value.agg arr).cells=arr:=rfl
  have c3:(Value.map (some mb)).cells = #[.map (some mb)]:=rfl
  have p0:(([(0,1),(1,256),(257,1)]:List (Nat × Nat)).toArray)[0]? = some (0,1):=rfl
  have p1:(([(0,1),(1,256),(257,1)]:List (Nat × Nat)).toArray)[1]? = some (1,256):=rfl
  have p2:(([(0,1),(1,256),(257,1)]:List (Nat × Nat)).toArray)[2]? = some (257,1):=rfl
  rw [Instr.fill,p0]
  simp only [c1]
  rw [if_neg (by rw [hzs]; simp),Instr.fill,p1]
  simp only [c2]
  rw [if_neg (by rw [s1,hzs,ha]; decide),Instr.fill,p2]
  simp only [c3]
  rw [if_neg (by rw [s2,s1,hzs]; simp),Instr.fill]
 ·rw [s3,s2,s1,hzs]
 ·rw [g3,if_neg (by omega),g2,if_neg (by omega),g1,if_pos (by rw [hzs]; simp)]; rfl
 ·intro j hj
  rw [g3,if_neg (by omega),g2,if_pos (by rw [s1,hzs,ha]; omega),Nat.add_sub_cancel_left]
 ·rw [g3,if_pos (by rw [s2,s1,hzs]; simp)]; rfl
theorem zd2 {P:Program} {ops:Array Oper} {rest:List Oper} {o:Oper} {a:Act} {w:World} {Q:Exit → Act → World → Prop} (hg:o.guard=none) (t:TypeId) (parts:Array (Nat × Operand)) (ho:o.op = .build t parts)
  (vals:List (Nat × Value)) (hv:(parts.map fun (i,x) => (i,a.eval x)).toList=vals) (cells:Array Value) (hf:P.built t vals=some cells)
  (h:wpList P ops Q rest (a.put o.dst (.agg cells)) w):wpList P ops Q (o :: rest) a w:=by
 refine wpList_build hg t parts ho (by rw [hv,hf]; rfl) ?_
 rw [hv,hf]
 exact h
open Go.RowKit
set_option linter.unusedVariables false
def tokC1 (t:Tok):List Value:=[.int .i64 t.kind,.int .i64 t.pos,.string ⟨t.s.toArray⟩,.int .i64 t.n,.int .i64 t.scale]
def toksC (ts:List Tok):List Value:=ts.flatMap tokC1
theorem zcY (ts:List Tok) (t:Tok):toksC (ts ++ [t])=toksC ts ++ tokC1 t:=by simp [toksC]
def ToksOwn (T:TypeId) (w wr:World) (t:Value) (ts:List Tok):Prop:=
 Mods [] w wr ∧ wr.ownsRow 0 T 5 t ts.length (toksC ts) ∧ ∀ g,t.ownBlock=some g → w.heap.size ≤ g
theorem ToksOwn.start (T:TypeId) (w:World):ToksOwn T w w (.slice none 0 0) []:=⟨Mods.refl _ _,World.ownsRow_nil _ _ _ _,fun g hg => by cases hg⟩
theorem ToksOwn.quiet {T:TypeId} {w wr w':World} {t:Value} {ts:List Tok} (h:ToksOwn T w wr t ts) (hM:Mods [] wr w'):ToksOwn T w w' t ts:=
 ⟨h.1.trans hM (by simp),zl h.2.1 hM (by simp),h.2.2⟩
theorem ToksOwn.push {T:TypeId} {w wr w':World} {t:Value} {ts:List Tok} (h:ToksOwn T w wr t ts) {u:Tok} {g cap:Nat} (hown:w'.ownsRow 0 T 5 (.slice (some ⟨g,0,none⟩) (ts.length + 1) cap) (ts.length + 1) (toksC ts ++ tokC1 u))
  (hM:Mods t.ownBlock.toList wr w') (hg:t.ownBlock=some g ∨ wr.heap.size ≤ g):ToksOwn T w w' (.slice (some ⟨g,0,none⟩) (ts.length + 1) cap) (ts ++ [u]):=by
 obtain ⟨h1,-,h5⟩:=h
 refine ⟨h1.trans hM (fun x hx => .inr (h5 x (by simpa using hx))),?_,fun g' hg' => ?_⟩
 ·rw [zcY]; simpa using hown
 ·obtain rfl:g=g':=by simpa [Value.ownBlock] using hg'
  rcases hg with h | h
  ·exact h5 g h
  ·have:=h1.size; omega
theorem ToksOwn.base {T:TypeId} {w wa wr:World} {t:Value} {ts:List Tok} (h:ToksOwn T wa wr t ts) (hM:Mods [] w wa):ToksOwn T w wr t ts:=
 ⟨hM.trans h.1 (by simp),h.2.1,fun g hg => Nat.le_trans hM.size (h.2.2 g hg)⟩
theorem ToksOwn.slice {T:TypeId} {w wr:World} {t:Value} {ts:List Tok} (h:ToksOwn T w wr t ts):∃ ao cap,t = .slice ao ts.length cap:=by
 rcases h.2.1.2 with ⟨hv,h0⟩ | ⟨g,cap,cur,hv,_⟩
 ·exact ⟨none,0,by rw [hv,h0]⟩
 ·exact ⟨_,_,hv⟩
def AllPost (T:TypeId) (w:World) (s:ByteArray) (e:Ending) (w':World):Prop:=
 if 4096 < s.size then e = .returned (.tuple #[.slice none 0 0,.int .i64 0,.int .i64 5]) ∧ Mods [] w w'
 else match lexAll s.data.toList with
  | .bad p => e = .returned (.tuple #[.slice none 0 0,.int .i64 p,.int .i64 8]) ∧ Mods [] w w'
  | .good ts => ∃ t,e = .returned (.tuple #[t,.int .i64 0,.int .i64 0]) ∧ ToksOwn T w w' t ts
theorem zcZ (w:World) (x y z u v:Value) (t:TypeId):∀ j q,([x,y,z,u,v]:List Value)[j]? = some q → (w.alloc (.cells #[x,y,z,u,v] t)).cell? ((⟨w.heap.size,0,none⟩ : Addr).add j)=some q:=by
 intro j q hq
 rw [zbZ,za (heap_alloc_new w _),Nat.zero_add]
 simpa using hq
theorem zcj (w:World) (A:Obj) (x y z u v:Value) (t:TypeId):∀ j q,([x,y,z,u,v]:List Value)[j]? = some q → ((w.alloc A).alloc (.cells #[x,y,z,u,v] t)).cell? ((⟨w.heap.size + 1,0,none⟩ : Addr).add j)=some q:=by
 have:=zcZ (w.alloc A) x y z u v t
 rw [zk] at this
 exact this
theorem zck (t:Tok):∀ u ∈ tokC1 t,u.oneCell'=true:=by
 intro u hu; simp [tokC1] at hu; rcases hu with rfl | rfl | rfl | rfl | rfl <;> rfl
theorem zii {l:List UInt8} {p:Nat} {t:TokC} {n k:Nat} (h:tokL (l.drop p)=some (t,n)) (hk:((l.drop (p + n)).takeWhile isBl).length=k):lexG (l.drop p) p=(lexG (l.drop (p + n + k)) (p + n + k)).pre [t.put p]:=by
 rw [zdV p h,List.drop_drop,zY,hk,List.drop_drop]
set_option maxRecDepth 100000 in
set_option maxHeartbeats 4000000 in
theorem zgN (w:World) (hT:Tabs w) (s:ByteArray) (hs:s.size ≤ 9223372036854775807) :
  Calls Tryz.prog 19 #[.string s] w (AllPost 68 w s):=by
 obtain ⟨i0,hi,hz0,hz1,hz2⟩:=info_parts (show (Tryz.prog.info? 68).map (fun i => (i.zero,i.size,i.bytes))=some (some (.agg (tokCells 0 0 ⟨#[]⟩ 0 0)),5,48) by kernel_rfl)
 by_cases hbig:4096 < s.size
 ·have hbz:(4096:Int) < (s.size:Int):=by omega
  have fin:∀ w',Mods [] w w' → AllPost 68 w s (.returned (.tuple #[.slice none 0 0,.int .i64 0,.int .i64 5])) w':=fun w' h => by unfold AllPost; rw [if_pos hbig]; exact ⟨rfl,h⟩
  have FIN:=Lib.hid fin
  clear fin hbig
  go_enter Tryz.func19, Tryz.ntmps19
  go_wp2_with fail
  go_returns
  exact FIN.out _ (Mods.refl _ _)
 ·have hbz:¬ (4096:Int) < (s.size:Int):=by omega
  have hs4:s.size ≤ 4096:=by omega
  have finb:∀ p w',lexAll s.data.toList = .bad p → Mods [] w w' → AllPost 68 w s (.returned (.tuple #[.slice none 0 0,.int .i64 p,.int .i64 8])) w':=fun p w' hl h => by unfold AllPost; rw [if_neg hbig,hl]; exact ⟨rfl,h⟩
  have fing:∀ ts t w',lexAll s.data.toList = .good ts → ToksOwn 68 w w' t ts → AllPost 68 w s (.returned (.tuple #[t,.int .i64 0,.int .i64 0])) w':=fun ts t w' hl h => by unfold AllPost; rw [if_neg hbig,hl]; exact ⟨t,rfl,h⟩
  have FINB:=Lib.hid finb
  have FING:=Lib.hid fing
  clear finb fing hbig
  go_enter Tryz.func19, Tryz.ntmps19
  go_wp2_with fail
  refine (zgD _).mono ?_
  rintro e w1 ⟨arr,rfl,harr,hkd,hM1⟩
  have HKD:=Lib.hid hkd
  have HARR:=Lib.hid harr
  clear hkd harr
  go_wp2_with fail
  refine (zh8 _ (hT.mods hM1)).mono ?_
  rintro e w2 ⟨mb,rfl,hkm,hmb,hM2⟩
  obtain ⟨C,hC1,hC2,hC3,hC4,hC5⟩:=zfQ s arr mb HARR.out
  have hMw2:=hM1.trans hM2 (by simp)
  have hMA:=(Mods.refl [] w2).alloc (.cells C 110)
  have hSc:Scan (w2.alloc (.cells C 110)) w2.heap.size s:=⟨_,_,mb,heap_alloc_new w2 _,hC3,fun j hj => by rw [hC4 j hj]; exact HKD.out j hj,hC5,hkm.mods hMA (by simp)⟩
  have HSc:=Lib.hid hSc
  clear hC3 hC4 hC5 hSc hkm HKD HARR
  go_wp2_with (refine zd2 rfl 110 #[(0,.tmp 11),(1,.tmp 12),(2,.tmp 13)] rfl [(0,.string s),(1,.agg arr),(2,.map (some mb))] (by simp only [List.map_toArray,List.map_cons,List.map_nil]; rfl) C hC1 ?_)
  clear hC1
  have hM3:=hMw2.trans hMA (by simp)
  have HSc2:=HSc.out
  generalize w2.alloc (.cells C 110)=w3 at *
  generalize w2.heap.size=sb at *
  have hrun0:=zbx w3 sb s HSc2 hs 0 (by omega) 1 isBl zgI
  rw [show ((0:Nat):Int)=0 from rfl] at hrun0
  have hp0:=zcg isBl s 0 (by omega)
  have hst:lexAll s.data.toList=(lexG (s.data.toList.drop (runL isBl s 0)) (runL isBl s 0)).pre []:=by
   rw [Lexed.pre_nil]
   unfold lexAll
   rw [zY]; rfl
  have HST:=Lib.hid hst
  have hT3:=hT.mods hM3
  clear hst hMw2 hM1 hM2 hMA hT HSc hC2
  refine hrun0.mono ?_
  rintro e w4 ⟨rfl,hM4⟩
  obtain ⟨p0,hp0e⟩ : ∃ p0,runL isBl s 0=p0:=⟨_,rfl⟩
  rw [hp0e] at HST hp0 ⊢
  have hT4:=hT3.mods hM4
  have hSc4:=HSc2.mods hM4
  have hM04:=hM3.trans hM4 (by simp)
  clear hrun0 hp0e HSc2 hT3 hM3 hM4
  go_wp2_with fail
  go_loopw [2,3] (fun t2 t3 wr => ∃ (p:Nat) (ts:List Tok),p ≤ s.size ∧ t3 = .int .i64 p ∧ ts.length ≤ p ∧ Hid (ToksOwn 68 w4 wr t2 ts) ∧ Hid (lexAll s.data.toList=(lexG (s.data.toList.drop p) p).pre ts)) (fun _ t3 _ => s.size - (intOf t3).toNat)
  case atStart => exact ⟨p0,[],by omega,rfl,by simp,Lib.hid (ToksOwn.start _ _),HST⟩
  case round =>
   clear HST
   obtain ⟨p,ts,hp,rfl,hts,HO,HL⟩:=hrel
   obtain ⟨hMr,hown,hblk⟩:=HO.out
   obtain ⟨ao,cap,rfl⟩:=HO.out.slice
   have hSr:=hSc4.mods hMr
   have hTr:=hT4.mods hMr
   have hMwr:=hM04.trans hMr (by simp)
   by_cases hps:p < s.size
   ·have hcall:=zgM wr sb s hSr hTr hs4 p hps
    have hdl:(s.data.toList.drop p).length=s.size - p:=by rw [List.length_drop]; rfl
    have hdne:s.data.toList.drop p ≠ []:=by intro h; rw [h] at hdl; simp at hdl; omega
    have hpz:(p:Int) < (s.size:Int):=by omega
    have HO2:=HO
    cases htk:tokL (s.data.toList.drop p) with
    | none =>
     rw [htk] at hcall
     have fin:=Lib.hid (fun w' => FINB.out p w' (HL.out.trans (by rw [zfc p hdne htk]; rfl)))
     clear htk hdl hdne hown hblk HL HO HO2
     go_wp2_with fail
     refine hcall.mono ?_
     rintro e w5 ⟨rfl,hM5⟩
     simp only [tokV]
     clear hcall
     go_wp2_with fail
     go_returns
     exact fin.out _ ((hMwr.trans hM5 (by simp)).alloc _)
    | some x =>
     obtain ⟨t,n⟩:=x
     rw [htk] at hcall
     have hn:=zdi htk
     rw [hdl] at hn
     have hn0:((n:Int) == 0)=false:=by rw [beq_eq_false_iff_ne]; omega
     have hn1:¬ (n:Int)=0:=by omega
     obtain ⟨k,hk⟩ : ∃ k,runL isBl s (p + n)=k:=⟨_,rfl⟩
     have hk1:=zcg isBl s (p + n) (by omega)
     rw [hk] at hk1
     have hstep:=Lib.hid (zii htk hk)
     have hrun:=fun W (hW:Scan W sb s) => zbx W sb s hW hs (p + n) (by omega) 1 isBl zgI
     rw [hk,show ((p + n:Nat):Int)=(p:Int) + (n:Int) by omega] at hrun
     have HRUN:=Lib.hid hrun
     clear htk hdl hdne hown hblk hk hrun
     go_wp2_with fail
     refine hcall.mono ?_
     rintro e w5 ⟨rfl,hM5⟩
     simp only [tokV]
     have HO5:=Lib.hid (HO.out.quiet hM5)
     have hown5:=HO5.out.2.1
     have hT5:=hTr.mods hM5
     have hS5:=hSr.mods hM5
     clear hcall hSr hTr HO HO2 hMr
     go_wp2_with (at_builtin; refine zr _ rfl _ _ 64 rfl 68 i0 _ 5 48 Tryz.underlying64 hi hz0 hz1 hz2 rfl (by decide) (.slice ao ts.length cap) ts.length (toksC ts) rfl ((hown5.alloc _).alloc _) ⟨w5.heap.size + 1,0,none⟩ 1 1 (tokC1 (t.put p)) rfl rfl ?c1 (zck _) (by decide) ?c3 ?c4 ?_)
     case c1 => exact zcj _ _ _ _ _ _ _ _
     case c3 => unfold maxLen; omega
     case c4 => omega
     intro g cap2 w7 hown7 hM7 hg7
     have hAA:=((Mods.refl [] w5).alloc (.cells (tokCells t.kind p ⟨t.s.toArray⟩ t.n t.scale) 68)).alloc (.cells (tokCells t.kind p ⟨t.s.toArray⟩ t.n t.scale) 68)
     have hO7:=(HO5.out.quiet hAA).push hown7 hM7 (by rw [zk,zk]; exact hg7)
     have hM47:=hO7.1
     have hS7:=hSc4.mods hM47
     have HO7:=Lib.hid hO7
     clear hown7 hM7 hg7 hAA hO7 hown5 hS5 hT5 HO5 hM5 hM47
     go_wp2_with fail
     refine (HRUN.out w7 hS7).mono ?_
     rintro e w8 ⟨rfl,hM8⟩
     have HO8:=Lib.hid (HO7.out.quiet hM8)
     clear HO7 hM8 hS7
     go_wp2_with fail
     go_roundw
     case measure => simp [intOf]; omega
     case rel => exact ⟨p + n + k,ts ++ [t.put p],by omega,by go_num,by rw [List.length_append]; simp; omega,HO8,Lib.hid (by rw [HL.out,hstep.out,Lexed.pre_pre])⟩
   ·obtain rfl:p=s.size:=by omega
    have hdn:s.data.toList.drop s.size=[]:=List.drop_of_length_le (Nat.le_refl _)
    have fin:=Lib.hid (fun t w' => FING.out (ts ++ [⟨0,s.size,[],0,0⟩]) t w' (HL.out.trans (by rw [hdn,zfb]; rfl)))
    clear hdn hps hblk HL
    go_wp2_with (at_builtin; refine zr _ rfl _ _ 64 rfl 68 i0 _ 5 48 Tryz.underlying64 hi hz0 hz1 hz2 rfl (by decide) (.slice ao ts.length cap) ts.length (toksC ts) rfl (hown.alloc _) ⟨wr.heap.size,0,none⟩ 1 1 (tokC1 ⟨0,s.size,[],0,0⟩) rfl rfl ?c1 (zck _) (by decide) ?c3 ?c4 ?_)
    case c1 => exact zcZ _ _ _ _ _ _ _
    case c3 => unfold maxLen; omega
    case c4 => omega
    intro g cap2 w7 hown7 hM7 hg7
    have hAA:=(Mods.refl [] wr).alloc (.cells (tokCells 0 s.size ⟨#[]⟩ 0 0) 68)
    have hO7:=Lib.hid ((HO.out.quiet hAA).push hown7 hM7 (by rw [zk]; exact hg7))
    clear hown7 hM7 hg7 hAA
    go_wp2_with fail
    go_returns
    exact fin.out _ _ (hO7.out.base hM04)
end Go.Proofs.YtgdpaieechgahaaGreatDoor
