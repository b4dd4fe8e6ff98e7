/-
  A scanner's method word, walked. No condition but that Go's own variables hold what they were laid with.
-/
import Derived.Test.YtcabeljiobiojaaGreatDoorQ01
import Derived.Handy
import Derived.Deep.LoopGhost
import Derived.Deep.DeepCutAuto
import Derived.Lib.Builder
import Derived.Lib.AppendStr
import Derived.Lib.UnsafeStr
import Derived.Laws.Externs
set_option linter.unusedVariables false
set_option maxRecDepth 100000
set_option maxHeartbeats 2000000
namespace Go.Proofs.YtcabeljiobiojaaGreatDoor
open Go.RowKit
theorem AZ {p:Prop} (h:p:=by rw [HRB.out]; exact LR _):p:=h
theorem AS {p:Prop} (h:p:=by simpa using hne):p:=h
theorem AN {p:Prop} (h:p:=by simpa using h):p:=h
theorem yec {p:Prop} (h:p:=by
  have hrb:=QN w (.cells (zn 0 0 ⟨#[]⟩ 0 0) 92);have hM0:=(QM [] w).alloc (.cells (zn 0 0 ⟨#[]⟩ 0 0) 92)
  first
  |clear gCV
   have hS0:=hS.mods hM0;clear hS;go_enter Tryz.func85, Tryz.ntmps85;go_wp2_with fail;generalize w.alloc (.cells (zn 0 0 ⟨#[]⟩ 0 0) 92)=w0 at *;generalize hrbn:w.heap.size=rb at *;have HRB:=QH hrbn;clear hrbn;refine (zdT w0 b s hS0 AA at_ hat 4 zC mask_dig).mono ?_;rintro e w1 ⟨rfl,hM1⟩;rw [hn];clear hn;have hS1:=hS0.mods hM1;have hrb1:=hM1.heap hrb;have hMw1:=hM0.trans hM1;have c0:=hS1.text;have hki:(at_:Int) + (n:Int) ≤ (s.size:Int):=by omega
   clear hS0 hrb hM0 hM1;go_upto_if 31 with ((with_reducible refine (hpre _).mono ?_); rintro e w2 ⟨rfl,rfl⟩);go_cut [6,7,8] (fun s6 s7 s8 wx => ∃ (D:ByteArray) (k sc:Nat),s6 = .int .i64 k ∧ s7 = .string D ∧ s8 = .int .i64 sc ∧ Mods [] w1 wx ∧ NumRel l D k sc)
   case first =>
    cases PF with
    | false =>
     have hf:zbR (l.dropWhile zC)=[]:=by unfold zbR; rw [if_neg (of_decide_eq_false HPF.out)]
     have fin:NumRel l (s.extract at_ (at_ + n)) n 0:=⟨by rw [HDL.out]; unfold zab; rw [hf,List.append_nil],by unfold zbK; rw [if_pos hf]; exact HNL.out.symm,by rw [hf]; rfl⟩;go_wp2_with fail
     go_meet
     exact ⟨s.extract at_ (at_ + n),n,0,rfl,rfl,rfl,QM _ _,fin⟩
    | true =>
     have hh:=of_decide_eq_true HPF.out;obtain ⟨r,hr⟩ : ∃ r,l.dropWhile zC=46 :: r:=by
      cases hd:l.dropWhile zC with
      | nil => rw [hd] at hh; simp at hh
      | cons c r => rw [hd] at hh; simp at hh; exact ⟨r,by rw [hh]⟩
     have hr2:s.data.toList.drop (at_ + n)=46 :: r:=by rw [← hr,zaM,HNL.out,← HL.out,List.drop_drop]
     have hr3:s.data.toList.drop (at_ + n + 1)=r:=by rw [← List.drop_drop,hr2]; rfl
     have hlt:at_ + n < s.size:=by have:=congrArg List.length hr2;rw [List.length_drop] at this;have e1:s.data.toList.length=s.size:=rfl;rw [e1] at this;simp at this;omega
     obtain ⟨sc,hsc⟩:=EX (runL zC s (at_ + n + 1));have hsc1:=zeO zC s (at_ + n + 1) AA;rw [hsc] at hsc1;have hf:zbR (l.dropWhile zC)=r.takeWhile zC:=by rw [hr]; unfold zbR; rw [List.head?_cons,if_pos rfl]; rfl
     have hfl:(r.takeWhile zC).length=sc:=by rw [← hr3]; exact hsc
     have hrun:=zdT w1 b s hS1 AA (at_ + n + 1) AA 4 zC mask_dig;have e1:((at_ + n + 1:Nat):Int)=(at_:Int) + (n:Int) + 1:=by omega
     rw [e1,hsc] at hrun;have HF:=QH hf;have HFL:=QH hfl;have HR3:=QH hr3;have hk2:(at_:Int) + (n:Int) + 1 + (sc:Int) ≤ (s.size:Int):=by omega
     clear hh hr hr2 hr3 hsc hf hfl e1;go_wp2_with fail;refine hrun.mono ?_;rintro e w2 ⟨rfl,hM2⟩;have hS2:=hS1.mods hM2;have c2:=hS2.text;clear hrun c0;by_cases hs0:sc=0
     ·subst hs0;have hf0:zbR (l.dropWhile zC)=[]:=by rw [HF.out]; exact List.length_eq_zero_iff.1 HFL.out
      have fin:NumRel l (s.extract at_ (at_ + n)) n 0:=⟨by rw [HDL.out]; unfold zab; rw [hf0,List.append_nil],by unfold zbK; rw [if_pos hf0]; exact HNL.out.symm,by rw [hf0]; rfl⟩;have FIN:=QH fin;clear fin hf0;go_wp2_with fail
      go_meet
      exact ⟨s.extract at_ (at_ + n),n,0,rfl,rfl,rfl,hM2,FIN.out⟩
     ·have hs0z:(0:Int) < (sc:Int):=by omega
      have hf0:zbR (l.dropWhile zC) ≠ []:=by rw [HF.out]; intro h; have:=HFL.out; rw [h] at this; simp at this; omega
      have fin:NumRel l (s.extract at_ (at_ + n) ++ s.extract (at_ + n + 1) (at_ + n + 1 + sc)) (n + 1 + sc) sc:=by
       refine ⟨?_,by unfold zbK; rw [if_neg hf0,HNL.out,HF.out,HFL.out],by rw [HF.out]; exact HFL.out.symm⟩;have e1:(s.extract at_ (at_ + n) ++ s.extract (at_ + n + 1) (at_ + n + 1 + sc)).data.toList=(s.extract at_ (at_ + n)).data.toList ++ (s.extract (at_ + n + 1) (at_ + n + 1 + sc)).data.toList:=by simp
       rw [e1,HDL.out,zbW,HR3.out,← HFL.out,zhO,← HF.out];rfl
      have FIN:=QH fin;have hsz1:(s.extract at_ (at_ + n)).size ≤ 4096:=by have e1:(s.extract at_ (at_ + n)).size=(s.extract at_ (at_ + n)).data.toList.length:=rfl;rw [e1,HDL.out,HNL.out]; omega
      have hsz2:(s.extract (at_ + n + 1) (at_ + n + 1 + sc)).size ≤ 4096:=by have e1:(s.extract (at_ + n + 1) (at_ + n + 1 + sc)).size=(s.extract (at_ + n + 1) (at_ + n + 1 + sc)).data.toList.length:=rfl;rw [e1,zbW,List.length_take]; omega
      have hcat:¬ 9223372036854775807 < (s.extract at_ (at_ + n)).size + (s.extract (at_ + n + 1) (at_ + n + 1 + sc)).size:=by omega
      clear fin hf0;go_wp2_with fail
      go_meet
      exact ⟨_,n + 1 + sc,sc,by go_num,rfl,rfl,hM2,FIN.out⟩
   case rest =>
    obtain ⟨D,k,sc,rfl,rfl,rfl,hMc,hNum⟩:=hcut;obtain ⟨hD,hk,hsc⟩:=hNum;have hSc:=hS1.mods hMc;have hMwc:=hMw1.trans hMc;have hrbc:=hMc.heap hrb1;have hTc:=hT.mods hMwc;have hll:l.length ≤ s.size - at_:=by rw [← HL.out,List.length_drop]; exact LR _
    have hkl:=zg2 l;rw [← hk] at hkl;have hDl:D.size ≤ 4096:=by have e1:D.size=D.data.toList.length:=rfl;have:=zg9 l;rw [e1,hD];omega
    have hall:=zgn l;have hne:zab l ≠ []:=by unfold zab; intro h; exact H0.out (List.append_eq_nil_iff.1 h).1
    have hpi:=zg6 (zab l) hne hall;rw [← hD] at hpi;have hlr2:zdM (l.drop k)=decide (0 < runL zah s (at_ + k)):=by rw [← HL.out,List.drop_drop]; exact zhQ _ _
    obtain ⟨V,hV⟩:=EX (numVal D.data.toList);obtain ⟨R,hR⟩:=EX (runL zah s (at_ + k));have fin:zbt l=if 9223372036854775807 < V ∨ 9 < sc ∨ 0 < R then none else some (⟨3,[],V,sc⟩,k):=by unfold zbt;rw [← hD,← hsc,← hk,hlr2,hV,hR];simp
    have FIN:=QH fin;rw [hV] at hpi;have hrun:=fun w (hw:Scan w b s) => zdT w b s hw AA (at_ + k) AA 2 zah mask_let;rw [hR] at hrun;have e1:((at_ + k:Nat):Int)=(at_:Int) + (k:Int):=by omega
    rw [e1] at hrun;have hk2:(at_:Int) + (k:Int) ≤ (s.size:Int):=by omega
    have hinfo:=zer;have HRUN:=QH hrun;clear hD hk hsc hlr2 fin hV hR e1 hMw1 hrb1 hS1 c0 hMc hpre hne hall hrun hll hkl;by_cases hbig:9223372036854775807 < V
    ·rw [if_pos hbig] at hpi;obtain ⟨-,ev,hv,hev⟩:=hTc;have hpr:= Tryz.strconv_ParseInt_10_at64_range D AA hpi ev wc hv hev;have e:=FIN.out;rw [if_pos (.inl hbig)] at e;have HE:=QH e;clear hpi hv hev e hbig;go_wp2_with fail;(with_reducible refine hpr.mono ?_);rintro e w3 ⟨N,rfl,-,-,hB3⟩;have hM3:=Mods.of_below hB3 (LR _) [];have hrb3:=hM3.heap hrbc;have hMw3:=hMwc.trans hM3;clear hpr hB3 hM3;exact yaX
    ·rw [if_neg hbig] at hpi;have hpr:= Tryz.strconv_ParseInt_10_at64_ok D AA (V:Int) hpi wc;have hVz:(V:Int) ≤ 9223372036854775807:=by omega
     clear hpi hTc;go_wp2_with fail;(with_reducible refine hpr.mono ?_);rintro e w3 ⟨rfl,hB3⟩;have hM3:Mods [] wc w3:=by
      rcases hB3 with rfl | ⟨t,rfl⟩
      ·exact QM _ _
      ·exact Mods.of_below (Lib.bytesWorld_below _ _ _) (LR _) []
     have hrb3:=hM3.heap hrbc;have hMw3:=hMwc.trans hM3;have hSw3:=hSc.mods hM3;clear hpr hB3 hM3;by_cases h9:9 < sc
     ·have h9z:(9:Int) < (sc:Int):=by omega
      have e:=FIN.out;rw [if_pos (.inr (.inl h9))] at e;have HE:=QH e;clear e;exact yaX
     ·have h9z:¬ (9:Int) < (sc:Int):=by omega
      go_wp2_with fail;refine (HRUN.out _ hSw3).mono ?_;rintro e w4 ⟨rfl,hM4⟩;have hrb4:=hM4.heap hrb3;have hMw4:=hMw3.trans hM4;clear hM4;by_cases hR0:0 < R
      ·have hR0z:(0:Int) < (R:Int):=by omega
       have e:=FIN.out;rw [if_pos (.inr (.inr hR0))] at e;have HE:=QH e;clear e;go_wp2_with (refine wpList_store_row rfl 92 (.tmp 4) (.tmp 80) rfl rb (zn 0 0 ⟨#[]⟩ 0 0) rfl rfl 92 _ hrb4 hinfo rfl (zam _ _ _ _ _) ?_);refine bodyPost_ret (zg rfl _ _ rb 92 (zn 0 0 ⟨#[]⟩ 0 0) (0,0) _ rfl (zi _ hrb4) Tryz.underlying92 rfl hinfo _ rfl) rfl ?_;rw [HE.out];exact ⟨rfl,hMw4.setRow (.inr AZ) _⟩
      ·have hR0z:¬ (0:Int) < (R:Int):=by omega
       have e:=FIN.out;rw [if_neg AA] at e;have HE:=QH e;clear e;go_wp2_with (refine wpList_store_row rfl 92 (.tmp 4) (.tmp 84) rfl rb (zn 3 at_ ⟨#[]⟩ V sc) rfl rfl 92 _ hrb4 hinfo rfl (zam _ _ _ _ _) ?_);refine bodyPost_ret (zg rfl _ _ rb 92 (zn 3 at_ ⟨#[]⟩ V sc) (0,0) _ rfl (zi _ hrb4) Tryz.underlying92 rfl hinfo _ rfl) rfl ?_;rw [HE.out];exact ⟨rfl,hMw4.setRow (.inr AZ) _⟩
  |clear gCW
   have c0:=(hS.mods hM0).text;have hinfo:=zer;clear hS hl hll hm hst;go_enter Tryz.func87, Tryz.ntmps87;go_wp2_with fail;generalize w.alloc (.cells (zn 0 0 ⟨#[]⟩ 0 0) 92)=w0 at *;generalize hrbn:w.heap.size=rb at *;have HRB:=QH hrbn;clear hrbn hmin;go_loop [6] (fun t6 => ∃ n:Nat,n ≤ 2 ∧ at_ + n ≤ s.size ∧ t6 = .int .i64 n ∧ Hid (MRel l n)) (fun t6 => (intOf t6).toNat)
   case atStart => exact ⟨m,hm2.1,hm2.2,rfl,HST⟩
   case round =>
    clear HST hm2;obtain ⟨n,hn2,hn3,rfl,HR⟩:=hrel;have hcases:n=0 ∨ n=1 ∨ n=2:=by omega
    rcases hcases with rfl | rfl | rfl
    ·have HE:=QH (HR.out.2.1 rfl);go_wp2_with (refine wpList_store_row rfl 92 (.tmp 4) (.tmp 55) rfl rb (zn 0 0 ⟨#[]⟩ 0 0) rfl rfl 92 _ hrb hinfo rfl (zam _ _ _ _ _) ?_);refine bodyPost_ret (zg rfl _ _ rb 92 (zn 0 0 ⟨#[]⟩ 0 0) (0,0) _ rfl (zi _ hrb) Tryz.underlying92 rfl hinfo _ rfl) rfl ?_;rw [HE.out];exact ⟨rfl,hM0.setRow (.inr AZ) _⟩
    ·obtain ⟨c,r,hcr⟩ : ∃ c r,l=c :: r:=by
      cases l with
      | nil => have:=HR.out.2.2; simp at this
      | cons c r => exact ⟨c,r,rfl⟩
     have hX:s.extract at_ (at_ + 1) = ⟨#[c]⟩:=by refine zgl (l:=[c]) ?_;rw [zbW,HL.out,hcr]; rfl
     have hc:=fun w => (Tryz.strings_Contains_one ⟨#[61,60,62,43,45,42,47,40,41,44,46]⟩ c w).mono (fun e w' h => (⟨h.1,h.2.symm⟩ : _ ∧ w=w'));rw [zkw] at hc;have hmk:=HR.out.1 rfl c r hcr;obtain ⟨q,hq⟩:=EX (marks1.contains c);rw [show (⟨#[61,60,62,43,45,42,47,40,41,44,46]⟩ : ByteArray).data.toList.contains c=marks1.contains c from rfl,hq] at hc;rw [hq] at hmk;have HMK:=QH hmk;have hkz:(at_:Int) + 1 ≤ (s.size:Int):=by omega
     have hrel0:MRel l 0 ∨ q=true:=by
      cases q with
      | true => exact .inr rfl
      | false => exact .inl ⟨fun h => by omega,fun _ => by have:=HMK.out; rw [if_neg AD] at this; exact this,by omega⟩
     have HR0:=QH hrel0;clear hcr hmk hq hrel0;rw [show ((1:Nat):Int)=1 from rfl]
     cases q with
     | true =>
      go_wp2_with (first
       | (go_at_call 129; (with_reducible refine (hc _).mono ?_); rintro e w2 ⟨rfl,rfl⟩)
       | (refine wpList_store_row rfl 92 (.tmp 4) (.tmp 53) rfl rb (zn 5 at_ ⟨#[c]⟩ 0 0) rfl rfl 92 _ hrb hinfo rfl (zam _ _ _ _ _) ?_))
      refine bodyPost_ret (zg rfl _ _ rb 92 (zn 5 at_ ⟨#[c]⟩ 0 0) (0,0) _ rfl (zi _ hrb) Tryz.underlying92 rfl hinfo _ rfl) rfl ?_;rw [HMK.out,if_pos trivial];exact ⟨rfl,hM0.setRow (.inr AZ) _⟩
     | false =>
      go_wp2_with (go_at_call 129; (with_reducible refine (hc _).mono ?_); rintro e w2 ⟨rfl,rfl⟩);go_round
      case measure => simp [intOf]
      case rel => exact ⟨0,by omega,by omega,by go_num,QH (HR0.out.resolve_right AD)⟩
    ·have hX:(s.extract at_ (at_ + 2)).data.toList=l.take 2:=by rw [zbW,HL.out]
     have hkz:(at_:Int) + 2 ≤ (s.size:Int):=by omega
     rw [show ((2:Nat):Int)=2 from rfl];rcases zha (x:=l.take 2) with h | ⟨h1,h2,h3,h4⟩
     ·have hc:marks2.contains (l.take 2)=true:=by rcases h with h | h | h <;> rw [h] <;> decide
      have HMK:=QH (zmr l hc);have HX:=QH hX;clear hc;rcases h with h | h | h
      all_goals
       rw [h] at hX;have hX2:=zgl hX;have HH:=QH h;clear hX h;go_wp2_with (refine wpList_store_row rfl 92 (.tmp 4) (.tmp 53) rfl rb (zn 5 at_ _ 0 0) rfl rfl 92 _ hrb hinfo rfl (zam _ _ _ _ _) ?_);refine bodyPost_ret (zg rfl _ _ rb 92 (zn 5 at_ _ 0 0) (0,0) _ rfl (zi _ hrb) Tryz.underlying92 rfl hinfo _ rfl) rfl ?_;rw [HMK.out,HH.out];exact ⟨rfl,hM0.setRow (.inr AZ) _⟩
     ·have n1:¬ (s.extract at_ (at_ + 2)).toList=[60,62]:=by rw [ByteArray.toList_eq,hX]; exact h1
      have n2:¬ (s.extract at_ (at_ + 2)).toList=[60,61]:=by rw [ByteArray.toList_eq,hX]; exact h2
      have n3:¬ (s.extract at_ (at_ + 2)).toList=[62,61]:=by rw [ByteArray.toList_eq,hX]; exact h3
      have m1:((s.extract at_ (at_ + 2)).toList == [60,62])=false:=by rw [beq_eq_false_iff_ne]; exact n1
      have o1:=zgp (a:=s.extract at_ (at_ + 2)) (l:=[60,62]) (by rw [hX]; exact h1);have m2:((s.extract at_ (at_ + 2)).toList == [60,61])=false:=by rw [beq_eq_false_iff_ne]; exact n2
      have o2:=zgp (a:=s.extract at_ (at_ + 2)) (l:=[60,61]) (by rw [hX]; exact h2);have m3:((s.extract at_ (at_ + 2)).toList == [62,61])=false:=by rw [beq_eq_false_iff_ne]; exact n3
      have o3:=zgp (a:=s.extract at_ (at_ + 2)) (l:=[62,61]) (by rw [hX]; exact h3);have HR1:Hid (MRel l 1):=QH ⟨fun _ c r hc => by subst hc; exact ziJ h4,fun h => by omega,by have:=HR.out.2.2; omega⟩;clear hX h1 h2 h3 h4;go_wp2_with fail;go_round
      case measure => simp [intOf]
      case rel => exact ⟨1,by omega,by omega,by go_num,HR1⟩
  |clear gCX
   have hS0:=hS.mods hM0;have hT0:=hT.mods hM0;have c0:=hS0.text;have hc256:=UInt8.toNat_lt c;have ck:=hS0.kind c.toNat AA;have hcz:(c.toNat:Int) < 256:=by omega
   have hatz:(at_:Int) < (s.size:Int):=by omega
   have hinfo:=zer;have HTK:=QH htk;have HDG:=QH hdg;have HC:=QH hc;have H2:=QH (mask_let.2 c);have H4:=QH (mask_dig.2 c);clear hl htk hdg hS hT;have ends:∀ (o:Option (TokC × Nat)) (w0 w1:World) (f:Nat) (args:Array Value),Mods [] w w0 → w0.heap[w.heap.size]? = some (.cells (zn 0 0 ⟨#[]⟩ 0 0) 92 (0,0)) → Calls Tryz.prog f args w0 (zc4 w0 o at_) → Calls Tryz.prog f args w0 fun e w1 => ∃ (k a:Int) (x:ByteArray) (n c len:Int),e = .returned (.tuple #[.agg (zn k a x n c),.int .i64 len]) ∧ w1.heap[w.heap.size]? = some (.cells (zn 0 0 ⟨#[]⟩ 0 0) 92 (0,0)) ∧ (zc3 (s.data.toList.drop at_)=o → zc4 w (zc3 (s.data.toList.drop at_)) at_ (.returned (.tuple #[.agg (zn k a x n c),.int .i64 len])) (w1.setRow w.heap.size (zn k a x n c))):=by intro o w0 w1 f args h0 h1 h;refine h.mono fun e w1 he => ?_;obtain ⟨he1,he2⟩:=he;obtain ⟨k,a,x,n,c,len,hv⟩:=zkx o at_;refine ⟨k,a,x,n,c,len,by rw [he1,hv],he2.heap h1,fun ho => ⟨by rw [ho,hv],?_⟩⟩;exact (h0.trans he2).setRow (.inr (LR _)) _
   have HE:=QH ends;clear ends;go_enter Tryz.func50, Tryz.ntmps50
   cases h2:zah c with
   | true =>
    have hb2:(bits .and .u8 (kindB c.toNat:Int) 2 != 0)=true:=by rw [bne_iff_ne]; exact H2.out.1 h2
    have e:=HTK.out;rw [if_pos h2] at e;have hcall:=HE.out _ _ w _ _ hM0 hrb (zmo _ b s hS0 hs at_ AA);have HT1:=QH e;clear e h2;have gA8:=QH trivial;exact ydm
   | false =>
    have hb2:(bits .and .u8 (kindB c.toNat:Int) 2 != 0)=false:=by rw [bne_eq_false_iff_eq]; exact H2.out.2 h2
    have e1:=HTK.out;rw [if_neg (by rw [h2]; decide)] at e1;clear h2
    cases h4:zC c with
    | true =>
     have hb4:(bits .and .u8 (kindB c.toNat:Int) 4 != 0)=true:=by rw [bne_iff_ne]; exact H4.out.1 h4
     rw [if_pos h4] at e1;have hcall:=HE.out _ _ w _ _ hM0 hrb (zjt _ b s hS0 hT0 hs at_ AA (HDG.out h4));have HT1:=QH e1;clear e1 h4;have gA9:=QH trivial;exact ydm
    | false =>
     have hb4:(bits .and .u8 (kindB c.toNat:Int) 4 != 0)=false:=by rw [bne_eq_false_iff_eq]; exact H4.out.2 h4
     rw [if_neg (by rw [h4]; decide)] at e1;clear h4;by_cases h39:c=39
     ·have hq:((c.toNat:Int) == 39)=true:=by rw [h39]; rfl
      rw [if_pos h39] at e1;have hcall:=HE.out _ _ w _ _ hM0 hrb (zmq _ b s hS0 hs at_ AA);have HT1:=QH e1;clear e1 h39;have gBa:=QH trivial;exact ydm
     ·have hn:c.toNat ≠ 39:=fun h => h39 (UInt8.toNat_inj.1 h);have hq:((c.toNat:Int) == 39)=false:=by rw [beq_eq_false_iff_ne]; omega
      have hq2:¬ (c.toNat:Int)=39:=by omega
      rw [if_neg h39] at e1;have hcall:=HE.out _ _ w _ _ hM0 hrb (zms _ b s hS0 hs at_ AA);have HT1:=QH e1;clear e1 h39 hn;have gBb:=QH trivial;exact ydm
 ):p:=h
theorem ycC {p:Prop} (h:p:=by
  exact ⟨rfl,hMw3.setRow (.inr AZ) _⟩
 ):p:=h
theorem yaX {p:Prop} (h:p:=by
  go_wp2_with (refine wpList_store_row rfl 92 (.tmp 4) (.tmp 80) rfl rb (zn 0 0 ⟨#[]⟩ 0 0) rfl rfl 92 _ hrb3 hinfo rfl (zam _ _ _ _ _) ?_);refine bodyPost_ret (zg rfl _ _ rb 92 (zn 0 0 ⟨#[]⟩ 0 0) (0,0) _ rfl (zi _ hrb3) Tryz.underlying92 rfl hinfo _ rfl) rfl ?_;rw [HE.out];exact ycC
 ):p:=h
theorem ybP {p:Prop} (h:p:=by
  cases l with
  | nil => rfl
  | cons c r =>simp [Lib.hasPrefix,List.isPrefixOf];rw [Bool.eq_iff_iff]; simp; constructor <;> intro h <;> exact h.symm
 ):p:=h
theorem ycc {p:Prop} (h:p:=by
  rw [hr2] at hr;injection hr with e1 e2
  subst e1;simp only [Value.ownBlock,Option.some.injEq] at hg;exact .inr AA
 ):p:=h
theorem ycm {p:Prop} (h:p:=by
  right;rw [Array.getElem?_setIfInBounds_ne AA,Array.getElem?_setIfInBounds_self_of_lt AA]
 ):p:=h
abbrev zn (kind at_:Int) (s:ByteArray) (n scale:Int):Array Value:=#[.int .i64 kind,.int .i64 at_,.string s,.int .i64 n,.int .i64 scale]
theorem zam (k a:Int) (s:ByteArray) (n c:Int):(zn k a s n c).all (·.oneCell')=true:=by simp [Value.oneCell']
def tokV (o:Option (TokC × Nat)) (at_:Nat):Value:=
 match o with
 | none => .tuple #[.agg (zn 0 0 ⟨#[]⟩ 0 0),.int .i64 0]
 | some (t,n) => .tuple #[.agg (zn t.kind at_ ⟨t.s.toArray⟩ t.n t.scale),.int .i64 n]
def zc4 (w:World) (o:Option (TokC × Nat)) (at_:Nat) (e:Ending) (w':World):Prop:=e = .returned (tokV o at_) ∧ Mods [] w w'
theorem zg {P:Program} {fn:Func} {p q:Tmp} {ty:TypeId} (h:fn.results = #[.cell p ty,.tmp q]) (tmps:Array Value) (w:World) (g:Nat) (t:TypeId) (cs:Array Value) (fr:Nat × Nat) (d:TypeDesc)
  (hp:tmps.getD p undef = .pointer (some ⟨g,0,none⟩)) (hg:w.heap[g]? = some (.cells cs t fr))
  (hu:P.underlying ty=some d) (hd:(match d with | .struct _ | .array _ _ => true | _ => false)=true) (hi:(P.info? ty).map (·.size)=some cs.size) (v:Value) (hq:tmps.getD q undef=v) :
  (results fn tmps).run P w = .ok (.tuple #[.agg cs,v]) w:=by
 have hp':tmps[p]?.getD undef = .pointer (some ⟨g,0,none⟩):=by simpa using hp
 have hq':tmps[q]?.getD undef=v:=by simpa using hq
 simp [results,h,hp',hq',asAddr,run_loadVar_row w g t ty cs fr d hg hu hd hi]
theorem zbW (s:ByteArray) (a n:Nat):(s.extract a (a + n)).data.toList=(s.data.toList.drop a).take n:=by rw [Lib.extract_data,Nat.add_sub_cancel_left]
theorem zhO {α:Type} (p:α → Bool) (l:List α):l.take (l.takeWhile p).length=l.takeWhile p:=by
 induction l with
 | nil => rfl
 | cons a l ih => rw [List.takeWhile_cons]; split <;> simp_all
theorem zmn {a b:ByteArray} (h:a.data.toList=b.data.toList):a=b:=by obtain ⟨⟨x⟩⟩:=a; obtain ⟨⟨y⟩⟩:=b;simp at h; rw [h]
theorem zgl {a:ByteArray} {l:List UInt8} (h:a.data.toList=l):a = ⟨l.toArray⟩:=zmn AN
theorem zmo (w:World) (b:Nat) (s:ByteArray) (hS:Scan w b s) (hs:s.size ≤ 4096) (at_:Nat) (hat:at_ ≤ s.size) :
  Calls Tryz.prog 84 #[.pointer (some ⟨b,0,none⟩),.int .i64 at_] w (zc4 w (wordL (s.data.toList.drop at_)) at_):=by
 obtain ⟨n,hn⟩:=EX (runL zb0 s at_);have hn1:=zeO zb0 s at_ hat;rw [hn] at hn1;have hWl:(s.extract at_ (at_ + n)).data.toList=(s.data.toList.drop at_).takeWhile zb0:=by rw [zbW,← hn]; exact zhO _ _
 have hWs:(s.extract at_ (at_ + n)).size=n:=by
  have e1:(s.extract at_ (at_ + n)).data.toList.length=n:=by rw [hWl]; exact hn
  exact e1
 have HWL:=QH hWl;have HWS:=QH hWs;have HN:=QH hn;obtain ⟨U,hU⟩ : ∃ U:ByteArray,U = ⟨(Lib.toUpperA (s.extract at_ (at_ + n)).data.toList).toArray⟩:=⟨_,rfl⟩;have hUl:U.data.toList=((s.data.toList.drop at_).takeWhile zb0).map upc:=by rw [hU]; show Lib.toUpperA _=_; rw [zg7,hWl]
 have HUL:=QH hUl
 have hup:=fun w1 => (Tryz.strings_ToUpper_ascii (s.extract at_ (at_ + n)) w1 (by rw [hWs]; omega) (fun j x hx => by
  rw [hWl] at hx
  exact zmh (zkm (List.mem_of_getElem? hx)))).mono (fun e w' h => (⟨h.1.trans (by rw [hU]),Mods.of_below h.2 (LR _) []⟩ : e = .returned (.string U) ∧ Mods [] w1 w'))
 clear hWl hWs hU hUl;have hrb:=QN w (.cells (zn 0 0 ⟨#[]⟩ 0 0) 92);have hM0:=(QM [] w).alloc (.cells (zn 0 0 ⟨#[]⟩ 0 0) 92);have hS0:=hS.mods hM0;clear hS;go_enter Tryz.func84, Tryz.ntmps84;go_wp2_with fail;generalize w.alloc (.cells (zn 0 0 ⟨#[]⟩ 0 0) 92)=w0 at *;generalize hrbn:w.heap.size=rb at *;have HRB:=QH hrbn;clear hrbn;refine (zdT w0 b s hS0 AA at_ hat 6 zb0 znY).mono ?_;rintro e w1 ⟨rfl,hM1⟩;rw [hn];clear hn;have hS1:=hS0.mods hM1;have hrb1:=hM1.heap hrb;have hMw1:=hM0.trans hM1;have c0:=hS1.text;have hki:(at_:Int) + (n:Int) ≤ (s.size:Int):=by omega
 clear hS0 hrb hM0 hM1;go_wp2_with fail;refine (hup w1).mono ?_;rintro e w2 ⟨rfl,hM2⟩;have hS2:=hS1.mods hM2;have hrb2:=hM2.heap hrb1;have hMw2:=hMw1.trans hM2;obtain ⟨mb,c257,hkm⟩:=hS2.keys
 have hlook:=hkm.look 147 9 195 Tryz.underlying147 Tryz.underlying9 (fun w => by kernel_rfl) U
 rw [HUL.out] at hlook;obtain ⟨K,hK⟩:=EX (isKey (((s.data.toList.drop at_).takeWhile zb0).map upc));rw [hK] at hlook;have HK:=QH hK
 have fin:=QH (show ∀ k,isKey (((s.data.toList.drop at_).takeWhile zb0).map upc)=k → wordL (s.data.toList.drop at_)=if k=true then some (⟨1,U.data.toList,0,0⟩,n) else if 40 < n then none else some (⟨2,(s.extract at_ (at_ + n)).data.toList,0,0⟩,n) by
  intro k hk;have e1:((s.data.toList.drop at_).takeWhile zb0).length=n:=HN.out;unfold wordL
  rw [hk,e1,HUL.out,HWL.out])
 have hinfo:(Tryz.prog.info? 92).map (·.size)=some 5:=by kernel_rfl
 have HM2:=QH hM2;clear hK hS1 hS2 hrb1 hMw1 hkm hM2
 have hrb3:=((QM [] w2).alloc (.cells #[] 195)).heap hrb2
 have hMw3:=hMw2.alloc (.cells #[] 195)
 clear hrb2 hMw2;have ends:∀ (o:Option (TokC × Nat)) (k:Bool),isKey (((s.data.toList.drop at_).takeWhile zb0).map upc)=k → (if k=true then some (⟨1,U.data.toList,0,0⟩,n) else if 40 < n then none else some (⟨2,(s.extract at_ (at_ + n)).data.toList,0,0⟩,n))=o → wordL (s.data.toList.drop at_)=o:=fun o k h1 h2 => (fin.out k h1).trans h2;have HE:=QH ends;clear ends
 cases K with
 | true =>go_wp2_with (refine wpList_store_row rfl 92 (.tmp 4) (.tmp 37) rfl rb (zn 1 at_ U 0 0) rfl rfl 92 _ hrb3 hinfo rfl (zam _ _ _ _ _) ?_);refine bodyPost_ret (zg rfl _ _ rb 92 (zn 1 at_ U 0 0) (0,0) _ rfl (zi _ hrb3) Tryz.underlying92 rfl hinfo _ rfl) rfl ?_;rw [HE.out _ true HK.out rfl];exact ycC
 | false =>
  by_cases h40:40 < n
  ·have h40z:(40:Int) < (n:Int):=by omega
   have e:=HE.out none false HK.out (by rw [if_neg AD,if_pos h40]);go_wp2_with (refine wpList_store_row rfl 92 (.tmp 4) (.tmp 41) rfl rb (zn 0 0 ⟨#[]⟩ 0 0) rfl rfl 92 _ hrb3 hinfo rfl (zam _ _ _ _ _) ?_);refine bodyPost_ret (zg rfl _ _ rb 92 (zn 0 0 ⟨#[]⟩ 0 0) (0,0) _ rfl (zi _ hrb3) Tryz.underlying92 rfl hinfo _ rfl) rfl ?_;rw [e];exact ycC
  ·have h40z:¬ (40:Int) < (n:Int):=by omega
   have e:=QH (HE.out _ false HK.out (by rw [if_neg AD,if_neg h40]));go_wp2_with (refine wpList_store_row rfl 92 (.tmp 4) (.tmp 44) rfl rb (zn 2 at_ (s.extract at_ (at_ + n)) 0 0) rfl rfl 92 _ hrb3 hinfo rfl (zam _ _ _ _ _) ?_);refine bodyPost_ret (zg rfl _ _ rb 92 (zn 2 at_ (s.extract at_ (at_ + n)) 0 0) (0,0) _ rfl (zi _ hrb3) Tryz.underlying92 rfl hinfo _ rfl) rfl ?_;rw [e.out];exact ycC
theorem zer:(Tryz.prog.info? 92).map (·.size)=some 5:=by kernel_rfl
theorem zhP (s:ByteArray) (a:Nat):(s.extract a s.size).data.toList=s.data.toList.drop a:=Lib.extract_to_end s a
def NumRel (l:List UInt8) (D:ByteArray) (n sc:Nat):Prop:=D.data.toList=zab l ∧ n=zbK l ∧ sc=(zbR (l.dropWhile zC)).length
theorem zhQ (s:ByteArray) (k:Nat):zdM (s.data.toList.drop k)=decide (0 < runL zah s k):=by
 unfold runL
 cases s.data.toList.drop k with
 | nil => rfl
 | cons c r =>
  rw [List.takeWhile_cons]
  cases h:zah c with
  | true => simp [zdM,h]
  | false => simp [zdM,h]
theorem zgm (l:List UInt8):Lib.hasPrefix l [46]=decide (l.head? = some 46):=by exact ybP
theorem zg9 (l:List UInt8):(zab l).length ≤ zbK l:=by
 unfold zab zbK;rw [List.length_append];split
 ·rename_i h; rw [h]; simp
 ·omega
theorem zgn (l:List UInt8):∀ x ∈ zab l,zC x=true:=by
 intro x hx;unfold zab at hx;rcases List.mem_append.1 hx with h | h
 ·exact zkm h
 ·unfold zbR at h;split at h
  ·exact zkm h
  ·simp at h
theorem zjt (w:World) (b:Nat) (s:ByteArray) (hS:Scan w b s) (hT:Tabs w) (hs:s.size ≤ 4096) (at_:Nat) (hat:at_ ≤ s.size) (h0:(s.data.toList.drop at_).takeWhile zC ≠ []) :
  Calls Tryz.prog 85 #[.pointer (some ⟨b,0,none⟩),.int .i64 at_] w (zc4 w (zbt (s.data.toList.drop at_)) at_):=by
 obtain ⟨n,hn⟩:=EX (runL zC s at_);have hn1:=zeO zC s at_ hat;rw [hn] at hn1;obtain ⟨l,hl⟩:=EX (s.data.toList.drop at_);have hnl:(l.takeWhile zC).length=n:=by rw [← hl]; exact hn
 have hDl:(s.extract at_ (at_ + n)).data.toList=l.takeWhile zC:=by rw [zbW,hl,← hnl]; exact zhO _ _
 have hRl:(s.extract (at_ + n) s.size).data.toList=l.dropWhile zC:=by rw [zhP,zaM,hnl,← hl,List.drop_drop]
 have hpre:=fun w => (Tryz.strings_HasPrefix (s.extract (at_ + n) s.size) ⟨#[46]⟩ w).mono (fun e w' h => (⟨h.1,h.2.symm⟩ : _ ∧ w=w'));have hpe:Lib.hasPrefix (s.extract (at_ + n) s.size).data.toList (⟨#[46]⟩ : ByteArray).data.toList=decide ((l.dropWhile zC).head? = some 46):=by rw [hRl]; exact zgm _
 rw [hl] at h0 ⊢;have HL:=QH hl;have HN:=QH hn;have HNL:=QH hnl;have HDL:=QH hDl;have H0:=QH h0;obtain ⟨PF,hPF⟩:=EX (decide ((l.dropWhile zC).head? = some 46));rw [hpe,hPF] at hpre;have HPF:=QH hPF;clear hnl hDl hRl hl h0 hpe hPF;have gCV:=QH trivial;exact yec
theorem zkv:(Tryz.prog.info? 5).map (fun i => (i.zero,i.size,i.bytes))=some (some (.int .u8 0),1,1):=by kernel_rfl
theorem zmp {s:ByteArray} (h:s.size=0):s=ByteArray.empty:=by obtain ⟨d⟩:=s;have h1:d.size=0:=h;rw [Array.size_eq_zero_iff.1 h1];rfl
theorem Mods.freeze {L:List Nat} {a w:World} (h:Mods L a w) {p:Addr} (hp:p.block ∈ L ∨ a.heap.size ≤ p.block) (n:Nat):Mods L a (w.freeze p n):=by
 refine h.trans (L':=[p.block]) ?_ (by simpa using hp);unfold World.freeze;split
 ·exact QM _ w
 ·exact ⟨rfl,rfl,rfl,by simp,fun k hk hn => by
   simp only [Array.getElem?_modify];have hne:¬ p.block=k:=fun e => hn (by simp [e])
   simp [hne]⟩
theorem zef {P:Program} (w:World) (t u ty e:TypeId) (i:TypeInfo) (ht:P.underlying t=some (.slice e)) (hu:P.underlying u=some .string) (hi:P.info? e=some i) (hz:i.zero=some (.int .u8 0))
  (hsize:i.size=1) (hby:i.bytes=1)
  (v:Value) (n:Nat) (xs:List Value) (hown:w.ownsRow 0 e 1 v n xs) (s:ByteArray)
  (h63:n + s.size ≤ maxLen) (hbytes:n + s.size ≤ 140737488355328) :
  ∃ v' w',(Builtin.append_ #[t,u] ty #[v,.string s]).run P w = .ok v' w' ∧ w'.ownsRow 0 e 1 v' (n + s.size) (xs ++ Lib.strCells s) ∧ w.grownBy w' v.ownBlock ∧
   (v' = .slice none 0 0 ↔ v = .slice none 0 0 ∧ s.size=0) ∧ ∀ g,v'.ownBlock=some g → v.ownBlock=some g ∨ w.heap.size ≤ g:=by
 obtain ⟨v',w',hr,h1,h2,h3⟩:=Lib.run_append_own_string (P:=P) w 0 t u ty e i ht hu hi hz hsize hby v n xs hown s h63 hbytes (Nat.zero_le _);refine ⟨v',w',hr,h1,h2,h3,fun g hg => ?_⟩;have hsmall:n + s.size ≤ 9223372036854775807:=by simp only [maxLen] at h63; omega
 have hxl:xs.length=n:=by simpa using hown.1
 rcases hown.2 with ⟨rfl,rfl⟩ | ⟨g0,cap,cur,rfl,hbg,hgg,hnc,hcm,hcs,htake⟩
 ·by_cases hm:s.size=0
  ·rw [h3.2 ⟨rfl,hm⟩] at hg; cases hg
  ·have hr2:=run_append_nil_string (P:=P) w t u ty e i (.int .u8 0) ht hu hi hz s AA AA (by rw [hby]; omega);exact ycc
 ·by_cases hroom:n + s.size ≤ cap
  ·have hcs':cur.size=cap:=by simpa using hcs
   have hr2:=Lib.run_append_room_string (P:=P) w t u ty e i ht hu hi hsize g0 n cap cur hgg s hroom AA;rw [hr2] at hr;injection hr with e1 e2
   subst e1;exact .inl hg
  ·have holds:∀ j u,xs[j]? = some u → w.cell? ((⟨g0,0,none⟩ : Addr).add j)=some u:=hown.cells (g:=g0) rfl;have hr2:=Lib.run_append_grow_string (P:=P) w t u ty e i (.int .u8 0) ht hu hi hz ⟨g0,0,none⟩ n cap xs (by rw [hsize]; simpa using hxl) holds s AA AA (by rw [hby]; exact growslice_fits AA AA);exact ycc
theorem zdU {P:Program} {w:World} {ops:Array Oper} {rest:List Oper} {o:Oper} {a:Act} {Q:Exit → Act → World → Prop} (hgd:o.guard=none) (sl x:Operand) (t u:TypeId)
  (ho:o.op = .call { callee:=.builtin .append,args:=#[sl,x],argTypes:=#[t,u] })
  (e:TypeId) (i:TypeInfo) (ht:P.underlying t=some (.slice e)) (hu:P.underlying u=some .string) (hi:P.info? e=some i) (hz:i.zero=some (.int .u8 0))
  (hsize:i.size=1) (hby:i.bytes=1)
  (v:Value) (n:Nat) (xs:List Value) (hs:a.eval sl=v) (hown:w.ownsRow 0 e 1 v n xs) (s:ByteArray) (hx:a.eval x = .string s)
  (h63:n + s.size ≤ maxLen) (hbytes:n + s.size ≤ 140737488355328)
  (h:∀ v' w',w'.ownsRow 0 e 1 v' (n + s.size) (xs ++ Lib.strCells s) → Mods v.ownBlock.toList w w' → (v' = .slice none 0 0 ↔ v = .slice none 0 0 ∧ s.size=0) → (∀ g,v'.ownBlock=some g → v.ownBlock=some g ∨ w.heap.size ≤ g) → wpList P ops Q rest (a.put o.dst v') w'):wpList P ops Q (o :: rest) a w:=by
 refine wpList_plain hgd fun K hK => ?_;obtain ⟨v',w',hr,h2,h3,h4,h5⟩:=zef (P:=P) w t u o.type e i ht hu hi hz hsize hby v n xs hown s h63 hbytes;unfold Oper.wp execOp;simp only [ho,resolve,invoke,builtin,Sem.run_bind,Sem.run_pure,Result.andThen_ok,List.map_toArray,List.map_cons,List.map_nil,hs,hx,hr];exact hK _ _ (h v' w' h2 (Mods.of_grown h3) h4 h5)
structure Lies (T:TypeId) (n o:Nat):Prop where
 lies:liesAt Tryz.prog Tryz.prog.depth T (n / Tryz.prog.cellsOf T) o 242 1=true
 lt:o + 2 ≤ n
 ne:T ≠ 5
theorem ziI:Lies 242 2 0:=⟨by kernel_rfl,by decide,by decide⟩
structure Bld (w:World) (b o:Nat) (T:TypeId) (arr:Array Value) (v:Value) (bs:List UInt8):Prop where
 row:w.heap[b]? = some (.cells arr T (0,0))
 a0:arr[o]? = some (.pointer none) ∨ arr[o]? = some (.pointer (some ⟨b,o,none⟩))
 a1:arr[o + 1]? = some v
 own:w.ownsRow 0 5 1 v bs.length (Lib.byteCells bs)
 nil:bs=[] → v = .slice none 0 0
theorem zd9:(Tryz.prog.info? 242).map (·.size)=some 2:=by kernel_rfl
theorem zfE (b o:Nat) (w:World) (h0:w.cell? ⟨b,o,none⟩ = some (.pointer (some ⟨b,o,none⟩))) :
  Calls Tryz.prog 162 #[.pointer (some ⟨b,o,none⟩)] w fun e w' => e = .returned (.tuple #[]) ∧ w'=w:=by
 obtain ⟨j,hj,_⟩:=Option.map_eq_some_iff.1 zd9;go_enter Tryz.func162, Tryz.ntmps162;go_wp2;rw [Lib.run_neq_ptr_same w _ Tryz.underlying240 hj];go_wp2;go_end0;exact ⟨rfl,rfl⟩
theorem zeP (b o n:Nat) (T:TypeId) (hl:Lies T n o) (w:World) (h0:w.cell? ⟨b,o,none⟩ = some (.pointer none)) (hsh:w.shape? b=some (T,n)) (hfz:w.frozen? ⟨b,o,none⟩ = false) :
  Calls Tryz.prog 162 #[.pointer (some ⟨b,o,none⟩)] w fun e w' => e = .returned (.tuple #[]) ∧ w'=w.setCell ⟨b,o,none⟩ (.pointer (some ⟨b,o,none⟩)):=by
 obtain ⟨j,hj,hjs⟩:=Option.map_eq_some_iff.1 zd9;have hlt:=hl.lt;go_enter Tryz.func162, Tryz.ntmps162;go_wp2;rw [Lib.run_to_unsafe w ⟨b,o,none⟩ Tryz.underlying240 Tryz.underlying312 hj (by rw [hjs]; decide) hsh (by show o < n; omega)];simp only [Result.andThen];rw [Oper.upon_value];go_wp2;rw [run_callFunc_extern Tryz.func194 AC AC AC (e:=Extern.AbiNoEscape.same) AC];rw [Lib.run_noEscape];simp only [Result.andThen];rw [Oper.upon_value];go_wp2;rw [Lib.run_from_unsafe w ⟨b,o,none⟩ Tryz.underlying312 Tryz.underlying240 hj hsh hl.lies];simp only [Result.andThen];rw [Oper.upon_value];go_wp2;go_end0;exact ⟨rfl,rfl⟩
section
variable {w:World} {b o:Nat} {T:TypeId} {arr:Array Value} {v:Value} {bs:List UInt8}
theorem Bld.cell0 (h:Bld w b o T arr v bs):w.cell? ⟨b,o,none⟩ = some (.pointer none) ∨ w.cell? ⟨b,o,none⟩ = some (.pointer (some ⟨b,o,none⟩)):=by rw [za h.row]; exact h.a0
theorem Bld.cell1 (h:Bld w b o T arr v bs):w.cell? ⟨b,o + 1,none⟩ = some v:=by rw [za h.row]; exact h.a1
theorem Bld.ne (h:Bld w b o T arr v bs) (hT:T ≠ 5):v.ownBlock ≠ some b:=Lib.ownBlock_ne h.own h.row hT
theorem Bld.lt (h:Bld w b o T arr v bs):b < w.heap.size:=zj h.row
theorem Bld.mods {L:List Nat} {w':World} (h:Bld w b o T arr v bs) (hM:Mods L w w') (hb:b ∉ L) (hv:∀ g,v.ownBlock=some g → g ∉ L):Bld w' b o T arr v bs:=
 ⟨hM.heap h.row hb,h.a0,h.a1,zm h.own hM hv,h.nil⟩
theorem Bld.slice (h:Bld w b o T arr v bs):∃ ao cap,v = .slice ao bs.length cap:=by
 rcases h.own.2 with ⟨hv,h0⟩ | ⟨g,cap,cur,hv,_⟩
 ·exact ⟨none,0,by rw [hv,h0]⟩
 ·exact ⟨_,_,hv⟩
theorem zdp {n:Nat} (hl:Lies T n o) (hn:arr.size=n) (h:Bld w b o T arr v bs) :
  Calls Tryz.prog 162 #[.pointer (some ⟨b,o,none⟩)] w fun e w' => e = .returned (.tuple #[]) ∧ w'.heap[b]? = some (.cells (arr.setIfInBounds o (.pointer (some ⟨b,o,none⟩))) T (0,0)) ∧ Mods [b] w w':=by
 rcases h.cell0 with h0 | h0
 ·refine (zeP b o n T hl w h0 (by simp [World.shape?,h.row,hn]) (zc h.row o)).mono ?_;rintro e w' ⟨rfl,rfl⟩;exact ⟨rfl,zb h.row _ _,(QM _ w).setCell (.inl AB) _⟩
 ·refine (zfE b o w h0).mono ?_;rintro e w' ⟨rfl,rfl⟩;refine ⟨rfl,?_,QM _ _⟩;rw [h.row];congr 2;rw [za h.row] at h0;apply Array.ext_getElem?;intro i;rw [Array.getElem?_setIfInBounds];split
  ·rename_i hi
   subst hi;split
   ·rw [h0]
   ·rename_i hlt
    rw [Array.getElem?_eq_none AA]
  ·rfl
def Wrote (w:World) (b o:Nat) (T:TypeId) (arr:Array Value) (v:Value) (bs:List UInt8) (w':World):Prop:=
 Mods (b :: v.ownBlock.toList) w w' ∧ ∃ v',Bld w' b o T ((arr.setIfInBounds o (.pointer (some ⟨b,o,none⟩))).setIfInBounds (o + 1) v') v' bs ∧ ∀ g,v'.ownBlock=some g → v.ownBlock=some g ∨ w.heap.size ≤ g
theorem zeQ {n:Nat} (hl:Lies T n o) (hn:arr.size=n) (h:Bld w b o T arr v bs) (s:ByteArray) (hlen:bs.length + s.size ≤ 140737488355328) :
  Calls Tryz.prog 125 #[.pointer (some ⟨b,o,none⟩),.string s] w fun e w' => e = .returned (.tuple #[.int .i64 s.size,.nilIface]) ∧ Wrote w b o T arr v (bs ++ s.data.toList) w':=by
 obtain ⟨i0,hi,hz0,hz1,hz2⟩:=info_parts zkv;have hlt:=hl.lt;have hne:=h.ne hl.ne;go_enter Tryz.func125, Tryz.ntmps125;go_wp2_with fail;refine (zdp hl hn h).mono ?_;rintro e w1 ⟨rfl,hb1,hM1⟩;have hown1:w1.ownsRow 0 5 1 v bs.length (Lib.byteCells bs):=zm h.own hM1 (fun g hg => by simp; rintro rfl; exact hne hg);have c1:w1.cell? ⟨b,o + 1,none⟩ = some v:=by rw [za hb1,Array.getElem?_setIfInBounds_ne AA]; exact h.a1
 go_wp2_with (at_builtin; refine zdU rfl _ _ 193 9 rfl 5 i0 Tryz.underlying193 Tryz.underlying9 hi hz0 hz1 hz2 _ _ _ rfl hown1 s rfl ?c3 ?c4 ?_)
 case c3 => unfold maxLen; omega
 case c4 => omega
 intro v' w2 hown' hM2 hnil hwhere;have hb2:w2.heap[b]? = some (.cells (arr.setIfInBounds o (.pointer (some ⟨b,o,none⟩))) T (0,0)):=hM2.heap hb1 AS;have d1:w2.cell? ⟨b,o + 1,none⟩ = some v:=by rw [za hb2,Array.getElem?_setIfInBounds_ne AA]; exact h.a1
 have f1:w2.frozen? ⟨b,o + 1,none⟩ = false:=zc hb2 _;obtain ⟨ao,n',cap,rfl⟩ : ∃ ao n' cap,v' = .slice ao n' cap:=by
  rcases hown'.2 with ⟨hv,_⟩ | ⟨g,cap,cur,hv,_⟩
  ·exact ⟨_,_,_,hv⟩
  ·exact ⟨_,_,_,hv⟩
 go_wp2;go_ret2;have hne':=Lib.ownBlock_ne hown' hb2 hl.ne;have hM3:Mods [b] w2 (w2.setCell ⟨b,o + 1,none⟩ (.slice ao n' cap)):=(QM _ w2).setCell (.inl AB) _;refine ⟨rfl,((hM1.mono).trans hM2 (by simp; intro x hx; exact .inl (.inr hx))).trans hM3,_,⟨zb hb2 _ _,?_,?_,?_,?_⟩,?_⟩
 ·exact ycm
 ·rw [Array.getElem?_setIfInBounds_self_of_lt (by rw [Array.size_setIfInBounds]; omega)]
 ·have:=zm hown' hM3 (fun g hg => by simp; rintro rfl; exact hne' hg);rw [Lib.strCells_eq,← Lib.byteCells_append] at this;have e1:bs.length + s.size=(bs ++ s.data.toList).length:=by rw [List.length_append,Array.length_toList]; rfl
  rw [e1] at this;exact this
 ·intro h0;have h1:=List.append_eq_nil_iff.1 h0;refine hnil.2 ⟨h.nil h1.1,?_⟩;have h2:=congrArg List.length h1.2;rw [Array.length_toList] at h2;have h3:s.size=0:=h2;first | exact h3 | exact zmp h3
 ·intro g hg;rcases hwhere g hg with h1 | h1
  ·exact .inl h1
  ·exact .inr (by have:=hM1.size; omega)
theorem znZ (h:Bld w b o T arr v bs):Calls Tryz.prog 126 #[.pointer (some ⟨b,o,none⟩)] w fun e w' => e = .returned (.int .i64 bs.length) ∧ w'=w:=by obtain ⟨ao,cap,rfl⟩:=h.slice;have c1:=h.cell1;go_enter Tryz.func126, Tryz.ntmps126;go_wp2;go_ret;exact ⟨rfl,rfl⟩
theorem zju (h:Bld w b o T arr v bs):Calls Tryz.prog 127 #[.pointer (some ⟨b,o,none⟩)] w fun e w' => e = .returned (.string ⟨bs.toArray⟩) ∧ Mods v.ownBlock.toList w w':=by
 cases bs with
 | nil =>obtain rfl:=h.nil rfl;have c1:w.drew.cell? ⟨b,o + 1,none⟩ = some (.slice none 0 0):=h.cell1;have hUS:=fun (W:World) (q:Option Addr) => Lib.run_unsafeString_none (P:= Tryz.prog) W 280 3 9 q;have hSD:(Builtin.unsafeSliceData_ #[193] 280 #[.slice none 0 0]).run Tryz.prog w.drew = .ok (.pointer none) w.drew:=rfl;go_enter Tryz.func127, Tryz.ntmps127;go_wp2;go_region;all_goals (go_wp2; go_ret; exact ⟨rfl,(QM _ w).drew⟩)
 | cons x l =>
  have hc:=h.cell1;obtain ⟨g,cap,cur,rfl,hg,hnc,hcm,hcs⟩ : ∃ g cap cur,v = .slice (some ⟨g,0,none⟩) (x :: l).length cap ∧ w.heap[g]? = some (.cells cur 5 (0,0)) ∧ (x :: l).length ≤ cap ∧ cap ≤ maxLen ∧ cur.size=cap * 1:=by
   rcases h.own.2 with ⟨_,hz⟩ | ⟨g,cap,cur,hv,_,r1,r2,r3,r4,r5⟩
   ·simp at hz
   ·exact ⟨g,cap,cur,hv,r1,r2,r3,r4⟩
  have c1:w.drew.cell? ⟨b,o + 1,none⟩ = some (.slice (some ⟨g,0,none⟩) (x :: l).length cap):=hc
  have hSD:(Builtin.unsafeSliceData_ #[193] 280 #[.slice (some ⟨g,0,none⟩) (x :: l).length cap]).run Tryz.prog w.drew = .ok (.pointer (some ⟨g,0,none⟩)) w.drew:=
   Lib.run_unsafeSliceData_row _ _ _ _ _ _ (by simp at hnc; omega)
  have hUS:(Builtin.unsafeString_ #[280, 3] 9 #[.pointer (some ⟨g,0,none⟩),.int .i64 (x :: l).length]).run Tryz.prog w.drew = .ok (.string ⟨(x :: l).toArray⟩) (w.drew.freeze ⟨g,0,none⟩ (x :: l).length):=by refine Lib.run_unsafeString_row w.drew 280 3 9 5 Tryz.underlying280 AC g cur.size (by have hg':w.drew.heap[g]? = some (.cells cur 5 (0,0)):=hg; simp [World.shape?,hg']) (x :: l) AB AA (by unfold maxLen at hcm; omega) ?_;intro j y hy;exact h.own.cells (g:=g) rfl j (.int .u8 y.toNat) (by unfold Lib.byteCells; rw [List.getElem?_map,hy]; rfl)
  have hM:Mods [g] w (w.drew.freeze ⟨g,0,none⟩ (x :: l).length):=(QM _ w).drew.freeze (.inl AB) _;generalize (x :: l).length=N at *;generalize (x :: l).toArray=S at *;go_enter Tryz.func127, Tryz.ntmps127;go_wp2;go_region;all_goals (go_wp2; go_ret; exact ⟨rfl,hM⟩)
end
section
variable {w:World} {b o:Nat} {T:TypeId} {arr:Array Value} {v:Value} {bs:List UInt8}
theorem zgo {n:Nat} (hl:Lies T n o) (hn:arr.size=n) (h:Bld w b o T arr v bs) (c:UInt8) (hlen:bs.length + 1 ≤ 140737488355328) :
  Calls Tryz.prog 128 #[.pointer (some ⟨b,o,none⟩),.int .u8 (c.toNat:Int)] w fun e w' => e = .returned .nilIface ∧ Wrote w b o T arr v (bs ++ [c]) w':=by
 obtain ⟨i0,hi,hz0,hz1,hz2⟩:=info_parts zkv;have hlt:=hl.lt;have hne:=h.ne hl.ne;go_enter Tryz.func128, Tryz.ntmps128;go_wp2_with fail;refine (zdp hl hn h).mono ?_;rintro e w1 ⟨rfl,hb1,hM1⟩;have hown1:w1.ownsRow 0 5 1 v bs.length (Lib.byteCells bs):=zm h.own hM1 (fun g hg => by simp; rintro rfl; exact hne hg);have hMA:=(QM [] w1).alloc (.cells #[.int .u8 (c.toNat:Int)] 5);have hb1':=hMA.heap hb1;have c1:w1.cell? ⟨b,o + 1,none⟩ = some v:=by rw [za hb1,Array.getElem?_setIfInBounds_ne AA]; exact h.a1
 have hlt1:=zj hb1;go_wp2_with (at_builtin; refine zw _ rfl _ _ 193 rfl 5 i0 _ 1 1 Tryz.underlying193 hi hz0 hz1 hz2 rfl AD v bs.length (Lib.byteCells bs) rfl (hown1.alloc _) ⟨w1.heap.size,0,none⟩ 1 1 [.int .u8 (c.toNat:Int)] rfl rfl (cell_one_new _ _ _) ?c2 AD ?c3 ?c4 ?_)
 case c2 => intro u hu; simp at hu; subst hu; rfl
 case c3 => unfold maxLen; omega
 case c4 => omega
 intro g cap w2 hown' hM2 hwhere;have hb2:w2.heap[b]? = some (.cells (arr.setIfInBounds o (.pointer (some ⟨b,o,none⟩))) T (0,0)):=hM2.heap hb1' AS;have d1:w2.cell? ⟨b,o + 1,none⟩ = some v:=by rw [za hb2,Array.getElem?_setIfInBounds_ne AA]; exact h.a1
 have f1:w2.frozen? ⟨b,o + 1,none⟩ = false:=zc hb2 _;go_wp2;go_ret;have hne':=Lib.ownBlock_ne hown' hb2 hl.ne;have hM3:Mods [b] w2 (w2.setCell ⟨b,o + 1,none⟩ (.slice (some ⟨g,0,none⟩) (bs.length + 1) cap)):=(QM _ w2).setCell (.inl AB) _;have hsz:(w1.alloc (.cells #[.int .u8 (c.toNat:Int)] 5)).heap.size=w1.heap.size + 1:=zl _ _;refine ⟨rfl,(((hM1.mono).trans hMA).trans hM2 (by simp; intro x hx; exact .inl (.inr hx))).trans hM3,_,⟨zb hb2 _ _,?_,?_,?_,?_⟩,?_⟩
 ·exact ycm
 ·rw [Array.getElem?_setIfInBounds_self_of_lt (by rw [Array.size_setIfInBounds]; omega)]
 ·have:=zm hown' hM3 (fun g' hg => by simp; rintro rfl; exact hne' hg);have e1:Lib.byteCells bs ++ [.int .u8 (c.toNat:Int)]=Lib.byteCells (bs ++ [c]):=by simp [Lib.byteCells]
  rw [e1] at this;rw [List.length_append];exact this
 ·intro h0;simp at h0
 ·intro g' hg;obtain rfl:g=g':=by simpa [Value.ownBlock] using hg
  rcases hwhere with h1 | h1
  ·exact .inl h1
  ·exact .inr (by have:=hM1.size; omega)
end
end Go.Proofs.YtcabeljiobiojaaGreatDoor
