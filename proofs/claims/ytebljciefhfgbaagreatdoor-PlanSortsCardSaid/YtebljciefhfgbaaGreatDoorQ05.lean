/-
  parse's now, fail, next, is, takes, wants, of, name, count, walked. No condition.
-/
import Derived.Test.YtebljciefhfgbaaGreatDoorQ04
set_option linter.unusedVariables false
set_option maxRecDepth 100000
set_option maxHeartbeats 1000000
namespace Go.Proofs.YtebljciefhfgbaaGreatDoor
open Go.RowKit
theorem BF {p:Prop} (h:p:=by simp [results,Tryz.results65, go_sem,q0,q1,q2,q3,q4,Result.andThen]; try rfl):p:=h
theorem AP {p:Prop} (h:p:=by simp at hx; omega):p:=h
theorem yee {p:Prop} (h:p:=by
  go_wp2_with fail;(with_reducible refine hnow.mono ?_);rintro e w2 ⟨rfl,hM2⟩;have hMA:=hM2.alloc (.cells #[.int .i64 s.now.kind,.int .i64 s.now.pos,.string ⟨s.now.s.toArray⟩,.int .i64 s.now.n,.int .i64 s.now.scale] 96)
  first
  |clear gC0
   have hbA:=hMA.heap (hMr.heap hb AB);have b0:=za hbA 0;change World.cell? _ _=some (.slice (some ⟨tg,off,none⟩) s.rest.length cap) at b0;have g0:=zc hbA 0;have hrow:=hMA.heap (QN w (.cells #[.int .i64 0,.int .i64 0,.string ⟨#[]⟩,.int .i64 0,.int .i64 0] 96));have htb:=QN w2 (.cells #[.int .i64 s.now.kind,.int .i64 s.now.pos,.string ⟨s.now.s.toArray⟩,.int .i64 s.now.n,.int .i64 s.now.scale] 96);have hlt:=hM2.size;rw [zl] at hlt;have hpw:pb < w.heap.size:=zj hb;have hMs:Mods [] w w2:=hMr.trans hM2;have hMw:=hMs.trans ((QM [] w2).alloc (.cells #[.int .i64 s.now.kind,.int .i64 s.now.pos,.string ⟨s.now.s.toArray⟩,.int .i64 s.now.n,.int .i64 s.now.scale] 96));have hM3:Mods [pb] (w2.alloc (.cells #[.int .i64 s.now.kind,.int .i64 s.now.pos,.string ⟨s.now.s.toArray⟩,.int .i64 s.now.n,.int .i64 s.now.scale] 96)) ((w2.alloc (.cells #[.int .i64 s.now.kind,.int .i64 s.now.pos,.string ⟨s.now.s.toArray⟩,.int .i64 s.now.n,.int .i64 s.now.scale] 96)).setCell ⟨pb,0,none⟩ (.slice (some ⟨tg,off + 5,none⟩) (s.rest.length - 1) (cap - 1))):=(QM _ _).setCell (.inl AB) _;have hb3:=zb hbA 0 (.slice (some ⟨tg,off + 5,none⟩) (s.rest.length - 1) (cap - 1));have hrow3:=hM3.heap hrow AE;have htb3:=hM3.heap htb AE;have hMw3:=(hMw.mono (L':=[pb])).trans hM3;go_upto_region 3 with fail;clear hsl hnow hrow htb hb hbA b0 g0 hM3 hMA hMr hM2;generalize (w2.alloc (.cells #[.int .i64 s.now.kind,.int .i64 s.now.pos,.string ⟨s.now.s.toArray⟩,.int .i64 s.now.n,.int .i64 s.now.scale] 96)).setCell ⟨pb,0,none⟩ (.slice (some ⟨tg,off + 5,none⟩) (s.rest.length - 1) (cap - 1))=w3 at *;generalize w2.heap.size=tb at *;generalize hrb:w.heap.size=rb at *;obtain ⟨t,ht⟩:=EX (s.now);rw [ht] at htb3 ⊢;have t0:=za htb3 0;have t1:=za htb3 1;have t2:=za htb3 2;have t3:=za htb3 3;have t4:=za htb3 4;change w3.cell? _=some (.int .i64 t.kind) at t0;change w3.cell? _=some (.int .i64 t.pos) at t1;change w3.cell? _=some (.string ⟨t.s.toArray⟩) at t2;change w3.cell? _=some (.int .i64 t.n) at t3;change w3.cell? _=some (.int .i64 t.scale) at t4;have hinfo:(Tryz.prog.info? 96).map (·.size)=some 5:=by kernel_rfl
   go_wp2_with (refine wpList_store_row rfl 96 (.tmp 2) (.tmp 14) rfl rb (tokA t) rfl rfl 96 _ hrow3 hinfo rfl (zam _ _ _ _ _) ?_);have hM4:Mods [rb] w3 (w3.setRow rb (tokA t)):=(QM _ _).setRow (.inl AB) _;have hr4:=zi (tokA t) hrow3;have hb4:=hM4.heap hb3 AE;have hMw4:Mods [pb] w (w3.setRow rb (tokA t)):=hMw3.trans hM4 (fun x hx => .inr AP);have gA0:=QH trivial;exact ydi
  |clear gC1
   have htb:=QN w2 (.cells #[.int .i64 s.now.kind,.int .i64 s.now.pos,.string ⟨s.now.s.toArray⟩,.int .i64 s.now.n,.int .i64 s.now.scale] 96);have hbA:=hMA.heap hb;have a3:=za hbA 3;change World.cell? _ _=some (.int .i64 s.e) at a3;by_cases he:s.e=0
   ·have z0:((s.e:Int) != 0)=false:=bne_eq_false_iff_eq.2 AA;have HE:=QH he;clear he;by_cases hk:s.now.kind=1 ∨ s.now.kind=5
    ·have HK:=QH hk;have hz:((s.now.kind:Int) != 1)=false ∨ (((s.now.kind:Int) != 1)=true ∧ ((s.now.kind:Int) != 5)=false):=by
      rcases hk with h | h
      ·exact .inl (bne_eq_false_iff_eq.2 AA)
      ·exact .inr ⟨bne_iff_ne.2 AA,bne_eq_false_iff_eq.2 AA⟩
     clear hk hnow;have hMA2:=hMA;rcases hz with z1 | ⟨z1,z2⟩
     all_goals
      go_wp2_with fail;clear a3 z1 z0;generalize w2.alloc (.cells #[.int .i64 s.now.kind,.int .i64 s.now.pos,.string ⟨s.now.s.toArray⟩,.int .i64 s.now.n,.int .i64 s.now.scale] 96)=w3 at *;generalize w2.heap.size=tb at *;go_loopg [27] n (fun gk t27 wr => ∃ i:Nat,i + gk=n ∧ t27 = .int .i64 i ∧ w3=wr ∧ ∀ j (hj:j < ws.length),j < i → ws[j] ≠ s.now.s)
      case atStart => exact ⟨0,by omega,rfl,rfl,fun j _ h => by omega⟩
      case round =>
       obtain ⟨i,hi,rfl,rfl,hN⟩:=hrel;have t2:=za htb 2;change w3.cell? _=some (.string ⟨s.now.s.toArray⟩) at t2;by_cases hlt:i < n
       ·have hil:i < ws.length:=by rw [HC.out.2]; exact hlt
        have c0:=hMA2.cell (HC.out.1 i hil);obtain ⟨x,hx⟩:=EX (ws[i]);rw [hx] at c0;obtain ⟨y,hy⟩:=EX (s.now.s);rw [hy] at t2;by_cases hxy:x=y
        ·have fin:=FIN.out true w3 (zn1 HE.out HK.out (by rw [hy,← hxy,← hx]; exact List.getElem_mem hil)) hMA2;subst hxy;clear FIN hN hx hy htb hbA hb;go_wp2_with fail;go_ret;exact fin
        ·have hN2:∀ j (hj:j < ws.length),j < i + 1 → ws[j] ≠ s.now.s:=fun j hj hji => by
          by_cases hje:j=i
          ·subst hje; rw [hx,hy]; exact hxy
          ·exact hN j hj AA
         have z3:¬ y=x:=fun h => hxy h.symm;have z4:(y == x)=false:=by rw [beq_eq_false_iff_ne]; exact z3
         have HN2:=QH hN2;clear hN hN2 FIN hx hy htb hbA hb hxy;go_wp2_with fail;go_roundg (n - (i + 1))
         case measure => omega
         case rel => exact ⟨i + 1,by omega,by go_num,rfl,HN2.out⟩
       ·obtain rfl:n=i:=by omega
        have fin:=FIN.out false w3 (zgs (.inr (.inr (fun x hx => by
         obtain ⟨j,hj,rfl⟩:=List.getElem_of_mem hx
         exact hN j hj (by have:=HC.out.2; omega))))) hMA2
        clear FIN hN;go_wp2_with fail;go_ret;exact fin
    ·have fin:=FIN.out false _ (zgs (.inr (.inl hk))) hMA;have z1:((s.now.kind:Int) != 1)=true:=bne_iff_ne.2 AA;have z5:((s.now.kind:Int) != 5)=true:=bne_iff_ne.2 AA;clear FIN hk hnow;go_wp2_with fail;go_ret;exact fin
   ·have fin:=FIN.out false _ (zgs (.inl he)) hMA;have z0:((s.e:Int) != 0)=true:=bne_iff_ne.2 AA;clear FIN he hnow;go_wp2_with fail;go_ret;exact fin
 ):p:=h
theorem ydi {p:Prop} (h:p:=by
  generalize w3.setRow rb (tokA t)=w4 at *;have q0:=za hr4 0;have q1:=za hr4 1;have q2:=za hr4 2;have q3:=za hr4 3;have q4:=za hr4 4;change w4.cell? _=some (.int .i64 t.kind) at q0;change w4.cell? _=some (.int .i64 t.pos) at q1;change w4.cell? _=some (.string ⟨t.s.toArray⟩) at q2;change w4.cell? _=some (.int .i64 t.n) at q3;change w4.cell? _=some (.int .i64 t.scale) at q4
  first
  |clear gA0
   refine bodyPost_ret (by simp [results,Tryz.results92, go_sem,q0,q1,q2,q3,q4,Result.andThen]; try rfl) rfl ?_;exact ⟨by rw [ht],hMw4,HP.out.passed hMw4 HB.out HW.out hb4⟩
  |clear gA1
   refine bodyPost_ret BF rfl ?_;exact ⟨rfl,hMw4,hP4⟩
 ):p:=h
theorem ycO {p:Prop} (h:p:=by
  go_wp2_with fail;go_ret;exact ⟨rfl,(hMw.trans hM4).alloc _,hP4.later ((QM [] w4).alloc _)⟩
 ):p:=h
theorem yau {p:Prop} (h:p:=by
  go_wp2_with (refine wpList_store_row rfl 96 (.tmp 4) (.tmp 20) rfl w.heap.size #[.int .i64 0,.int .i64 0,.string ⟨#[]⟩,.int .i64 0,.int .i64 0] rfl rfl 96 _ hrow3 hinfo rfl (zam _ _ _ _ _) ?_);have hr4:=zi #[.int .i64 0,.int .i64 0,.string ⟨#[]⟩,.int .i64 0,.int .i64 0] hrow3;generalize w3.setRow w.heap.size #[.int .i64 0,.int .i64 0,.string ⟨#[]⟩,.int .i64 0,.int .i64 0]=w4 at *;have q0:=za hr4 0;have q1:=za hr4 1;have q2:=za hr4 2;have q3:=za hr4 3;have q4:=za hr4 4;change w4.cell? _=some (.int .i64 0) at q0;change w4.cell? _=some (.int .i64 0) at q1;change w4.cell? _=some (.string ⟨#[]⟩) at q2;change w4.cell? _=some (.int .i64 0) at q3;change w4.cell? _=some (.int .i64 0) at q4;refine bodyPost_ret BF rfl ?_;exact ⟨rfl,hMw4,HP4.out⟩
 ):p:=h
theorem ybe {p:Prop} (h:p:=by
  go_wp2_with fail;(with_reducible refine ho.mono ?_);rintro e w4 ⟨rfl,hM4,hP4⟩;clear ho
  cases b with
  | true =>exact ycO
  | false =>exact ycO
 ):p:=h
abbrev tokA (t:Tok):Array Value:=#[.int .i64 t.kind,.int .i64 t.pos,.string ⟨t.s.toArray⟩,.int .i64 t.n,.int .i64 t.scale]
theorem zaO (w:World) (pb tg:Nat) (s:PS) (f:Nat) (h:PSt w pb tg s f):Calls Tryz.prog 57 #[zh pb] w fun e w' => e = .returned (.agg #[.int .i64 s.now.kind,.int .i64 s.now.pos,.string ⟨s.now.s.toArray⟩,.int .i64 s.now.n,.int .i64 s.now.scale]) ∧ Mods [] w w':=by
 obtain ⟨off,cap,hb,hg,hlen,hcap,hcap2,c0,c1,c2,c3,c4⟩:=h.tok;unfold zh;generalize s.now=t at *;obtain ⟨n,hn⟩:=EX (s.rest.length);rw [hn] at hb hlen;have hM:=(QM [] w).alloc (.cells #[.int .i64 0,.int .i64 0,.string ⟨#[]⟩,.int .i64 0,.int .i64 0] 96);have hlz:(0:Int) < (n:Int):=by omega
 have a0:=hM.cell (za hb 0);change World.cell? _ _=some (.slice (some ⟨tg,off,none⟩) n cap) at a0;have d0:=hM.cell c0;have d1:=hM.cell c1;have d2:=hM.cell c2;have d3:=hM.cell c3;have d4:=hM.cell c4;clear c0 c1 c2 c3 c4 hb h hn;go_enter Tryz.func57, Tryz.ntmps57;go_wp2_with fail;go_returns;exact ⟨rfl,(QM [] w).alloc _⟩
theorem zfQ (t:Tok) (W:World):(Instr.field 96 (.agg #[.int .i64 t.kind,.int .i64 t.pos,.string ⟨t.s.toArray⟩,.int .i64 t.n,.int .i64 t.scale]) 0).run Tryz.prog W = .ok (.int .i64 t.kind) W:=by kernel_rfl
theorem zaA (t:Tok) (W:World):(Instr.field 96 (.agg #[.int .i64 t.kind,.int .i64 t.pos,.string ⟨t.s.toArray⟩,.int .i64 t.n,.int .i64 t.scale]) 1).run Tryz.prog W = .ok (.int .i64 t.pos) W:=by kernel_rfl
theorem zjx (t:Tok) (W:World):(Instr.field 96 (.agg #[.int .i64 t.kind,.int .i64 t.pos,.string ⟨t.s.toArray⟩,.int .i64 t.n,.int .i64 t.scale]) 2).run Tryz.prog W = .ok (.string ⟨t.s.toArray⟩) W:=by kernel_rfl
theorem zjy (t:Tok) (W:World):(Instr.field 96 (.agg #[.int .i64 t.kind,.int .i64 t.pos,.string ⟨t.s.toArray⟩,.int .i64 t.n,.int .i64 t.scale]) 4).run Tryz.prog W = .ok (.int .i64 t.scale) W:=by kernel_rfl
theorem zmv {P:Program} {t e:TypeId} (ht:P.underlying t=some (.slice e)) (hs:∀ w,(sizeOf e).run P w = .ok 5 w) (tg off len cap:Nat) (h1:1 ≤ len) (hc:1 < cap) (hcap:len ≤ cap) (w:World) :
  (Instr.sliceAt t (.slice (some ⟨tg,off,none⟩) len cap) (some (.int .i64 1)) none none).run P w = .ok (.slice (some ⟨tg,off + 5,none⟩) (len - 1) (cap - 1)) w:=by
 have he:P.elem t=e:=by unfold Program.elem; rw [ht]
 have ht2:P.underlying t=some (.slice (P.elem t)):=by rw [he]; exact ht
 rw [run_sliceAt_slice w t _ _ _ _ ht2,run_slice_l w t _ len cap ht2 .i64 1 AA AA,he,hs];simp only [Result.andThen,sliced];rw [if_neg (show ¬ cap=(1:Int).toNat by simp; omega)];rfl
theorem ziL (w:World) (pb tg:Nat) (s:PS) (f:Nat) (h:PSt w pb tg s f) (k:Nat):Calls Tryz.prog 90 #[zh pb,.int .i64 k] w fun e w' => e = .returned (.tuple #[]) ∧ Mods [pb] w w' ∧ PSt w' pb tg (s.fail k) f:=by
 obtain ⟨off,cap,hb,hg,hlen,hcap,hcap2,c0,c1,c2,c3,c4⟩:=h.tok;have hnow:=zaO w pb tg s f h;obtain ⟨hf64,-⟩ : f ≤ 64 ∧ True:=⟨by obtain ⟨l,-,-,-,h4,-⟩:=h; exact h4,trivial⟩;have HP:=QH h;have HB:=QH hb;have a3:=za hb 3;change w.cell? _=some (.int .i64 s.e) at a3;unfold zh at *;clear h c0 c1 c2 c3 c4;go_enter Tryz.func90, Tryz.ntmps90;by_cases he:s.e=0
 ·have hfd:=zaA s.now;have hs:s.fail k = { s with pos:=s.now.pos,e:=k }:=by unfold PS.fail; rw [if_pos he]
  have z:((s.e:Int) == 0)=true:=by rw [beq_iff_eq]; omega
  go_wp2_with fail;(with_reducible refine hnow.mono ?_);rintro e w2 ⟨rfl,hM2⟩;have hb2:=hM2.heap hb;have b3:=za hb2 3;have b2:=za hb2 2;change w2.cell? _=some (.int .i64 s.e) at b3;change w2.cell? _=some (.int .i64 s.pos) at b2;have g3:=zc hb2 3;have g2:=zc hb2 2;have hM3:Mods [pb] w2 ((w2.setCell ⟨pb,3,none⟩ (.int .i64 k)).setCell ⟨pb,2,none⟩ (.int .i64 s.now.pos)):=((QM _ _).setCell (.inl AB) _).setCell (.inl AB) _;have hb3:=zb (zb hb2 3 (.int .i64 k)) 2 (.int .i64 s.now.pos);have hM:=(hM2.mono (L':=[pb])).trans hM3;have hfin:=HP.out.turn (s':=s.fail k) (f':=f) hM HB.out (by rw [hs]) hf64 (by rw [hs]; exact hb3);have HF:=QH hfin;clear hnow hs hfin hb hb2 hb3 hM2 hM3;go_wp2_with fail;go_end0;exact ⟨rfl,hM,HF.out⟩
 ·have hs:s.fail k=s:=by unfold PS.fail; rw [if_neg he]
  have z:((s.e:Int) == 0)=false:=by rw [beq_eq_false_iff_ne]; omega
  have HS:=QH hs;clear he hs hnow;go_wp2_with fail;exact bodyPost_end (results_none rfl _ _ _) rfl ⟨rfl,QM _ _,by rw [HS.out]; exact HP.out⟩
theorem za9 (w:World) (pb tg:Nat) (s:PS) (f:Nat) (h:PSt w pb tg s f) (hw:WfT s.rest.tail):Calls Tryz.prog 92 #[zh pb] w fun e w' => e = .returned (.agg #[.int .i64 s.now.kind,.int .i64 s.now.pos,.string ⟨s.now.s.toArray⟩,.int .i64 s.now.n,.int .i64 s.now.scale]) ∧ Mods [pb] w w' ∧ PSt w' pb tg s.next f:=by
 obtain ⟨off,cap,hb,hg,hlen,hcap,hcap2,c0,c1,c2,c3,c4⟩:=h.tok;have hl2:1 < s.rest.length:=by have h1:=List.length_pos_iff.2 hw.ne;rw [List.length_tail] at h1; omega
 have hsl:=fun W => zmv (P:= Tryz.prog) Tryz.underlying92 (fun w => by kernel_rfl) tg off s.rest.length cap AA AA hcap W;have hMr:=(QM [] w).alloc (.cells #[.int .i64 0,.int .i64 0,.string ⟨#[]⟩,.int .i64 0,.int .i64 0] 96);have hnow:=zaO _ pb tg s f (h.later hMr);have HP:=QH h;have HB:=QH hb;have HW:=QH hw;unfold zh at *;clear h c0 c1 c2 c3 c4 hw;go_enter Tryz.func92, Tryz.ntmps92;have gC0:=QH trivial;exact yee
def StrsIn (w:World) (v:Value) (ws:List Bs):Prop:=∃ g off cap,v = .slice (some ⟨g,off,none⟩) ws.length cap ∧ ∀ j (h:j < ws.length),w.cell? ⟨g,off + j,none⟩ = some (.string ⟨ws[j].toArray⟩)
theorem StrsIn.mods {w w':World} {v:Value} {ws:List Bs} (h:StrsIn w v ws) (hM:Mods [] w w'):StrsIn w' v ws:=by obtain ⟨g,off,cap,h1,h2⟩:=h;exact ⟨g,off,cap,h1,fun j hj => hM.cell (h2 j hj)⟩
theorem zgs {s:PS} {ws:List Bs} (h:s.e ≠ 0 ∨ ¬ (s.now.kind=1 ∨ s.now.kind=5) ∨ ∀ x ∈ ws,x ≠ s.now.s):s.is ws=false:=by
 rw [Bool.eq_false_iff];intro h2;unfold PS.is isTok at h2;simp only [Bool.and_eq_true,decide_eq_true_eq,Bool.or_eq_true,List.contains_iff_mem] at h2;rcases h with h | h | h
 ·exact h h2.1
 ·exact h h2.2.1
 ·exact h _ h2.2.2 rfl
theorem zn1 {s:PS} {ws:List Bs} (h0:s.e=0) (h1:s.now.kind=1 ∨ s.now.kind=5) (h2:s.now.s ∈ ws):s.is ws=true:=by unfold PS.is isTok;simp only [Bool.and_eq_true,decide_eq_true_eq,Bool.or_eq_true,List.contains_iff_mem];exact ⟨h0,h1,h2⟩
theorem zea (w:World) (pb tg:Nat) (s:PS) (f:Nat) (h:PSt w pb tg s f) (v:Value) (ws:List Bs) (hws:StrsIn w v ws) (hl:ws.length ≤ 1000):Calls Tryz.prog 91 #[zh pb,v] w fun e w' => e = .returned (.bool (s.is ws)) ∧ Mods [] w w':=by obtain ⟨off,cap,hb,-⟩:=h.tok;have hnow:=zaO w pb tg s f h;obtain ⟨lb,lo,lcap,rfl,hcells⟩:=hws;obtain ⟨n,hn⟩:=EX (ws.length);rw [hn];have FIN:Hid (∀ b w',s.is ws=b → Mods [] w w' → (Ending.returned (.bool b):Ending) = .returned (.bool (s.is ws)) ∧ Mods [] w w'):=QH (fun b w' h1 h2 => ⟨by rw [h1],h2⟩);have HC:=QH (AI hcells hn);have hpw:pb < w.heap.size:=zj hb;unfold zh at *;clear h hcells;go_enter Tryz.func91, Tryz.ntmps91;have gC1:=QH trivial;exact yee
theorem PSt.wfTail {w:World} {pb tg:Nat} {s:PS} {f:Nat} (h:PSt w pb tg s f) (hk:s.now.kind ≠ 0):WfT s.rest.tail:=by
 obtain ⟨l,-,-,h6,-⟩:=h
 cases hr:s.rest with
 | nil => exact absurd hr h6.ne
 | cons t r =>rw [hr] at h6;exact h6.tail (by unfold PS.now at hk; rw [hr] at hk; exact hk)
theorem zds (w:World) (pb tg:Nat) (s:PS) (f:Nat) (h:PSt w pb tg s f):Calls Tryz.prog 90 #[zh pb,.int .i64 8] w fun e w' => e = .returned (.tuple #[]) ∧ Mods [pb] w w' ∧ PSt w' pb tg (s.fail 8) f:=ziL w pb tg s f h 8
theorem zkB (w:World) (pb tg:Nat) (s:PS) (f:Nat) (h:PSt w pb tg s f):Calls Tryz.prog 90 #[zh pb,.int .i64 9] w fun e w' => e = .returned (.tuple #[]) ∧ Mods [pb] w w' ∧ PSt w' pb tg (s.fail 9) f:=ziL w pb tg s f h 9
theorem zgt (w:World) (x:Bs):StrsIn (w.alloc (.cells #[.string ⟨x.toArray⟩] 9)) (.slice (some ⟨w.heap.size,0,none⟩) 1 1) [x]:=⟨_,0,1,rfl,fun j hj => by
 obtain rfl:j=0:=by simp at hj; omega
 rw [za (QN w _)]; rfl⟩
theorem zU (w:World) (pb tg:Nat) (s:PS) (f:Nat) (h:PSt w pb tg s f) (x:Bs):Calls Tryz.prog 54 #[zh pb,.string ⟨x.toArray⟩] w fun e w' => e = .returned (.bool (s.takes x).1) ∧ Mods [pb] w w' ∧ PSt w' pb tg (s.takes x).2 f:=by
 have hMA:=(QM [] w).alloc (.cells #[.string ⟨x.toArray⟩] 9);have hP1:=h.later hMA;have his:=zea _ pb tg s f hP1 _ [x] (zgt w x) AB;have hnext:=fun W (hP:PSt W pb tg s f) (hk:s.now.kind ≠ 0) => za9 W pb tg s f hP (hP.wfTail hk);have HH:=QH (AI hP1 hnext);unfold zh at *;clear hP1 hnext h;go_enter Tryz.func54, Tryz.ntmps54;go_wp2_with fail;(with_reducible refine his.mono ?_);rintro e w2 ⟨rfl,hM2⟩;clear his
 cases hi:s.is [x] with
 | true =>
  have ht:s.takes x=(true,s.next):=by unfold PS.takes; rw [if_pos hi]
  have hn:=HH.out.2 w2 (HH.out.1.later hM2) (zQ hi).2;have HT:=QH ht;clear ht hi;go_wp2_with fail;(with_reducible refine hn.mono ?_);rintro e w3 ⟨rfl,hM3,hP3⟩;clear hn;go_wp2_with fail;go_ret;rw [HT.out];exact ⟨rfl,((hMA.trans hM2).mono).trans hM3,hP3⟩
 | false =>
  have ht:s.takes x=(false,s):=by unfold PS.takes; rw [hi]; rfl
  have hP2:=HH.out.1.later hM2;have HT:=QH ht;clear ht hi;go_wp2_with fail;go_ret;rw [HT.out];exact ⟨rfl,(hMA.trans hM2).mono,hP2⟩
theorem zjz (s:PS) (x:Bs):s.want x=if (s.takes x).1=true then (s.takes x).2 else (s.takes x).2.fail 8:=by
 unfold PS.want PS.takes;by_cases h:s.is [x]=true
 ·rw [if_pos h,if_pos h]; rfl
 ·rw [if_neg h,if_neg h]; rfl
theorem zbq (w:World) (pb tg:Nat) (s:PS) (f:Nat) (h:PSt w pb tg s f) (v:Value) (ws:List Bs) (hws:StrsIn w v ws) (hl:ws.length ≤ 1000) (hbl:∀ g off n c,v = .slice (some ⟨g,off,none⟩) n c → g ≠ pb):Calls Tryz.prog 53 #[zh pb,v] w fun e w' => e = .returned (.tuple #[]) ∧ Mods [pb] w w' ∧ PSt w' pb tg (s.wants ws) f:=by
 obtain ⟨lb,lo,lcap,rfl,hcells⟩:=hws;have hlb:=hbl _ _ _ _ rfl;obtain ⟨n,hn⟩:=EX (ws.length);rw [hn];have HC:=QH (AI hcells hn);unfold zh;clear hcells hbl;go_enter Tryz.func53, Tryz.ntmps53;go_wp2_with fail;go_loopg [8] n (fun gk t8 wr => ∃ i:Nat,i + gk=n ∧ t8 = .int .i64 i ∧ Mods [pb] w wr ∧ PSt wr pb tg (s.wants (ws.take i)) f)
 case atStart => exact ⟨0,by omega,rfl,QM _ _,h⟩
 case round =>
  clear h;obtain ⟨i,hi,rfl,hM,hP⟩:=hrel;by_cases hlt:i < n
  ·have hil:i < ws.length:=by rw [HC.out.2]; exact hlt
   have c0:=hM.cell (HC.out.1 i hil) (by simpa using hlb);have hstep:s.wants (ws.take (i + 1))=(s.wants (ws.take i)).want ws[i]:=by unfold PS.wants;rw [List.take_succ_eq_append_getElem hil,List.foldl_append]; rfl
   obtain ⟨x,hx⟩:=EX (ws[i]);rw [hx] at c0 hstep;rw [zjz] at hstep;have htk:=zU wr pb tg _ f hP x;have hfl:=fun W (hP:PSt W pb tg ((s.wants (ws.take i)).takes x).2 f) => zds W pb tg _ f hP;obtain ⟨b,hb⟩:=EX (((s.wants (ws.take i)).takes x).1);rw [hb] at htk hstep;have HS:=QH hstep;unfold zh at htk hfl;clear hstep hP hx hb;go_wp2_with fail;(with_reducible refine htk.mono ?_);rintro e w2 ⟨rfl,hM2,hP2⟩;clear htk
   cases b with
   | true =>
    have hP3:PSt w2 pb tg (s.wants (ws.take (i + 1))) f:=by rw [HS.out,if_pos rfl]; exact hP2
    have HP3:=QH hP3;clear hP2 hP3 hfl;go_wp2_with fail;go_roundg (n - (i + 1))
    case measure => omega
    case rel => exact ⟨i + 1,by omega,by go_num,hM.trans hM2,HP3.out⟩
   | false =>
    have hf2:=hfl w2 hP2;clear hfl hP2;go_wp2_with fail;(with_reducible refine hf2.mono ?_);rintro e w3 ⟨rfl,hM3,hP3⟩;have hP4:PSt w3 pb tg (s.wants (ws.take (i + 1))) f:=by rw [HS.out,if_neg AD]; exact hP3
    have HP4:=QH hP4;clear hP3 hP4 hf2;go_wp2_with fail;go_roundg (n - (i + 1))
    case measure => omega
    case rel => exact ⟨i + 1,by omega,by go_num,(hM.trans hM2).trans hM3,HP4.out⟩
  ·obtain rfl:n=i:=by omega
   have hfin:PSt wr pb tg (s.wants ws) f:=by rw [List.take_of_length_le (by rw [HC.out.2]; omega)] at hP; exact hP
   have HF:=QH hfin;clear hP hfin;go_wp2_with fail;go_end0;exact ⟨rfl,hM,HF.out⟩
theorem zkC (w:World) (pb tg:Nat) (s:PS) (f:Nat) (h:PSt w pb tg s f) (k:Nat) (hk:s.e=0 → s.now.kind=k → WfT s.rest.tail) :
  Calls Tryz.prog 65 #[zh pb,.int .i64 k] w fun e w' => e = .returned (.tuple #[.agg #[.int .i64 (s.of k).1.kind,.int .i64 (s.of k).1.pos,.string ⟨(s.of k).1.s.toArray⟩,.int .i64 (s.of k).1.n,.int .i64 (s.of k).1.scale],.bool (s.of k).2.1]) ∧ Mods [pb] w w' ∧ PSt w' pb tg (s.of k).2.2 f:=by
 obtain ⟨off,cap,hb,-⟩:=h.tok;have hpw:pb < w.heap.size:=zj hb;have hMr:=(QM [] w).alloc (.cells #[.int .i64 0,.int .i64 0,.string ⟨#[]⟩,.int .i64 0,.int .i64 0] 96);have hP1:=h.later hMr;have hnow:=zaO _ pb tg s f hP1;have hbr:=hMr.heap hb;have a3:=za hbr 3;change World.cell? _ _=some (.int .i64 s.e) at a3;have hrow:=QN w (.cells #[.int .i64 0,.int .i64 0,.string ⟨#[]⟩,.int .i64 0,.int .i64 0] 96);have hfd:=zfQ s.now;have hinfo:(Tryz.prog.info? 96).map (·.size)=some 5:=by kernel_rfl
 have HTG:=QH h.lt.2;have HH:=QH (AI hP1 hrow);unfold zh at *;clear h hP1 hrow;go_enter Tryz.func65, Tryz.ntmps65;by_cases hyes:s.e=0 ∧ s.now.kind=k
 ·have hof:s.of k=(s.now,true,s.next):=by unfold PS.of; rw [if_pos hyes]
  rw [hof];have z0:((s.e:Int) != 0)=false:=bne_eq_false_iff_eq.2 AA;have z1:((s.now.kind:Int) != (k:Int))=false:=bne_eq_false_iff_eq.2 AA;have hwt:=hk hyes.1 hyes.2;clear hyes hof hk;go_wp2_with fail;(with_reducible refine hnow.mono ?_);rintro e w2 ⟨rfl,hM2⟩;clear hnow;have hP2:=HH.out.1.later hM2;have hn:=za9 w2 pb tg s f hP2 hwt;unfold zh at hn;have hrow2:=hM2.heap HH.out.2;clear hP2;go_wp2_with fail;(with_reducible refine hn.mono ?_);rintro e w3 ⟨rfl,hM3,hP3⟩;have hrow3:=hM3.heap hrow2 AE;have hMw:Mods [pb] w w3:=((hMr.trans hM2).mono (L':=[pb])).trans hM3;have HP3:=QH hP3;have htgw:tg < w.heap.size:=HTG.out;clear hn hrow2 hM2 hM3 a3 hbr hP3;generalize hrb:w.heap.size=rb at *;obtain ⟨t,ht⟩:=EX (s.now);rw [ht];go_wp2_with (refine wpList_store_row rfl 96 (.tmp 4) (.tmp 22) rfl rb (tokA t) rfl rfl 96 _ hrow3 hinfo rfl (zam _ _ _ _ _) ?_);have hM4:Mods [rb] w3 (w3.setRow rb (tokA t)):=(QM _ _).setRow (.inl AB) _;have hr4:=zi (tokA t) hrow3;have hP4:=HP3.out.mods hM4 AE AE;have hMw4:Mods [pb] w (w3.setRow rb (tokA t)):=hMw.trans hM4 (fun x hx => .inr AP);have gA1:=QH trivial;exact ydi
 ·have hof:s.of k=(zTok,false,s.fail 8):=by unfold PS.of; rw [if_neg hyes]
  rw [hof];have hz:((s.e:Int) != 0)=true ∨ (((s.e:Int) != 0)=false ∧ ((s.now.kind:Int) != (k:Int))=true):=by
   by_cases he:s.e=0
   ·exact .inr ⟨bne_eq_false_iff_eq.2 AA,bne_iff_ne.2 (fun h => hyes ⟨he,by omega⟩)⟩
   ·exact .inl (bne_iff_ne.2 AA)
  have hfail:=fun W (hP:PSt W pb tg s f) => zds W pb tg s f hP;unfold zh at hfail;clear hyes hof hk;have key:∀ w3,Mods [pb] w w3 → PSt w3 pb tg (s.fail 8) f → w3.heap[w.heap.size]? = some (.cells #[.int .i64 0,.int .i64 0,.string ⟨#[]⟩,.int .i64 0,.int .i64 0] 96 (0,0)) → Mods [pb] w (w3.setRow w.heap.size #[.int .i64 0,.int .i64 0,.string ⟨#[]⟩,.int .i64 0,.int .i64 0]) ∧ PSt (w3.setRow w.heap.size #[.int .i64 0,.int .i64 0,.string ⟨#[]⟩,.int .i64 0,.int .i64 0]) pb tg (s.fail 8) f:=fun w3 h1 h2 h3 => by have hM4:Mods [w.heap.size] w3 (w3.setRow w.heap.size #[.int .i64 0,.int .i64 0,.string ⟨#[]⟩,.int .i64 0,.int .i64 0]):=(QM _ _).setRow (.inl AB) _;exact ⟨h1.trans hM4 (fun x hx => .inr AP),h2.mods hM4 AE (by have:=HTG.out; simp; omega)⟩
  have KEY:=QH key;clear key;rcases hz with z0 | ⟨z0,z1⟩
  ·have hf1:=hfail _ HH.out.1;go_wp2_with fail;(with_reducible refine hf1.mono ?_);rintro e w3 ⟨rfl,hM3,hP3⟩;have hrow3:=hM3.heap HH.out.2 AE;have hMw:=(hMr.mono (L':=[pb])).trans hM3;obtain ⟨hMw4,hP4⟩:=KEY.out w3 hMw hP3 hrow3;have HP4:=QH hP4;clear hf1 hfail hnow hP3 hP4 hM3 a3 hbr;exact yau
  ·go_wp2_with fail;(with_reducible refine hnow.mono ?_);rintro e w2 ⟨rfl,hM2⟩;have hf1:=hfail w2 (HH.out.1.later hM2);go_wp2_with fail;(with_reducible refine hf1.mono ?_);rintro e w3 ⟨rfl,hM3,hP3⟩;have hrow3:=hM3.heap (hM2.heap HH.out.2) AE;have hMw:=((hMr.trans hM2).mono (L':=[pb])).trans hM3;obtain ⟨hMw4,hP4⟩:=KEY.out w3 hMw hP3 hrow3;have HP4:=QH hP4;clear hf1 hfail hnow hP3 hP4 hM3 a3 hbr hM2;exact yau
theorem zdt (w:World) (pb tg:Nat) (s:PS) (f:Nat) (h:PSt w pb tg s f) :
  Calls Tryz.prog 58 #[zh pb] w fun e w' => e = .returned (.string ⟨s.name.1.toArray⟩) ∧ Mods [pb] w w' ∧ PSt w' pb tg s.name.2 f:=by
 have hof:Calls Tryz.prog 65 #[zh pb,.int .i64 2] w _:=zkC w pb tg s f h 2 (fun _ hk => h.wfTail AA);unfold PS.name;unfold zh at *;generalize s.of 2=r at *;obtain ⟨t,b,s2⟩:=r;clear h;go_enter Tryz.func58, Tryz.ntmps58;go_wp2_with fail;(with_reducible refine hof.mono ?_);rintro e w2 ⟨rfl,hM2,hP2⟩;clear hof;go_wp2_with fail;go_ret;exact ⟨rfl,hM2.alloc _,hP2.later ((QM [] w2).alloc _)⟩
theorem zeU (w:World) (pb tg:Nat) (s:PS) (f:Nat) (h:PSt w pb tg s f) :
  Calls Tryz.prog 64 #[zh pb] w fun e w' => e = .returned (.int .i64 s.count.1) ∧ Mods [pb] w w' ∧ PSt w' pb tg s.count.2 f:=by
 have hnow:=zaO w pb tg s f h;have hfd:=zjy s.now;have hfail:=fun W (hP:PSt W pb tg s f) => zds W pb tg s f hP;have hof:∀ W s1,PSt W pb tg s1 f → Calls Tryz.prog 65 #[zh pb,.int .i64 3] W fun e w' => e = .returned (.tuple #[.agg #[.int .i64 (s1.of 3).1.kind,.int .i64 (s1.of 3).1.pos,.string ⟨(s1.of 3).1.s.toArray⟩,.int .i64 (s1.of 3).1.n,.int .i64 (s1.of 3).1.scale],.bool (s1.of 3).2.1]) ∧ Mods [pb] W w' ∧ PSt w' pb tg (s1.of 3).2.2 f:=fun W s1 h1 => zkC W pb tg s1 f h1 3 (fun _ hk => h1.wfTail AA);have HP:=QH h;unfold PS.count;simp only;obtain ⟨s1,hs1⟩:=EX ((if 0 < s.now.scale then s.fail 8 else s));rw [hs1];replace hof:=fun W => hof W s1;generalize s1.of 3=r at *;obtain ⟨t,b,s2⟩:=r;have HS1:=QH hs1;unfold zh at *;clear h hs1;go_enter Tryz.func64, Tryz.ntmps64;by_cases hs:0 < s.now.scale
 ·have hs1:=HS1.out;rw [if_pos hs] at hs1;have z0:(0:Int) < (s.now.scale:Int):=by omega
  clear hs;go_wp2_with fail;(with_reducible refine hnow.mono ?_);rintro e w2 ⟨rfl,hM2⟩;have hf1:=hfail w2 (HP.out.later hM2);rw [hs1] at hf1;clear hnow hfail hs1;go_wp2_with fail;(with_reducible refine hf1.mono ?_);rintro e w3 ⟨rfl,hM3,hP3⟩;have ho:=hof w3 hP3;have hMw:=(hM2.mono (L':=[pb])).trans hM3;clear hof hf1 hP3 hM2 hM3;exact ybe
 ·have hs1:=HS1.out;rw [if_neg hs] at hs1;have z0:=decide_eq_false (show ¬ (0:Int) < (s.now.scale:Int) by omega);have z1:¬ (0:Int) < (s.now.scale:Int):=by omega
  clear hs;go_wp2_with fail;(with_reducible refine hnow.mono ?_);rintro e w3 ⟨rfl,hM3⟩;have ho:=hof w3 (by rw [← hs1]; exact HP.out.later hM3);have hMw:=hM3.mono (L':=[pb]);clear hof hM3 hnow hfail hs1;exact ybe
end Go.Proofs.YtebljciefhfgbaaGreatDoor
