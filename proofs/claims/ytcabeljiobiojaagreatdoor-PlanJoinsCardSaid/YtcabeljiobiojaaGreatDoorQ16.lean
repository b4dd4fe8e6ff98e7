/-
  check's scope: its columns and its map, in memory; column, walked. No condition.
-/
import Derived.Test.YtcabeljiobiojaaGreatDoorQ15
set_option linter.unusedVariables false
set_option maxRecDepth 100000
set_option maxHeartbeats 4000000
namespace Go.Proofs.YtcabeljiobiojaaGreatDoor
open Go.RowKit
theorem ydU {p:Prop} (h:p:=by
  change w.cell? _=some (.int .i64 h.n) at c4;have hd:=(QM [] w).drew;have d4:=hd.cell c4;obtain ⟨⟨v0,v1⟩,-⟩:=hV.later hd;have hz:=(QM [] w).alloc (.cells #[.string ⟨#[118,97,108,117,101]⟩,.int .i64 4,.int .i64 0,.int .i64 0,.bool false,.int .i64 h.n,.string ⟨#[]⟩,.slice none 0 0] 80);have e0:=hz.drew.cell c0
  first
  |clear gCv
   unfold zh;clear hb h1 h2 h3 h4;have gAl:=QH trivial;exact ycS
  |clear gCw
   have hfin:zaG w (some (val0 h.n)) (.returned (.tuple #[zh w.heap.size,.bool true])) (w.alloc (.cells #[.string ⟨#[118,97,108,117,101]⟩,.int .i64 4,.int .i64 0,.int .i64 0,.bool false,.int .i64 h.n,.string ⟨#[]⟩,.slice none 0 0] 80)).drew:=⟨hz.drew,w.heap.size,rfl,LR _,QN w _⟩;have HFIN:=QH hfin;unfold zh at *;clear hb hop hfin;have gAm:=QH trivial;exact ycS
 ):p:=h
theorem ydB {p:Prop} (h:p:=by
  change w.cell? _=some (.int .i64 h.n) at c4;have hd:=(QM [] w).drew;have d4:=hd.cell c4;obtain ⟨⟨v0,v1⟩,-⟩:=hV.later hd;have hz:=((QM [] w).alloc (.cells #[.string ⟨#[118,97,108,117,101]⟩,.int .i64 4,.int .i64 0,.int .i64 0,.bool false,.int .i64 h.n,.string ⟨#[]⟩,.slice none 0 0] 80)).drew;have hx:((w.alloc (.cells #[.string ⟨#[118,97,108,117,101]⟩,.int .i64 4,.int .i64 0,.int .i64 0,.bool false,.int .i64 h.n,.string ⟨#[]⟩,.slice none 0 0] 80)).drew).heap[w.heap.size]? = _:=QN w _;have e0:=hz.cell c0
  first
  |clear gBN
   unfold zh at *;clear hb hop;have gAn:=QH trivial;exact ycS
  |clear gBO
   have e6:=hz.cell c6;unfold zh at *;clear hb hop;have gAo:=QH trivial;exact ycS
  |clear gBP
   have e6:=hz.cell c6;obtain ⟨-,i0,i1⟩:=hV.later hz;unfold zh at *;clear hb hop;obtain ⟨PP,hPP⟩:=EX (zaG w (some { op:=oValue,t:=if 0 < h.scale then ⟨2,h.scale⟩ else tyInt,n:=h.n }));rw [hPP];have HPP:=QH hPP;clear hPP;have gAp:=QH trivial;exact ycS
 ):p:=h
theorem ydq {p:Prop} (h:p:=by
  unfold zh;go_enter Tryz.func29, Tryz.ntmps29;go_upto_region 1 with fail;go_quiet (fail);clear L0 s1 x2 x3;have hS1:zaX (w.drewN nq) sb cv mb d pos e:=HQ.out.2;have y1:(w.drewN nq).cell? ⟨xb,1,none⟩ = some (.int .i64 h.pos):=x1
  first
  |clear gBl
   have hM1:Mods [sb] w (w.drewN nq):=(QM _ _).drewN nq;generalize w.drewN nq=w1 at *;have f1:=zF w1 sb cv mb d pos e hS1 true 13 h.pos;change Calls _ _ #[.pointer (some ⟨sb,0,none⟩),.bool true,.int .i64 13,.int .i64 h.pos] _ _ at f1;clear hS1 x1;go_wp2_with fail;(with_reducible refine f1.mono ?_);rintro r w2 ⟨rfl,hM2,hS2⟩;have z1:=hM2.cell y1 AS;have f2:=zF w2 sb cv mb d _ _ hS2 false 4 h.pos;rw [zaw] at f2;change Calls _ _ #[.pointer (some ⟨sb,0,none⟩),.bool false,.int .i64 4,.int .i64 h.pos] _ _ at f2;clear f1 y1;go_wp2_with fail;(with_reducible refine f2.mono ?_);rintro r w3 ⟨rfl,hM3,hS3⟩;have hM4:=(hM1.trans hM2).trans hM3;clear f2 hS2 z1;have hfe:zaa true 13 h.pos pos e=zai (zbF env h) pos e:=by
    rw [HQ.out.1]; unfold zaa zai;by_cases he:e=0
    ·rw [if_pos ⟨rfl,he⟩,if_neg AA]
    ·rw [if_neg (fun h => he h.2),if_pos he]
   have c4:=za hS3 4;change w3.cell? _=some (.int .i64 ((zaa true 13 h.pos pos e).2:Nat)) at c4;have hnz:(zaa true 13 h.pos pos e).2 ≠ 0:=by
    unfold zaa;by_cases he:e=0
    ·rw [if_pos ⟨rfl,he⟩]; show (13:Nat) ≠ 0; decide
    ·rw [if_neg (fun h => he h.2)]; exact he
   have hfin:PP (.returned (.int .i64 0)) w3:=by
    rw [← HPP.out];refine ⟨?_,hM4,by rw [← hfe]; exact hS3⟩;have:colK env h e=0:=by unfold colK; rw [HQ.out.1]; split <;> rfl
    rw [this]; rfl
   have HFIN:=QH hfin;obtain ⟨q,hq⟩:=EX ((zaa true 13 h.pos pos e).2);rw [hq] at c4 hnz;have z0:((q:Int) != 0)=true:=bne_iff_ne.2 AA;clear hfin hfe hS3 hq hnz;go_wp2_with fail;exact HFIN.out
  |clear gBm
   have b1:(w.drewN nq).cell? ⟨b,0,none⟩ = some (.int .i64 (i:Nat)):=hci;have hM1:Mods [sb] w (w.drewN nq):=(QM _ _).drewN nq;generalize w.drewN nq=w1 at *;have f1:=zF w1 sb cv mb d pos e hS1 false 13 h.pos;rw [zaw] at f1;change Calls _ _ #[.pointer (some ⟨sb,0,none⟩),.bool false,.int .i64 13,.int .i64 h.pos] _ _ at f1;clear hS1 x1 hci;go_wp2_with fail;(with_reducible refine f1.mono ?_);rintro r w2 ⟨rfl,hM2,hS2⟩;have z1:=hM2.cell y1 AS;have b2:=hM2.cell b1 (by simpa using hbs);have f2:=zF w2 sb cv mb d _ _ hS2 false 4 h.pos;rw [zaw] at f2;change Calls _ _ #[.pointer (some ⟨sb,0,none⟩),.bool false,.int .i64 4,.int .i64 h.pos] _ _ at f2;clear f1 y1 b1;go_wp2_with fail;(with_reducible refine f2.mono ?_);rintro r w3 ⟨rfl,hM3,hS3⟩;have b3:=hM3.cell b2 (by simpa using hbs);have hM4:=(hM1.trans hM2).trans hM3;clear f2 hS2 z1 b2;have hce:zai (zbF env h) pos e=(pos,e):=by rw [HQ.out.1]; unfold zai;split <;> rfl
   have c4:=za hS3 4;change w3.cell? _=some (.int .i64 (e:Nat)) at c4;by_cases he:e=0
   ·have hfin:PP (.returned (.int .i64 i)) w3:=by
     rw [← HPP.out];refine ⟨?_,hM4,by rw [hce]; exact hS3⟩;have:colK env h e=i:=by unfold colK; rw [HQ.out.1,if_neg AA]
     rw [this]
    have HFIN:=QH hfin;have z0:((e:Int) != 0)=false:=bne_eq_false_iff_eq.2 AA;clear hfin hce hS3 he;go_wp2_with fail;exact HFIN.out
   ·have hfin:PP (.returned (.int .i64 0)) w3:=by
     rw [← HPP.out];refine ⟨?_,hM4,by rw [hce]; exact hS3⟩;have:colK env h e=0:=by unfold colK; rw [if_pos he]
     rw [this]; rfl
    have HFIN:=QH hfin;have z0:((e:Int) != 0)=true:=bne_iff_ne.2 AA;clear hfin hce hS3 he;go_wp2_with fail;exact HFIN.out
 ):p:=h
theorem yfH {p:Prop} (h:p:=by
  go_wp2_with fail;go_loopg [5,8] n (fun gk t5 t8 wr => ∃ i:Nat,i + gk=n ∧ t8 = .int .i64 i ∧ NoneYet bs i ∧ Mods [] w wr)
  case atStart => exact ⟨0,by omega,rfl,fun j hj => by omega,QM _ _⟩
  obtain ⟨i,hin,rfl,hN,hM⟩:=hrel;by_cases hlt:i < n
  first
  |guard_hyp gF1
   ·obtain ⟨c,rfl,hcells⟩:=HA.out.1 (by rw [HA.out.2.2.1]; omega);have hiu:i < us.length:=by rw [HA.out.2.2.1]; exact hlt
    have hib:i < bs.length:=by rw [HA.out.2.2.2]; exact hiu
    have k0:=hM.cell (hcells i hiu);have hca:=HA.out.2.1 i hiu hib wr hM;have hbi:bs[i]? = some bs[i]:=List.getElem?_eq_getElem hib;have hmem:bs[i] ∈ bs:=List.getElem_mem hib;generalize us[i]=u at *;exact yfu
   ·obtain rfl:n=i:=by omega
    have hfin:zrZ bs w (.returned (.int .i64 (-1))) wr:=⟨-1,rfl,.inr ⟨by omega,by
     have:n=bs.length:=by rw [HA.out.2.2.2,HA.out.2.2.1]
     rw [this] at hN
     exact hN.all⟩,hM⟩
    have HFIN:=QH hfin;clear hfin hN;go_wp2_with fail;go_ret;exact HFIN.out
  |guard_hyp gF2
   ·obtain ⟨c,rfl,hcells⟩:=HA.out.1 AA;have hiu:i < ks.length:=by rw [HA.out.2.2.1]; exact hlt
    have hib:i < bs.length:=by rw [HA.out.2.2.2]; exact hlt
    have k0:=hM.cell (hcells i hiu);have hca:=HA.out.2.1 i hiu hib wr hM;have hbi:bs[i]? = some bs[i]:=List.getElem?_eq_getElem hib;have hmem:bs[i] ∈ bs:=List.getElem_mem hib;generalize ks[i]=u at *;exact yfu
   ·obtain rfl:n=i:=by omega
    have hfin:zrZ bs w (.returned (.int .i64 (-1))) wr:=⟨-1,rfl,.inr ⟨by omega,by
     have:n=bs.length:=by rw [HA.out.2.2.2]
     rw [this] at hN
     exact hN.all⟩,hM⟩
    have HFIN:=QH hfin;clear hfin hN;go_wp2_with fail;go_ret;exact HFIN.out
  |guard_hyp gF3
   ·obtain ⟨c,rfl,hcells⟩:=HA.out.1 AA;have hiu:i < us.length:=by rw [HA.out.2.2.1]; exact hlt
    have hib:i < bs.length:=by rw [HA.out.2.2.2]; exact hlt
    have k0:=hM.cell (hcells i hiu);have hca:=HA.out.2.1 i hiu hib wr hM;have hbi:bs[i]? = some bs[i]:=List.getElem?_eq_getElem hib;generalize us[i]=u at *;generalize bs[i]=bt at *;have HB:=QH (AI hbi hN);clear hcells hbi hN;go_wp2_with fail;(with_reducible refine hca.mono ?_);rintro e w2 ⟨rfl,hM2⟩;have hM3:=hM.trans hM2;clear hca k0 hM2
    cases bt with
    | true =>
     have hz:zsr bs=(i:Nat):=by have h1:=zsw bs i HB.out.2 HB.out.1;unfold zsr;rw [h1,if_pos hib]
     have HZ:=QH hz;clear hz;go_wp2_with fail;go_ret;exact ⟨by rw [HZ.out]; rfl,hM3⟩
    | false =>
     go_wp2_with fail;go_roundg (n - (i + 1))
     case measure => omega
     case rel => exact ⟨i + 1,by omega,by go_num,HB.out.2.next HB.out.1,hM3⟩
   ·obtain rfl:n=i:=by omega
    have hz:zsr bs = -1:=by have h2:=HA.out.2.2.2;have h1:=zsi bs (by rw [h2]; exact hN);unfold zsr;rw [h1,if_neg AA]
    have HZ:=QH hz;clear hz hN;go_wp2_with fail;go_ret;exact ⟨by rw [HZ.out]; rfl,hM⟩
 ):p:=h
theorem ycS {p:Prop} (h:p:=by
  go_enter Tryz.func96, Tryz.ntmps96;go_upto_region 1 with fail;go_cut [4] from 5 to 12 (fun t4 wx => t4 = .pointer (some ⟨w.heap.size,0,none⟩) ∧ wx=(w.alloc (.cells #[.string ⟨#[118,97,108,117,101]⟩,.int .i64 4,.int .i64 0,.int .i64 0,.bool false,.int .i64 h.n,.string ⟨#[]⟩,.slice none 0 0] 80)).drew)
  case first =>exact ybo
  case rest =>
  obtain ⟨rfl,rfl⟩:=hcut
  first
  |clear gAl
   go_wp2_with fail;go_ret2;exact ⟨rfl,hz.drew⟩
  |clear gAm
   go_wp2_with fail;go_ret2;exact HFIN.out
  |clear gAn
   clear d4 v0 v1 c0 c4 hd;generalize (w.alloc (.cells #[.string ⟨#[118,97,108,117,101]⟩,.int .i64 4,.int .i64 0,.int .i64 0,.bool false,.int .i64 h.n,.string ⟨#[]⟩,.slice none 0 0] 80)).drew=w2 at *;obtain ⟨nb,hnb⟩:=EX (w.heap.size);rw [hnb] at hx;rw [hnb];have q4:w2.cell? ⟨nb,4,none⟩ = some (.bool false):=za hx 4;have q5:w2.cell? ⟨nb,5,none⟩ = some (.int .i64 h.n):=za hx 5;have q6:w2.cell? ⟨nb,6,none⟩ = some (.string ⟨#[]⟩):=za hx 6;have g4:=zc hx 4;have g5:=zc hx 5;have g6:=zc hx 6;have hx3:=zb (zb (zb hx 4 (.bool true)) 5 (.int .i64 0)) 6 (.string ⟨#[]⟩);have hM3:=((hz.setCell (p:=⟨nb,4,none⟩) (.inr (Nat.le_of_eq hnb)) (.bool true)).setCell (p:=⟨nb,5,none⟩) (.inr (Nat.le_of_eq hnb)) (.int .i64 0)).setCell (p:=⟨nb,6,none⟩) (.inr (Nat.le_of_eq hnb)) (.string ⟨#[]⟩);have hfin:zaG w (some { op:=oValue,t:=tyBool,null:=true }) (.returned (.tuple #[zh nb,.bool true])) (((w2.setCell ⟨nb,4,none⟩ (.bool true)).setCell ⟨nb,5,none⟩ (.int .i64 0)).setCell ⟨nb,6,none⟩ (.string ⟨#[]⟩)):=⟨hM3,nb,rfl,Nat.le_of_eq hnb,hx3⟩;exact yci
  |clear gAo
   clear d4 v0 v1 c0 c4 c6 hd;generalize (w.alloc (.cells #[.string ⟨#[118,97,108,117,101]⟩,.int .i64 4,.int .i64 0,.int .i64 0,.bool false,.int .i64 h.n,.string ⟨#[]⟩,.slice none 0 0] 80)).drew=w2 at *;obtain ⟨nb,hnb⟩:=EX (w.heap.size);rw [hnb] at hx;rw [hnb];have q1:w2.cell? ⟨nb,1,none⟩ = some (.int .i64 4):=za hx 1;have q2:w2.cell? ⟨nb,2,none⟩ = some (.int .i64 0):=za hx 2;have g1:=zc hx 1;have g2:=zc hx 2;have q4:w2.cell? ⟨nb,4,none⟩ = some (.bool false):=za hx 4;have q5:w2.cell? ⟨nb,5,none⟩ = some (.int .i64 h.n):=za hx 5;have q6:w2.cell? ⟨nb,6,none⟩ = some (.string ⟨#[]⟩):=za hx 6;have g4:=zc hx 4;have g5:=zc hx 5;have g6:=zc hx 6;have hx3:=zb (zb (zb (zb (zb hx 1 (.int .i64 3)) 2 (.int .i64 0)) 4 (.bool false)) 5 (.int .i64 0)) 6 (.string ⟨h.s.toArray⟩);have hM3:=((((hz.setCell (p:=⟨nb,1,none⟩) (.inr (Nat.le_of_eq hnb)) (.int .i64 3)).setCell (p:=⟨nb,2,none⟩) (.inr (Nat.le_of_eq hnb)) (.int .i64 0)).setCell (p:=⟨nb,4,none⟩) (.inr (Nat.le_of_eq hnb)) (.bool false)).setCell (p:=⟨nb,5,none⟩) (.inr (Nat.le_of_eq hnb)) (.int .i64 0)).setCell (p:=⟨nb,6,none⟩) (.inr (Nat.le_of_eq hnb)) (.string ⟨h.s.toArray⟩);have hfin:zaG w (some { op:=oValue,t:=tyBytes,s:=h.s }) (.returned (.tuple #[zh nb,.bool true])) _:=⟨hM3,nb,rfl,Nat.le_of_eq hnb,hx3⟩;exact yci
  |clear gAp
   have c00:=c0;clear d4 v0 v1 c0 c4 c6 hd;generalize (w.alloc (.cells #[.string ⟨#[118,97,108,117,101]⟩,.int .i64 4,.int .i64 0,.int .i64 0,.bool false,.int .i64 h.n,.string ⟨#[]⟩,.slice none 0 0] 80)).drew=w2 at *;obtain ⟨nb,hnb⟩:=EX (w.heap.size);rw [hnb] at hx;rw [hnb];have q1:w2.cell? ⟨nb,1,none⟩ = some (.int .i64 4):=za hx 1;have q2:w2.cell? ⟨nb,2,none⟩ = some (.int .i64 0):=za hx 2;have g1:=zc hx 1;have g2:=zc hx 2;have q4:w2.cell? ⟨nb,4,none⟩ = some (.bool false):=za hx 4;have q5:w2.cell? ⟨nb,5,none⟩ = some (.int .i64 h.n):=za hx 5;have q6:w2.cell? ⟨nb,6,none⟩ = some (.string ⟨#[]⟩):=za hx 6;have g4:=zc hx 4;have g5:=zc hx 5;have g6:=zc hx 6;have hxb:xb ≠ nb:=by have h:=zD c00;change xb < w.heap.size at h;omega
   have hS:Mods [nb] w2 ((w2.setCell ⟨nb,1,none⟩ (.int .i64 1)).setCell ⟨nb,2,none⟩ (.int .i64 0)):=((QM _ _).setCell (.inl AB) _).setCell (.inl AB) _;have f6:=hS.cell e6 (by simpa using hxb);have hx3:=zb (zb hx 1 (.int .i64 1)) 2 (.int .i64 0);have hM3:=(hz.setCell (p:=⟨nb,1,none⟩) (.inr (Nat.le_of_eq hnb)) (.int .i64 1)).setCell (p:=⟨nb,2,none⟩) (.inr (Nat.le_of_eq hnb)) (.int .i64 0);have hx5:=zb (zb hx3 1 (.int .i64 2)) 2 (.int .i64 h.scale);have hM5:=(hM3.setCell (p:=⟨nb,1,none⟩) (.inr (Nat.le_of_eq hnb)) (.int .i64 2)).setCell (p:=⟨nb,2,none⟩) (.inr (Nat.le_of_eq hnb)) (.int .i64 h.scale);by_cases h0:0 < h.scale
   ·have hfin:zaG w (some { op:=oValue,t:=if 0 < h.scale then ⟨2,h.scale⟩ else tyInt,n:=h.n }) (.returned (.tuple #[zh nb,.bool true])) _:=⟨hM5,nb,rfl,Nat.le_of_eq hnb,by rw [if_pos h0]; exact hx5⟩;have HFIN:=QH hfin;have hgt:(0:Int) < (h.scale:Int):=by omega
    exact ybj
   ·have hfin:zaG w (some { op:=oValue,t:=if 0 < h.scale then ⟨2,h.scale⟩ else tyInt,n:=h.n }) (.returned (.tuple #[zh nb,.bool true])) _:=⟨hM3,nb,rfl,Nat.le_of_eq hnb,by rw [if_neg h0]; exact hx3⟩;have HFIN:=QH hfin;have hgt:¬ (0:Int) < (h.scale:Int):=by omega
    exact ybj
 ):p:=h
theorem yfu {p:Prop} (h:p:=by
  generalize bs[i]=bt at *;have HB:=QH (AI hbi (AI hmem hN));clear hcells hbi hmem hN;go_wp2_with fail;(with_reducible refine hca.mono ?_);rintro e w2 ⟨rfl,hM2⟩;have hM3:=hM.trans hM2;clear hca k0 hM2
  cases bt with
  | true =>have hfin:zrZ bs w (.returned (.int .i64 i)) w2:=⟨i,rfl,.inl ⟨by omega,List.any_eq_true.2 ⟨true,HB.out.2.1,rfl⟩⟩,hM3⟩;have HFIN:=QH hfin;clear hfin;go_wp2_with fail;go_ret;exact HFIN.out
  | false =>
   go_wp2_with fail;go_roundg (n - (i + 1))
   case measure => omega
   case rel => exact ⟨i + 1,by omega,by go_num,HB.out.2.2.next HB.out.1,hM3⟩
 ):p:=h
theorem yfv {p:Prop} (h:p:=by
  go_wp2_with fail;(with_reducible refine h.mono ?_);rintro e w2 ⟨z,rfl,hz,hM⟩;clear h;have hd:decide (0 ≤ z)=r:=by
   rcases hz with ⟨h1,rfl⟩ | ⟨h1,rfl⟩
   ·exact decide_eq_true h1
   ·exact decide_eq_false AA
  have HD:=QH hd;clear hd hz;go_wp2_with fail;go_ret;exact ⟨by rw [← HD.out]; rfl,hM⟩
 ):p:=h
theorem ybj {p:Prop} (h:p:=by
  rw [HPP.out] at HFIN;unfold zh at HFIN;have r1:=za hx3 1;have r2:=za hx3 2;have y1:=zc hx3 1;have y2:=zc hx3 2;change World.cell? _ _=some (Value.int .i64 1) at r1;change World.cell? _ _=some (Value.int .i64 0) at r2;clear hfin hx3 hM3 hx5 hM5 hx hz hnb hS h0 HPP;go_wp2_with fail;exact HFIN.out
 ):p:=h
theorem ybm {p:Prop} (h:p:=by
  obtain ⟨es,c,h1,h2,h3,h4⟩:=h;have:=zj h1;refine ⟨es,c,h1,by simp; exact ⟨by omega,h2⟩,fun e he => ?_,h4⟩;obtain ⟨t,n,i,b,cap,q1,q2,q3,q4,q5,q6,q7,q8⟩:=h3 e he;have:=zD q7;change b < _ at this;exact ⟨t,n,i,b,cap,q1,q2,q3,q4,q5,by simp; exact ⟨by omega,q6⟩,q7,q8⟩
 ):p:=h
theorem ybo {p:Prop} (h:p:=by
  go_region_law (fail)
  all_goals
   go_wp2_with fail
   go_meet
   exact ⟨rfl,rfl⟩
 ):p:=h
theorem yby {p:Prop} (h:p:=by
  obtain ⟨es,c,h1,h2,h3,h4⟩:=h;refine ⟨es,c,h1,fun hm => h2 (hL _ hm),fun e he => ?_,h4⟩;obtain ⟨t,n,i,b,cap,q1,q2,q3,q4,q5,q6,q7,q8⟩:=h3 e he;exact ⟨t,n,i,b,cap,q1,q2,q3,q4,q5,fun hm => q6 (hL _ hm),q7,q8⟩
 ):p:=h
theorem ybC {p:Prop} (h:p:=by
  obtain ⟨es,c,h1,h2,h3,h4⟩:=h;refine ⟨es,c,hM.heap h1 h2,h2,fun e he => ?_,h4⟩;obtain ⟨t,n,i,b,cap,q1,q2,q3,q4,q5,q6,q7,q8⟩:=h3 e he;exact ⟨t,n,i,b,cap,q1,q2,q3,q4,q5,q6,hM.cell q7 q6,q8⟩
 ):p:=h
theorem ycb {p:Prop} (h:p:=by
  exact zak named_keyed Tryz.underlying99 (by rw [hw']; exact h1) hk (fun w => by kernel_rfl) none hf'
 ):p:=h
theorem yci {p:Prop} (h:p:=by
  have HFIN:=QH hfin;unfold zh at HFIN;clear hfin hx3 hM3 hx hz hnb;go_wp2_with fail;go_ret2;exact HFIN.out
 ):p:=h
open Go.Maps
theorem zjJ:laidOutB Tryz.prog=true:=by kernel_rfl
theorem zk5:WideMaps.KeyLaw Tryz.prog 177:=deep_law_laid zjJ (m:=3) AD (of_decide_eq_true AC) AC AC
theorem named_keyed:Keyed Tryz.prog 177:=Keyed.of_law zk5
abbrev zdm (t n:Bs):Value:=.agg #[.string ⟨t.toArray⟩,.string ⟨n.toArray⟩]
theorem zcL (t n:Bs) (ht:t.length ≤ 9223372036854775807) (hn:n.length ≤ 9223372036854775807):∃ l,keyOf Tryz.prog 177 (zdm t n)=some l:=by
 have h1 : Tryz.prog.keyType 177 = true:=by kernel_rfl
 have h2:Value.formed Tryz.prog 177 (zdm t n)=true:=by kernel_rfl
 have hc:(zdm t n).cells.toList=[.string ⟨t.toArray⟩,.string ⟨n.toArray⟩]:=by simp [Value.cells]
 have hs1:(⟨t.toArray⟩ : ByteArray).size ≤ maxLen:=by unfold maxLen; show t.toArray.size ≤ _; simp; omega
 have hs2:(⟨n.toArray⟩ : ByteArray).size ≤ maxLen:=by unfold maxLen; show n.toArray.size ≤ _; simp; omega
 have k1 : Tryz.prog.cellsOf 177 = 2:=by kernel_rfl
 have gAV:=QH trivial;exact ydf
theorem zgC {t n t' n':Bs} (h:zdm t n=zdm t' n'):t=t' ∧ n=n':=by simp only [zdm,Value.agg.injEq,Array.mk.injEq,List.cons.injEq,Value.string.injEq,and_true] at h;have h1:=congrArg (fun b => b.data.toList) h.1;have h2:=congrArg (fun b => b.data.toList) h.2;exact ⟨by simpa using h1,by simpa using h2⟩
def EnvMap (w:World) (L:List Nat) (mb:Nat) (env:List EC):Prop:=
 ∃ es c,w.heap[mb]? = some (.map es c) ∧ mb ∉ L ∧ (∀ e ∈ es.toList,∃ t n i b cap,e.key=zdm t n ∧ t.length ≤ 9223372036854775807 ∧ n.length ≤ 9223372036854775807 ∧ e.val = .slice (some ⟨b,0,none⟩) 1 cap ∧ (1 ≤ cap ∧ cap ≤ 9223372036854775807) ∧ b ∉ L ∧ w.cell? ⟨b,0,none⟩ = some (.int .i64 (i:Nat)) ∧ zaC env t n=[i]) ∧
  (∀ t n,zaC env t n ≠ [] → ∃ e ∈ es.toList,e.key=zdm t n) ∧ ∀ e ∈ es.toList,∀ e' ∈ es.toList,e.key=e'.key → e.val=e'.val
theorem EnvMap.mods {w w':World} {L:List Nat} {mb:Nat} {env:List EC} (h:EnvMap w L mb env) (hM:Mods L w w'):EnvMap w' L mb env:=by exact ybC
theorem EnvMap.weaken {w:World} {L L':List Nat} {mb:Nat} {env:List EC} (h:EnvMap w L mb env) (hL:∀ x ∈ L',x ∈ L):EnvMap w L' mb env:=by exact yby
theorem EnvMap.fresh {w:World} {L:List Nat} {mb:Nat} {env:List EC} {g:Nat} (h:EnvMap w L mb env) (hg:w.heap.size ≤ g):EnvMap w (g :: L) mb env:=by exact ybm
theorem EnvMap.look {w:World} {L:List Nat} {mb:Nat} {env:List EC} (h:EnvMap w L mb env) (t n:Bs) (ht:t.length ≤ 9223372036854775807) (hn:n.length ≤ 9223372036854775807) :
  (zaC env t n=[] ∧ ∀ w',w'.heap=w.heap → (Instr.lookup 99 (.map (some mb)) (zdm t n) false).run Tryz.prog w' = .ok (.slice none 0 0) w') ∨
  ∃ i b cap,zaC env t n=[i] ∧ (1 ≤ cap ∧ cap ≤ 9223372036854775807) ∧ b ∉ L ∧ w.cell? ⟨b,0,none⟩ = some (.int .i64 (i:Nat)) ∧ ∀ w',w'.heap=w.heap → (Instr.lookup 99 (.map (some mb)) (zdm t n) false).run Tryz.prog w' = .ok (.slice (some ⟨b,0,none⟩) 1 cap) w':=by
 obtain ⟨es,c,h1,h2,h3,h4,h5⟩:=h;obtain ⟨k,hk⟩:=zcL t n ht hn;have hall:∀ e ∈ es.toList,∃ l,keyOf Tryz.prog 177 e.key=some l:=fun e he => by obtain ⟨t,n,i,b,cap,q1,q2,q3,-⟩:=h3 e he;rw [q1]; exact zcL t n q2 q3
 rcases named_keyed.find w hk es.toList hall with ⟨hf,hno⟩ | ⟨j,e,hf,he,hek⟩
 ·refine .inl ⟨?_,fun w' hw' => ?_⟩
  ·by_cases hc:zaC env t n=[]
   ·exact hc
   ·obtain ⟨e,he,hke⟩:=h4 t n hc;exact absurd hke (hno e he)
  ·rcases named_keyed.find w' hk es.toList hall with ⟨hf',-⟩ | ⟨j,e,hf',he,hek⟩
   ·exact ycb
   ·exact absurd hek (hno e (List.mem_of_getElem? he))
 ·obtain ⟨t',n',i,b,cap,q1,q2,q3,q4,q5,q6,q7,q8⟩:=h3 e (List.mem_of_getElem? he);have hk2:zdm t' n'=zdm t n:=by rw [← q1]; exact hek
  obtain ⟨rfl,rfl⟩:=zgC hk2;refine .inr ⟨i,b,cap,q8,q5,q6,q7,fun w' hw' => ?_⟩;rcases named_keyed.find w' hk es.toList hall with ⟨hf',hno⟩ | ⟨j',e',hf',he',hek'⟩
  ·exact absurd hek (hno e (List.mem_of_getElem? he))
  ·obtain ⟨t2,n2,i2,b2,cap2,p1,p2,p3,p4,p5,p6,p7,p8⟩:=h3 e' (List.mem_of_getElem? he');have hj:e'.val=e.val:=h5 e' (List.mem_of_getElem? he') e (List.mem_of_getElem? he) (hek'.trans hek.symm);have:=zak named_keyed Tryz.underlying99 (z:=.slice none 0 0) (by rw [hw']; exact h1) hk (fun w => by kernel_rfl) (some (j',e'.val)) hf';rw [hj,q4] at this;exact this
theorem zh4 (t n:Bs):∀ (l:List EC) (i k:Nat),k ∈ zap t n i l → i ≤ k ∧ k < i + l.length:=by
 intro l
 induction l with
 | nil => intro i k h; cases h
 | cons e l ih =>
  intro i k h;unfold zap at h;split at h
  ·rcases MC h with rfl | h
   ·simp
   ·have:=ih _ _ h;simp only [List.length_cons];omega
  ·have:=ih _ _ h;simp only [List.length_cons];omega
theorem zh5 {env:List EC} {h:Hd} {k:Nat} (hq:zbF env h = .ok k):k < env.length:=by
 unfold zbF at hq;split at hq
 ·cases hq
 ·rename_i k' hk
  cases hq;have:=zh4 h.table h.name env 0 k (by unfold zaC at hk; rw [hk]; simp);omega
 ·cases hq
theorem zgD {env:List EC} {h:Hd} {p k:Nat} (hq:zbF env h = .bad p k):k ≠ 0:=by
 unfold zbF at hq;split at hq
 ·cases hq; decide
 ·cases hq
 ·cases hq; decide
def zai {α:Type} (r:Chk α) (pos e:Nat):Nat × Nat:=if e ≠ 0 then (pos,e) else match r with | .ok _ => (pos,e) | .bad p k => (p,k)
def colK (env:List EC) (h:Hd) (e:Nat):Nat:=if e ≠ 0 then 0 else match zbF env h with | .ok k => k | .bad _ _ => 0
def ColRes (w:World) (sb:Nat) (cv:Value) (mb d pos e:Nat) (env:List EC) (h:Hd) (r:Ending) (w':World):Prop:=
 r = .returned (.int .i64 (colK env h e:Nat)) ∧ Mods [sb] w w' ∧ zaX w' sb cv mb d (zai (zbF env h) pos e).1 (zai (zbF env h) pos e).2
theorem zaw (k p pos e:Nat):zaa false k p pos e=(pos,e):=by unfold zaa; rw [if_neg (fun h => by cases h.1)]
theorem ze5 (w:World) (sb:Nat) (cv:Value) (mb d pos e:Nat) (hS:zaX w sb cv mb d pos e) (env:List EC) (hE:EnvMap w [sb] mb env) (xb:Nat) (h:Hd) (va:Value) (hx:w.heap[xb]? = some (.cells (hdC h va).toArray 171 (0,0))) (hne:xb ≠ sb)
  (ht:h.table.length ≤ 9223372036854775807) (hn:h.name.length ≤ 9223372036854775807) :
  Calls Tryz.prog 29 #[zh sb,zh xb] w (ColRes w sb cv mb d pos e env h):=by
 have s1:=za hS 1;change w.cell? _=some (.map (some mb)) at s1;have x1:=za hx 1;change w.cell? _=some (.int .i64 h.pos) at x1;have x2:=za hx 2;change w.cell? _=some (.string ⟨h.table.toArray⟩) at x2;have x3:=za hx 3;change w.cell? _=some (.string ⟨h.name.toArray⟩) at x3;obtain ⟨PP,hPP⟩:=EX (ColRes w sb cv mb d pos e env h);rw [hPP];have HPP:=QH hPP;have HX:=QH hx;clear hPP hx;unfold zdm at *;rcases hE.look h.table h.name ht hn with ⟨hc,hl⟩ | ⟨i,b,cap,hc,hcap,hb,hci,hl⟩
 ·have hq:zbF env h = .bad h.pos 13:=by unfold zbF; rw [hc]
  have L0:∀ n,(Instr.lookup 99 (.map (some mb)) (.agg #[.string ⟨h.table.toArray⟩,.string ⟨h.name.toArray⟩]) false).run Tryz.prog (w.drewN n) = .ok (.slice none 0 0) (w.drewN n):=fun n => hl _ rfl;have HQ:=QH (AI hq hS);clear hl hc hq hS hE ht hn;have gBl:=QH trivial;exact ydq
 ·have hq:zbF env h = .ok i:=by unfold zbF; rw [hc]
  have L0:∀ n,(Instr.lookup 99 (.map (some mb)) (.agg #[.string ⟨h.table.toArray⟩,.string ⟨h.name.toArray⟩]) false).run Tryz.prog (w.drewN n) = .ok (.slice (some ⟨b,0,none⟩) 1 cap) (w.drewN n):=fun n => hl _ rfl;have HQ:=QH (AI hq hS);have hbs:b ≠ sb:=by simpa using hb
  clear hl hc hq hS hE ht hn hb;have gBm:=QH trivial;exact ydq
def nhC (h:NHd) (args:Value):List Value:=[.string ⟨h.op.toArray⟩,.int .i64 h.t.k,.int .i64 h.t.s,.int .i64 h.col,.bool h.null,.int .i64 h.n,.string ⟨h.s.toArray⟩,args]
def NAt (w:World) (L:List Nat) (v:Value):NT → Prop
 | .leaf h => ∃ b,v=zh b ∧ b ∉ L ∧ w.heap[b]? = some (.cells (nhC h (.slice none 0 0)).toArray 80 (0,0))
 | .un h a => ∃ b c cap u,v=zh b ∧ b ∉ L ∧ c ∉ L ∧ (1 ≤ cap ∧ cap ≤ 9223372036854775807) ∧ w.heap[b]? = some (.cells (nhC h (.slice (some ⟨c,0,none⟩) 1 cap)).toArray 80 (0,0)) ∧ w.cell? ⟨c,0,none⟩ = some u ∧ NAt w L u a
 | .bin h a d => ∃ b c cap u x,v=zh b ∧ b ∉ L ∧ c ∉ L ∧ (2 ≤ cap ∧ cap ≤ 9223372036854775807) ∧ w.heap[b]? = some (.cells (nhC h (.slice (some ⟨c,0,none⟩) 2 cap)).toArray 80 (0,0)) ∧ w.cell? ⟨c,0,none⟩ = some u ∧ w.cell? ⟨c,1,none⟩ = some x ∧ NAt w L u a ∧ NAt w L x d
theorem NAt.mods {w w':World} {L:List Nat} (hM:Mods L w w'):∀ {t:NT} {v:Value},NAt w L v t → NAt w' L v t:=by
 intro t
 induction t with
 | leaf h =>rintro v ⟨b,h1,h2,h3⟩;exact ⟨b,h1,h2,hM.heap h3 h2⟩
 | un h a ih =>rintro v ⟨b,c,cap,u,h1,h2,h3,h4,h5,h6,h7⟩;exact ⟨b,c,cap,u,h1,h2,h3,h4,hM.heap h5 h2,hM.cell h6 h3,ih h7⟩
 | bin h a d iha ihd =>rintro v ⟨b,c,cap,u,x,h1,h2,h3,h4,h5,h6,h7,h8,h9⟩;exact ⟨b,c,cap,u,x,h1,h2,h3,h4,hM.heap h5 h2,hM.cell h6 h3,hM.cell h7 h3,iha h8,ihd h9⟩
theorem NAt.weaken {w:World} {L L':List Nat} (hL:∀ x ∈ L',x ∈ L):∀ {t:NT} {v:Value},NAt w L v t → NAt w L' v t:=by
 intro t
 induction t with
 | leaf h =>rintro v ⟨b,h1,h2,h3⟩;exact ⟨b,h1,fun hm => h2 (hL _ hm),h3⟩
 | un h a ih =>rintro v ⟨b,c,cap,u,h1,h2,h3,h4,h5,h6,h7⟩;exact ⟨b,c,cap,u,h1,fun hm => h2 (hL _ hm),fun hm => h3 (hL _ hm),h4,h5,h6,ih h7⟩
 | bin h a d iha ihd =>rintro v ⟨b,c,cap,u,x,h1,h2,h3,h4,h5,h6,h7,h8,h9⟩;exact ⟨b,c,cap,u,x,h1,fun hm => h2 (hL _ hm),fun hm => h3 (hL _ hm),h4,h5,h6,h7,iha h8,ihd h9⟩
def NoneYet (bs:List Bool) (i:Nat):Prop:=∀ j,j < i → bs[j]? = some false
theorem NoneYet.next {bs:List Bool} {i:Nat} (h:NoneYet bs i) (hi:bs[i]? = some false):NoneYet bs (i + 1):=fun j hj => by
 rcases Nat.lt_or_ge j i with h1 | h1
 ·exact h j h1
 ·obtain rfl:j=i:=by omega
  exact hi
theorem NoneYet.all {bs:List Bool} (h:NoneYet bs bs.length):bs.any id=false:=by rw [List.any_eq_false];intro b hb;obtain ⟨j,hj,rfl⟩:=List.getElem_of_mem hb;have:=h j hj;rw [List.getElem?_eq_getElem hj] at this;simpa using this
def zrZ (bs:List Bool) (w:World) (e:Ending) (w':World):Prop:=∃ z:Int,e = .returned (.int .i64 z) ∧ ((0 ≤ z ∧ bs.any id=true) ∨ (z < 0 ∧ bs.any id=false)) ∧ Mods [] w w'
theorem zgE (w:World) (us:List Value) (bs:List Bool) (ao:Option Addr) (cap:Nat) (hl:bs.length=us.length) (hn:us.length ≤ 2)
  (hao:0 < us.length → ∃ c,ao=some ⟨c,0,none⟩ ∧ ∀ i (hi:i < us.length),w.cell? ⟨c,i,none⟩ = some us[i])
  (hsub:∀ i (hi:i < us.length) (hx:i < bs.length) W,Mods [] w W → Calls Tryz.prog 68 #[us[i]] W fun e w' => e = .returned (.bool bs[i]) ∧ Mods [] W w') :
  Calls Tryz.prog 140 #[.slice ao us.length cap,.func (.func 68) #[] #[]] w (zrZ bs w):=by
 obtain ⟨n,hnn⟩:=EX (us.length);have HA:=QH (AI hao (AI hsub (AI hnn hl)));have hn2:n ≤ 2:=by omega
 rw [hnn];clear hao hsub hnn hl hn;go_enter Tryz.func140, Tryz.ntmps140;have gF1:=QH trivial;exact yfH
theorem zei (w:World) (us:List Value) (bs:List Bool) (ao:Option Addr) (cap:Nat) (hl:bs.length=us.length) (hn:us.length ≤ 2)
  (hao:0 < us.length → ∃ c,ao=some ⟨c,0,none⟩ ∧ ∀ i (hi:i < us.length),w.cell? ⟨c,i,none⟩ = some us[i])
  (hsub:∀ i (hi:i < us.length) (hx:i < bs.length) W,Mods [] w W → Calls Tryz.prog 68 #[us[i]] W fun e w' => e = .returned (.bool bs[i]) ∧ Mods [] W w') :
  Calls Tryz.prog 98 #[.slice ao us.length cap,.func (.func 68) #[] #[]] w fun e w' => e = .returned (.bool (bs.any id)) ∧ Mods [] w w':=by
 have h:=zgE w us bs ao cap hl hn hao hsub;unfold zrZ at h;clear hl hn hao hsub;generalize bs.any id=r at *;generalize us.length=n at *;clear us bs;go_enter Tryz.func98, Tryz.ntmps98;exact yfv
theorem zgF (w:World) (b:Nat) (h:NHd) (us:List Value) (bs:List Bool) (ao:Option Addr) (cap:Nat) (hb:w.heap[b]? = some (.cells (nhC h (.slice ao us.length cap)).toArray 80 (0,0))) (hl:bs.length=us.length) (hn:us.length ≤ 2)
  (hao:0 < us.length → ∃ c,ao=some ⟨c,0,none⟩ ∧ ∀ i (hi:i < us.length),w.cell? ⟨c,i,none⟩ = some us[i])
  (hsub:∀ i (hi:i < us.length) (hx:i < bs.length) W,Mods [] w W → Calls Tryz.prog 68 #[us[i]] W fun e w' => e = .returned (.bool bs[i]) ∧ Mods [] W w') :
  Calls Tryz.prog 68 #[zh b] w fun e w' => e = .returned (.bool (aggOpB h.op || bs.any id)) ∧ Mods [] w w':=by
 have c0:=za hb 0;have c7:=za hb 7;change w.cell? _=some (.string ⟨h.op.toArray⟩) at c0;change w.cell? _=some (.slice ao us.length cap) at c7;have hag:=zan w h.op;have hcf:∀ W,Mods [] w W → Calls Tryz.prog 98 #[.slice ao us.length cap,.func (.func 68) #[] #[]] W fun e w' => e = .returned (.bool (bs.any id)) ∧ Mods [] W w':=fun W hM =>
  zei W us bs ao cap hl hn (fun h0 => by
   obtain ⟨c,h1,h2⟩:=hao h0
   exact ⟨c,h1,fun i hi => hM.cell (h2 i hi)⟩) (fun i hi hx W2 hM2 => hsub i hi hx W2 (hM.trans hM2))
 have HC:=QH hcf;clear hb hl hn hao hsub hcf;generalize bs.any id=r at *;generalize us.length=n at *;generalize aggOpB h.op=g at *;generalize (⟨h.op.toArray⟩ : ByteArray)=S at *;unfold zh;go_enter Tryz.func68, Tryz.ntmps68;go_wp2_with fail;(with_reducible refine hag.mono ?_);rintro e w2 ⟨rfl,hM2⟩;have d7:=hM2.cell c7;have hcf:=HC.out w2 hM2;clear hag c0 c7
 cases g with
 | true =>go_wp2_with fail;go_ret;exact ⟨rfl,hM2⟩
 | false =>go_wp2_with fail;(with_reducible refine hcf.mono ?_);rintro e w3 ⟨rfl,hM3⟩;clear hcf;go_wp2_with fail;go_ret;exact ⟨by cases r <;> rfl,hM2.trans hM3⟩
theorem zgG:∀ (t:NT) (w:World) (v:Value),NAt w [] v t → Calls Tryz.prog 68 #[v] w fun e w' => e = .returned (.bool (hasN t)) ∧ Mods [] w w':=by
 intro t
 induction t with
 | leaf h =>rintro w v ⟨b,rfl,-,hb⟩;have:=zgF w b h [] [] none 0 hb rfl AD AB AB;simpa [hasN] using this
 | un h a ih =>
  rintro w v ⟨b,c,cap,u,rfl,-,-,-,hb,hc,ha⟩
  have:=zgF w b h [u] [hasN a] (some ⟨c,0,none⟩) cap hb rfl AB (fun _ => ⟨c,rfl,fun i hi => by
   obtain rfl:i=0:=by simp at hi; omega
   exact hc⟩) (fun i hi hx W hM => by
   obtain rfl:i=0:=by simp at hi; omega
   exact ih W u (ha.mods hM))
  simpa [hasN] using this
 | bin h a d iha ihd =>
  rintro w v ⟨b,c,cap,u,x,rfl,-,-,-,hb,hc,hd,ha,hdd⟩
  have:=zgF w b h [u,x] [hasN a,hasN d] (some ⟨c,0,none⟩) cap hb rfl AB (fun _ => ⟨c,rfl,fun i hi => by
   have hi2:i=0 ∨ i=1:=by simp at hi; omega
   rcases hi2 with rfl | rfl
   ·exact hc
   ·exact hd⟩) (fun i hi hx W hM => by
   have hi2:i=0 ∨ i=1:=by simp at hi; omega
   rcases hi2 with rfl | rfl
   ·exact iha W u (ha.mods hM)
   ·exact ihd W x (hdd.mods hM))
  simpa [hasN] using this
def val0 (n:Nat):NHd:={ op:=oValue,t:=tyBool,n:=n }
def zaG (w:World) (o:Option NHd) (e:Ending) (w':World):Prop:=
 Mods [] w w' ∧ match o with
  | none => e = .returned (.tuple #[.pointer none,.bool false])
  | some n => ∃ b,e = .returned (.tuple #[zh b,.bool true]) ∧ w.heap.size ≤ b ∧ w'.heap[b]? = some (.cells (nhC n (.slice none 0 0)).toArray 80 (0,0))
theorem zgH (w:World) (hV:CkVars w) (xb:Nat) (h:Hd) (va:Value) (hb:w.heap[xb]? = some (.cells (hdC h va).toArray 171 (0,0)))
  (h1:¬ h.op=oNumber) (h2:¬ h.op=oText) (h3:¬ h.op=oBool) (h4:¬ h.op=oNull) :
  Calls Tryz.prog 96 #[zh xb] w fun e w' => e = .returned (.tuple #[.pointer none,.bool false]) ∧ Mods [] w w':=by
 have o1:(h.op == [110,117,109,98,101,114])=false:=zhq h1;have o2:(h.op == [116,101,120,116])=false:=zhq h2;have o3:(h.op == [98,111,111,108])=false:=zhq h3;have o4:(h.op == [110,117,108,108])=false:=zhq h4;have c0:=za hb 0;have c4:=za hb 4;change w.cell? _=some (.string ⟨h.op.toArray⟩) at c0;have gCv:=QH trivial;exact ydU
theorem zgI (w:World) (hV:CkVars w) (xb:Nat) (h:Hd) (va:Value) (hb:w.heap[xb]? = some (.cells (hdC h va).toArray 171 (0,0))) (hop:h.op=oBool) :
  Calls Tryz.prog 96 #[zh xb] w (zaG w (some (val0 h.n))):=by
 have c0:=za hb 0;have c4:=za hb 4;change w.cell? _=some (.string ⟨h.op.toArray⟩) at c0;rw [hop] at c0;change w.cell? _=some (.string ⟨#[98,111,111,108]⟩) at c0;have gCw:=QH trivial;exact ydU
theorem zgJ (w:World) (hV:CkVars w) (xb:Nat) (h:Hd) (va:Value) (hb:w.heap[xb]? = some (.cells (hdC h va).toArray 171 (0,0))) (hop:h.op=oNull) :
  Calls Tryz.prog 96 #[zh xb] w (zaG w (some { op:=oValue,t:=tyBool,null:=true })):=by
 have c0:=za hb 0;have c4:=za hb 4;change w.cell? _=some (.string ⟨h.op.toArray⟩) at c0;rw [hop] at c0;change w.cell? _=some (.string ⟨#[110,117,108,108]⟩) at c0;have gBN:=QH trivial;exact ydB
theorem zgK (w:World) (hV:CkVars w) (xb:Nat) (h:Hd) (va:Value) (hb:w.heap[xb]? = some (.cells (hdC h va).toArray 171 (0,0))) (hop:h.op=oText) :
  Calls Tryz.prog 96 #[zh xb] w (zaG w (some { op:=oValue,t:=tyBytes,s:=h.s })):=by
 have c0:=za hb 0;have c4:=za hb 4;have c6:=za hb 6;change w.cell? _=some (.string ⟨h.s.toArray⟩) at c6;change w.cell? _=some (.string ⟨h.op.toArray⟩) at c0;rw [hop] at c0;change w.cell? _=some (.string ⟨#[116,101,120,116]⟩) at c0;have gBO:=QH trivial;exact ydB
theorem ze6 (w:World) (hV:CkVars w) (xb:Nat) (h:Hd) (va:Value) (hb:w.heap[xb]? = some (.cells (hdC h va).toArray 171 (0,0))) (hop:h.op=oNumber) :
  Calls Tryz.prog 96 #[zh xb] w (zaG w (some { op:=oValue,t:=if 0 < h.scale then ⟨2,h.scale⟩ else tyInt,n:=h.n })):=by
 have c0:=za hb 0;have c4:=za hb 4;have c6:=za hb 5;change w.cell? _=some (.int .i64 h.scale) at c6;change w.cell? _=some (.string ⟨h.op.toArray⟩) at c0;rw [hop] at c0;change w.cell? _=some (.string ⟨#[110,117,109,98,101,114]⟩) at c0;have gBP:=QH trivial;exact ydB
end Go.Proofs.YtcabeljiobiojaaGreatDoor
