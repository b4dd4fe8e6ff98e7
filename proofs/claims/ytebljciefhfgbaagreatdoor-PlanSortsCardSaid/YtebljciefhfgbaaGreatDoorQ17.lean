/-
  check's nodes in memory; has, walked. No condition.
-/
import Derived.Test.YtebljciefhfgbaaGreatDoorQ16
set_option linter.unusedVariables false
set_option maxRecDepth 100000
set_option maxHeartbeats 4000000
namespace Go.Proofs.YtebljciefhfgbaaGreatDoor
open Go.RowKit
theorem ydU {p:Prop} (h:p:=by
  change w.cell? _=some (.int .i64 h.n) at c4;have hd:=(QM [] w).drew;have d4:=hd.cell c4;obtain ⟨⟨v0,v1⟩,-⟩:=hV.later hd;have hz:=(QM [] w).alloc (.cells #[.string ⟨#[118,97,108,117,101]⟩,.int .i64 4,.int .i64 0,.int .i64 0,.bool false,.int .i64 h.n,.string ⟨#[]⟩,.slice none 0 0] 84);have e0:=hz.drew.cell c0
  first
  |clear gCv
   unfold zh;clear hb h1 h2 h3 h4;have gAl:=QH trivial;exact ycS
  |clear gCw
   have hfin:zaG w (some (val0 h.n)) (.returned (.tuple #[zh w.heap.size,.bool true])) (w.alloc (.cells #[.string ⟨#[118,97,108,117,101]⟩,.int .i64 4,.int .i64 0,.int .i64 0,.bool false,.int .i64 h.n,.string ⟨#[]⟩,.slice none 0 0] 84)).drew:=⟨hz.drew,w.heap.size,rfl,LR _,QN w _⟩;have HFIN:=QH hfin;unfold zh at *;clear hb hop hfin;have gAm:=QH trivial;exact ycS
 ):p:=h
theorem ydB {p:Prop} (h:p:=by
  change w.cell? _=some (.int .i64 h.n) at c4;have hd:=(QM [] w).drew;have d4:=hd.cell c4;obtain ⟨⟨v0,v1⟩,-⟩:=hV.later hd;have hz:=((QM [] w).alloc (.cells #[.string ⟨#[118,97,108,117,101]⟩,.int .i64 4,.int .i64 0,.int .i64 0,.bool false,.int .i64 h.n,.string ⟨#[]⟩,.slice none 0 0] 84)).drew;have hx:((w.alloc (.cells #[.string ⟨#[118,97,108,117,101]⟩,.int .i64 4,.int .i64 0,.int .i64 0,.bool false,.int .i64 h.n,.string ⟨#[]⟩,.slice none 0 0] 84)).drew).heap[w.heap.size]? = _:=QN w _;have e0:=hz.cell c0
  first
  |clear gBN
   unfold zh at *;clear hb hop;have gAn:=QH trivial;exact ycS
  |clear gBO
   have e6:=hz.cell c6;unfold zh at *;clear hb hop;have gAo:=QH trivial;exact ycS
  |clear gBP
   have e6:=hz.cell c6;obtain ⟨-,i0,i1⟩:=hV.later hz;unfold zh at *;clear hb hop;obtain ⟨PP,hPP⟩:=EX (zaG w (some { op:=oValue,t:=if 0 < h.scale then ⟨2,h.scale⟩ else tyInt,n:=h.n }));rw [hPP];have HPP:=QH hPP;clear hPP;have gAp:=QH trivial;exact ycS
 ):p:=h
theorem ycS {p:Prop} (h:p:=by
  go_enter Tryz.func98, Tryz.ntmps98;go_upto_region 1 with fail;go_cut [4] from 5 to 12 (fun t4 wx => t4 = .pointer (some ⟨w.heap.size,0,none⟩) ∧ wx=(w.alloc (.cells #[.string ⟨#[118,97,108,117,101]⟩,.int .i64 4,.int .i64 0,.int .i64 0,.bool false,.int .i64 h.n,.string ⟨#[]⟩,.slice none 0 0] 84)).drew)
  case first =>exact ybo
  case rest =>
  obtain ⟨rfl,rfl⟩:=hcut
  first
  |clear gAl
   go_wp2_with fail;go_ret2;exact ⟨rfl,hz.drew⟩
  |clear gAm
   go_wp2_with fail;go_ret2;exact HFIN.out
  |clear gAn
   clear d4 v0 v1 c0 c4 hd;generalize (w.alloc (.cells #[.string ⟨#[118,97,108,117,101]⟩,.int .i64 4,.int .i64 0,.int .i64 0,.bool false,.int .i64 h.n,.string ⟨#[]⟩,.slice none 0 0] 84)).drew=w2 at *;obtain ⟨nb,hnb⟩:=EX (w.heap.size);rw [hnb] at hx;rw [hnb];have q4:w2.cell? ⟨nb,4,none⟩ = some (.bool false):=za hx 4;have q5:w2.cell? ⟨nb,5,none⟩ = some (.int .i64 h.n):=za hx 5;have q6:w2.cell? ⟨nb,6,none⟩ = some (.string ⟨#[]⟩):=za hx 6;have g4:=zc hx 4;have g5:=zc hx 5;have g6:=zc hx 6;have hx3:=zb (zb (zb hx 4 (.bool true)) 5 (.int .i64 0)) 6 (.string ⟨#[]⟩);have hM3:=((hz.setCell (p:=⟨nb,4,none⟩) (.inr (Nat.le_of_eq hnb)) (.bool true)).setCell (p:=⟨nb,5,none⟩) (.inr (Nat.le_of_eq hnb)) (.int .i64 0)).setCell (p:=⟨nb,6,none⟩) (.inr (Nat.le_of_eq hnb)) (.string ⟨#[]⟩);have hfin:zaG w (some { op:=oValue,t:=tyBool,null:=true }) (.returned (.tuple #[zh nb,.bool true])) (((w2.setCell ⟨nb,4,none⟩ (.bool true)).setCell ⟨nb,5,none⟩ (.int .i64 0)).setCell ⟨nb,6,none⟩ (.string ⟨#[]⟩)):=⟨hM3,nb,rfl,Nat.le_of_eq hnb,hx3⟩;exact yci
  |clear gAo
   clear d4 v0 v1 c0 c4 c6 hd;generalize (w.alloc (.cells #[.string ⟨#[118,97,108,117,101]⟩,.int .i64 4,.int .i64 0,.int .i64 0,.bool false,.int .i64 h.n,.string ⟨#[]⟩,.slice none 0 0] 84)).drew=w2 at *;obtain ⟨nb,hnb⟩:=EX (w.heap.size);rw [hnb] at hx;rw [hnb];have q1:w2.cell? ⟨nb,1,none⟩ = some (.int .i64 4):=za hx 1;have q2:w2.cell? ⟨nb,2,none⟩ = some (.int .i64 0):=za hx 2;have g1:=zc hx 1;have g2:=zc hx 2;have q4:w2.cell? ⟨nb,4,none⟩ = some (.bool false):=za hx 4;have q5:w2.cell? ⟨nb,5,none⟩ = some (.int .i64 h.n):=za hx 5;have q6:w2.cell? ⟨nb,6,none⟩ = some (.string ⟨#[]⟩):=za hx 6;have g4:=zc hx 4;have g5:=zc hx 5;have g6:=zc hx 6;have hx3:=zb (zb (zb (zb (zb hx 1 (.int .i64 3)) 2 (.int .i64 0)) 4 (.bool false)) 5 (.int .i64 0)) 6 (.string ⟨h.s.toArray⟩);have hM3:=((((hz.setCell (p:=⟨nb,1,none⟩) (.inr (Nat.le_of_eq hnb)) (.int .i64 3)).setCell (p:=⟨nb,2,none⟩) (.inr (Nat.le_of_eq hnb)) (.int .i64 0)).setCell (p:=⟨nb,4,none⟩) (.inr (Nat.le_of_eq hnb)) (.bool false)).setCell (p:=⟨nb,5,none⟩) (.inr (Nat.le_of_eq hnb)) (.int .i64 0)).setCell (p:=⟨nb,6,none⟩) (.inr (Nat.le_of_eq hnb)) (.string ⟨h.s.toArray⟩);have hfin:zaG w (some { op:=oValue,t:=tyBytes,s:=h.s }) (.returned (.tuple #[zh nb,.bool true])) _:=⟨hM3,nb,rfl,Nat.le_of_eq hnb,hx3⟩;exact yci
  |clear gAp
   have c00:=c0;clear d4 v0 v1 c0 c4 c6 hd;generalize (w.alloc (.cells #[.string ⟨#[118,97,108,117,101]⟩,.int .i64 4,.int .i64 0,.int .i64 0,.bool false,.int .i64 h.n,.string ⟨#[]⟩,.slice none 0 0] 84)).drew=w2 at *;obtain ⟨nb,hnb⟩:=EX (w.heap.size);rw [hnb] at hx;rw [hnb];have q1:w2.cell? ⟨nb,1,none⟩ = some (.int .i64 4):=za hx 1;have q2:w2.cell? ⟨nb,2,none⟩ = some (.int .i64 0):=za hx 2;have g1:=zc hx 1;have g2:=zc hx 2;have q4:w2.cell? ⟨nb,4,none⟩ = some (.bool false):=za hx 4;have q5:w2.cell? ⟨nb,5,none⟩ = some (.int .i64 h.n):=za hx 5;have q6:w2.cell? ⟨nb,6,none⟩ = some (.string ⟨#[]⟩):=za hx 6;have g4:=zc hx 4;have g5:=zc hx 5;have g6:=zc hx 6;have hxb:xb ≠ nb:=by have h:=zD c00;change xb < w.heap.size at h;omega
   have hS:Mods [nb] w2 ((w2.setCell ⟨nb,1,none⟩ (.int .i64 1)).setCell ⟨nb,2,none⟩ (.int .i64 0)):=((QM _ _).setCell (.inl AB) _).setCell (.inl AB) _;have f6:=hS.cell e6 (by simpa using hxb);have hx3:=zb (zb hx 1 (.int .i64 1)) 2 (.int .i64 0);have hM3:=(hz.setCell (p:=⟨nb,1,none⟩) (.inr (Nat.le_of_eq hnb)) (.int .i64 1)).setCell (p:=⟨nb,2,none⟩) (.inr (Nat.le_of_eq hnb)) (.int .i64 0);have hx5:=zb (zb hx3 1 (.int .i64 2)) 2 (.int .i64 h.scale);have hM5:=(hM3.setCell (p:=⟨nb,1,none⟩) (.inr (Nat.le_of_eq hnb)) (.int .i64 2)).setCell (p:=⟨nb,2,none⟩) (.inr (Nat.le_of_eq hnb)) (.int .i64 h.scale);by_cases h0:0 < h.scale
   ·have hfin:zaG w (some { op:=oValue,t:=if 0 < h.scale then ⟨2,h.scale⟩ else tyInt,n:=h.n }) (.returned (.tuple #[zh nb,.bool true])) _:=⟨hM5,nb,rfl,Nat.le_of_eq hnb,by rw [if_pos h0]; exact hx5⟩;have HFIN:=QH hfin;have hgt:(0:Int) < (h.scale:Int):=by omega
    exact ybj
   ·have hfin:zaG w (some { op:=oValue,t:=if 0 < h.scale then ⟨2,h.scale⟩ else tyInt,n:=h.n }) (.returned (.tuple #[zh nb,.bool true])) _:=⟨hM3,nb,rfl,Nat.le_of_eq hnb,by rw [if_neg h0]; exact hx3⟩;have HFIN:=QH hfin;have hgt:¬ (0:Int) < (h.scale:Int):=by omega
    exact ybj
 ):p:=h
theorem ybj {p:Prop} (h:p:=by
  rw [HPP.out] at HFIN;unfold zh at HFIN;have r1:=za hx3 1;have r2:=za hx3 2;have y1:=zc hx3 1;have y2:=zc hx3 2;change World.cell? _ _=some (Value.int .i64 1) at r1;change World.cell? _ _=some (Value.int .i64 0) at r2;clear hfin hx3 hM3 hx5 hM5 hx hz hnb hS h0 HPP;go_wp2_with fail;exact HFIN.out
 ):p:=h
theorem ybo {p:Prop} (h:p:=by
  go_region_law (fail)
  all_goals
   go_wp2_with fail
   go_meet
   exact ⟨rfl,rfl⟩
 ):p:=h
theorem yci {p:Prop} (h:p:=by
  have HFIN:=QH hfin;unfold zh at HFIN;clear hfin hx3 hM3 hx hz hnb;go_wp2_with fail;go_ret2;exact HFIN.out
 ):p:=h
def nhC (h:NHd) (args:Value):List Value:=[.string ⟨h.op.toArray⟩,.int .i64 h.t.k,.int .i64 h.t.s,.int .i64 h.col,.bool h.null,.int .i64 h.n,.string ⟨h.s.toArray⟩,args]
def NAt (w:World) (L:List Nat) (v:Value):NT → Prop
 | .leaf h => ∃ b,v=zh b ∧ b ∉ L ∧ w.heap[b]? = some (.cells (nhC h (.slice none 0 0)).toArray 84 (0,0))
 | .un h a => ∃ b c cap u,v=zh b ∧ b ∉ L ∧ c ∉ L ∧ (1 ≤ cap ∧ cap ≤ 9223372036854775807) ∧ w.heap[b]? = some (.cells (nhC h (.slice (some ⟨c,0,none⟩) 1 cap)).toArray 84 (0,0)) ∧ w.cell? ⟨c,0,none⟩ = some u ∧ NAt w L u a
 | .bin h a d => ∃ b c cap u x,v=zh b ∧ b ∉ L ∧ c ∉ L ∧ (2 ≤ cap ∧ cap ≤ 9223372036854775807) ∧ w.heap[b]? = some (.cells (nhC h (.slice (some ⟨c,0,none⟩) 2 cap)).toArray 84 (0,0)) ∧ w.cell? ⟨c,0,none⟩ = some u ∧ w.cell? ⟨c,1,none⟩ = some x ∧ NAt w L u a ∧ NAt w L x d
theorem NAt.mods {w w':World} {L:List Nat} (hM:Mods L w w'):∀ {t:NT} {v:Value},NAt w L v t → NAt w' L v t:=by
 intro t
 induction t with
 | leaf h =>rintro v ⟨b,h1,h2,h3⟩;exact ⟨b,h1,h2,hM.heap h3 h2⟩
 | un h a ih =>rintro v ⟨b,c,cap,u,h1,h2,h3,h4,h5,h6,h7⟩;exact ⟨b,c,cap,u,h1,h2,h3,h4,hM.heap h5 h2,hM.cell h6 h3,ih h7⟩
 | bin h a d iha ihd =>rintro v ⟨b,c,cap,u,x,h1,h2,h3,h4,h5,h6,h7,h8,h9⟩;exact ⟨b,c,cap,u,x,h1,h2,h3,h4,hM.heap h5 h2,hM.cell h6 h3,hM.cell h7 h3,iha h8,ihd h9⟩
theorem NAt.weaken {w:World} {L L':List Nat} (hL:∀ x ∈ L',x ∈ L):∀ {t:NT} {v:Value},NAt w L v t → NAt w L' v t:=by
 intro t
 induction t with
 | leaf h =>rintro v ⟨b,h1,h2,h3⟩;exact ⟨b,h1,fun hm => h2 (hL _ hm),h3⟩
 | un h a ih =>rintro v ⟨b,c,cap,u,h1,h2,h3,h4,h5,h6,h7⟩;exact ⟨b,c,cap,u,h1,fun hm => h2 (hL _ hm),fun hm => h3 (hL _ hm),h4,h5,h6,ih h7⟩
 | bin h a d iha ihd =>rintro v ⟨b,c,cap,u,x,h1,h2,h3,h4,h5,h6,h7,h8,h9⟩;exact ⟨b,c,cap,u,x,h1,fun hm => h2 (hL _ hm),fun hm => h3 (hL _ hm),h4,h5,h6,h7,iha h8,ihd h9⟩
def NoneYet (bs:List Bool) (i:Nat):Prop:=∀ j,j < i → bs[j]? = some false
theorem NoneYet.next {bs:List Bool} {i:Nat} (h:NoneYet bs i) (hi:bs[i]? = some false):NoneYet bs (i + 1):=fun j hj => by
 rcases Nat.lt_or_ge j i with h1 | h1
 ·exact h j h1
 ·obtain rfl:j=i:=by omega
  exact hi
theorem NoneYet.all {bs:List Bool} (h:NoneYet bs bs.length):bs.any id=false:=by rw [List.any_eq_false];intro b hb;obtain ⟨j,hj,rfl⟩:=List.getElem_of_mem hb;have:=h j hj;rw [List.getElem?_eq_getElem hj] at this;simpa using this
def FoundAt (bs:List Bool) (w:World) (e:Ending) (w':World):Prop:=∃ z:Int,e = .returned (.int .i64 z) ∧ ((0 ≤ z ∧ bs.any id=true) ∨ (z < 0 ∧ bs.any id=false)) ∧ Mods [] w w'
theorem zgE (w:World) (us:List Value) (bs:List Bool) (ao:Option Addr) (cap:Nat) (hl:bs.length=us.length) (hn:us.length ≤ 2)
  (hao:0 < us.length → ∃ c,ao=some ⟨c,0,none⟩ ∧ ∀ i (hi:i < us.length),w.cell? ⟨c,i,none⟩ = some us[i])
  (hsub:∀ i (hi:i < us.length) (hx:i < bs.length) W,Mods [] w W → Calls Tryz.prog 70 #[us[i]] W fun e w' => e = .returned (.bool bs[i]) ∧ Mods [] W w') :
  Calls Tryz.prog 142 #[.slice ao us.length cap,.func (.func 70) #[] #[]] w (FoundAt bs w):=by
 obtain ⟨n,hnn⟩:=EX (us.length);have HA:=QH (AI hao (AI hsub (AI hnn hl)));have hn2:n ≤ 2:=by omega
 rw [hnn];clear hao hsub hnn hl hn;go_enter Tryz.func142, Tryz.ntmps142;go_wp2_with fail;go_loopg [5,8] n (fun gk t5 t8 wr => ∃ i:Nat,i + gk=n ∧ t8 = .int .i64 i ∧ NoneYet bs i ∧ Mods [] w wr)
 case atStart => exact ⟨0,by omega,rfl,fun j hj => by omega,QM _ _⟩
 obtain ⟨i,hin,rfl,hN,hM⟩:=hrel;by_cases hlt:i < n
 ·obtain ⟨c,rfl,hcells⟩:=HA.out.1 (by rw [HA.out.2.2.1]; omega);have hiu:i < us.length:=by rw [HA.out.2.2.1]; exact hlt
  have hib:i < bs.length:=by rw [HA.out.2.2.2]; exact hiu
  have k0:=hM.cell (hcells i hiu);have hca:=HA.out.2.1 i hiu hib wr hM;have hbi:bs[i]? = some bs[i]:=List.getElem?_eq_getElem hib;have hmem:bs[i] ∈ bs:=List.getElem_mem hib;generalize us[i]=u at *;generalize bs[i]=bt at *;have HB:=QH (AI hbi (AI hmem hN));clear hcells hbi hmem hN;go_wp2_with fail;(with_reducible refine hca.mono ?_);rintro e w2 ⟨rfl,hM2⟩;have hM3:=hM.trans hM2;clear hca k0 hM2
  cases bt with
  | true =>have hfin:FoundAt bs w (.returned (.int .i64 i)) w2:=⟨i,rfl,.inl ⟨by omega,List.any_eq_true.2 ⟨true,HB.out.2.1,rfl⟩⟩,hM3⟩;have HFIN:=QH hfin;clear hfin;go_wp2_with fail;go_ret;exact HFIN.out
  | false =>
   go_wp2_with fail;go_roundg (n - (i + 1))
   case measure => omega
   case rel => exact ⟨i + 1,by omega,by go_num,HB.out.2.2.next HB.out.1,hM3⟩
 ·obtain rfl:n=i:=by omega
  have hfin:FoundAt bs w (.returned (.int .i64 (-1))) wr:=⟨-1,rfl,.inr ⟨by omega,by
   have:n=bs.length:=by rw [HA.out.2.2.2,HA.out.2.2.1]
   rw [this] at hN
   exact hN.all⟩,hM⟩
  have HFIN:=QH hfin;clear hfin hN;go_wp2_with fail;go_ret;exact HFIN.out
theorem zei (w:World) (us:List Value) (bs:List Bool) (ao:Option Addr) (cap:Nat) (hl:bs.length=us.length) (hn:us.length ≤ 2)
  (hao:0 < us.length → ∃ c,ao=some ⟨c,0,none⟩ ∧ ∀ i (hi:i < us.length),w.cell? ⟨c,i,none⟩ = some us[i])
  (hsub:∀ i (hi:i < us.length) (hx:i < bs.length) W,Mods [] w W → Calls Tryz.prog 70 #[us[i]] W fun e w' => e = .returned (.bool bs[i]) ∧ Mods [] W w') :
  Calls Tryz.prog 100 #[.slice ao us.length cap,.func (.func 70) #[] #[]] w fun e w' => e = .returned (.bool (bs.any id)) ∧ Mods [] w w':=by
 have h:=zgE w us bs ao cap hl hn hao hsub;unfold FoundAt at h;clear hl hn hao hsub;generalize bs.any id=r at *;generalize us.length=n at *;clear us bs;go_enter Tryz.func100, Tryz.ntmps100;go_wp2_with fail;(with_reducible refine h.mono ?_);rintro e w2 ⟨z,rfl,hz,hM⟩;clear h;have hd:decide (0 ≤ z)=r:=by
  rcases hz with ⟨h1,rfl⟩ | ⟨h1,rfl⟩
  ·exact decide_eq_true h1
  ·exact decide_eq_false AA
 have HD:=QH hd;clear hd hz;go_wp2_with fail;go_ret;exact ⟨by rw [← HD.out]; rfl,hM⟩
theorem zgF (w:World) (b:Nat) (h:NHd) (us:List Value) (bs:List Bool) (ao:Option Addr) (cap:Nat) (hb:w.heap[b]? = some (.cells (nhC h (.slice ao us.length cap)).toArray 84 (0,0))) (hl:bs.length=us.length) (hn:us.length ≤ 2)
  (hao:0 < us.length → ∃ c,ao=some ⟨c,0,none⟩ ∧ ∀ i (hi:i < us.length),w.cell? ⟨c,i,none⟩ = some us[i])
  (hsub:∀ i (hi:i < us.length) (hx:i < bs.length) W,Mods [] w W → Calls Tryz.prog 70 #[us[i]] W fun e w' => e = .returned (.bool bs[i]) ∧ Mods [] W w') :
  Calls Tryz.prog 70 #[zh b] w fun e w' => e = .returned (.bool (aggOpB h.op || bs.any id)) ∧ Mods [] w w':=by
 have c0:=za hb 0;have c7:=za hb 7;change w.cell? _=some (.string ⟨h.op.toArray⟩) at c0;change w.cell? _=some (.slice ao us.length cap) at c7;have hag:=zan w h.op;have hcf:∀ W,Mods [] w W → Calls Tryz.prog 100 #[.slice ao us.length cap,.func (.func 70) #[] #[]] W fun e w' => e = .returned (.bool (bs.any id)) ∧ Mods [] W w':=fun W hM =>
  zei W us bs ao cap hl hn (fun h0 => by
   obtain ⟨c,h1,h2⟩:=hao h0
   exact ⟨c,h1,fun i hi => hM.cell (h2 i hi)⟩) (fun i hi hx W2 hM2 => hsub i hi hx W2 (hM.trans hM2))
 have HC:=QH hcf;clear hb hl hn hao hsub hcf;generalize bs.any id=r at *;generalize us.length=n at *;generalize aggOpB h.op=g at *;generalize (⟨h.op.toArray⟩ : ByteArray)=S at *;unfold zh;go_enter Tryz.func70, Tryz.ntmps70;go_wp2_with fail;(with_reducible refine hag.mono ?_);rintro e w2 ⟨rfl,hM2⟩;have d7:=hM2.cell c7;have hcf:=HC.out w2 hM2;clear hag c0 c7
 cases g with
 | true =>go_wp2_with fail;go_ret;exact ⟨rfl,hM2⟩
 | false =>go_wp2_with fail;(with_reducible refine hcf.mono ?_);rintro e w3 ⟨rfl,hM3⟩;clear hcf;go_wp2_with fail;go_ret;exact ⟨by cases r <;> rfl,hM2.trans hM3⟩
theorem zgG:∀ (t:NT) (w:World) (v:Value),NAt w [] v t → Calls Tryz.prog 70 #[v] w fun e w' => e = .returned (.bool (hasN t)) ∧ Mods [] w w':=by
 intro t
 induction t with
 | leaf h =>rintro w v ⟨b,rfl,-,hb⟩;have:=zgF w b h [] [] none 0 hb rfl AD AB AB;simpa [hasN] using this
 | un h a ih =>
  rintro w v ⟨b,c,cap,u,rfl,-,-,-,hb,hc,ha⟩
  have:=zgF w b h [u] [hasN a] (some ⟨c,0,none⟩) cap hb rfl AB (fun _ => ⟨c,rfl,fun i hi => by
   obtain rfl:i=0:=by simp at hi; omega
   exact hc⟩) (fun i hi hx W hM => by
   obtain rfl:i=0:=by simp at hi; omega
   exact ih W u (ha.mods hM))
  simpa [hasN] using this
 | bin h a d iha ihd =>
  rintro w v ⟨b,c,cap,u,x,rfl,-,-,-,hb,hc,hd,ha,hdd⟩
  have:=zgF w b h [u,x] [hasN a,hasN d] (some ⟨c,0,none⟩) cap hb rfl AB (fun _ => ⟨c,rfl,fun i hi => by
   have hi2:i=0 ∨ i=1:=by simp at hi; omega
   rcases hi2 with rfl | rfl
   ·exact hc
   ·exact hd⟩) (fun i hi hx W hM => by
   have hi2:i=0 ∨ i=1:=by simp at hi; omega
   rcases hi2 with rfl | rfl
   ·exact iha W u (ha.mods hM)
   ·exact ihd W x (hdd.mods hM))
  simpa [hasN] using this
def val0 (n:Nat):NHd:={ op:=oValue,t:=tyBool,n:=n }
def zaG (w:World) (o:Option NHd) (e:Ending) (w':World):Prop:=
 Mods [] w w' ∧ match o with
  | none => e = .returned (.tuple #[.pointer none,.bool false])
  | some n => ∃ b,e = .returned (.tuple #[zh b,.bool true]) ∧ w.heap.size ≤ b ∧ w'.heap[b]? = some (.cells (nhC n (.slice none 0 0)).toArray 84 (0,0))
theorem zgH (w:World) (hV:CkVars w) (xb:Nat) (h:Hd) (va:Value) (hb:w.heap[xb]? = some (.cells (hdC h va).toArray 175 (0,0)))
  (h1:¬ h.op=oNumber) (h2:¬ h.op=oText) (h3:¬ h.op=oBool) (h4:¬ h.op=oNull) :
  Calls Tryz.prog 98 #[zh xb] w fun e w' => e = .returned (.tuple #[.pointer none,.bool false]) ∧ Mods [] w w':=by
 have o1:(h.op == [110,117,109,98,101,114])=false:=zhq h1;have o2:(h.op == [116,101,120,116])=false:=zhq h2;have o3:(h.op == [98,111,111,108])=false:=zhq h3;have o4:(h.op == [110,117,108,108])=false:=zhq h4;have c0:=za hb 0;have c4:=za hb 4;change w.cell? _=some (.string ⟨h.op.toArray⟩) at c0;have gCv:=QH trivial;exact ydU
theorem zgI (w:World) (hV:CkVars w) (xb:Nat) (h:Hd) (va:Value) (hb:w.heap[xb]? = some (.cells (hdC h va).toArray 175 (0,0))) (hop:h.op=oBool) :
  Calls Tryz.prog 98 #[zh xb] w (zaG w (some (val0 h.n))):=by
 have c0:=za hb 0;have c4:=za hb 4;change w.cell? _=some (.string ⟨h.op.toArray⟩) at c0;rw [hop] at c0;change w.cell? _=some (.string ⟨#[98,111,111,108]⟩) at c0;have gCw:=QH trivial;exact ydU
theorem zgJ (w:World) (hV:CkVars w) (xb:Nat) (h:Hd) (va:Value) (hb:w.heap[xb]? = some (.cells (hdC h va).toArray 175 (0,0))) (hop:h.op=oNull) :
  Calls Tryz.prog 98 #[zh xb] w (zaG w (some { op:=oValue,t:=tyBool,null:=true })):=by
 have c0:=za hb 0;have c4:=za hb 4;change w.cell? _=some (.string ⟨h.op.toArray⟩) at c0;rw [hop] at c0;change w.cell? _=some (.string ⟨#[110,117,108,108]⟩) at c0;have gBN:=QH trivial;exact ydB
theorem zgK (w:World) (hV:CkVars w) (xb:Nat) (h:Hd) (va:Value) (hb:w.heap[xb]? = some (.cells (hdC h va).toArray 175 (0,0))) (hop:h.op=oText) :
  Calls Tryz.prog 98 #[zh xb] w (zaG w (some { op:=oValue,t:=tyBytes,s:=h.s })):=by
 have c0:=za hb 0;have c4:=za hb 4;have c6:=za hb 6;change w.cell? _=some (.string ⟨h.s.toArray⟩) at c6;change w.cell? _=some (.string ⟨h.op.toArray⟩) at c0;rw [hop] at c0;change w.cell? _=some (.string ⟨#[116,101,120,116]⟩) at c0;have gBO:=QH trivial;exact ydB
theorem ze6 (w:World) (hV:CkVars w) (xb:Nat) (h:Hd) (va:Value) (hb:w.heap[xb]? = some (.cells (hdC h va).toArray 175 (0,0))) (hop:h.op=oNumber) :
  Calls Tryz.prog 98 #[zh xb] w (zaG w (some { op:=oValue,t:=if 0 < h.scale then ⟨2,h.scale⟩ else tyInt,n:=h.n })):=by
 have c0:=za hb 0;have c4:=za hb 4;have c6:=za hb 5;change w.cell? _=some (.int .i64 h.scale) at c6;change w.cell? _=some (.string ⟨h.op.toArray⟩) at c0;rw [hop] at c0;change w.cell? _=some (.string ⟨#[110,117,109,98,101,114]⟩) at c0;have gBP:=QH trivial;exact ydB
end Go.Proofs.YtebljciefhfgbaaGreatDoor
