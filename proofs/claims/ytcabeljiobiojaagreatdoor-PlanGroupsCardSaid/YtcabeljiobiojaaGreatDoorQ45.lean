/-
  value.Compare and value.Order of two whole numbers, walked. No condition.
-/
import Derived.Test.YtcabeljiobiojaaGreatDoorQ44
set_option linter.unusedVariables false
set_option maxRecDepth 100000
set_option maxHeartbeats 8000000
namespace Go.Proofs.YtcabeljiobiojaaGreatDoor
open Go.RowKit
theorem yfx {p:Prop} (h:p:=by
  go_roundg (n - (i + 1))
  case measure => omega
  case rel => exact ⟨i + 1,by omega,by go_num,by go_num,HF.out⟩
 ):p:=h
theorem div64 {x:Nat} (h:x ≤ 9223372036854775808):x * 1000000000 / 18446744073709551616 < 18446744073709551616:=by omega
theorem mod64 (x:Nat):x % 18446744073709551616 < 18446744073709551616:=by omega
theorem lt64 {x:Nat} (h:x ≤ 9223372036854775808):x < 18446744073709551616:=by omega
theorem abs63 {a:Int} (h0 : -9223372036854775808 ≤ a) (h1:a ≤ 9223372036854775807):a.natAbs ≤ 9223372036854775808:=by omega
theorem zqS (a b:Int) (a0 : -9223372036854775808 ≤ a) (a1:a ≤ 9223372036854775807) (b0 : -9223372036854775808 ≤ b) (b1:b ≤ 9223372036854775807):∃ (sa sb ma mb:Bool) (nva nvb qa qb xa xb:Nat),
  (∀ W,Calls Tryz.prog 111 #[.int .i64 a] W fun e w' => e = .returned (zpn sa 0 nva) ∧ Mods [] W w') ∧ (∀ W,Calls Tryz.prog 111 #[.int .i64 b] W fun e w' => e = .returned (zpn sb 0 nvb) ∧ Mods [] W w') ∧
  (∀ W,Calls Tryz.prog 112 #[zpn sa 0 nva,.int .i64 1000000000] W fun e w' => e = .returned (zpn ma qa xa) ∧ Mods [] W w') ∧ (∀ W,Calls Tryz.prog 112 #[zpn sb 0 nvb,.int .i64 1000000000] W fun e w' => e = .returned (zpn mb qb xb) ∧ Mods [] W w') ∧
  (∀ W,Calls Tryz.prog 114 #[zpn ma qa xa,zpn mb qb xb] W fun e w' => e = .returned (.int .i64 (cmpI a b)) ∧ Mods [] W w'):=by
 have hw:=zrj a b _ _ rfl rfl;have ha:=abs63 a0 a1;have hb:=abs63 b0 b1;refine ⟨_,_,_,_,_,_,_,_,_,_,fun W => zpI a a0 a1 W,fun W => zpI b b0 b1 W,fun W => zp2 _ 0 _ (lt64 ha) 1000000000 AD AD W,fun W => zp2 _ 0 _ (lt64 hb) 1000000000 AD AD W,fun W => ?_⟩;rw [← hw];exact zp3 _ _ _ _ _ _ (div64 ha) (mod64 _) (div64 hb) (mod64 _) W
def intV (n:Int):V:=⟨false,n,⟨#[]⟩⟩
theorem zp9 (a b:Int) (a0 : -9223372036854775808 ≤ a) (a1:a ≤ 9223372036854775807) (b0 : -9223372036854775808 ≤ b) (b1:b ≤ 9223372036854775807) (w:World) :
  Calls Tryz.prog 80 #[valA (intV a),valA (intV b),tyA tyInt,tyA tyInt] w fun e w' => e = .returned (.tuple #[.int .i64 (cmpI a b),.bool true]) ∧ Mods [] w w':=by
 obtain ⟨sa,sb,ma,mb,nva,nvb,qa,qb,xa,xb,K1,K2,K4,K5,K6⟩:=zqS a b a0 a1 b0 b1;obtain ⟨R,hR⟩:=EX (cmpI a b);rw [hR] at K6 ⊢;clear hR;have f1:=fun W => ziS 1 0 false false a ⟨#[]⟩ AD W;have f2:=fun W => ziS 1 0 false false b ⟨#[]⟩ AD W;have hv1:zee 1 0 false false a ⟨#[]⟩ = true:=rfl;have hv2:zee 1 0 false false b ⟨#[]⟩ = true:=rfl;rw [hv1] at f1;rw [hv2] at f2;have hn:=fun W => ze4 tyInt (by simp [Ty.Right,tyInt]) W;have hnt:tyInt.num=true:=rfl;rw [hnt] at hn;change ∀ W,Calls _ _ #[.agg #[.int .i64 1,.int .i64 0]] W _ at hn;have HF:=QH (AI f1 (AI f2 hn));have HP:=QH (AI K1 (AI K2 (AI K4 (AI K5 K6))));clear f1 f2 hn hv1 hv2 hnt K1 K2 K4 K5 K6 a0 a1 b0 b1;unfold valA intV tyA tyInt;obtain ⟨w1,hw1⟩:=EX (w.alloc (.cells #[.bool false,.int .i64 a,.string ⟨#[]⟩] 35));obtain ⟨w2,hw2⟩:=EX (w1.alloc (.cells #[.bool false,.int .i64 b,.string ⟨#[]⟩] 35));obtain ⟨w3,hw3⟩:=EX (w2.alloc (.cells #[.int .i64 1,.int .i64 0] 59));obtain ⟨w4,hw4⟩:=EX (w3.alloc (.cells #[.int .i64 1,.int .i64 0] 59));have m1:Mods [] w w1:=hw1 ▸ (QM [] w).alloc _;have m2:Mods [] w1 w2:=hw2 ▸ (QM [] w1).alloc _;have m3:Mods [] w2 w3:=hw3 ▸ (QM [] w2).alloc _;have m4:Mods [] w3 w4:=hw4 ▸ (QM [] w3).alloc _;have h1:w1.heap[w.heap.size]? = _:=hw1 ▸ QN w _;have h2:w2.heap[w1.heap.size]? = _:=hw2 ▸ QN w1 _;have h3:w3.heap[w2.heap.size]? = _:=hw3 ▸ QN w2 _;have h4:w4.heap[w3.heap.size]? = _:=hw4 ▸ QN w3 _;replace h1:=((m2.trans m3).trans m4).heap h1;replace h2:=(m3.trans m4).heap h2;replace h3:=m4.heap h3;have s1:w1.heap.size=w.heap.size + 1:=hw1 ▸ zl w _;have s2:w2.heap.size=w1.heap.size + 1:=hw2 ▸ zl w1 _;have s3:w3.heap.size=w2.heap.size + 1:=hw3 ▸ zl w2 _;have hM4:=((m1.trans m2).trans m3).trans m4;have HB:=QH (AI h1 (AI h2 (AI h3 (AI h4 hM4))));have HS:=QH (AI s1 (AI s2 s3));clear m1 m2 m3 m4 h1 h2 h3 h4 s1 s2 s3 hM4;go_enter Tryz.func80, Tryz.ntmps80;go_upto_region 1 with fail;obtain ⟨h1,h2,h3,h4,hM4⟩:=HB.out;clear HB HS;generalize w.heap.size=pa at *;generalize w1.heap.size=pb at *;generalize w2.heap.size=pc at *;generalize w3.heap.size=pd at *;clear hw1 hw2 hw3 hw4;have q0:=za h1 0;have q1:=za h1 1;have q2:=za h1 2;have r0:=za h2 0;have r1:=za h2 1;have r2:=za h2 2;have t0:=za h3 0;have t1:=za h3 1;have u0:=za h4 0;have u1:=za h4 1;change w4.cell? _=some (.bool false) at q0;change w4.cell? _=some (.int .i64 a) at q1;change w4.cell? _=some (.string ⟨#[]⟩) at q2;change w4.cell? _=some (.bool false) at r0;change w4.cell? _=some (.int .i64 b) at r1;change w4.cell? _=some (.string ⟨#[]⟩) at r2;change w4.cell? _=some (.int .i64 1) at t0;change w4.cell? _=some (.int .i64 0) at t1;change w4.cell? _=some (.int .i64 1) at u0;change w4.cell? _=some (.int .i64 0) at u1;have k1:=HF.out.1 w4;go_wp2_with fail;(with_reducible refine k1.mono ?_);rintro e w5 ⟨rfl,hM5⟩;clear k1;replace q1:=hM5.cell q1;replace r0:=hM5.cell r0;replace r1:=hM5.cell r1;replace r2:=hM5.cell r2;replace t0:=hM5.cell t0;replace t1:=hM5.cell t1;replace u0:=hM5.cell u0;replace u1:=hM5.cell u1;have k2:=HF.out.2.1 w5;clear q0 q2;go_wp2_with fail;(with_reducible refine k2.mono ?_);rintro e w6 ⟨rfl,hM6⟩;clear k2 r0 r2;replace q1:=hM6.cell q1;replace r1:=hM6.cell r1;replace t0:=hM6.cell t0;replace t1:=hM6.cell t1;replace u0:=hM6.cell u0;replace u1:=hM6.cell u1;have k3:=HF.out.2.2 w6;go_wp2_with fail;(with_reducible refine k3.mono ?_);rintro e w7 ⟨rfl,hM7⟩;clear k3;replace q1:=hM7.cell q1;replace r1:=hM7.cell r1;replace t1:=hM7.cell t1;replace u0:=hM7.cell u0;replace u1:=hM7.cell u1;have k4:=HF.out.2.2 w7;clear t0;go_wp2_with fail;(with_reducible refine k4.mono ?_);rintro e w8 ⟨rfl,hM8⟩;clear k4 u0;replace q1:=hM8.cell q1;replace r1:=hM8.cell r1;replace t1:=hM8.cell t1;replace u1:=hM8.cell u1;have hMz:=(((hM4.trans hM5).trans hM6).trans hM7).trans hM8;have HZ:=QH hMz;clear hM4 hM5 hM6 hM7 hM8 hMz h1 h2 h3 h4;go_upto_region 4 with fail;have F1:∀ k:zay w8,k.val.cell? ⟨pa,1,none⟩ = some (.int .i64 a):=fun k => k.mods.cell q1;have F2:∀ k:zay w8,k.val.cell? ⟨pb,1,none⟩ = some (.int .i64 b):=fun k => k.mods.cell r1;have F3:∀ k:zay w8,k.val.cell? ⟨pc,1,none⟩ = some (.int .i64 0):=fun k => k.mods.cell t1;have F4:∀ k:zay w8,k.val.cell? ⟨pd,1,none⟩ = some (.int .i64 0):=fun k => k.mods.cell u1;obtain ⟨K1,K2,K4,K5,K6⟩:=HP.out;unfold zpn at K1 K2 K4 K5 K6;change ∀ W,Calls _ _ _ W fun e w' => e = .returned (.agg #[.bool sa,.int .u64 0,.int .u64 nva]) ∧ _ at K1;change ∀ W,Calls _ _ _ W fun e w' => e = .returned (.agg #[.bool sb,.int .u64 0,.int .u64 nvb]) ∧ _ at K2;change ∀ W,Calls _ _ #[.agg #[.bool sa,.int .u64 0,.int .u64 nva],_] W _ at K4;change ∀ W,Calls _ _ #[.agg #[.bool sb,.int .u64 0,.int .u64 nvb],_] W _ at K5;have L1:=QH (fun k:zay w8 => (K1 k.val).mono fun e w' h => (show e=_ ∧ ∃ k':zay w8,w'=k'.val from ⟨h.1,⟨w',k.mods.trans h.2⟩,rfl⟩));have L2:=QH (fun k:zay w8 => (K2 k.val).mono fun e w' h => (show e=_ ∧ ∃ k':zay w8,w'=k'.val from ⟨h.1,⟨w',k.mods.trans h.2⟩,rfl⟩));have L3:=QH (fun k:zay w8 => (zrh k.val).mono fun e w' h => (show e=_ ∧ ∃ k':zay w8,w'=k'.val from ⟨h.1,k,h.2⟩));have L4:=QH (fun k:zay w8 => (K4 k.val).mono fun e w' h => (show e=_ ∧ ∃ k':zay w8,w'=k'.val from ⟨h.1,⟨w',k.mods.trans h.2⟩,rfl⟩));have L5:=QH (fun k:zay w8 => (K5 k.val).mono fun e w' h => (show e=_ ∧ ∃ k':zay w8,w'=k'.val from ⟨h.1,⟨w',k.mods.trans h.2⟩,rfl⟩));have L6:=QH (fun k:zay w8 => (K6 k.val).mono fun e w' h => (show e=_ ∧ ∃ k':zay w8,w'=k'.val from ⟨h.1,⟨w',k.mods.trans h.2⟩,rfl⟩));clear K1 K2 K4 K5 K6 HF HP;refine zcK AC AC ?_;(repeat go_big_quiet_step (first | with_reducible exact L1.out _ | with_reducible exact L2.out _ | with_reducible exact L3.out _ | with_reducible exact L4.out _ | with_reducible exact L5.out _ | with_reducible exact L6.out _));refine QW ?_;rintro _ ⟨kk,rfl⟩;go_wp2_with fail;go_ret2;exact ⟨rfl,HZ.out.trans kk.mods⟩
theorem zsT (w:World) (rb nb gb:Nat) (h:NHd) (L:List Nat) (hN:NAt w L (zh nb) (.leaf h)) (hop:h.op=oAll) (ao:Option Addr) (n cap:Nat) (hg:w.cell? ⟨gb,0,none⟩ = some (.slice ao n cap)) :
  Calls Tryz.prog 44 #[zh rb,zh nb,zh gb] w fun e w' => e = .returned (valA (intV n)) ∧ Mods [] w w':=by
 obtain ⟨b,he,-,hb⟩:=hN;obtain rfl:nb=b:=by simpa [zh] using he
 have c0:=za hb 0;change w.cell? _=some (.string ⟨h.op.toArray⟩) at c0;rw [hop] at c0;change w.cell? _=some (.string ⟨#[99,111,117,110,116,97,108,108]⟩) at c0;have gGi:=QH trivial;exact yfM
def zr7 (mx:Bool) (o:Option Int) (x:Int):Option Int:=match o with
 | none => some x
 | some y => some (if cmpI x y=(if mx=true then 1 else -1) then x else y)
def mmI (mx:Bool) (l:List Int):Option Int:=l.foldl (zr7 mx) none
def outI:Option Int → V
 | none => ⟨true,0,⟨#[]⟩⟩
 | some x => intV x
theorem zr3 (mx:Bool) (l:List Int) (x:Int):mmI mx (l ++ [x])=zr7 mx (mmI mx l) x:=by simp [mmI,List.foldl_append]
theorem zsd (mx:Bool):∀ l:List Int,mmI mx l=none → l=[]:=by
 intro l h;rcases List.eq_nil_or_concat l with rfl | ⟨l,x,rfl⟩
 ·rfl
 ·rw [List.concat_eq_append,zr3] at h;unfold zr7 at h;split at h <;> cases h
theorem zsH (mx:Bool):∀ (l:List Int) (x:Int),mmI mx l=some x → x ∈ l:=by
 intro l;obtain ⟨n,hn⟩:=EX (l.length)
 induction n generalizing l with
 | zero => obtain rfl:=List.length_eq_zero_iff.1 hn; intro x h; cases h
 | succ n ih =>
  rcases List.eq_nil_or_concat l with rfl | ⟨q,y,rfl⟩
  ·cases hn
  ·rw [List.concat_eq_append] at *;have hq:q.length=n:=by simpa using hn
   intro x h;rw [zr3] at h;unfold zr7 at h;split at h
   ·cases h; simp
   ·next z hz =>
    by_cases hc:cmpI y z=(if mx=true then 1 else -1)
    ·rw [if_pos hc] at h; cases h; simp
    ·rw [if_neg hc] at h; rw [← Option.some.inj h]; exact List.mem_append_left _ (ih q hq z hz)
def keyI (k:Nat) (p:PR):Int:=(p.2.getD k zeroV0).n
def IntAt (k:Nat) (r:List V):Prop:=∃ x:Int,r.getD k zeroV0=intV x ∧ -9223372036854775808 ≤ x ∧ x ≤ 9223372036854775807
def opMM (mx:Bool):Bs:=if mx=true then oMax else oMin
def betterE:Array MapEntry:=#[⟨.string ⟨#[109,105,110]⟩,.int .i64 (-1),0⟩,⟨.string ⟨#[109,97,120]⟩,.int .i64 1,1⟩]
theorem zsA {w:World} {mb:Nat} (hb:w.heap[mb]? = some (.map betterE 2)) (mx:Bool):(Instr.lookup 188 (.map (some mb)) (.string ⟨(opMM mx).toArray⟩) true).run Tryz.prog w = .ok (.tuple #[.int .i64 (if mx=true then 1 else -1),.bool true]) w:=by
 cases mx
 ·exact zgh 188 9 3 .string Tryz.underlying188 Tryz.underlying9 w mb betterE 2 hb (.string ⟨#[109,105,110]⟩) (.int .i64 0) (fun w => by kernel_rfl) AG (some (0,.int .i64 (-1))) rfl
 ·exact zgh 188 9 3 .string Tryz.underlying188 Tryz.underlying9 w mb betterE 2 hb (.string ⟨#[109,97,120]⟩) (.int .i64 0) (fun w => by kernel_rfl) AG (some (1,.int .i64 1)) rfl
def zr2 (v:V):Array Value:=#[.bool v.z,.int .i64 v.n,.string v.s]
theorem zsB (mx:Bool) {l:Bs} (h1:¬ l=oMax) (h2:¬ l=oMin):¬ (⟨(opMM mx).toArray⟩ : ByteArray) = ⟨l.toArray⟩ ∧ ¬ (⟨(opMM mx).toArray⟩ : ByteArray).toList=l ∧ ((⟨(opMM mx).toArray⟩ : ByteArray).toList == l)=false:=by
 have h3:¬ (⟨(opMM mx).toArray⟩ : ByteArray).toList=l:=by
  rw [ByteArray.toList_eq];cases mx
  ·exact fun e => h2 e.symm
  ·exact fun e => h1 e.symm
 refine ⟨fun e => h3 (by rw [e,ByteArray.toList_eq]),h3,by rw [beq_eq_false_iff_ne]; exact h3⟩
structure MMI (w wr:World) (rb pb sb ob mb:Nat) (mx:Bool) (k:Nat) (g:List PR) (i:Nat):Prop where
 mods:Mods [rb] w wr
 run:RunAt wr rb pb
 res:wr.heap[sb]? = some (.cells (zr2 zeroV0) 35 (0,0))
 out:wr.heap[ob]? = some (.cells (zr2 (outI (mmI mx ((g.take i).map (keyI k))))) 35 (0,0))
 map:wr.heap[mb]? = some (.map betterE 2)
theorem zsY (w:World) (rb pb nb gb b cap n m k:Nat) (hR:RunAt w rb pb) (h h2:NHd) (hN:NAt w [rb] (zh nb) (.un h (.leaf h2))) (mx:Bool) (hop:h.op=opMM mx) (ht:h.t=tyInt) (hop2:h2.op=oColumn) (hk:h2.col=k) (hkm:k < m) (g:List PR) (hn:g.length=n) (hn1:n ≤ 1000)
  (hg:w.cell? ⟨gb,0,none⟩ = some (.slice (some ⟨b,0,none⟩) n cap)) (hcs:∀ j (hj:j < g.length),w.cell? ⟨b,j,none⟩ = some g[j].1) (hbr:b ≠ rb) (hgr:gb ≠ rb) (hF:∀ p ∈ g,(RowU w [rb] p.1 p.2 ∧ p.2.length=m) ∧ IntAt k p.2) :
  Calls Tryz.prog 44 #[zh rb,zh nb,zh gb] w fun e w' => e = .returned (valA (outI (mmI mx (g.map (keyI k))))) ∧ Mods [rb] w w' ∧ RunAt w' rb pb:=by
 obtain ⟨nb',ac,acap,au,he,hnr,har,hac,hb,hau,hA⟩:=hN;obtain rfl:nb=nb':=by simpa [zh] using he
 obtain ⟨ab,rfl,har2,hab⟩:=id hA;have c0:=za hb 0;have c1:=za hb 1;have c2:=za hb 2;have c7:=za hb 7;change w.cell? _=some (.string ⟨h.op.toArray⟩) at c0;change w.cell? _=some (.int .i64 (h.t.k:Nat)) at c1;change w.cell? _=some (.int .i64 (h.t.s:Nat)) at c2;change w.cell? _=some (.slice (some ⟨ac,0,none⟩) 1 acap) at c7;rw [ht] at c1 c2;change w.cell? _=some (.int .i64 1) at c1;change w.cell? _=some (.int .i64 0) at c2;rw [hop] at c0;obtain ⟨s1,s2,s3⟩:=zsB mx (l:=[99,111,117,110,116,97,108,108]) AD AD;obtain ⟨s4,s5,s6⟩:=zsB mx (l:=[115,117,109]) AD AD;obtain ⟨s7,s8,s9⟩:=zsB mx (l:=[99,111,117,110,116]) AD AD;have hlk:=fun (W:World) (mb:Nat) (hb:W.heap[mb]? = some (.map betterE 2)) => zsA hb mx;obtain ⟨S,hS⟩:=EX ((⟨(opMM mx).toArray⟩ : ByteArray):ByteArray);rw [hS] at c0 s1 s2 s3 s4 s5 s6 s7 s8 s9;simp only [hS] at hlk;have hrl:=zj hR;have hM1:=((QM [] w).alloc (.cells #[.bool false,.int .i64 0,.string ⟨#[]⟩] 35));have hs1:=QN w (.cells #[.bool false,.int .i64 0,.string ⟨#[]⟩] 35);have hM2:=(QM [] (w.alloc (.cells #[.bool false,.int .i64 0,.string ⟨#[]⟩] 35))).alloc (.cells #[.bool false,.int .i64 0,.string ⟨#[]⟩] 35);have ho1:=QN (w.alloc (.cells #[.bool false,.int .i64 0,.string ⟨#[]⟩] 35)) (.cells #[.bool false,.int .i64 0,.string ⟨#[]⟩] 35);rw [zl] at ho1;have hM3:=hM2.setRow (g:=w.heap.size + 1) (.inr (by rw [zl]; exact LR _)) #[.bool true,.int .i64 0,.string ⟨#[]⟩];have ho2:=zi #[.bool true,.int .i64 0,.string ⟨#[]⟩] ho1;have hs2:=hM3.heap hs1;have hMw:=hM1.trans hM3;have c0a:=hM1.cell c0;have HH:=QH (AI hR (AI hrl (AI hA (AI hn (AI hcs (AI hbr (AI hgr (AI hF (AI hop2 (AI hk (AI hkm (AI hlk (AI hnr (AI har hgr))))))))))))));have HB:=QH (AI c0 (AI c1 (AI c2 (AI c7 (AI hau hg)))));have HM:=QH (AI ho2 (AI hs2 hMw));obtain ⟨RR,hRR⟩:=EX (outI (mmI mx (g.map (keyI k))));rw [hRR];have HRR:=QH hRR;clear hR hrl hA hn hcs hbr hF hop2 hk hkm hlk hnr har hgr hM1 hs1 hM2 hM3 ho2 hs2 hMw hb hac he hRR hab har2 hop ht hS c1 c2 c7 hau hg;unfold zh at *;go_enter Tryz.func44, Tryz.ntmps44;go_upto_region 4 with (refine wpList_store_row rfl 35 (.tmp 7) (.tmp 29) rfl (w.heap.size + 1) #[.bool true,.int .i64 0,.string ⟨#[]⟩] rfl rfl 35 _ ho1 zpv rfl (zpW _ _ _) ?_);obtain ⟨ho2,hs2,hMw⟩:=HM.out;generalize (((w.alloc (.cells #[.bool false,.int .i64 0,.string ⟨#[]⟩] 35)).alloc (.cells #[.bool false,.int .i64 0,.string ⟨#[]⟩] 35)).setRow (w.heap.size + 1) #[.bool true,.int .i64 0,.string ⟨#[]⟩])=w2 at *;clear c0a HM;have hmm:=@run_makeMap Tryz.prog;have hu:=fun (w:World) (es:Array MapEntry) (c:Nat) (k:ByteArray) (v:Value) => zZ (P:= Tryz.prog) 188 9 3 .string Tryz.underlying188 Tryz.underlying9 w es c (.string k) v AG;have i1:=fun w => hu w #[] 0 ⟨#[109,105,110]⟩ (.int .i64 (-1)) rfl;have i2:=fun w => hu w #[⟨.string ⟨#[109,105,110]⟩,.int .i64 (-1),0⟩] 1 ⟨#[109,97,120]⟩ (.int .i64 1) rfl;simp at i1 i2;have hMm:=(QM [] w2).alloc (.map betterE 2);have hm3:=QN w2 (.map betterE 2);have ho3:=hMm.heap ho2;have hs3:=hMm.heap hs2;have hMw3:=hMw.trans hMm;have hg3:=hMw3.cell HB.out.2.2.2.2.2;have HM:=QH (AI hm3 (AI ho3 (AI hs3 hMw3)));clear hm3 ho3 hs3 hMw3 hMm ho2 hs2 hMw hu ho1;go_upto_region 5 with fail;clear i1 i2 hmm;obtain ⟨hm3,ho3,hs3,hMw3⟩:=HM.out;change Code.wp _ _ _ _ (w2.alloc (.map betterE 2));generalize w2.alloc (.map betterE 2)=w3 at *;generalize w2.heap.size=mb at *;obtain ⟨sb,hsb⟩:=EX (w.heap.size);obtain ⟨ob,hob⟩:=EX (sb + 1);rw [hsb] at hs3;rw [hsb,hob] at ho3;rw [hsb,hob];have hR3:RunAt w3 rb pb:=hMw3.heap HH.out.1;have hms:mb ≠ rb ∧ mb ≠ ob ∧ mb ≠ sb:=by
  have h1:=HH.out.2.1;refine ⟨fun e => ?_,fun e => ?_,fun e => ?_⟩
  ·rw [e,hR3] at hm3; cases hm3
  ·rw [e,ho3] at hm3; cases hm3
  ·rw [e,hs3] at hm3; cases hm3
 have hI0:MMI w w3 rb pb sb ob mb mx k g 0:=⟨hMw3.mono,hR3,hs3,ho3,hm3⟩;have HSB:=QH (AI hsb (AI hob hms));have HI0:=QH hI0;clear hm3 ho3 hs3 hMw3 hR3 hms hsb hob hI0 HM;go_wp2_with fail;go_loopg [8,37] n (fun gk t8 t37 wr => ∃ i:Nat,i + gk=n ∧ t37 = .int .i64 i ∧ t8 = .int .i64 i ∧ MMI w wr rb pb sb ob mb mx k g i)
 case atStart => exact ⟨0,by omega,rfl,rfl,HI0.out⟩
 clear hg3;obtain ⟨i,hin,rfl,rfl,hI⟩:=hrel;by_cases hlt:i < n
 ·obtain ⟨hR,hrl,hA,hn,hcs,hbr,hgr,hF,hop2,hk,hkm,hlk,hnr,har,-⟩:=HH.out;obtain ⟨c0,c1,c2,c7,hau,-⟩:=HB.out;have hil:i < g.length:=by omega
  have hMr:=hI.mods;have k0:=hMr.cell (hcs i hil) (by simpa using hbr);obtain ⟨⟨hu,hul⟩,x,hx,hx0,hx1⟩:=hF _ (List.getElem_mem hil);have htk:mmI mx ((g.take (i + 1)).map (keyI k))=zr7 mx (mmI mx ((g.take i).map (keyI k))) x:=by rw [List.take_succ_eq_append_getElem hil,List.map_append];refine (zr3 _ _ _).trans ?_;unfold keyI;rw [hx];rfl
  generalize g[i]=p at *;obtain ⟨u,r⟩:=p;obtain ⟨vo,cc,he,hcc,hV⟩:=hu;simp only at he hul hx hcc hV k0;subst he;rw [hul] at k0;replace c0:=hMr.cell c0 hnr;replace c1:=hMr.cell c1 hnr;replace c2:=hMr.cell c2 hnr;replace c7:=hMr.cell c7 hnr;replace hau:=hMr.cell hau har;have hxk:r[k]? = some (intV x):=by rw [getD_some (by omega:k < r.length),hx]
  have hE:∀ W,Mods [] wr W → Calls Tryz.prog 74 #[zh ab,.slice vo m cc] W (zto W (intV x)):=fun W hW =>
   zrd W h2 _ ((hA.mods (hMr.trans (hW.mono) (fun x hx => .inl hx))).weaken AB) hop2 vo cc r m hul ((hV.mods (hMr.trans (hW.mono) (fun x hx => .inl hx))).weaken AB) (by rw [hk]; exact hkm) k hk (intV x) hxk
  have hca:=zre wr rb pb hI.run _ _ (intV x) hE;unfold zh valA at hca;have hrs:=fun a a0 a1 => fun W => zp9 x a hx0 hx1 a0 a1 W;obtain ⟨O,hO⟩:=EX (mmI mx ((g.take i).map (keyI k)));have hOr:∀ y,O=some y → -9223372036854775808 ≤ y ∧ y ≤ 9223372036854775807:=fun y hy => by rw [hy] at hO;obtain ⟨q,hq,rfl⟩:=List.mem_map.1 (zsH mx _ y hO);obtain ⟨-,z,hz,h1,h2⟩:=hF q (List.mem_of_mem_take hq);unfold keyI;rw [hz];exact ⟨h1,h2⟩
  rw [hO] at htk;have hIo:=hI.out;rw [hO] at hIo;have HI:=QH (AI hI (AI hIo (AI htk (AI hlk (AI hrs (AI hOr (AI hnr har)))))));clear hR hrl hA hn hcs hbr hgr hF hop2 hk hkm hlk hnr har hil hMr hul hx hx0 hx1 htk hcc hV hxk hE hrs hO hOr hIo hI;go_wp2_with fail;(with_reducible refine hca.mono ?_);rintro e w4 ⟨rfl,hM4,hR4⟩;dsimp only [valA,intV];clear hca;have hba:=QN w4 (.cells #[.bool false,.int .i64 0,.string ⟨#[]⟩] 35);go_upto_region 9 with (refine wpList_store_row rfl 35 (.tmp 12) (.tmp 49) rfl w4.heap.size #[.bool false,.int .i64 x,.string ⟨#[]⟩] rfl rfl 35 _ hba zpv rfl (zpW _ _ _) ?_);obtain ⟨hI,hIo,htk,hlk,hrs,hOr,hnr,har⟩:=HI.out;obtain ⟨hsb,hob,hms,hmo,hmsb⟩:=HSB.out;have hrl:=HH.out.2.1;have hMz:Mods [] w4 ((w4.alloc (.cells #[.bool false,.int .i64 0,.string ⟨#[]⟩] 35)).setRow w4.heap.size #[.bool false,.int .i64 x,.string ⟨#[]⟩]):=((QM [] w4).alloc (.cells #[.bool false,.int .i64 0,.string ⟨#[]⟩] 35)).setRow (.inr (LR _)) _;have hxb:=zi #[.bool false,.int .i64 x,.string ⟨#[]⟩] hba;have hM5:=hM4.trans hMz;have hR5:=hR4.mods hMz AB;generalize (w4.alloc (.cells #[.bool false,.int .i64 0,.string ⟨#[]⟩] 35)).setRow w4.heap.size #[.bool false,.int .i64 x,.string ⟨#[]⟩]=w5 at *;generalize w4.heap.size=xb at *;have ho5:=hM5.heap hIo AE;have hs5:=hM5.heap hI.res AE;have hm5:=hM5.heap hI.map (by simpa using hms);have hMw5:=hI.mods.trans hM5 (fun y hy => .inl hy);have hl5:=hlk w5 mb hm5;obtain ⟨wn,hwn⟩:=EX ((if mx=true then 1 else -1):Int);rw [hwn] at hl5;have HWN:=QH hwn;clear hwn;have x0:=za hxb 0;have x1:=za hxb 1;have x2:=za hxb 2;have q1:=za hR5 1;have o0:=za ho5 0;have o1:=za ho5 1;have o2:=za ho5 2;change w5.cell? _=some (.bool false) at x0;change w5.cell? _=some (.int .i64 x) at x1;change w5.cell? _=some (.string ⟨#[]⟩) at x2;change w5.cell? _=some (.int .i64 0) at q1;change w5.cell? _=some (.bool (outI O).z) at o0;change w5.cell? _=some (.int .i64 (outI O).n) at o1;change w5.cell? _=some (.string (outI O).s) at o2;replace c0:=hM5.cell c0 hnr;replace c1:=hM5.cell c1 hnr;replace c2:=hM5.cell c2 hnr;have hobw:w.heap.size ≤ ob:=by omega
  have hput:∀ W v,Mods [] w5 W → outI (zr7 mx O x)=v → MMI w (W.setRow ob (zr2 v)) rb pb sb ob mb mx k g (i + 1):=fun W v hW hv => by have hMs:Mods [ob] W (W.setRow ob (zr2 v)):=(QM _ _).setRow (.inl AB) _;refine ⟨(hMw5.trans hW).setRow (.inr hobw) _,(hR5.mods hW AB).mods hMs AE,hMs.heap (hW.heap hs5) AE,?_,hMs.heap (hW.heap hm5) (by simpa using hmo)⟩;rw [htk,hv];exact zi (zr2 v) (hW.heap ho5)
  have hkeep:∀ W,Mods [] w5 W → zr7 mx O x=O → MMI w W rb pb sb ob mb mx k g (i + 1):=fun W hW hO =>
   ⟨hMw5.trans hW,hR5.mods hW AB,hW.heap hs5,by rw [htk,hO]; exact hW.heap ho5,hW.heap hm5⟩
  have HP:=QH (AI hput (AI hkeep (AI hrs (AI hOr (AI hobw ho5)))));clear hI hIo htk hlk hrs hOr hnr har hsb hob hms hmo hmsb hrl hMz hM5 hR5 hs5 hm5 hMw5 hput hkeep hobw hba hM4 hR4 k0 hxb hau c7 HI
  cases O with
  | none =>have HF:=QH (HP.out.1 w5 _ (QM _ _) rfl);simp only [outI] at o0;go_wp2_with (refine wpList_store_row rfl 35 (.tmp 7) (.tmp 73) rfl ob #[.bool false,.int .i64 x,.string ⟨#[]⟩] rfl rfl 35 _ ho5 zpv rfl (zpW _ _ _) ?_);exact yfx
  | some y =>
   simp only [outI,intV] at o0 o1 o2;obtain ⟨hput,hkeep,hrs,hOr,-⟩:=HP.out;obtain ⟨hy0,hy1⟩:=hOr y rfl;have hcm:∀ W,Calls Tryz.prog 80 #[.agg #[.bool false,.int .i64 x,.string ⟨#[]⟩],.agg #[.bool false,.int .i64 y,.string ⟨#[]⟩],.agg #[.int .i64 1,.int .i64 0],.agg #[.int .i64 1,.int .i64 0]] W fun e w' => e = .returned (.tuple #[.int .i64 (cmpI x y),.bool true]) ∧ Mods [] W w':=fun W => hrs y hy0 hy1 W;obtain ⟨C,hC⟩:=EX (cmpI x y);rw [hC] at hcm;have hst:zr7 mx (some y) x=some (if C=wn then x else y):=by rw [← HWN.out,← hC]; rfl
   have HQ:=QH (AI hput (AI hkeep hst));have HK:=QH (fun k:zay w5 => (hcm k.val).mono fun e w' h => (show e=_ ∧ ∃ k':zay w5,w'=k'.val from ⟨h.1,⟨w',k.mods.trans h.2⟩,rfl⟩));have F1:∀ k:zay w5,k.val.cell? ⟨xb,0,none⟩ = some (.bool false):=fun k => k.mods.cell x0;have F2:∀ k:zay w5,k.val.cell? ⟨xb,1,none⟩ = some (.int .i64 x):=fun k => k.mods.cell x1;have F3:∀ k:zay w5,k.val.cell? ⟨xb,2,none⟩ = some (.string ⟨#[]⟩):=fun k => k.mods.cell x2;have F4:∀ k:zay w5,k.val.cell? ⟨ob,0,none⟩ = some (.bool false):=fun k => k.mods.cell o0;have F5:∀ k:zay w5,k.val.cell? ⟨ob,1,none⟩ = some (.int .i64 y):=fun k => k.mods.cell o1;have F6:∀ k:zay w5,k.val.cell? ⟨ob,2,none⟩ = some (.string ⟨#[]⟩):=fun k => k.mods.cell o2;have F7:∀ k:zay w5,k.val.cell? ⟨nb,1,none⟩ = some (.int .i64 1):=fun k => k.mods.cell c1;have F8:∀ k:zay w5,k.val.cell? ⟨nb,2,none⟩ = some (.int .i64 0):=fun k => k.mods.cell c2;have HX:=QH (AI x0 (AI x1 x2));clear hput hkeep hrs hOr hy0 hy1 hcm hC hst;go_upto_region 20 with fail;clear x0 x1 x2 o0 o1 o2 c1 c2 c0 q1 hl5;have gF8:=QH trivial;exact yfJ
 ·obtain rfl:n=i:=by omega
  obtain ⟨c0,-⟩:=HB.out;replace c0:=hI.mods.cell c0 HH.out.2.2.2.2.2.2.2.2.2.2.2.2.1;have hO:=hI.out;rw [List.take_of_length_le (by have:=HH.out.2.2.2.1; omega),HRR.out] at hO;have hs:=hI.res;have o0:=za hO 0;have o1:=za hO 1;have o2:=za hO 2;change wr.cell? _=some (.bool RR.z) at o0;change wr.cell? _=some (.int .i64 RR.n) at o1;change wr.cell? _=some (.string RR.s) at o2;have h3:=zi #[.bool RR.z,.int .i64 RR.n,.string RR.s] hs;have hMs:Mods [sb] wr (wr.setRow sb #[.bool RR.z,.int .i64 RR.n,.string RR.s]):=(QM _ _).setRow (.inl AB) _;have hfin:=AI (hI.mods.setRow (.inr (by rw [HSB.out.1]; exact LR _)) #[.bool RR.z,.int .i64 RR.n,.string RR.s]) (hI.run.mods hMs (by have h1:=HSB.out.1; have h2:=HH.out.2.1; simp; omega));have HF:=QH hfin;clear hfin hMs hO hI;go_wp2_with (refine wpList_store_row rfl 35 (.tmp 6) (.tmp 128) rfl sb #[.bool RR.z,.int .i64 RR.n,.string RR.s] rfl rfl 35 _ hs zpv rfl (zpW _ _ _) ?_);have e0:=za h3 0;have e1:=za h3 1;have e2:=za h3 2;change World.cell? _ _=some (.bool RR.z) at e0;change World.cell? _ _=some (.int .i64 RR.n) at e1;change World.cell? _ _=some (.string RR.s) at e2;refine bodyPost_ret BG rfl ?_;exact ⟨rfl,HF.out⟩
def zpk (C:Nat → Int × ByteArray × Bool) (n:Nat):List (List V):=(List.range n).map (rowI C)
theorem zpi (C:Nat → Int × ByteArray × Bool) (n:Nat):(zpk C n).length=n:=by simp [zpk]
theorem zqr (C:Nat → Int × ByteArray × Bool) (n:Nat):zpk C (n + 1)=zpk C n ++ [rowI C n]:=by simp [zpk,List.range_succ]
def rowsN (n most:Nat):Nat:=if n / 4 ≤ most then n / 4 else most
def zpK (C:Nat → Int × ByteArray × Bool) (i k:Nat):List V:=(List.range k).map (rowVal C i)
theorem zqs (C:Nat → Int × ByteArray × Bool) (i k:Nat):zpK C i (k + 1)=zpK C i k ++ [rowVal C i k]:=by simp [zpK,List.range_succ]
theorem zpg (C:Nat → Int × ByteArray × Bool) (i k:Nat):(zpK C i k).length=k:=by simp [zpK]
theorem lawrows15 (w:World) (name:ByteArray) (g:Nat) (hg:w.heap[g]? = some (.cells colsT 61 (0,0))) (lao:Option Addr) (n cl:Nat) (hn:n ≤ 9223372036854775807) (C:Nat → Int × ByteArray × Bool) (hC:CellsIn w lao n C) (most:Nat) (hmost:most ≤ 1000) :
  Calls Tryz.prog 6 #[.agg #[.string name,.slice (some ⟨g,0,none⟩) 4 4],.slice lao n cl,.int .i64 most] w fun e w' => ∃ t,e = .returned t ∧ RowsOn w w' t (zpk C (rowsN n most)):=by
 obtain ⟨i0,hi,hz0,hz1,hz2⟩:=info_parts (show (Tryz.prog.info? 37).map (fun i => (i.zero,i.size,i.bytes))=some (some (.slice none 0 0),1,24) by kernel_rfl);obtain ⟨i1,hi',hy0,hy1,hy2⟩:=info_parts (show (Tryz.prog.info? 35).map (fun i => (i.zero,i.size,i.bytes))=some (some (.agg #[.bool false,.int .i64 0,.string ⟨#[]⟩]),3,32) by kernel_rfl);have hMA:=(QM [] w).alloc (.cells #[.string name,.slice (some ⟨g,0,none⟩) 4 4] 28);have hb:=QN w (.cells #[.string name,.slice (some ⟨g,0,none⟩) 4 4] 28);obtain ⟨R,hR⟩:=EX (rowsN n most);have hR1:R ≤ n / 4 ∧ R ≤ most ∧ (R=n / 4 ∨ R=most):=by rw [← hR]; unfold rowsN; split <;> omega
 rw [hR];clear hR;go_enter Tryz.func6, Tryz.ntmps6;go_wp2_with fail;generalize hwa:w.alloc (.cells #[.string name,.slice (some ⟨g,0,none⟩) 4 4] 28)=wa at *;have hbx:wa.heap.size=w.heap.size + 1:=by rw [← hwa]; exact zl _ _
 have hst:RowsOn wa wa (.slice none 0 0) (zpk C 0):=⟨QM _ _,RowsC.start wa⟩;clear hwa;generalize w.heap.size=bx at *;have HBX:=QH hbx;clear hbx;go_loopw [7,8] (fun t7 t8 wr => ∃ q:Nat,q ≤ R ∧ t8 = .int .i64 ((4 * q:Nat):Int) ∧ RowsOn wa wr t7 (zpk C q)) (fun _ t8 _ => 4 * R - (intOf t8).toNat)
 case atStart => exact ⟨0,by omega,rfl,hst⟩
 case round =>
  clear hst;obtain ⟨q,hq,rfl,hRO⟩:=hrel;have hMw:=hRO.1;obtain ⟨ao,cap,rfl⟩:=hRO.val;rw [zpi] at hRO ⊢;have hbr:=hMw.heap hb;have b1:wr.cell? ⟨bx,1,none⟩ = some (.slice (some ⟨g,0,none⟩) 4 4):=(za hbr 1).trans rfl;have e4:((4 * q:Nat):Int)=4 * (q:Int):=by omega
  rw [e4];by_cases hqR:q < R
  ·have c1:4 * (q:Int) + 4 ≤ (n:Int):=by omega
   have c2:(q:Int) < (most:Int):=by omega
   have HRO:=QH hRO;clear hRO hbr;go_wp2_with fail;obtain ⟨wo,hwo⟩ : ∃ wo:World,wo=wr:=⟨_,rfl⟩;have hvs:ValsOwn wr wr (.slice none 0 0) (zpK C q 0):=ValsOwn.start wr;rw [← hwo] at hvs HRO hMw b1;obtain ⟨lb,lo,rfl,hCc⟩:=hC AA;have hMo:Mods [] w wo:=hMA.trans HRO.out.1;have hgo:=hMo.heap hg;have hCo:=fun i hi => hCc i hi;have hCl:=fun i hi => (hCc i hi).1.1;clear hC hg;go_loopw [9,10] (fun t9 t10 wx => ∃ k:Nat,k ≤ 4 ∧ t10 = .int .i64 k ∧ ValsOwn wo wx t9 (zpK C q k)) (fun _ t10 _ => 4 - (intOf t10).toNat)
   case atStart => rw [← hwo]; exact ⟨0,by omega,rfl,hvs⟩
   case round =>
    clear hvs hwo;obtain ⟨k,hk,rfl,hVO⟩:=hrel;have b2:=hVO.1.cell b1;by_cases hk4:k < 4
    ·obtain ⟨P,hP⟩:=EX (4 * q + k);have hPi:4 * (q:Int) + (k:Int)=(P:Int):=by omega
     have hPn:P < n:=by omega
     obtain ⟨⟨x0,x1,x2⟩,hxn,hxs⟩:=hCo P hPn;have hMx:=hMo.trans hVO.1;have x0:=hMx.cell x0;have x1:=hMx.cell x1;have x2:=hMx.cell x2;obtain ⟨k0,k1,k2,k3⟩:=zry k hk4;have hgx:=hVO.1.heap hgo;have y0:=(za hgx (k * 4)).trans k0;have y1:=(za hgx (k * 4 + 1)).trans k1;have y2:=(za hgx (k * 4 + 2)).trans k2;have y3:=(za hgx (k * 4 + 3)).trans k3;have hval:=fun w' => value15 w' (colName k) (colKind k) (colScale k) (colNull k) (C P).1 hxn (C P).2.1 hxs (C P).2.2;have hrv:rowVal C q k=cellV (colKind k) (colNull k) (C P).1 (C P).2.1 (C P).2.2:=by unfold rowVal; rw [hP]
     have hki:(0:Int) ≤ (k:Int) ∧ (k:Int) < 4:=by omega
     have hpi:(0:Int) ≤ (P:Int) ∧ (P:Int) < (n:Int):=by omega
     have hpt:(P:Int).toNat=P:=by omega
     have hkt:(k:Int).toNat=k:=by omega
     have hPw:IntKind.i64.wrap (P:Int)=(P:Int):=by rw [IntKind.wrap_i64]; omega
     have HRV:=QH hrv;have HP:=QH hP;have HV:=QH hVO;generalize cellV (colKind k) (colNull k) (C P).1 (C P).2.1 (C P).2.2=cv at *;generalize colName k=cname at *;generalize colKind k=ckind at *;generalize colScale k=csc at *;generalize colNull k=cnl at *;generalize (C P).1=xn at *;generalize (C P).2.1=xs at *;generalize (C P).2.2=xz at *;clear hrv hP hVO hgx k0 k1 k2 k3 hCo hCc;have hvd:=hval wr.drew;obtain ⟨-,q2,q5⟩:=HV.out;obtain ⟨vn,hvn⟩:=EX (zph (zpK C q k));rw [hvn,zpg] at q2;have HVN:=QH hvn;have lo_x:bx < wo.heap.size:=zD b1;have lo_g:g < wo.heap.size:=zj hgo;have lo_l:lb < wo.heap.size:=by have:lb < w.heap.size:=zD (hCl P hPn);have:=hMo.size;omega
     generalize u9=t9 at *;have nx:bx ∉ t9.ownBlock.toList:=fun hm => by have:=q5 bx AH; omega
     have ng:g ∉ t9.ownBlock.toList:=fun hm => by have:=q5 g AH; omega
     have nl:lb ∉ t9.ownBlock.toList:=fun hm => by have:=q5 lb AH; omega
     clear hval hvn q5 lo_x lo_g lo_l;go_wp2_with fail
     go_region_held3 (fun w' => w'.cell? ⟨bx,1,none⟩ = some (.slice (some ⟨g,0,none⟩) 4 4) ∧ w'.cell? ⟨g,k * 4,none⟩ = some (.string cname) ∧ w'.cell? ⟨g,k * 4 + 1,none⟩ = some (.int .i64 ckind) ∧ w'.cell? ⟨g,k * 4 + 2,none⟩ = some (.int .i64 csc) ∧ w'.cell? ⟨g,k * 4 + 3,none⟩ = some (.bool cnl) ∧ w'.cell? ⟨lb,lo + P * 3,none⟩ = some (.int .i64 xn) ∧ w'.cell? ⟨lb,lo + P * 3 + 1,none⟩ = some (.string xs) ∧ w'.cell? ⟨lb,lo + P * 3 + 2,none⟩ = some (.bool xz) ∧ Mods t9.ownBlock.toList wr w')
      (((with_reducible refine keep8 b2 y0 y1 y2 y3 x0 x1 x2 nx ng ng ng ng nl nl nl ?_); first | assumption | exact (QM _ _).drew | ((with_reducible refine Mods.alloc ?_ _); first | assumption | exact QM _ _)))
      (first | (go_at_call 13; (with_reducible refine hvd.mono ?_); rintro e w3 ⟨rfl,hM3⟩; have q3:=zm q2 (((QM [] wr).drew).trans hM3) AB; have hK3:Mods t9.ownBlock.toList wr w3:=(((QM [] wr).drew).trans hM3).mono) | ((refine zro rfl (.tmp 37) (.tmp 50) 37 rfl 35 i1 _ 3 32 Tryz.underlying37 hi' hy0 hy1 hy2 rfl AD t9 k vn (by rfl) (q3.alloc _) ⟨w3.heap.size,0,none⟩ 1 1 [.bool cv.z,.int .i64 cv.n,.string cv.s] (by rfl) rfl (zqk _ _ _ _ _) (zqV _ _ _) AD BP AA ?_); intro g9 cap9 w7 hown7 hM7 hg7; have hK7:Mods t9.ownBlock.toList wr w7:=(hK3.alloc _).trans hM7 (fun x hx => .inl hx)))
     have hrel:ValsOwn wo w7 (.slice (some ⟨g9,0,none⟩) (k + 1) cap9) (zpK C q (k + 1)):=by have hMA:=(QM [] w3).alloc (.cells #[.bool cv.z,.int .i64 cv.n,.string cv.s] 35);have hV3:=HV.out.quiet ((((QM [] wr).drew).trans hM3).trans hMA);have:=hV3.push (v:=cv) (w':=w7) (g:=g9) (cap:=cap9) (by rw [zpg,HVN.out]; exact hown7) hM7 hg7;rw [zpg] at this;rw [zqs,HRV.out];exact this
     clear hown7 hM7 hg7 q2 q3 hK3 hK7 hvd hM3;go_wp2_with fail;go_roundw
     case measure => simp [intOf]; omega
     case rel => exact ⟨k + 1,by omega,by go_num,hrel⟩
    ·obtain rfl:k=4:=by omega
     have hrow4:zpK C q 4=rowI C q:=rfl;generalize u9=t9 at *;obtain ⟨v0,v1,v2⟩:=hVO;obtain ⟨vg,vc,rfl⟩ : ∃ vg vc,t9 = .slice (some ⟨vg,0,none⟩) 4 vc:=by
      rcases v1.2 with ⟨hv,hl⟩ | ⟨g',cap',cur,hv,-⟩
      ·rw [zpg] at hl; cases hl
      ·rw [zpg] at hv; exact ⟨_,_,hv⟩
     rw [zpg] at v1;have v3:=v2 vg rfl;have v4:=(zar v1).2.1;have hRr:=HRO.out.quiet v0;have hMA:=(QM [] wr).alloc (.cells #[.slice (some ⟨vg,0,none⟩) 4 vc] 37);have hRA:=hRr.quiet hMA;obtain ⟨css,hrow,hall⟩:=hRA.2.row;have hlt7:∀ x,(Value.slice ao q cap).ownBlock=some x → x < wo.heap.size:=fun x hx => by obtain ⟨css',hrow',-⟩:=HRO.out.2.row;exact (hrow'.lt x hx).2
     have hwa:wa.heap.size ≤ wo.heap.size:=HRO.out.1.size;have hr:∀ L:List Nat,(∀ x ∈ L,x < wa.heap.size ∨ (Value.slice ao q cap).ownBlock=some x) → RowR (wr.alloc (.cells #[.slice (some ⟨vg,0,none⟩) 4 vc] 37)) L [.slice (some ⟨vg,0,none⟩) 4 vc] (rowI C q):=fun L hL =>
      ⟨some ⟨vg,0,none⟩,vc,by rw [← hrow4,zpg],by rw [← hrow4,zpg]; exact v4,(zqe (zpg C q 4) v1 (fun hx => by
       rcases hL vg hx with h | h
       ·omega
       ·have:=hlt7 vg h
        omega)).mods (hMA.mono)⟩
     have hlit:=zdy wr #[.slice (some ⟨vg,0,none⟩) 4 vc] 37;rw [zpi] at hrow;have HW:=QH (AI hRA (AI hrow (AI hall (AI hr (AI hlit (hMw.trans (v0.trans hMA AB)))))));clear hRr hRA hMA hrow hall hlt7 hr hlit v1 v2 v3 v4 hCc hCo hCl hrow4;go_wp2_with (at_builtin; refine zw _ rfl _ _ 24 rfl 37 i0 (.slice none 0 0) 1 24 Tryz.underlying24 hi hz0 hz1 hz2 rfl AD (.slice ao q cap) q css.flatten rfl HW.out.2.1 ⟨wr.heap.size,0,none⟩ 1 1 [.slice (some ⟨vg,0,none⟩) 4 vc] rfl rfl HW.out.2.2.2.2.1 ?c2 AD ?c3 ?c4 ?_)
     case c2 => first | rfl | (intro u hu; simp at hu; subst hu; rfl)
     case c3 => unfold maxLen; omega
     case c4 => omega
     intro g9 cap9 w7 hown7 hM7 hg7;have hrel:RowsOn wa w7 (.slice (some ⟨g9,0,none⟩) (q + 1) cap9) (zpk C (q + 1)):=by have:=HW.out.1.2.push (by rw [zpi]; exact HW.out.2.1) HW.out.2.2.1 HW.out.2.2.2.1 (zpi _ _) hown7 hM7 (by rw [zl]; exact hg7);rw [zqr];exact ⟨HW.out.1.1.trans hM7 (fun x hx => .inr (HW.out.1.2.own x AJ)),this⟩
     have hb7:w7.cell? ⟨bx,1,none⟩ = some (.slice (some ⟨g,0,none⟩) 4 4):=hM7.cell (((QM [] wr).alloc _).cell b2) (fun hm => by
      have h1:=HRO.out.2.own bx AH;have h2:=HBX.out
      omega)
     clear hown7 hM7 hg7;go_wp2_with fail;go_roundw
     case measure => simp [intOf]; omega
     case rel => exact ⟨q + 1,by omega,by go_num,hrel⟩
  ·obtain rfl:R=q:=by omega
   have hno:¬ (4 * (R:Int) + 4 ≤ (n:Int)) ∨ ¬ ((R:Int) < (most:Int)):=by omega
   have fin:=hRO.base hMA;clear hRO hbr;by_cases hc:4 * (R:Int) + 4 ≤ (n:Int)
   ·have hc2:¬ ((R:Int) < (most:Int)):=by omega
    go_wp2_with fail;go_ret;exact ⟨_,rfl,fin⟩
   ·go_wp2_with fail;go_ret;exact ⟨_,rfl,fin⟩
end Go.Proofs.YtcabeljiobiojaaGreatDoor
