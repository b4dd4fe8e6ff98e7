/-
  law15.answer, walked, of a text that is a query of one table without a condition. No condition but that Go's own variables hold what they were laid with.
-/
import Derived.Test.YtebljciefhfgbaaGreatDoorQ44
import Derived.Laws.StructEq
set_option linter.unusedVariables false
set_option maxRecDepth 100000
set_option maxHeartbeats 4000000
namespace Go.Proofs.YtebljciefhfgbaaGreatDoor
open Go.RowKit
theorem ycF {p:Prop} (h:p:=by
  go_wp2_with fail;go_returns;exact ⟨rfl,(((QM [] w).alloc _).alloc _).alloc _⟩
 ):p:=h
theorem yaz {p:Prop} (h:p:=by
  go_enter Tryz.func15, Tryz.ntmps15
  cases z with
  | false =>exact ycF
  | true =>
   cases cn with
   | false =>exact ycF
   | true => exact absurd ⟨rfl,rfl⟩ hzc
 ):p:=h
structure OneT (c:CQ):Prop where
 left:c.left=0
 right:c.right=none
 on:c.on=none
 whr:c.whr=none
def AnsRes (w:World) (rs:List (List V)) (e:Ending) (w':World):Prop:=
 ∃ ao cap,e = .returned (.tuple #[.slice ao rs.length cap,.bool true]) ∧ rs.length ≤ cap ∧ Mods [] w w' ∧ ∀ L:List Nat,(∀ x ∈ L,x < w.heap.size) → RowsIn w' ao rs L
theorem answer15 (w:World) (hT:Tabs3 w) (l:Bs) (hl:l.length ≤ 1000) (c:CQ) (hc:zaI l=some (.ok c)) (h1:OneT c)
  (ao:Option Addr) (cap:Nat) (rs:List (List V)) (n:Nat) (hn:rs.length=n) (hI:RowsIn w ao rs []) (hF:zpp rs) (rs2:List (List V)) (n2:Nat) (hn2:rs2.length=n2) (hn19:n2 ≤ 19)
  (hit:∀ (W:World) (rb pb cb:Nat) (bo:Option Addr) (bc:Nat),RunQ W rb pb cb c → RowsIn W bo rs [rb] → Calls Tryz.prog 23 #[zh rb,.slice bo n bc] W (ItemsP W rb pb rs2))
  (ord:List V → List V → Int) (hcmp:∀ (W:World) (rb pb cb:Nat),RunQ W rb pb cb c → ∀ va,∀ ra ∈ rs2,∀ vb,∀ rc ∈ rs2,RowR W [] [va] ra → RowR W [] [vb] rc → Calls Tryz.prog 25 #[zh rb,va,vb] W fun e w' => e = .returned (.int .i64 (ord ra rc)) ∧ Mods [] W w')
  (lim off:Int) (hlim:c.limit=lim) (hoff:c.offset=off) (hl0 : -1 ≤ lim) (hl1:lim ≤ 9) (ho0 : -1 ≤ off) (ho1:off ≤ 9) (v2:Value) :
  Calls Tryz.prog 8 #[.string ⟨l.toArray⟩,.slice ao n cap,v2] w (AnsRes w (winR lim off (insL ord [] (n2 - 1) rs2))):=by
 have hq:=query15 w hT l hl c hc;obtain ⟨S,hS⟩:=EX ((⟨l.toArray⟩ : ByteArray):ByteArray);rw [hS] at hq ⊢;obtain ⟨PP,hPP⟩:=EX (AnsRes w (winR lim off (insL ord [] (n2 - 1) rs2)));rw [hPP];have HP:=QH hPP;have HT:=QH hT;have HX:=QH (AI h1 (AI hit (AI hcmp (AI hI hF))));clear hT hc hS hl hPP h1 hit hcmp hI hF;go_enter Tryz.func8, Tryz.ntmps8;have gBq:=QH trivial;exact yds
def cellV (k:Int) (cn:Bool) (n:Int) (s:ByteArray) (z:Bool):V:=
 if z=true ∧ cn=true then ⟨true,0,⟨#[]⟩⟩
 else if k=3 then ⟨false,0,s.extract 0 (if s.size ≤ 20 then s.size else 20)⟩
 else if k=4 then ⟨false,n % 2,⟨#[]⟩⟩
 else ⟨false,n,⟨#[]⟩⟩
theorem zrn (n:Int):bits .and .i64 n 1=n % 2:=by
 have h1:(BitVec.ofInt 64 1).toNat=2 ^ 1 - 1:=by decide
 have key:(BitVec.ofInt 64 n &&& BitVec.ofInt 64 1).toNat=(n % ((2 ^ 64:Nat):Int)).toNat % 2 ^ 1:=by rw [BitVec.toNat_and,BitVec.toNat_ofInt,h1,Nat.and_two_pow_sub_one_eq_mod]
 show IntKind.i64.wrap ((BitVec.ofInt 64 n &&& BitVec.ofInt 64 1).toNat:Nat)=n % 2;rw [key,IntKind.wrap_i64];omega
def VPost (w:World) (v:V) (e:Ending) (w':World):Prop:=e = .returned (.agg #[.bool v.z,.int .i64 v.n,.string v.s]) ∧ Mods [] w w'
theorem value15 (w:World) (name:ByteArray) (k sc:Int) (cn:Bool) (n:Int) (hn : -9223372036854775808 ≤ n ∧ n ≤ 9223372036854775807) (s:ByteArray) (hs:s.size ≤ 9223372036854775807) (z:Bool) :
  Calls Tryz.prog 15 #[.agg #[.string name,.int .i64 k,.int .i64 sc,.bool cn],.agg #[.int .i64 n,.string s,.bool z]] w (VPost w (cellV k cn n s z)):=by
 obtain ⟨sz,hsz⟩:=EX (s.size);rw [hsz] at hs;obtain ⟨m,hm⟩ : ∃ m,m=if sz ≤ 20 then sz else 20:=⟨_,rfl⟩
 have hm1:m ≤ sz ∧ m ≤ 20:=by rw [hm]; split <;> omega
 have hmin:=fun w => znU (P:= Tryz.prog) w 3 3 3 .i64 sz 20 m (by rw [hm]; split <;> omega);have hcv:cellV k cn n s z=if z=true ∧ cn=true then ⟨true,0,⟨#[]⟩⟩ else if k=3 then ⟨false,0,s.extract 0 m⟩ else if k=4 then ⟨false,n % 2,⟨#[]⟩⟩ else ⟨false,n,⟨#[]⟩⟩:=by unfold cellV; rw [hsz,hm]
 have hbit:=zrn n;have HC:=QH hcv;have HM:=QH hm;clear hcv hm;generalize cellV k cn n s z=CV at *;by_cases hzc:z=true ∧ cn=true
 ·obtain ⟨rfl,rfl⟩:=hzc;have e:=HC.out;rw [if_pos ⟨rfl,rfl⟩] at e;subst e;clear HC;go_enter Tryz.func15, Tryz.ntmps15;exact ycF
 ·have e:=HC.out;rw [if_neg hzc] at e;by_cases h3:k=3
  ·subst h3;rw [if_pos rfl] at e;subst e;clear HC;exact yaz
  ·rw [if_neg h3] at e;by_cases h4:k=4
   ·subst h4;rw [if_pos rfl] at e;subst e;clear HC;exact yaz
   ·rw [if_neg h4] at e;subst e;clear HC hbit;exact yaz
def colsT:Array Value:=#[.string ⟨#[97]⟩,.int .i64 1,.int .i64 0,.bool false,.string ⟨#[98]⟩,.int .i64 2,.int .i64 2,.bool true,.string ⟨#[99]⟩,.int .i64 3,.int .i64 0,.bool true,.string ⟨#[100]⟩,.int .i64 4,.int .i64 0,.bool true]
def CellsIn (w:World) (ao:Option Addr) (n:Nat) (C:Nat → Int × ByteArray × Bool):Prop:=
 0 < n → ∃ b off,ao=some ⟨b,off,none⟩ ∧ ∀ i,i < n → (w.cell? ⟨b,off + i * 3,none⟩ = some (.int .i64 (C i).1) ∧ w.cell? ⟨b,off + i * 3 + 1,none⟩ = some (.string (C i).2.1) ∧ w.cell? ⟨b,off + i * 3 + 2,none⟩ = some (.bool (C i).2.2)) ∧ (-9223372036854775808 ≤ (C i).1 ∧ (C i).1 ≤ 9223372036854775807) ∧ (C i).2.1.size ≤ 9223372036854775807
def colName (k:Nat):ByteArray:=⟨#[UInt8.ofNat (97 + k)]⟩
def colKind (k:Nat):Int:=(k:Int) + 1
def colScale (k:Nat):Int:=if k=1 then 2 else 0
def colNull (k:Nat):Bool:=decide (k ≠ 0)
theorem zry (k:Nat) (hk:k < 4):colsT[k * 4]? = some (.string (colName k)) ∧ colsT[k * 4 + 1]? = some (.int .i64 (colKind k)) ∧ colsT[k * 4 + 2]? = some (.int .i64 (colScale k)) ∧ colsT[k * 4 + 3]? = some (.bool (colNull k)):=by
 have h:k=0 ∨ k=1 ∨ k=2 ∨ k=3:=by omega
 rcases h with rfl | rfl | rfl | rfl <;> exact ⟨rfl,rfl,rfl,rfl⟩
def rowVal (C:Nat → Int × ByteArray × Bool) (i k:Nat):V:=cellV (colKind k) (colNull k) (C (4 * i + k)).1 (C (4 * i + k)).2.1 (C (4 * i + k)).2.2
def rowI (C:Nat → Int × ByteArray × Bool) (i:Nat):List V:=(List.range 4).map (rowVal C i)
def zpk (C:Nat → Int × ByteArray × Bool) (n:Nat):List (List V):=(List.range n).map (rowI C)
theorem zpi (C:Nat → Int × ByteArray × Bool) (n:Nat):(zpk C n).length=n:=by simp [zpk]
theorem zqr (C:Nat → Int × ByteArray × Bool) (n:Nat):zpk C (n + 1)=zpk C n ++ [rowI C n]:=by simp [zpk,List.range_succ]
def rowsN (n most:Nat):Nat:=if n / 4 ≤ most then n / 4 else most
def zpK (C:Nat → Int × ByteArray × Bool) (i k:Nat):List V:=(List.range k).map (rowVal C i)
theorem zqs (C:Nat → Int × ByteArray × Bool) (i k:Nat):zpK C i (k + 1)=zpK C i k ++ [rowVal C i k]:=by simp [zpK,List.range_succ]
theorem zpg (C:Nat → Int × ByteArray × Bool) (i k:Nat):(zpK C i k).length=k:=by simp [zpK]
def ValsOwn (w wr:World) (t:Value) (vs:List V):Prop:=
 Mods [] w wr ∧ wr.ownsRow 0 37 3 t vs.length (zph vs) ∧ ∀ g,t.ownBlock=some g → w.heap.size ≤ g
theorem ValsOwn.start (w:World):ValsOwn w w (.slice none 0 0) []:=⟨QM _ _,World.ownsRow_nil _ _ _ _,fun g hg => by cases hg⟩
theorem ValsOwn.quiet {w wr w':World} {t:Value} {vs:List V} (h:ValsOwn w wr t vs) (hM:Mods [] wr w'):ValsOwn w w' t vs:=
 ⟨h.1.trans hM,zm h.2.1 hM AB,h.2.2⟩
theorem ValsOwn.push {w wr w':World} {t:Value} {vs:List V} (h:ValsOwn w wr t vs) {v:V} {g cap:Nat} (hown:w'.ownsRow 0 37 3 (.slice (some ⟨g,0,none⟩) (vs.length + 1) cap) (vs.length + 1) (zph vs ++ [.bool v.z,.int .i64 v.n,.string v.s]))
  (hM:Mods t.ownBlock.toList wr w') (hg:t.ownBlock=some g ∨ wr.heap.size ≤ g):ValsOwn w w' (.slice (some ⟨g,0,none⟩) (vs.length + 1) cap) (vs ++ [v]):=by
 obtain ⟨h1,-,h5⟩:=h;refine ⟨h1.trans hM (fun x hx => .inr (h5 x AJ)),?_,fun g' hg' => ?_⟩
 ·rw [zpH]; simpa using hown
 exact ycf
theorem zro {P:Program} {ops:Array Oper} {o:Oper} {a:Act} {w:World} {K:Act → World → Prop} {Q:Exit → Act → World → Prop} {E:Prop} (hgd:o.guard=none) (s x:Operand) (t:TypeId)
  (ho:o.op = .call { callee:=.builtin .append,args:=#[s,x],argTypes:=#[t,t] })
  (e:TypeId) (i:TypeInfo) (z:Value) (size bytes:Nat) (ht:P.underlying t=some (.slice e)) (hi:P.info? e=some i) (hz:i.zero=some z)
  (hsize:i.size=size) (hby:i.bytes=bytes) (hzs:z.cells.size=size) (hsz:0 < size)
  (v:Value) (n:Nat) (xs:List Value) (hs:a.eval s=v) (hown:w.ownsRow 0 e size v n xs)
  (ad:Addr) (m c:Nat) (news:List Value) (hx:a.eval x = .slice (some ad) m c) (hl:news.length=m * size) (hnews:∀ j u,news[j]? = some u → w.cell? (ad.add j)=some u) (h1:∀ u ∈ news,u.oneCell'=true)
  (hm:0 < m) (h63:n + m ≤ maxLen) (hbytes:(n + m) * bytes ≤ 140737488355328)
  (h:∀ g cap w',w'.ownsRow 0 e size (.slice (some ⟨g,0,none⟩) (n + m) cap) (n + m) (xs ++ news) → Mods v.ownBlock.toList w w' → (v.ownBlock=some g ∨ w.heap.size ≤ g) → K (a.put o.dst (.slice (some ⟨g,0,none⟩) (n + m) cap)) w') :
  if Region.wanted o (yielded ops a.tmps)=true then Oper.wp P o a w K Q else E:=
 step_append_lies w hgd s x t ho 0 e i z size bytes ht hi hz hsize hby hzs hsz v n xs hs hown ad m c news hx hl hnews h1 hm h63 hbytes (Nat.zero_le _) w.heap.size rfl
  (fun g cap w' h1 h2 h3 _ => h g cap w' h1 (Mods.of_grown h2) (h3.imp id (fun e => by omega)))
def RowsOn (w wr:World) (t:Value) (rs:List (List V)):Prop:=Mods [] w wr ∧ RowsC w wr t rs
theorem RowsOn.quiet {w wr w':World} {t:Value} {rs:List (List V)} (h:RowsOn w wr t rs) (hM:Mods [] wr w'):RowsOn w w' t rs:=⟨h.1.trans hM,h.2.later hM AB⟩
theorem RowsC.base {w wa wr:World} {t:Value} {rs:List (List V)} (h:RowsC wa wr t rs) (hs:w.heap.size ≤ wa.heap.size):RowsC w wr t rs:=
 ⟨Nat.le_trans hs h.size,⟨h.row.choose,h.row.choose_spec.1,fun L hL => h.row.choose_spec.2 L fun x hx => (hL x hx).imp (fun h => LL h hs) id⟩,fun g hg => Nat.le_trans hs (h.own g hg)⟩
theorem RowsOn.base {w wa wr:World} {t:Value} {rs:List (List V)} (h:RowsOn wa wr t rs) (hM:Mods [] w wa):RowsOn w wr t rs:=⟨hM.trans h.1,h.2.base hM.size⟩
theorem RowsOn.val {w wr:World} {t:Value} {rs:List (List V)} (h:RowsOn w wr t rs):∃ ao cap,t = .slice ao rs.length cap:=by
 obtain ⟨-,-,⟨css,hown,-⟩,-⟩:=h;rcases hown.2 with ⟨hv,hl⟩ | ⟨g',cap',cur,hv,-⟩
 ·exact ⟨none,0,by rw [hl]; exact hv⟩
 ·exact ⟨_,_,hv⟩
theorem zqV (z:Bool) (n:Int) (s:ByteArray):∀ u ∈ ([.bool z,.int .i64 n,.string s]:List Value),u.oneCell'=true:=by intro u hu; simp at hu; rcases hu with rfl | rfl | rfl <;> rfl
theorem keep8 {W w':World} {L:List Nat} {p0 p1 p2 p3 p4 p5 p6 p7:Addr} {x0 x1 x2 x3 x4 x5 x6 x7:Value} (h0:W.cell? p0=some x0) (h1:W.cell? p1=some x1) (h2:W.cell? p2=some x2) (h3:W.cell? p3=some x3) (h4:W.cell? p4=some x4) (h5:W.cell? p5=some x5) (h6:W.cell? p6=some x6) (h7:W.cell? p7=some x7)
  (k0:p0.block ∉ L) (k1:p1.block ∉ L) (k2:p2.block ∉ L) (k3:p3.block ∉ L) (k4:p4.block ∉ L) (k5:p5.block ∉ L) (k6:p6.block ∉ L) (k7:p7.block ∉ L) (h:Mods L W w') :
  w'.cell? p0=some x0 ∧ w'.cell? p1=some x1 ∧ w'.cell? p2=some x2 ∧ w'.cell? p3=some x3 ∧ w'.cell? p4=some x4 ∧ w'.cell? p5=some x5 ∧ w'.cell? p6=some x6 ∧ w'.cell? p7=some x7 ∧ Mods L W w':=
 ⟨h.cell h0 k0,h.cell h1 k1,h.cell h2 k2,h.cell h3 k3,h.cell h4 k4,h.cell h5 k5,h.cell h6 k6,h.cell h7 k7,h⟩
theorem lawrows15 (w:World) (name:ByteArray) (g:Nat) (hg:w.heap[g]? = some (.cells colsT 64 (0,0))) (lao:Option Addr) (n cl:Nat) (hn:n ≤ 9223372036854775807) (C:Nat → Int × ByteArray × Bool) (hC:CellsIn w lao n C) (most:Nat) (hmost:most ≤ 1000) :
  Calls Tryz.prog 6 #[.agg #[.string name,.slice (some ⟨g,0,none⟩) 4 4],.slice lao n cl,.int .i64 most] w fun e w' => ∃ t,e = .returned t ∧ RowsOn w w' t (zpk C (rowsN n most)):=by
 obtain ⟨i0,hi,hz0,hz1,hz2⟩:=info_parts (show (Tryz.prog.info? 39).map (fun i => (i.zero,i.size,i.bytes))=some (some (.slice none 0 0),1,24) by kernel_rfl);obtain ⟨i1,hi',hy0,hy1,hy2⟩:=info_parts (show (Tryz.prog.info? 37).map (fun i => (i.zero,i.size,i.bytes))=some (some (.agg #[.bool false,.int .i64 0,.string ⟨#[]⟩]),3,32) by kernel_rfl);have hMA:=(QM [] w).alloc (.cells #[.string name,.slice (some ⟨g,0,none⟩) 4 4] 28);have hb:=QN w (.cells #[.string name,.slice (some ⟨g,0,none⟩) 4 4] 28);obtain ⟨R,hR⟩:=EX (rowsN n most);have hR1:R ≤ n / 4 ∧ R ≤ most ∧ (R=n / 4 ∨ R=most):=by rw [← hR]; unfold rowsN; split <;> omega
 rw [hR];clear hR;go_enter Tryz.func6, Tryz.ntmps6;go_wp2_with fail;generalize hwa:w.alloc (.cells #[.string name,.slice (some ⟨g,0,none⟩) 4 4] 28)=wa at *;have hbx:wa.heap.size=w.heap.size + 1:=by rw [← hwa]; exact zl _ _
 have hst:RowsOn wa wa (.slice none 0 0) (zpk C 0):=⟨QM _ _,RowsC.start wa⟩;clear hwa;generalize w.heap.size=bx at *;have HBX:=QH hbx;clear hbx;go_loopw [7,8] (fun t7 t8 wr => ∃ q:Nat,q ≤ R ∧ t8 = .int .i64 ((4 * q:Nat):Int) ∧ RowsOn wa wr t7 (zpk C q)) (fun _ t8 _ => 4 * R - (intOf t8).toNat)
 case atStart => exact ⟨0,by omega,rfl,hst⟩
 case round =>
  clear hst;obtain ⟨q,hq,rfl,hRO⟩:=hrel;have hMw:=hRO.1;obtain ⟨ao,cap,rfl⟩:=hRO.val;rw [zpi] at hRO ⊢;have hbr:=hMw.heap hb;have b1:wr.cell? ⟨bx,1,none⟩ = some (.slice (some ⟨g,0,none⟩) 4 4):=(za hbr 1).trans rfl;have e4:((4 * q:Nat):Int)=4 * (q:Int):=by omega
  rw [e4];by_cases hqR:q < R
  ·have c1:4 * (q:Int) + 4 ≤ (n:Int):=by omega
   have c2:(q:Int) < (most:Int):=by omega
   have HRO:=QH hRO;clear hRO hbr;go_wp2_with fail;obtain ⟨wo,hwo⟩ : ∃ wo:World,wo=wr:=⟨_,rfl⟩;have hvs:ValsOwn wr wr (.slice none 0 0) (zpK C q 0):=ValsOwn.start wr;rw [← hwo] at hvs HRO hMw b1;obtain ⟨lb,lo,rfl,hCc⟩:=hC AA;have hMo:Mods [] w wo:=hMA.trans HRO.out.1;have hgo:=hMo.heap hg;have hCo:=fun i hi => hCc i hi;have hCl:=fun i hi => (hCc i hi).1.1;clear hC hg;go_loopw [9,10] (fun t9 t10 wx => ∃ k:Nat,k ≤ 4 ∧ t10 = .int .i64 k ∧ ValsOwn wo wx t9 (zpK C q k)) (fun _ t10 _ => 4 - (intOf t10).toNat)
   case atStart => rw [← hwo]; exact ⟨0,by omega,rfl,hvs⟩
   case round =>
    clear hvs hwo;obtain ⟨k,hk,rfl,hVO⟩:=hrel;have b2:=hVO.1.cell b1;by_cases hk4:k < 4
    ·obtain ⟨P,hP⟩:=EX (4 * q + k);have hPi:4 * (q:Int) + (k:Int)=(P:Int):=by omega
     have hPn:P < n:=by omega
     obtain ⟨⟨x0,x1,x2⟩,hxn,hxs⟩:=hCo P hPn;have hMx:=hMo.trans hVO.1;have x0:=hMx.cell x0;have x1:=hMx.cell x1;have x2:=hMx.cell x2;obtain ⟨k0,k1,k2,k3⟩:=zry k hk4;have hgx:=hVO.1.heap hgo;have y0:=(za hgx (k * 4)).trans k0;have y1:=(za hgx (k * 4 + 1)).trans k1;have y2:=(za hgx (k * 4 + 2)).trans k2;have y3:=(za hgx (k * 4 + 3)).trans k3;have hval:=fun w' => value15 w' (colName k) (colKind k) (colScale k) (colNull k) (C P).1 hxn (C P).2.1 hxs (C P).2.2;have hrv:rowVal C q k=cellV (colKind k) (colNull k) (C P).1 (C P).2.1 (C P).2.2:=by unfold rowVal; rw [hP]
     have hki:(0:Int) ≤ (k:Int) ∧ (k:Int) < 4:=by omega
     have hpi:(0:Int) ≤ (P:Int) ∧ (P:Int) < (n:Int):=by omega
     have hpt:(P:Int).toNat=P:=by omega
     have hkt:(k:Int).toNat=k:=by omega
     have hPw:IntKind.i64.wrap (P:Int)=(P:Int):=by rw [IntKind.wrap_i64]; omega
     have HRV:=QH hrv;have HP:=QH hP;have HV:=QH hVO;generalize cellV (colKind k) (colNull k) (C P).1 (C P).2.1 (C P).2.2=cv at *;generalize colName k=cname at *;generalize colKind k=ckind at *;generalize colScale k=csc at *;generalize colNull k=cnl at *;generalize (C P).1=xn at *;generalize (C P).2.1=xs at *;generalize (C P).2.2=xz at *;clear hrv hP hVO hgx k0 k1 k2 k3 hCo hCc;have hvd:=hval wr.drew;obtain ⟨-,q2,q5⟩:=HV.out;obtain ⟨vn,hvn⟩:=EX (zph (zpK C q k));rw [hvn,zpg] at q2;have HVN:=QH hvn;have lo_x:bx < wo.heap.size:=zD b1;have lo_g:g < wo.heap.size:=zj hgo;have lo_l:lb < wo.heap.size:=by have:lb < w.heap.size:=zD (hCl P hPn);have:=hMo.size;omega
     generalize u9=t9 at *;have nx:bx ∉ t9.ownBlock.toList:=fun hm => by have:=q5 bx AG; omega
     have ng:g ∉ t9.ownBlock.toList:=fun hm => by have:=q5 g AG; omega
     have nl:lb ∉ t9.ownBlock.toList:=fun hm => by have:=q5 lb AG; omega
     clear hval hvn q5 lo_x lo_g lo_l;go_wp2_with fail
     go_region_held3 (fun w' => w'.cell? ⟨bx,1,none⟩ = some (.slice (some ⟨g,0,none⟩) 4 4) ∧ w'.cell? ⟨g,k * 4,none⟩ = some (.string cname) ∧ w'.cell? ⟨g,k * 4 + 1,none⟩ = some (.int .i64 ckind) ∧ w'.cell? ⟨g,k * 4 + 2,none⟩ = some (.int .i64 csc) ∧ w'.cell? ⟨g,k * 4 + 3,none⟩ = some (.bool cnl) ∧ w'.cell? ⟨lb,lo + P * 3,none⟩ = some (.int .i64 xn) ∧ w'.cell? ⟨lb,lo + P * 3 + 1,none⟩ = some (.string xs) ∧ w'.cell? ⟨lb,lo + P * 3 + 2,none⟩ = some (.bool xz) ∧ Mods t9.ownBlock.toList wr w')
      (((with_reducible refine keep8 b2 y0 y1 y2 y3 x0 x1 x2 nx ng ng ng ng nl nl nl ?_); first | assumption | exact (QM _ _).drew | ((with_reducible refine Mods.alloc ?_ _); first | assumption | exact QM _ _)))
      (first | (go_at_call 15; (with_reducible refine hvd.mono ?_); rintro e w3 ⟨rfl,hM3⟩; have q3:=zm q2 (((QM [] wr).drew).trans hM3) AB; have hK3:Mods t9.ownBlock.toList wr w3:=(((QM [] wr).drew).trans hM3).mono) | ((refine zro rfl (.tmp 37) (.tmp 50) 39 rfl 37 i1 _ 3 32 Tryz.underlying39 hi' hy0 hy1 hy2 rfl AD t9 k vn (by rfl) (q3.alloc _) ⟨w3.heap.size,0,none⟩ 1 1 [.bool cv.z,.int .i64 cv.n,.string cv.s] (by rfl) rfl (zqk _ _ _ _ _) (zqV _ _ _) AD BP AA ?_); intro g9 cap9 w7 hown7 hM7 hg7; have hK7:Mods t9.ownBlock.toList wr w7:=(hK3.alloc _).trans hM7 (fun x hx => .inl hx)))
     have hrel:ValsOwn wo w7 (.slice (some ⟨g9,0,none⟩) (k + 1) cap9) (zpK C q (k + 1)):=by have hMA:=(QM [] w3).alloc (.cells #[.bool cv.z,.int .i64 cv.n,.string cv.s] 37);have hV3:=HV.out.quiet ((((QM [] wr).drew).trans hM3).trans hMA);have:=hV3.push (v:=cv) (w':=w7) (g:=g9) (cap:=cap9) (by rw [zpg,HVN.out]; exact hown7) hM7 hg7;rw [zpg] at this;rw [zqs,HRV.out];exact this
     clear hown7 hM7 hg7 q2 q3 hK3 hK7 hvd hM3;go_wp2_with fail;go_roundw
     case measure => simp [intOf]; omega
     case rel => exact ⟨k + 1,by omega,by go_num,hrel⟩
    ·obtain rfl:k=4:=by omega
     have hrow4:zpK C q 4=rowI C q:=rfl;generalize u9=t9 at *;obtain ⟨v0,v1,v2⟩:=hVO;obtain ⟨vg,vc,rfl⟩ : ∃ vg vc,t9 = .slice (some ⟨vg,0,none⟩) 4 vc:=by
      rcases v1.2 with ⟨hv,hl⟩ | ⟨g',cap',cur,hv,-⟩
      ·rw [zpg] at hl; cases hl
      ·rw [zpg] at hv; exact ⟨_,_,hv⟩
     rw [zpg] at v1;have v3:=v2 vg rfl;have v4:=(zar v1).2.1;have hRr:=HRO.out.quiet v0;have hMA:=(QM [] wr).alloc (.cells #[.slice (some ⟨vg,0,none⟩) 4 vc] 39);have hRA:=hRr.quiet hMA;obtain ⟨css,hrow,hall⟩:=hRA.2.row;have hlt7:∀ x,(Value.slice ao q cap).ownBlock=some x → x < wo.heap.size:=fun x hx => by obtain ⟨css',hrow',-⟩:=HRO.out.2.row;exact (hrow'.lt x hx).2
     have hwa:wa.heap.size ≤ wo.heap.size:=HRO.out.1.size;have hr:∀ L:List Nat,(∀ x ∈ L,x < wa.heap.size ∨ (Value.slice ao q cap).ownBlock=some x) → RowR (wr.alloc (.cells #[.slice (some ⟨vg,0,none⟩) 4 vc] 39)) L [.slice (some ⟨vg,0,none⟩) 4 vc] (rowI C q):=fun L hL =>
      ⟨some ⟨vg,0,none⟩,vc,by rw [← hrow4,zpg],by rw [← hrow4,zpg]; exact v4,(zqe (zpg C q 4) v1 (fun hx => by
       rcases hL vg hx with h | h
       ·omega
       ·have:=hlt7 vg h
        omega)).mods (hMA.mono)⟩
     have hlit:=zdy wr #[.slice (some ⟨vg,0,none⟩) 4 vc] 39;rw [zpi] at hrow;have HW:=QH (AI hRA (AI hrow (AI hall (AI hr (AI hlit (hMw.trans (v0.trans hMA AB)))))));clear hRr hRA hMA hrow hall hlt7 hr hlit v1 v2 v3 v4 hCc hCo hCl hrow4;go_wp2_with (at_builtin; refine zw _ rfl _ _ 24 rfl 39 i0 (.slice none 0 0) 1 24 Tryz.underlying24 hi hz0 hz1 hz2 rfl AD (.slice ao q cap) q css.flatten rfl HW.out.2.1 ⟨wr.heap.size,0,none⟩ 1 1 [.slice (some ⟨vg,0,none⟩) 4 vc] rfl rfl HW.out.2.2.2.2.1 ?c2 AD ?c3 ?c4 ?_)
     case c2 => first | rfl | (intro u hu; simp at hu; subst hu; rfl)
     case c3 => unfold maxLen; omega
     case c4 => omega
     intro g9 cap9 w7 hown7 hM7 hg7;have hrel:RowsOn wa w7 (.slice (some ⟨g9,0,none⟩) (q + 1) cap9) (zpk C (q + 1)):=by have:=HW.out.1.2.push (by rw [zpi]; exact HW.out.2.1) HW.out.2.2.1 HW.out.2.2.2.1 (zpi _ _) hown7 hM7 (by rw [zl]; exact hg7);rw [zqr];exact ⟨HW.out.1.1.trans hM7 (fun x hx => .inr (HW.out.1.2.own x AJ)),this⟩
     have hb7:w7.cell? ⟨bx,1,none⟩ = some (.slice (some ⟨g,0,none⟩) 4 4):=hM7.cell (((QM [] wr).alloc _).cell b2) (fun hm => by
      have h1:=HRO.out.2.own bx AG;have h2:=HBX.out
      omega)
     clear hown7 hM7 hg7;go_wp2_with fail;go_roundw
     case measure => simp [intOf]; omega
     case rel => exact ⟨q + 1,by omega,by go_num,hrel⟩
  ·obtain rfl:R=q:=by omega
   have hno:¬ (4 * (R:Int) + 4 ≤ (n:Int)) ∨ ¬ ((R:Int) < (most:Int)):=by omega
   have fin:=hRO.base hMA;clear hRO hbr;by_cases hc:4 * (R:Int) + 4 ≤ (n:Int)
   ·have hc2:¬ ((R:Int) < (most:Int)):=by omega
    go_wp2_with fail;go_ret;exact ⟨_,rfl,fin⟩
   ·go_wp2_with fail;go_ret;exact ⟨_,rfl,fin⟩
instance:DecidableEq V:=fun ⟨a,b,c⟩ ⟨d,e,f⟩ => decidable_of_iff (a=d ∧ b=e ∧ c=f) AB
theorem zrS : Tryz.prog.underlying 37 = some (.struct (Tryz.prog.fieldsOf 37)):=by kernel_rfl
theorem zrP : Tryz.prog.stoodInHeld 37 = false:=by kernel_rfl
theorem zrp:(Tryz.prog.fieldsOf 37).toList.map (fun f => (f.name,f.type,f.offset))=[("Null", 4, 0),("N", 2, 1),("S", 9, 2)]:=by kernel_rfl
theorem zrz (z:Bool) (x:Int) (t:ByteArray) (W:World):(part 4 #[.bool z,.int .i64 x,.string t] 0).run Tryz.prog W = .ok (.bool z) W:=by kernel_rfl
theorem zrA (z:Bool) (x:Int) (t:ByteArray) (W:World):(part 2 #[.bool z,.int .i64 x,.string t] 1).run Tryz.prog W = .ok (.int .i64 x) W:=by kernel_rfl
theorem zrB (z:Bool) (x:Int) (t:ByteArray) (W:World):(part 9 #[.bool z,.int .i64 x,.string t] 2).run Tryz.prog W = .ok (.string t) W:=by kernel_rfl
theorem zrT (z z2:Bool) (x x2:Int) (t t2:ByteArray) (W:World) :
  (Op.eqFields 9999 #[.bool z,.int .i64 x,.string t] #[.bool z2,.int .i64 x2,.string t2] (Tryz.prog.fieldsOf 37).toList).run Tryz.prog W = .ok (decide ((⟨z,x,t⟩ : V) = ⟨z2,x2,t2⟩)) W:=by
 have h:=zrp;generalize (Tryz.prog.fieldsOf 37).toList=fs at *;obtain _ | ⟨f,_ | ⟨g,_ | ⟨k,_ | ⟨l,fs⟩⟩⟩⟩:=fs <;> simp at h;obtain ⟨⟨a1,a2,a3⟩,⟨b1,b2,b3⟩,c1,c2,c3⟩:=h;have q0:=fun w => run_equalIn_bool' (P:= Tryz.prog) w 9998 4 z z2 AC;have q1:=fun w => run_equalIn_int (P:= Tryz.prog) w 9998 2 .i64 .i64 x x2 AC;have q2:=fun w => run_equalIn_string (P:= Tryz.prog) w 9998 9 t t2 AC;simp only [Nat.reduceAdd] at q0 q1 q2;have e2:(t.toList == t2.toList)=decide (t=t2):=by
  rw [ByteArray.toList_eq,ByteArray.toList_eq];by_cases h:t=t2
  ·subst h; simp
  ·have h2:¬ t.data.toList=t2.data.toList:=fun e => h (ByteArray.ext (Array.ext' e));simp only [h,decide_false,beq_eq_false_iff_ne,ne_eq];exact h2
 rw [e2] at q2;simp only [Op.eqFields,a1,a2,a3,b1,b2,b3,c1,c2,c3,Sem.run_bind,zrz,zrA,zrB,Result.andThen_ok,q0,q1,q2,Sem.run_ite,Sem.run_pure];by_cases hz:z=z2
 ·by_cases hx:x=x2
  ·by_cases ht:t=t2
   ·simp [hz,hx,ht]
   ·simp [hz,hx,ht]
  ·simp [hz,hx]
 ·simp [hz]
theorem zrq (z z2:Bool) (x x2:Int) (t t2:ByteArray) (W:World) :
  (binOp .neq 37 (.agg #[.bool z,.int .i64 x,.string t]) (.agg #[.bool z2,.int .i64 x2,.string t2])).run Tryz.prog W = .ok (.bool (!decide ((⟨z,x,t⟩ : V) = ⟨z2,x2,t2⟩))) W:=by
 rw [run_neq_struct,show (10000:Nat)=9999 + 1 from rfl,run_equalIn_agg W 9999 _ _ _ zrS zrP,zrT];rfl
theorem same15 (w:World) (ao bo:Option Addr) (rs qs:List (List V)) (n m ca cb:Nat) (hn:rs.length=n) (hm:qs.length=m) (hn1:n ≤ 1000) (hl:∀ r ∈ rs,r.length ≤ 1000) (hl2:∀ r ∈ qs,r.length ≤ 1000) (hA:RowsIn w ao rs []) (hB:RowsIn w bo qs []) :
  Calls Tryz.prog 10 #[.slice ao n ca,.slice bo m cb] w fun e w' => e = .returned (.bool (decide (rs=qs))) ∧ Mods [] w w':=by
 obtain ⟨B,hB0⟩:=EX (decide (rs=qs));rw [hB0];by_cases hnm:n=m
 ·subst hnm;have HH:=QH (AI hB0 (AI hl (AI hl2 (AI hA hB))));clear hB0 hl hl2 hA hB;go_enter Tryz.func10, Tryz.ntmps10;go_wp2_with fail;go_loopg [5] n (fun gk t5 wr => ∃ i:Nat,i + gk=n ∧ t5 = .int .i64 i ∧ rs.take i=qs.take i ∧ Mods [] w wr)
  case atStart => exact ⟨0,by omega,rfl,rfl,QM _ _⟩
  obtain ⟨i,hi,rfl,hpre,hM⟩:=hrel;by_cases hin:i < n
  ·have hir:i < rs.length:=by omega
   have hiq:i < qs.length:=by omega
   obtain ⟨ab,aof,rfl,-,hAc⟩:=HH.out.2.2.2.1 (by intro h; rw [h] at hir; simp at hir);obtain ⟨bb,bof,rfl,-,hBc⟩:=HH.out.2.2.2.2 (by intro h; rw [h] at hiq; simp at hiq);obtain ⟨va,c1,ac1,a0,hVa⟩:=hAc i hir;obtain ⟨vb,c2,ac2,b0,hVb⟩:=hBc i hiq;have hrl:=HH.out.2.1 rs[i] (List.getElem_mem hir);have hql:=HH.out.2.2.1 qs[i] (List.getElem_mem hiq);have hne:rs[i] ≠ qs[i] → B=false:=fun h => by rw [← HH.out.1];exact decide_eq_false fun e => h (by subst e; rfl)
   have hto:rs[i]=qs[i] → rs.take (i + 1)=qs.take (i + 1):=fun h => by rw [List.take_succ_eq_append_getElem hir,List.take_succ_eq_append_getElem hiq,hpre,h]
   generalize rs[i]=r at *;generalize qs[i]=q at *;obtain ⟨m,hm2⟩:=EX (r.length);obtain ⟨l,hl2⟩:=EX (q.length);rw [hm2] at a0 hrl;rw [hl2] at b0 hql;have a1:=hM.cell a0;have b1:=hM.cell b0;have HMM:=QH (AI hm2 (AI hl2 (AI hne (AI hto (AI hVa hVb)))));clear hm2 hl2 hAc hBc a0 b0 hne hto hVa hVb hpre;by_cases hml:m=l
   ·subst hml;go_wp2_with fail;go_quiet (fail);have hMq:=hM.drewN nq;have a2:(wr.drewN nq).cell? ⟨ab,aof + i,none⟩ = some (.slice va m c1):=a1;have b2:(wr.drewN nq).cell? ⟨bb,bof + i,none⟩ = some (.slice vb m c2):=b1;generalize wr.drewN nq=wo at *;clear a1 b1;go_wp2_with fail;go_loopg [6] m (fun gk2 t6 wx => ∃ k:Nat,k + gk2=m ∧ t6 = .int .i64 k ∧ r.take k=q.take k ∧ Mods [] wo wx)
    case atStart => exact ⟨0,by omega,rfl,rfl,QM _ _⟩
    obtain ⟨k,hk,rfl,hpk,hMk⟩:=hrel;have a3:=hMk.cell a2;have b3:=hMk.cell b2;by_cases hkm:k < m
    ·have hkr:k < r.length:=by have:=HMM.out.1; omega
     have hkq:k < q.length:=by have:=HMM.out.2.1; omega
     obtain ⟨p,po,rfl,-,hp⟩:=HMM.out.2.2.2.2.1 (by intro h; rw [h] at hkr; simp at hkr);obtain ⟨s,so,rfl,-,hq⟩:=HMM.out.2.2.2.2.2 (by intro h; rw [h] at hkq; simp at hkq);obtain ⟨p0,p1,p2⟩:=hp k hkr;obtain ⟨q0,q1,q2⟩:=hq k hkq;have hMw:=hMq.trans hMk;have p0:=hMw.cell p0;have p1:=hMw.cell p1;have p2:=hMw.cell p2;have q0:=hMw.cell q0;have q1:=hMw.cell q1;have q2:=hMw.cell q2;have hto2:r[k]=q[k] → r.take (k + 1)=q.take (k + 1):=fun h => by rw [List.take_succ_eq_append_getElem hkr,List.take_succ_eq_append_getElem hkq,hpk,h]
     have hne2:r[k] ≠ q[k] → B=false:=fun h => HMM.out.2.2.1 fun e => h (by subst e; rfl);generalize r[k]=v at *;generalize q[k]=u at *;obtain ⟨z,x,t⟩:=v;obtain ⟨z2,x2,t2⟩:=u;simp only at p0 p1 p2 q0 q1 q2;have HV:=QH (AI hto2 hne2);clear hp hq hto2 hne2 hkr hkq;have hv:=fun W => zrq z z2 x x2 t t2 W;by_cases hE:(⟨z,x,t⟩ : V) = ⟨z2,x2,t2⟩
     ·simp only [hE,decide_true,Bool.not_true] at hv;have HZ:=QH (HV.out.1 hE);clear hE HV;go_wp2_with fail;go_quiet (fail);have hMz:=hMk.drewN nq;generalize wr.drewN nq=wz at *;go_wp2_with fail;go_roundg (m - (k + 1))
      case measure => omega
      case rel => exact ⟨k + 1,by omega,by go_num,HZ.out,hMz⟩
     ·have hB:B=false:=HV.out.2 hE;subst hB;simp only [hE,decide_false,Bool.not_false] at hv;have HZ:=QH (hMq.trans hMk);clear hE HV;go_wp2_with fail;go_quiet (fail);have hMz:=HZ.out.drewN nq;generalize wr.drewN nq=wz at *;go_wp2_with fail;go_ret;exact ⟨rfl,hMz⟩
    ·obtain rfl:m=k:=by omega
     have hMz:=hMq.trans hMk;have hrq:r=q:=by have e1:=HMM.out.1;have e2:=HMM.out.2.1;rw [List.take_of_length_le AA,List.take_of_length_le AA] at hpk;exact hpk
     have HZ:=QH (AI hMz (HMM.out.2.2.2.1 hrq));clear hMz hrq hpk;go_wp2_with fail;go_roundg (n - (i + 1))
     case measure => omega
     case rel => exact ⟨i + 1,by omega,by go_num,HZ.out.2,HZ.out.1⟩
   ·have hB:B=false:=HMM.out.2.2.1 fun e => hml (by have e1:=HMM.out.1; have e2:=HMM.out.2.1; rw [← e1,← e2,e]);subst hB;have hMz:=hM;go_wp2_with fail;go_quiet (fail);have hMz:=hM.drewN nq;generalize wr.drewN nq=wz at *;go_wp2_with fail;go_ret;exact ⟨rfl,hMz⟩
  ·obtain rfl:i=n:=by omega
   have hB:B=true:=by rw [← HH.out.1];rw [List.take_of_length_le AA,List.take_of_length_le AA] at hpre;exact decide_eq_true hpre
   subst hB;have HZ:=QH hM;clear hM hpre;go_wp2_with fail;go_ret;exact ⟨rfl,HZ.out⟩
 ·have hB1:B=false:=by
   rw [← hB0];exact decide_eq_false fun e => hnm (by rw [← hn,← hm,e])
  subst hB1;clear hB0 hA hB hl hl2;go_enter Tryz.func10, Tryz.ntmps10;go_wp2_with fail;go_ret;exact ⟨rfl,QM _ _⟩
end Go.Proofs.YtebljciefhfgbaaGreatDoor
