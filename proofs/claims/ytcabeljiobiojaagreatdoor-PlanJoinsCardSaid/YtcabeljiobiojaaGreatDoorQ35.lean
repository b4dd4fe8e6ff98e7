/-
  The runner's groups, walked: rows that are the same in some columns stand together. No condition.
-/
import Derived.Test.YtcabeljiobiojaaGreatDoorQ34
set_option linter.unusedVariables false
set_option maxRecDepth 100000
set_option maxHeartbeats 4000000
namespace Go.Proofs.YtcabeljiobiojaaGreatDoor
open Go.RowKit
theorem ydj {p:Prop} (h:p:=by
  go_enter Tryz.func19, Tryz.ntmps19;go_upto_region 1 with fail;go_quiet (fail);have hd:Mods [] w ((w.alloc (.cells #[.pointer none,.pointer none] 76)).drewN nq):=HH.out.1.drewN _;have hr:((w.alloc (.cells #[.pointer none,.pointer none] 76)).drewN nq).heap[w.heap.size]? = _:=HH.out.2.1
  first
  |guard_hyp gA2
   generalize (w.alloc (.cells #[.pointer none,.pointer none] 76)).drewN nq=wd at *;go_wp2_with (refine wpList_store_row rfl 76 (.tmp 4) (.tmp 42) rfl w.heap.size #[.pointer none,.pointer none] rfl rfl 76 _ hr AC rfl AP ?_);refine bodyPost_ret (zg rfl _ _ w.heap.size 76 #[.pointer none,.pointer none] (0,0) _ rfl (zi _ hr) Tryz.underlying76 rfl AC _ rfl) rfl ?_;exact HH.out.2.2 _ (hd.setRow (.inr (LR _)) _)
  |guard_hyp gA3
   have hk:=(QM [] (w.alloc (.cells #[.pointer none,.pointer none] 76))).drewN nq;replace c7:=hk.cell c7;replace k0:=hk.cell k0;replace k1:=hk.cell k1;clear c0 a1 a2 d1 d2 hk;generalize (w.alloc (.cells #[.pointer none,.pointer none] 76)).drewN nq=wd at *;go_upto_region 3 with fail;go_quiet (fail);have hd2:=hd.drewN nq;have hr2:(wd.drewN nq).heap[w.heap.size]? = _:=hr;clear c7 k0 k1 hr hd;generalize wd.drewN nq=w2 at *;have hca:=HO.out.1 w2 hd2;have hA3:=HO.out.1;have hD3:=HO.out.2;have hRR:R=_:=(HH.out.2.2.1).trans (by rw [HH.out.2.2.2.1,HH.out.2.2.2.2.1]);unfold sideV at hca hA3 hD3;clear HO;by_cases ht:usesN sp a=(false,true)
   ·have hR2:R=if zpO sp (d,a)=true then some (d,a) else none:=by rw [hRR,zrJ ht]; simp
    unfold zpO at hR2;simp only [ht] at hR2 hca hA3;generalize usesN sp d=rd at *;have HR:=QH hR2;clear hRR hR2;go_wp2_with fail;(with_reducible refine hca.mono ?_);rintro e w3 ⟨rfl,hM3⟩;have hd3:=hd2.trans hM3;have hr3:=hM3.heap hr2;have HA3:=QH hA3;have HD3:=QH hD3;clear hca hM3 hd2 hr2 hA3 hD3;go_upto_region 6 with fail;obtain ⟨r1,r2⟩:=rd;cases r1 <;> cases r2
    all_goals
     apply zz AC 15 _ rfl 76 (.tmp 4) (.tmp 64) rfl rfl rfl AC AC w.heap.size #[.pointer (some ⟨pd,0,none⟩),.pointer (some ⟨pa,0,none⟩)] _ _ hr3 AC rfl AP
     case hwalk =>intro bb;have HKA:=QH (fun (k:zay (zdL w3 w.heap.size #[.pointer (some ⟨pd,0,none⟩),.pointer (some ⟨pa,0,none⟩)] bb)) => zpC (HA3.out k.val ((zpB hd3 (LR _) bb).trans k.mods)));have HKD:=QH (fun (k:zay (zdL w3 w.heap.size #[.pointer (some ⟨pd,0,none⟩),.pointer (some ⟨pa,0,none⟩)] bb)) => zpC (HD3.out k.val ((zpB hd3 (LR _) bb).trans k.mods)));exact ybM
     case hxa => rfl
     case hya => rfl
     case hend =>intro wz hMz;have hrz:=hMz.heap (zi (w:=w3.drew) #[.pointer (some ⟨pd,0,none⟩),.pointer (some ⟨pa,0,none⟩)] hr3);have hfz:=(hd3.drew.setRow (.inr (LR _)) #[.pointer (some ⟨pd,0,none⟩),.pointer (some ⟨pa,0,none⟩)]).trans hMz;have HZ:=QH hfz;clear hMz hfz;go_wp2_with fail;refine bodyPost_ret (zg rfl _ _ w.heap.size 76 #[.pointer (some ⟨pd,0,none⟩),.pointer (some ⟨pa,0,none⟩)] (0,0) _ rfl hrz Tryz.underlying76 rfl AC _ rfl) rfl ?_;have hf:=zqb _ HR.out HH.out.2.2.2.2.2.2.1 HH.out.2.2.2.2.2.1;exact FIN.out _ _ _ _ rfl rfl HZ.out hf.1 hf.2
   ·have hR2:R=if zpO sp (a,d)=true then some (a,d) else none:=by rw [hRR,zrK ht]; simp
    unfold zpO at hR2;generalize usesN sp a=ra at *;generalize usesN sp d=rd at *;have HR:=QH hR2;clear hRR hR2;obtain ⟨q1,q2⟩:=ra;have hq:(q1=true ∧ q2=true) ∨ (q1=true ∧ q2=false) ∨ (q1=false ∧ q2=false):=by cases q1 <;> cases q2 <;> simp at ht ⊢
    clear ht;rcases hq with ⟨rfl,rfl⟩ | ⟨rfl,rfl⟩ | ⟨rfl,rfl⟩
    all_goals
     go_wp2_with fail;(with_reducible refine hca.mono ?_);rintro e w3 ⟨rfl,hM3⟩;have hd3:=hd2.trans hM3;have hr3:=hM3.heap hr2;have HA3:=QH hA3;have HD3:=QH hD3;clear hca hM3 hd2 hr2 hA3 hD3;go_upto_region 6 with fail;obtain ⟨r1,r2⟩:=rd;cases r1 <;> cases r2
     all_goals
      apply zz AC 15 _ rfl 76 (.tmp 4) (.tmp 64) rfl rfl rfl AC AC w.heap.size #[.pointer (some ⟨pa,0,none⟩),.pointer (some ⟨pd,0,none⟩)] _ _ hr3 AC rfl AP
      case hwalk =>intro bb;have HKA:=QH (fun (k:zay (zdL w3 w.heap.size #[.pointer (some ⟨pa,0,none⟩),.pointer (some ⟨pd,0,none⟩)] bb)) => zpC (HA3.out k.val ((zpB hd3 (LR _) bb).trans k.mods)));have HKD:=QH (fun (k:zay (zdL w3 w.heap.size #[.pointer (some ⟨pa,0,none⟩),.pointer (some ⟨pd,0,none⟩)] bb)) => zpC (HD3.out k.val ((zpB hd3 (LR _) bb).trans k.mods)));exact ybM
      case hxa => rfl
      case hya => rfl
      case hend =>intro wz hMz;have hrz:=hMz.heap (zi (w:=w3.drew) #[.pointer (some ⟨pa,0,none⟩),.pointer (some ⟨pd,0,none⟩)] hr3);have hfz:=(hd3.drew.setRow (.inr (LR _)) #[.pointer (some ⟨pa,0,none⟩),.pointer (some ⟨pd,0,none⟩)]).trans hMz;have HZ:=QH hfz;clear hMz hfz;go_wp2_with fail;refine bodyPost_ret (zg rfl _ _ w.heap.size 76 #[.pointer (some ⟨pa,0,none⟩),.pointer (some ⟨pd,0,none⟩)] (0,0) _ rfl hrz Tryz.underlying76 rfl AC _ rfl) rfl ?_;have hf:=zqb _ HR.out HH.out.2.2.2.2.2.1 HH.out.2.2.2.2.2.2.1;exact FIN.out _ _ _ _ rfl rfl HZ.out hf.1 hf.2
 ):p:=h
theorem ycB {p:Prop} (h:p:=by
  go_enter Tryz.func12, Tryz.ntmps12;go_wp2_with fail;go_ret;exact HFIN.out
 ):p:=h
theorem ycF {p:Prop} (h:p:=by
  go_wp2_with fail;go_returns;exact ⟨rfl,(((QM [] w).alloc _).alloc _).alloc _⟩
 ):p:=h
theorem yav {p:Prop} (h:p:=by
  have gA2:=QH trivial;exact ydj
 ):p:=h
theorem yaz {p:Prop} (h:p:=by
  go_enter Tryz.func13, Tryz.ntmps13
  cases z with
  | false =>exact ycF
  | true =>
   cases cn with
   | false =>exact ycF
   | true => exact absurd ⟨rfl,rfl⟩ hzc
 ):p:=h
theorem yaQ {p:Prop} (h:p:=by
  obtain ⟨S,hS⟩:=EX ((⟨h.op.toArray⟩ : ByteArray):ByteArray);rw [hS] at c0;have HFIN:=QH hfin;clear hfin hb hS;unfold zh at *;by_cases h1:S = ⟨#[97,110,100]⟩
  ·subst h1;exact ycB
  ·have h2:=zqx h1;exact ycB
 ):p:=h
theorem zsx (gs:List Nat) (out:List (List PR)) (r:List V):placeG gs out r ≤ out.length:=by have:=zsh (out.map fun g => !zr1 gs (zr4 g) r);rw [List.length_map] at this;exact this
theorem zsb {gs:List Nat} {out:List (List PR)} {p:PR} (h:placeG gs out p.2 < out.length):putG gs out p=out.set (placeG gs out p.2) (out.getD (placeG gs out p.2) [] ++ [p]):=by unfold putG;simp only [if_pos h]
theorem zsc {gs:List Nat} {out:List (List PR)} {p:PR} (h:¬ placeG gs out p.2 < out.length):putG gs out p=(out ++ [[]]).set out.length ((out ++ [[]]).getD out.length [] ++ [p]) ∧ putG gs out p=out ++ [[p]]:=by
 have hk:placeG gs out p.2=out.length:=by have:=zsx gs out p.2; omega
 have e:putG gs out p=(out ++ [[]]).set out.length ((out ++ [[]]).getD out.length [] ++ [p]):=by unfold putG;simp only [hk,Nat.lt_irrefl,if_false]
 refine ⟨e,?_⟩;rw [e,List.set_append_right _ _ (LR _)];simp [List.getD_eq_getElem?_getD]
def GrpFine (w:World) (L:List Nat) (m:Nat) (out:List (List PR)):Prop:=∀ g ∈ out,g ≠ [] ∧ ∀ p ∈ g,RowU w L p.1 p.2 ∧ p.2.length=m
theorem GrpFine.mods {w w':World} {L:List Nat} {m:Nat} {out:List (List PR)} (h:GrpFine w L m out) (hM:Mods L w w'):GrpFine w' L m out:=
 fun g hg => ⟨(h g hg).1,fun p hp => ⟨((h g hg).2 p hp).1.mods hM,((h g hg).2 p hp).2⟩⟩
theorem GrpFine.put {w:World} {L:List Nat} {m:Nat} {out:List (List PR)} (h:GrpFine w L m out) (gs:List Nat) {p:PR} (hp:RowU w L p.1 p.2) (hl:p.2.length=m):GrpFine w L m (putG gs out p):=by
 intro g hg;by_cases hk:placeG gs out p.2 < out.length
 ·rw [zsb hk] at hg;rcases List.mem_or_eq_of_mem_set hg with hg | rfl
  ·exact h g hg
  ·refine ⟨by simp,fun q hq => ?_⟩;rcases List.mem_append.1 hq with hq | hq
   ·have e:out.getD (placeG gs out p.2) []=out[placeG gs out p.2]:=by simp [List.getD_eq_getElem?_getD,List.getElem?_eq_getElem hk]
    rw [e] at hq;exact (h _ (List.getElem_mem hk)).2 q hq
   ·obtain rfl:q=p:=by simpa using hq
    exact ⟨hp,hl⟩
 ·rw [(zsc hk).2] at hg;rcases List.mem_append.1 hg with hg | hg
  ·exact h g hg
  ·obtain rfl:g=[p]:=by simpa using hg
   exact ⟨by simp,fun q hq => by
    obtain rfl:q=p:=by simpa using hq
    exact ⟨hp,hl⟩⟩
theorem GS.head {w0 wr:World} {t:Value} {bs:Nat → Nat} {rv:Nat → Value} {out:List (List PR)} {n:Nat} (h:GS w0 wr t bs rv out n) {i:Nat} (hi:i < n) {g:List PR} (hg:out.getD i []=g) (hne:g ≠ []) :
  ∃ b cap,rv i = .slice (some ⟨b,0,none⟩) g.length cap ∧ 0 < g.length ∧ w0.heap.size ≤ b ∧ g.length ≤ cap ∧ ∀ j (hj:j < g.length),wr.cell? ⟨b,j,none⟩ = some g[j].1:=by
 have hr:=h.rows i hi;rw [hg] at hr;have hpos:=List.length_pos_iff.2 hne;obtain ⟨ao,cap,hv,hc⟩:=zrY hr (by rw [List.length_map]);obtain ⟨b,rfl,hcs⟩:=hc hpos;have hb:=(h.rb i hi b (by rw [hv]; rfl)).1;rw [hv] at hr;refine ⟨b,cap,hv,hpos,hb,(zar hr).2.1,fun j hj => ?_⟩;rw [hcs j (by rw [List.length_map]; exact hj),List.getElem_map]
theorem zsG {w:World} {ao:Option Addr} {rs:List (List V)} {L:List Nat} (hI:RowsIn w ao rs L):∃ ps:List PR,ps.map (·.2)=rs ∧ (∀ p ∈ ps,RowU w L p.1 p.2) ∧ (rs ≠ [] → ∃ b off,ao=some ⟨b,off,none⟩ ∧ b ∉ L ∧ ∀ i (h:i < ps.length),w.cell? ⟨b,off + i,none⟩ = some ps[i].1):=by
 by_cases h0:rs=[]
 ·subst h0;exact ⟨[],rfl,AB,fun h => absurd rfl h⟩
 ·obtain ⟨b,off,h1,h2,h3⟩:=hI h0;have hat:∀ i (hi:i < rs.length),RowU w L ((w.cell? ⟨b,off + i,none⟩).getD (.bool false)) rs[i] ∧ w.cell? ⟨b,off + i,none⟩ = some ((w.cell? ⟨b,off + i,none⟩).getD (.bool false)):=fun i hi => by
   obtain ⟨vo,c,h4,h5,h6⟩:=h3 i hi;rw [h5];exact ⟨⟨vo,c,rfl,h4,h6⟩,rfl⟩
  refine ⟨(List.range rs.length).map fun i => ((w.cell? ⟨b,off + i,none⟩).getD (.bool false),rs.getD i []),?_,fun p hp => ?_,fun _ => ⟨b,off,h1,h2,fun i hi => ?_⟩⟩
  ·refine List.ext_getElem AB fun i hi hi2 => ?_;simp [List.getD_eq_getElem?_getD,List.getElem?_eq_getElem hi2]
  ·obtain ⟨i,hi,rfl⟩:=List.mem_map.1 hp;have hi:=List.mem_range.1 hi;have e:rs.getD i []=rs[i]:=by simp [List.getD_eq_getElem?_getD,List.getElem?_eq_getElem hi]
   simp only [e];exact (hat i hi).1
  ·simp only [List.getElem_map,List.getElem_range];exact (hat i BA).2
theorem getD_some {r:List V} {k:Nat} (h:k < r.length):r[k]? = some (r.getD k zeroV0):=by rw [List.getElem?_eq_getElem h];simp [List.getD_eq_getElem?_getD,List.getElem?_eq_getElem h]
def cellV (k:Int) (cn:Bool) (n:Int) (s:ByteArray) (z:Bool):V:=
 if z=true ∧ cn=true then ⟨true,0,⟨#[]⟩⟩
 else if k=3 then ⟨false,0,s.extract 0 (if s.size ≤ 20 then s.size else 20)⟩
 else if k=4 then ⟨false,n % 2,⟨#[]⟩⟩
 else ⟨false,n,⟨#[]⟩⟩
theorem zrn (n:Int):bits .and .i64 n 1=n % 2:=by
 have h1:(BitVec.ofInt 64 1).toNat=2 ^ 1 - 1:=by decide
 have key:(BitVec.ofInt 64 n &&& BitVec.ofInt 64 1).toNat=(n % ((2 ^ 64:Nat):Int)).toNat % 2 ^ 1:=by rw [BitVec.toNat_and,BitVec.toNat_ofInt,h1,Nat.and_two_pow_sub_one_eq_mod]
 show IntKind.i64.wrap ((BitVec.ofInt 64 n &&& BitVec.ofInt 64 1).toNat:Nat)=n % 2;rw [key,IntKind.wrap_i64];omega
def VPost (w:World) (v:V) (e:Ending) (w':World):Prop:=e = .returned (.agg #[.bool v.z,.int .i64 v.n,.string v.s]) ∧ Mods [] w w'
theorem value15 (w:World) (name:ByteArray) (k sc:Int) (cn:Bool) (n:Int) (hn : -9223372036854775808 ≤ n ∧ n ≤ 9223372036854775807) (s:ByteArray) (hs:s.size ≤ 9223372036854775807) (z:Bool) :
  Calls Tryz.prog 13 #[.agg #[.string name,.int .i64 k,.int .i64 sc,.bool cn],.agg #[.int .i64 n,.string s,.bool z]] w (VPost w (cellV k cn n s z)):=by
 obtain ⟨sz,hsz⟩:=EX (s.size);rw [hsz] at hs;obtain ⟨m,hm⟩ : ∃ m,m=if sz ≤ 20 then sz else 20:=⟨_,rfl⟩
 have hm1:m ≤ sz ∧ m ≤ 20:=by rw [hm]; split <;> omega
 have hmin:=fun w => znU (P:= Tryz.prog) w 3 3 3 .i64 sz 20 m (by rw [hm]; split <;> omega);have hcv:cellV k cn n s z=if z=true ∧ cn=true then ⟨true,0,⟨#[]⟩⟩ else if k=3 then ⟨false,0,s.extract 0 m⟩ else if k=4 then ⟨false,n % 2,⟨#[]⟩⟩ else ⟨false,n,⟨#[]⟩⟩:=by unfold cellV; rw [hsz,hm]
 have hbit:=zrn n;have HC:=QH hcv;have HM:=QH hm;clear hcv hm;generalize cellV k cn n s z=CV at *;by_cases hzc:z=true ∧ cn=true
 ·obtain ⟨rfl,rfl⟩:=hzc;have e:=HC.out;rw [if_pos ⟨rfl,rfl⟩] at e;subst e;clear HC;go_enter Tryz.func13, Tryz.ntmps13;exact ycF
 ·have e:=HC.out;rw [if_neg hzc] at e;by_cases h3:k=3
  ·subst h3;rw [if_pos rfl] at e;subst e;clear HC;exact yaz
  ·rw [if_neg h3] at e;by_cases h4:k=4
   ·subst h4;rw [if_pos rfl] at e;subst e;clear HC;exact yaz
   ·rw [if_neg h4] at e;subst e;clear HC hbit;exact yaz
def colsT:Array Value:=#[.string ⟨#[97]⟩,.int .i64 1,.int .i64 0,.bool false,.string ⟨#[98]⟩,.int .i64 2,.int .i64 2,.bool true,.string ⟨#[99]⟩,.int .i64 3,.int .i64 0,.bool true,.string ⟨#[100]⟩,.int .i64 4,.int .i64 0,.bool true]
def CellsIn (w:World) (ao:Option Addr) (n:Nat) (C:Nat → Int × ByteArray × Bool):Prop:=
 0 < n → ∃ b off,ao=some ⟨b,off,none⟩ ∧ ∀ i,i < n → (w.cell? ⟨b,off + i * 3,none⟩ = some (.int .i64 (C i).1) ∧ w.cell? ⟨b,off + i * 3 + 1,none⟩ = some (.string (C i).2.1) ∧ w.cell? ⟨b,off + i * 3 + 2,none⟩ = some (.bool (C i).2.2)) ∧ (-9223372036854775808 ≤ (C i).1 ∧ (C i).1 ≤ 9223372036854775807) ∧ (C i).2.1.size ≤ 9223372036854775807
def colName (k:Nat):ByteArray:=⟨#[UInt8.ofNat (97 + k)]⟩
def colKind (k:Nat):Int:=(k:Int) + 1
def colScale (k:Nat):Int:=if k=1 then 2 else 0
def colNull (k:Nat):Bool:=decide (k ≠ 0)
theorem zry (k:Nat) (hk:k < 4):colsT[k * 4]? = some (.string (colName k)) ∧ colsT[k * 4 + 1]? = some (.int .i64 (colKind k)) ∧ colsT[k * 4 + 2]? = some (.int .i64 (colScale k)) ∧ colsT[k * 4 + 3]? = some (.bool (colNull k)):=by
 have h:k=0 ∨ k=1 ∨ k=2 ∨ k=3:=by omega
 rcases h with rfl | rfl | rfl | rfl <;> exact ⟨rfl,rfl,rfl,rfl⟩
def rowVal (C:Nat → Int × ByteArray × Bool) (i k:Nat):V:=cellV (colKind k) (colNull k) (C (4 * i + k)).1 (C (4 * i + k)).2.1 (C (4 * i + k)).2.2
def rowI (C:Nat → Int × ByteArray × Bool) (i:Nat):List V:=(List.range 4).map (rowVal C i)
def ValsOwn (w wr:World) (t:Value) (vs:List V):Prop:=
 Mods [] w wr ∧ wr.ownsRow 0 35 3 t vs.length (zph vs) ∧ ∀ g,t.ownBlock=some g → w.heap.size ≤ g
theorem ValsOwn.start (w:World):ValsOwn w w (.slice none 0 0) []:=⟨QM _ _,World.ownsRow_nil _ _ _ _,fun g hg => by cases hg⟩
theorem ValsOwn.quiet {w wr w':World} {t:Value} {vs:List V} (h:ValsOwn w wr t vs) (hM:Mods [] wr w'):ValsOwn w w' t vs:=
 ⟨h.1.trans hM,zm h.2.1 hM AB,h.2.2⟩
theorem ValsOwn.push {w wr w':World} {t:Value} {vs:List V} (h:ValsOwn w wr t vs) {v:V} {g cap:Nat} (hown:w'.ownsRow 0 35 3 (.slice (some ⟨g,0,none⟩) (vs.length + 1) cap) (vs.length + 1) (zph vs ++ [.bool v.z,.int .i64 v.n,.string v.s]))
  (hM:Mods t.ownBlock.toList wr w') (hg:t.ownBlock=some g ∨ wr.heap.size ≤ g):ValsOwn w w' (.slice (some ⟨g,0,none⟩) (vs.length + 1) cap) (vs ++ [v]):=by
 obtain ⟨h1,-,h5⟩:=h;refine ⟨h1.trans hM (fun x hx => .inr (h5 x AJ)),?_,fun g' hg' => ?_⟩
 ·rw [zpH]; simpa using hown
 exact ycf
theorem zro {P:Program} {ops:Array Oper} {o:Oper} {a:Act} {w:World} {K:Act → World → Prop} {Q:Exit → Act → World → Prop} {E:Prop} (hgd:o.guard=none) (s x:Operand) (t:TypeId)
  (ho:o.op = .call { callee:=.builtin .append,args:=#[s,x],argTypes:=#[t,t] })
  (e:TypeId) (i:TypeInfo) (z:Value) (size bytes:Nat) (ht:P.underlying t=some (.slice e)) (hi:P.info? e=some i) (hz:i.zero=some z)
  (hsize:i.size=size) (hby:i.bytes=bytes) (hzs:z.cells.size=size) (hsz:0 < size)
  (v:Value) (n:Nat) (xs:List Value) (hs:a.eval s=v) (hown:w.ownsRow 0 e size v n xs)
  (ad:Addr) (m c:Nat) (news:List Value) (hx:a.eval x = .slice (some ad) m c) (hl:news.length=m * size) (hnews:∀ j u,news[j]? = some u → w.cell? (ad.add j)=some u) (h1:∀ u ∈ news,u.oneCell'=true)
  (hm:0 < m) (h63:n + m ≤ maxLen) (hbytes:(n + m) * bytes ≤ 140737488355328)
  (h:∀ g cap w',w'.ownsRow 0 e size (.slice (some ⟨g,0,none⟩) (n + m) cap) (n + m) (xs ++ news) → Mods v.ownBlock.toList w w' → (v.ownBlock=some g ∨ w.heap.size ≤ g) → K (a.put o.dst (.slice (some ⟨g,0,none⟩) (n + m) cap)) w') :
  if Region.wanted o (yielded ops a.tmps)=true then Oper.wp P o a w K Q else E:=
 step_append_lies w hgd s x t ho 0 e i z size bytes ht hi hz hsize hby hzs hsz v n xs hs hown ad m c news hx hl hnews h1 hm h63 hbytes (Nat.zero_le _) w.heap.size rfl
  (fun g cap w' h1 h2 h3 _ => h g cap w' h1 (Mods.of_grown h2) (h3.imp id (fun e => by omega)))
def RowsOn (w wr:World) (t:Value) (rs:List (List V)):Prop:=Mods [] w wr ∧ RowsC w wr t rs
theorem RowsOn.quiet {w wr w':World} {t:Value} {rs:List (List V)} (h:RowsOn w wr t rs) (hM:Mods [] wr w'):RowsOn w w' t rs:=⟨h.1.trans hM,h.2.later hM AB⟩
theorem RowsC.base {w wa wr:World} {t:Value} {rs:List (List V)} (h:RowsC wa wr t rs) (hs:w.heap.size ≤ wa.heap.size):RowsC w wr t rs:=
 ⟨Nat.le_trans hs h.size,⟨h.row.choose,h.row.choose_spec.1,fun L hL => h.row.choose_spec.2 L fun x hx => (hL x hx).imp (fun h => LL h hs) id⟩,fun g hg => Nat.le_trans hs (h.own g hg)⟩
theorem RowsOn.base {w wa wr:World} {t:Value} {rs:List (List V)} (h:RowsOn wa wr t rs) (hM:Mods [] w wa):RowsOn w wr t rs:=⟨hM.trans h.1,h.2.base hM.size⟩
theorem RowsOn.val {w wr:World} {t:Value} {rs:List (List V)} (h:RowsOn w wr t rs):∃ ao cap,t = .slice ao rs.length cap:=by
 obtain ⟨-,-,⟨css,hown,-⟩,-⟩:=h;rcases hown.2 with ⟨hv,hl⟩ | ⟨g',cap',cur,hv,-⟩
 ·exact ⟨none,0,by rw [hl]; exact hv⟩
 ·exact ⟨_,_,hv⟩
theorem zqV (z:Bool) (n:Int) (s:ByteArray):∀ u ∈ ([.bool z,.int .i64 n,.string s]:List Value),u.oneCell'=true:=by intro u hu; simp at hu; rcases hu with rfl | rfl | rfl <;> rfl
theorem keep8 {W w':World} {L:List Nat} {p0 p1 p2 p3 p4 p5 p6 p7:Addr} {x0 x1 x2 x3 x4 x5 x6 x7:Value} (h0:W.cell? p0=some x0) (h1:W.cell? p1=some x1) (h2:W.cell? p2=some x2) (h3:W.cell? p3=some x3) (h4:W.cell? p4=some x4) (h5:W.cell? p5=some x5) (h6:W.cell? p6=some x6) (h7:W.cell? p7=some x7)
  (k0:p0.block ∉ L) (k1:p1.block ∉ L) (k2:p2.block ∉ L) (k3:p3.block ∉ L) (k4:p4.block ∉ L) (k5:p5.block ∉ L) (k6:p6.block ∉ L) (k7:p7.block ∉ L) (h:Mods L W w') :
  w'.cell? p0=some x0 ∧ w'.cell? p1=some x1 ∧ w'.cell? p2=some x2 ∧ w'.cell? p3=some x3 ∧ w'.cell? p4=some x4 ∧ w'.cell? p5=some x5 ∧ w'.cell? p6=some x6 ∧ w'.cell? p7=some x7 ∧ Mods L W w':=
 ⟨h.cell h0 k0,h.cell h1 k1,h.cell h2 k2,h.cell h3 k3,h.cell h4 k4,h.cell h5 k5,h.cell h6 k6,h.cell h7 k7,h⟩
def splitN:NT → List NT
 | .bin h a b => if h.op=oAnd then splitN a ++ splitN b else [.bin h a b]
 | .un h a => [.un h a]
 | .leaf h => [.leaf h]
def splitO:Option NT → List NT
 | none => []
 | some n => splitN n
def colU (sp:Nat) (h:NHd):Bool × Bool:=if h.op=oColumn then (decide (h.col < sp),decide (sp ≤ h.col)) else (false,false)
def usesN (sp:Nat):NT → Bool × Bool
 | .leaf h => colU sp h
 | .un h a => ((colU sp h).1 || (usesN sp a).1,(colU sp h).2 || (usesN sp a).2)
 | .bin h a b => (((colU sp h).1 || (usesN sp a).1) || (usesN sp b).1,((colU sp h).2 || (usesN sp a).2) || (usesN sp b).2)
def turnN (sp:Nat) (a b:NT):NT × NT:=if usesN sp a=(false,true) then (b,a) else (a,b)
def zpO (sp:Nat) (p:NT × NT):Bool:=decide (usesN sp p.1=(true,false)) && decide (usesN sp p.2=(false,true))
def zps (sp:Nat):NT → Option (NT × NT)
 | .bin h a b => if h.op=[61] ∧ a.hd.t=b.hd.t ∧ zpO sp (turnN sp a b)=true then some (turnN sp a b) else none
 | _ => none
structure PlT where
 left:List NT:=[]
 right:List NT:=[]
 rest:List NT:=[]
 keys:List (NT × NT):=[]
def zpm (sp:Nat) (one:Bool) (p:PlT) (n:NT):PlT:=
 if one=true ∨ (usesN sp n).2=false then { p with left:=p.left ++ [n] }
 else if (usesN sp n).1=false then { p with right:=p.right ++ [n] }
 else match zps sp n with
  | some k => { p with keys:=p.keys ++ [k] }
  | none => { p with rest:=p.rest ++ [n] }
def makeP (sp:Nat) (one:Bool) (l:List NT):PlT:=l.foldl (zpm sp one) {}
def PtrsOwn (w0 w:World) (v:Value) (bs:List Nat):Prop:=
 Mods [] w0 w ∧ w.ownsRow 0 51 1 v bs.length (bs.map zh) ∧ ∀ g,v.ownBlock=some g → w0.heap.size ≤ g
def NodesAt (w:World) (L:List Nat):List Nat → List NT → Prop
 | [],[] => True
 | b :: bs,n :: ns => NAt w L (zh b) n ∧ NodesAt w L bs ns
 | _,_ => False
theorem NodesAt.len {w:World} {L:List Nat}:∀ {bs:List Nat} {ns:List NT},NodesAt w L bs ns → bs.length=ns.length:=by
 intro bs
 induction bs with
 | nil => intro ns h; cases ns with
  | nil => rfl
  | cons n ns => exact h.elim
 | cons b bs ih => intro ns h; cases ns with
  | nil => exact h.elim
  | cons n ns => simp [ih h.2]
theorem NodesAt.map {w w':World} {L L':List Nat} (hf:∀ b n,NAt w L (zh b) n → NAt w' L' (zh b) n):∀ {bs:List Nat} {ns:List NT},NodesAt w L bs ns → NodesAt w' L' bs ns:=by
 intro bs
 induction bs with
 | nil => intro ns h; cases ns with
  | nil => trivial
  | cons n ns => exact h.elim
 | cons b bs ih => intro ns h; cases ns with
  | nil => exact h.elim
  | cons n ns => exact ⟨hf _ _ h.1,ih h.2⟩
theorem NodesAt.append {w:World} {L:List Nat} {cs:List Nat} {ms:List NT} (hc:NodesAt w L cs ms):∀ {bs:List Nat} {ns:List NT},NodesAt w L bs ns → NodesAt w L (bs ++ cs) (ns ++ ms):=by
 intro bs
 induction bs with
 | nil => intro ns h; cases ns with
  | nil => exact hc
  | cons n ns => exact h.elim
 | cons b bs ih => intro ns h; cases ns with
  | nil => exact h.elim
  | cons n ns => exact ⟨h.1,ih h.2⟩
theorem zpQ (n:NT):0 < (splitN n).length:=by
 induction n with
 | leaf h => simp [splitN]
 | un h a _ => simp [splitN]
 | bin h a b iha ihb => unfold splitN; split <;> simp <;> omega
theorem zpU {w:World} {T:TypeId} {size n:Nat} {v:Value} {xs:List Value} (h:w.ownsRow 0 T size v n xs) (hn:0 < n):∃ g cap,v = .slice (some ⟨g,0,none⟩) n cap:=by
 rcases h.2 with ⟨-,h0⟩ | ⟨g,cap,cur,hv,-⟩
 ·omega
 ·exact ⟨g,cap,hv⟩
theorem zqw {w:World} {T:TypeId} {size g n cap:Nat} {xs:List Value} (h:w.ownsRow 0 T size (.slice (some ⟨g,0,none⟩) n cap) n xs):g < w.heap.size ∧ n ≤ cap ∧ ∀ j u,xs[j]? = some u → w.cell? ⟨g,j,none⟩ = some u:=by exact ybp
theorem zqx {S:ByteArray} (h:¬ S = ⟨#[97,110,100]⟩):(S.toList == [97,110,100])=false:=by rw [beq_eq_false_iff_ne];intro hx;rw [ByteArray.toList_eq] at hx;exact h (zgl hx)
def SplitRes (w0 w:World) (L:List Nat) (ns:List NT) (e:Ending) (w':World):Prop:=
 ∃ v bs,e = .returned v ∧ PtrsOwn w w' v bs ∧ NodesAt w0 L bs ns
theorem zpE {w0 w w':World} {L:List Nat} {b:Nat} {n:NT} (h:NAt w0 L (zh b) n) (hs:splitN n=[n]) (hw:w'=w.alloc (.cells #[zh b] 51)) :
  SplitRes w0 w L (splitN n) (.returned (.slice (some ⟨w.heap.size,0,none⟩) 1 1)) w':=by
 subst hw;refine ⟨_,[b],rfl,⟨(QM _ _).alloc _,⟨rfl,.inr ⟨_,1,_,rfl,Nat.zero_le _,QN w _,LR _,by unfold maxLen; omega,rfl,rfl⟩⟩,fun g hg => ?_⟩,?_⟩
 ·simp [Value.ownBlock] at hg; omega
 ·rw [hs]; exact ⟨h,trivial⟩
theorem zqy (w:World):Calls Tryz.prog 12 #[.pointer none] w fun e w' => e = .returned (.slice none 0 0) ∧ w'=w:=by go_enter Tryz.func12, Tryz.ntmps12;go_wp2_with fail;go_ret;exact ⟨rfl,rfl⟩
theorem zqz (n:NT):∀ (w0 w:World) (L:List Nat) (b:Nat),NAt w0 L (zh b) n → Mods [] w0 w → (splitN n).length ≤ 100000 →
  Calls Tryz.prog 12 #[zh b] w (SplitRes w0 w L (splitN n)):=by
 induction n with
 | leaf h =>intro w0 w L b hN hM0 _;have hfin:=zpE (w:=w) hN rfl rfl;replace hN:=hN.mods (hM0.mono);obtain ⟨b',hb',hL,hb⟩:=hN;cases hb';have c0:=za hb 0;have c7:=za hb 7;change w.cell? _=some (.string ⟨h.op.toArray⟩) at c0;change w.cell? _=some (.slice none 0 0) at c7;exact yaQ
 | un h a ih =>intro w0 w L b hN hM0 _;have hfin:=zpE (w:=w) hN rfl rfl;replace hN:=hN.mods (hM0.mono);obtain ⟨b',c,cap,u,hb',hL,hc,hcap,hb,-,-⟩:=hN;cases hb';have c0:=za hb 0;have c7:=za hb 7;change w.cell? _=some (.string ⟨h.op.toArray⟩) at c0;change w.cell? _=some (.slice (some ⟨c,0,none⟩) 1 cap) at c7;exact yaQ
 | bin h a d iha ihd =>
  intro w0 w L b hN hM0 hlen;have hN0:=hN;obtain ⟨b',c,cap,u,x,hb',hL,hc,hcap,hb,k0,k1,hA0,hD0⟩:=hN;cases hb';obtain ⟨pa,aa,rfl,-,-⟩:=hA0.head;obtain ⟨pd,ad,rfl,-,-⟩:=hD0.head;replace hb:=hM0.heap hb;replace k0:=hM0.cell k0;replace k1:=hM0.cell k1;have c0:=za hb 0;have c7:=za hb 7;change w.cell? _=some (.string ⟨h.op.toArray⟩) at c0;change w.cell? _=some (.slice (some ⟨c,0,none⟩) 2 cap) at c7;by_cases hop:h.op=oAnd
  ·have hs:splitN (.bin h a d)=splitN a ++ splitN d:=by rw [splitN,if_pos hop]
   rw [hs] at hlen ⊢;rw [List.length_append] at hlen;rw [hop] at c0;change w.cell? _=some (.string ⟨#[97,110,100]⟩) at c0;have h1:=iha w0 w.drew L pa hA0 hM0.drew AA;have h2:=fun W (hM:Mods [] w.drew W) => ihd w0 W L pd hD0 (hM0.drew.trans hM) AA;obtain ⟨PP,hPP⟩:=EX (SplitRes w0 w L (splitN a ++ splitN d));rw [hPP];have gDU:=QH trivial;exact yey
  ·have hs:splitN (.bin h a d)=[.bin h a d]:=by rw [splitN,if_neg hop]
   have hfin:=zpE (w:=w) hN0 hs rfl;obtain ⟨S,hS⟩:=EX ((⟨h.op.toArray⟩ : ByteArray):ByteArray);have h1:¬ S = ⟨#[97,110,100]⟩:=fun hx => hop (by rw [← hS] at hx; have:=congrArg (fun b:ByteArray => b.data.toList) hx; simpa [oAnd] using this);rw [hS] at c0;have HFIN:=QH hfin;clear hfin hb hS hN0 hA0 hD0 hM0 iha ihd hs hop hlen;have h2:=zqx h1;unfold zh at *;exact ycB
def kidsN:NT → List NT
 | .leaf _ => []
 | .un _ a => [a]
 | .bin _ a b => [a,b]
theorem NAt.parts {w:World} {L:List Nat} {n:NT} {v:Value} (h:NAt w L v n):∃ b ao cap,v=zh b ∧ b ∉ L ∧ w.heap[b]? = some (.cells (nhC n.hd (.slice ao (kidsN n).length cap)).toArray 80 (0,0)) ∧ (kidsN n).length ≤ 2 ∧
  (0 < (kidsN n).length → ∃ c,ao=some ⟨c,0,none⟩ ∧ c ∉ L ∧ ∀ i (hi:i < (kidsN n).length),∃ u,w.cell? ⟨c,i,none⟩ = some u ∧ NAt w L u (kidsN n)[i]):=by
 cases n with
 | leaf h0 =>obtain ⟨b,h1,h2,h3⟩:=h;exact ⟨b,none,0,h1,h2,h3,by simp [kidsN],fun h => by simp [kidsN] at h⟩
 | un h0 a =>
  obtain ⟨b,c,cap,u,h1,h2,h3,-,h5,h6,h7⟩:=h;refine ⟨b,_,cap,h1,h2,h5,by simp [kidsN],fun _ => ⟨c,rfl,h3,fun i hi => ?_⟩⟩;obtain rfl:i=0:=by simp [kidsN] at hi; omega
  exact ⟨u,h6,h7⟩
 | bin h0 a d =>
  obtain ⟨b,c,cap,u,x,h1,h2,h3,-,h5,h6,h7,h8,h9⟩:=h;refine ⟨b,_,cap,h1,h2,h5,by simp [kidsN],fun _ => ⟨c,rfl,h3,fun i hi => ?_⟩⟩;have hi2:i=0 ∨ i=1:=by simp [kidsN] at hi; omega
  rcases hi2 with rfl | rfl
  ·exact ⟨u,h6,h8⟩
  ·exact ⟨x,h7,h9⟩
def orU (a b:Bool × Bool):Bool × Bool:=(a.1 || b.1,a.2 || b.2)
def usesL (sp:Nat) (a:Bool × Bool) (l:List NT):Bool × Bool:=l.foldl (fun x n => orU x (usesN sp n)) a
theorem zql (sp:Nat) (n:NT):usesN sp n=usesL sp (colU sp n.hd) (kidsN n):=by cases n <;> rfl
theorem zqm (sp:Nat) (a:Bool × Bool) (l:List NT) (i:Nat) (hi:i < l.length):usesL sp a (l.take (i + 1))=orU (usesL sp a (l.take i)) (usesN sp l[i]):=by unfold usesL;rw [List.take_succ_eq_append_getElem hi];rw [List.foldl_append];rfl
def UsesRes (w:World) (r:Bool × Bool) (e:Ending) (w':World):Prop:=e = .returned (.tuple #[.bool r.1,.bool r.2]) ∧ Mods [] w w'
def UsesIH (sp:Nat) (n:NT):Prop:=∀ (w:World) (L:List Nat) (v:Value),NAt w L v n → Calls Tryz.prog 34 #[v,.int .i64 sp] w (UsesRes w (usesN sp n))
theorem zpF (sp:Nat) (n:NT) (ih:∀ a ∈ kidsN n,UsesIH sp a):UsesIH sp n:=by
 intro w L v hN;obtain ⟨b,ao,cap,rfl,-,hb,hk2,hcs⟩:=hN.parts;have c0:=za hb 0;have c3:=za hb 3;have c7:=za hb 7;change w.cell? _=some (.string ⟨n.hd.op.toArray⟩) at c0;change w.cell? _=some (.int .i64 (n.hd.col:Nat)) at c3;change w.cell? _=some (.slice ao (kidsN n).length cap) at c7;obtain ⟨PP,hPP⟩:=EX (UsesRes w (usesN sp n));rw [hPP];have HPP:=QH hPP;obtain ⟨l,hl⟩:=EX (kidsN n);obtain ⟨k,hk⟩:=EX (l.length);have hu:=zql sp n;rw [hl] at hu hcs c7 hk2 ih;rw [hk] at c7 hk2;obtain ⟨x0,hx0⟩:=EX (colU sp n.hd);rw [hx0] at hu;obtain ⟨S,hS⟩:=EX ((⟨n.hd.op.toArray⟩ : ByteArray):ByteArray);rw [hS] at c0;obtain ⟨q,hq⟩:=EX (n.hd.col);rw [hq] at c3;obtain ⟨B,hB⟩:=EX ((S.toList == [99,111,108,117,109,110]));have hxx:x0=if B=true then (decide (q < sp),decide (sp ≤ q)) else (false,false):=by
  rw [← hx0,← hB,← hS,← hq,ByteArray.toList_eq];unfold colU;by_cases h:n.hd.op=oColumn
  ·rw [if_pos h,if_pos (by rw [h]; rfl)]
  ·rw [if_neg h,if_neg (by simpa [oColumn] using h)]
 obtain ⟨a0,b0⟩:=x0;have HH:=QH (AI hcs (AI ih (AI hk (AI hu hxx))));clear hN hb hcs ih hl hk hu hx0 hS hq hPP hxx;unfold zh;have HC:=QH (AI c0 (AI c3 c7));go_enter Tryz.func34, Tryz.ntmps34;go_upto_if 16 with fail;clear hB;go_cut [4,5] from 17 to 28 (fun t4 t5 wx => t4 = .bool a0 ∧ t5 = .bool b0 ∧ Mods [] w wx)
 case first =>
  cases B with
  | true =>
   have hxx:(a0,b0)=(decide (q < sp),decide (sp ≤ q)):=by rw [HH.out.2.2.2.2,if_pos rfl]
   have HF:=QH (AI (show a0=decide (q < sp) from congrArg Prod.fst hxx) (show b0=decide (sp ≤ q) from congrArg Prod.snd hxx));clear hxx;go_wp2_with fail;go_quiet (fail);go_wp2_with fail
   go_meet
   exact ⟨by rw [HF.out.1],by rw [HF.out.2],(QM _ _).drewN _⟩
  | false =>
   have hxx:(a0,b0)=(false,false):=by rw [HH.out.2.2.2.2,if_neg AD]
   have HF:=QH hxx;clear hxx;go_wp2_with fail
   go_meet
   cases HF.out;exact ⟨rfl,rfl,QM _ _⟩
 case rest =>
  obtain ⟨rfl,rfl,hM⟩:=hcut;generalize wc=wx at *;have c7:=hM.cell HC.out.2.2;clear c0 c3;go_wp2_with fail;go_loopg [4,5,34] k (fun gk t4 t5 t34 wr => ∃ i:Nat,i + gk=k ∧ t34 = .int .i64 i ∧ t4 = .bool (usesL sp (a0,b0) (l.take i)).1 ∧ t5 = .bool (usesL sp (a0,b0) (l.take i)).2 ∧ Mods [] w wr)
  case atStart => exact ⟨0,by omega,rfl,rfl,rfl,hM⟩
  obtain ⟨i,hin,rfl,rfl,rfl,hMr⟩:=hrel;by_cases hlt:i < k
  ·obtain ⟨hcs,ih,hk,hu,hxx⟩:=HH.out;obtain ⟨c,rfl,-,hc⟩:=hcs AA;have hil:i < l.length:=by omega
   obtain ⟨u,hu0,hu1⟩:=hc i hil;have k0:=hMr.cell hu0;have hca:=ih l[i] (List.getElem_mem hil) wr L u (hu1.mods (hMr.mono));have hst:=zqm sp (a0,b0) l i hil;unfold UsesRes at hca;generalize usesL sp (a0,b0) (l.take i)=x at *;generalize usesN sp l[i]=z at *;have HS:=QH hst;clear hst hcs ih hk hu hxx hc hu0 hu1 c7;obtain ⟨x1,x2⟩:=x;obtain ⟨z1,z2⟩:=z;cases x1 <;> cases x2 <;> cases z1 <;> cases z2
   all_goals
    go_wp2_with fail;(with_reducible refine hca.mono ?_);rintro e w2 ⟨rfl,hM2⟩;have hM3:=hMr.trans hM2;clear hca;go_wp2_with fail;go_roundg (k - (i + 1))
    case measure => omega
    case rel => exact ⟨i + 1,by omega,by go_num,by rw [HS.out]; rfl,by rw [HS.out]; rfl,hM3⟩
  ·obtain rfl:k=i:=by omega
   have hfin:PP (.returned (.tuple #[.bool (usesL sp (a0,b0) (l.take k)).1,.bool (usesL sp (a0,b0) (l.take k)).2])) wr:=by rw [← HPP.out,HH.out.2.2.2.1,← HH.out.2.2.1,List.take_length];exact ⟨rfl,hMr⟩
   have HFIN:=QH hfin;clear hfin;go_wp2_with fail;exact HFIN.out
theorem zq8 (sp:Nat):∀ n:NT,UsesIH sp n:=by
 intro n
 induction n with
 | leaf h => exact zpF sp _ (fun a ha => by simp [kidsN] at ha)
 | un h a ih => exact zpF sp _ (fun x hx => by simp [kidsN] at hx; rw [hx]; exact ih)
 | bin h a b iha ihb => exact zpF sp _ (fun x hx => by
   simp [kidsN] at hx;rcases hx with rfl | rfl
   ·exact iha
   ·exact ihb)
theorem zqA {S:ByteArray} {l:List UInt8} (h:¬ S = ⟨l.toArray⟩):(S.toList == l)=false:=by rw [beq_eq_false_iff_ne,ByteArray.toList_eq];exact fun hx => h (zgl hx)
def sideV (r:Bool × Bool):Value:=.agg #[.bool r.1,.bool r.2]
theorem zp5 (w:World) (L:List Nat) (v:Value) (n:NT) (sp:Nat) (hN:NAt w L v n):Calls Tryz.prog 18 #[v,.int .i64 sp] w fun e w' => e = .returned (sideV (usesN sp n)) ∧ Mods [] w w':=by have hM0:=(QM [] w).alloc (.cells #[.bool false,.bool false] 73);have hb:=QN w (.cells #[.bool false,.bool false] 73);have hu:=zq8 sp n _ L v (hN.mods (hM0.mono));unfold UsesRes at hu;unfold sideV;generalize usesN sp n=r at *;obtain ⟨r1,r2⟩:=r;have HH:=QH (AI hM0 hb);clear hN hM0 hb;go_enter Tryz.func18, Tryz.ntmps18;go_wp2_with fail;(with_reducible refine hu.mono ?_);rintro e w2 ⟨rfl,hM2⟩;have hr:=hM2.heap HH.out.2;have hMw:=HH.out.1.trans hM2;clear hu;go_wp2_with (refine wpList_store_row rfl 73 (.tmp 4) (.tmp 15) rfl w.heap.size #[.bool r1,.bool r2] rfl rfl 73 _ hr AC rfl AP ?_);have h3:=zi #[.bool r1,.bool r2] hr;have e0:=za h3 0;have e1:=za h3 1;change World.cell? _ _=some (.bool r1) at e0;change World.cell? _ _=some (.bool r2) at e1;refine bodyPost_ret (by simp [results,Tryz.results18, go_sem,e0,e1,Result.andThen]; try rfl) rfl ?_;exact ⟨rfl,hMw.setRow (.inr (LR _)) _⟩
def zpz (w0 w:World) (L:List Nat) (sp:Nat) (n:NT) (e:Ending) (w':World):Prop:=
 ∃ v1 v2 ok,e = .returned (.tuple #[.agg #[v1,v2],.bool ok]) ∧ Mods [] w w' ∧ (v1.oneCell'=true ∧ v2.oneCell'=true) ∧ (zps sp n=none → ok=false) ∧ ∀ k,zps sp n=some k → ok=true ∧ NAt w0 L v1 k.1 ∧ NAt w0 L v2 k.2
theorem zqB {w0 w w':World} {L:List Nat} {sp:Nat} {n:NT} (h:zps sp n=none) (hM:Mods [] w w'):zpz w0 w L sp n (.returned (.tuple #[.agg #[.pointer none,.pointer none],.bool false])) w':=
 ⟨_,_,false,rfl,hM,⟨rfl,rfl⟩,fun _ => rfl,fun k hk => by rw [h] at hk; cases hk⟩
theorem zpV (w0 w:World) (L:List Nat) (v:Value) (n:NT) (sp:Nat) (hN:NAt w0 L v n) (hM:Mods [] w0 w) (hn:(kidsN n).length ≠ 2 ∨ n.hd.op ≠ [61]) :
  Calls Tryz.prog 19 #[v,.int .i64 sp] w (zpz w0 w L sp n):=by
 have hpn:zps sp n=none:=by
  cases n with
  | leaf h => rfl
  | un h a => rfl
  | bin h a b =>
   rcases hn with hn | hn
   ·simp [kidsN] at hn
   ·simp only [zps];exact if_neg (fun hx => hn hx.1)
 have hfin:=fun w' => zqB (w0:=w0) (w:=w) (w':=w') (L:=L) hpn;obtain ⟨b,ao,cap,rfl,-,hb,-,-⟩:=hN.parts;replace hb:=hM.heap hb;have hM0:=(QM [] w).alloc (.cells #[.pointer none,.pointer none] 76);have hr:=QN w (.cells #[.pointer none,.pointer none] 76);have c0:=hM0.cell (za hb 0);have c7:=hM0.cell (za hb 7);change World.cell? _ _=some (.string ⟨n.hd.op.toArray⟩) at c0;change World.cell? _ _=some (.slice ao (kidsN n).length cap) at c7;obtain ⟨S,hS⟩:=EX ((⟨n.hd.op.toArray⟩ : ByteArray):ByteArray);obtain ⟨k,hk⟩:=EX ((kidsN n).length);rw [hS] at c0;rw [hk] at c7 hn;have hS2:¬ S = ⟨#[61]⟩ ∨ (S = ⟨#[61]⟩ ∧ ¬ (k:Int)=2):=by
  by_cases h:S = ⟨#[61]⟩
  ·refine .inr ⟨h,?_⟩;rcases hn with hn | hn
   ·omega
   ·exact absurd (by rw [← hS] at h; have:=congrArg (fun b:ByteArray => b.data.toList) h; simpa using this) hn
  ·exact .inl h
 have HH:=QH (AI hM0 (AI hr hfin));clear hb hN hM0 hr hfin hS hk hn hpn;unfold zh;rcases hS2 with h1 | ⟨rfl,h1⟩
 ·have h2:=zqA (l:=[61]) h1;have h3:(S == ⟨#[61]⟩)=false:=zgp (l:=[61]) (fun hx => h1 (zgl hx));exact yav
 ·exact yav
def tblsL:List TblT:=[⟨[116],[([97],tyInt),([98],⟨2,2⟩),([99],tyBytes),([100],tyBool)]⟩,⟨[117],[([120],tyInt),([121],⟨2,1⟩),([122],tyBytes)]⟩]
def zaI (s:Bs):Option (Chk CQ):=match zaj s with
 | .bad _ _ => none
 | .good q => some (zao tblsL q)
def exP:Bs:=[83,69,76,69,67,84,32,97,32,70,82,79,77,32,116,32,74,79,73,78,32,117,32,79,78,32,116,46,97,32,61,32,117,46,120,32,65,78,68,32,100,32,87,72,69,82,69,32,121,32,62,32,49,32,65,78,68,32,97,32,60,32,121]
def exPB (r:Option (Chk CQ)):Bool:=match r with
 | some (.ok c) => decide (c.left=0 ∧ c.right=some 1 ∧ (splitO c.on ++ splitO c.whr).length=4) && (decide ((splitO c.whr).length=2) &&
   (let p:=makeP 4 false (splitO c.on ++ splitO c.whr); decide (p.left.length=1 ∧ p.right.length=1 ∧ p.keys.length=1 ∧ p.rest.length=1)))
 | _ => false
theorem ex_p:exPB (zaI exP)=true:=by decide +kernel
end Go.Proofs.YtcabeljiobiojaaGreatDoor
