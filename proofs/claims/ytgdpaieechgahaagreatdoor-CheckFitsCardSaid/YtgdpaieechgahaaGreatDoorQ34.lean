/-
  schema.Find and schema.Column, walked: the place of the first one of a name. No condition.
-/
import Derived.Test.YtgdpaieechgahaaGreatDoorQ33
set_option linter.unusedVariables false
set_option maxRecDepth 100000
set_option maxHeartbeats 8000000
namespace Go.Proofs.YtgdpaieechgahaaGreatDoor
open Go.RowKit
open Go.Maps
def zcx (l:List ByteArray) (s:ByteArray):Value:=
 match l.findIdx? (fun x => decide (x=s)) with
 | some i => .tuple #[.int .i64 i,.bool true]
 | none => .tuple #[.int .i64 0,.bool false]
theorem zfY {l:List ByteArray} {s:ByteArray} {i:Nat} (hi:i < l.length) (h:l[i]=s) (hb:∀ j (hj:j < l.length),j < i → l[j] ≠ s):zcx l s = .tuple #[.int .i64 i,.bool true]:=by
 have:l.findIdx? (fun x => decide (x=s))=some i:=by rw [List.findIdx?_eq_some_iff_getElem];exact ⟨hi,by simp [h],fun j hj => by simpa using hb j (by omega) hj⟩
 unfold zcx;rw [this]
theorem zfZ {l:List ByteArray} {s:ByteArray} (hb:∀ j (hj:j < l.length),l[j] ≠ s):zcx l s = .tuple #[.int .i64 0,.bool false]:=by
 have:l.findIdx? (fun x => decide (x=s))=none:=by rw [List.findIdx?_eq_none_iff];intro x hx;obtain ⟨j,hj,rfl⟩:=List.getElem_of_mem hx;simpa using hb j hj
 unfold zcx;rw [this]
def NotYet (l:List ByteArray) (s:ByteArray) (i:Nat):Prop:=∀ j (hj:j < l.length),j < i → l[j] ≠ s
theorem NotYet.next {l:List ByteArray} {s:ByteArray} {i:Nat} (h:NotYet l s i) (hi:i < l.length) (hn:l[i] ≠ s):NotYet l s (i + 1):=by
 intro j hj hji;by_cases he:j=i
 ·subst he; exact hn
 ·exact h j hj (by omega)
theorem zfg (w:World) (x:ByteArray) (v:Value) (hv:v.oneCell'=true):Calls Tryz.prog 85 #[.agg #[.string x,v]] w fun e w' => e = .returned (.string x) ∧ Mods [] w w':=by
 have hM:=(QM [] w).alloc (.cells #[.string x,v] 98);go_enter Tryz.func85, Tryz.ntmps85;go_wp2_with fail;go_ret
 exact ⟨rfl,hM⟩
theorem zig (w:World) (l:List Tbl) (n:Nat) (hn:l.length=n) (hn63:n ≤ 9223372036854775807) (ao:Option Addr) (cap:Nat) (hI:TblsIn w ao l []) (s:ByteArray) :
  Calls Tryz.prog 84 #[.slice ao n cap,.string s,.func (.func 85) #[] #[]] w fun e w' => e = .returned (zcx (l.map Tbl.name) s) ∧ Mods [] w w':=by
 have HN:=QH hn;have HI:=QH hI;clear hn hI;go_enter Tryz.func84, Tryz.ntmps84;go_wp2_with fail;go_loopw [12] (fun t12 wr => ∃ (i:Nat),i ≤ n ∧ t12 = .int .i64 i ∧ Mods [] w wr ∧ NotYet (l.map Tbl.name) s i) (fun t12 _ => n - (intOf t12).toNat)
 case atStart => exact ⟨0,by omega,rfl,QM _ _,fun j _ h => by omega⟩
 case round =>
  obtain ⟨i,hi,rfl,hM,hY⟩:=hrel;by_cases hlt:i < n
  ·have hil:i < l.length:=by rw [HN.out]; exact hlt
   have hne:l ≠ []:=fun h => by rw [h] at hil; simp at hil
   obtain ⟨cb,off,rfl,hcb,hcells⟩:=HI.out hne;obtain ⟨c0,co,cc,c1,hC⟩:=hcells i hil;have d0:=hM.cell c0;have d1:=hM.cell c1;have hml:i < (l.map Tbl.name).length:=by simpa using hil
   have hme:(l.map Tbl.name)[i]=l[i].name:=by simp
   obtain ⟨c,hc⟩:=EX (l[i]);rw [hc] at d0 d1 hme;obtain ⟨nc,hnc⟩:=EX (c.cols.length);rw [hnc] at d1;clear c0 c1 hC hc hcells hcb hnc;have hMB:=(QM [] wr).alloc (.cells #[.string c.name,.slice co nc cc] 98);have hMx:=hM.trans hMB;by_cases heq:c.name=s
   ·have fin:Hid (zcx (l.map Tbl.name) s = .tuple #[.int .i64 i,.bool true]):=QH (zfY hml (by rw [hme,heq]) hY);obtain rfl:=heq;clear hY hme hml;go_wp2_with fail;(with_reducible refine (zfg _ _ _ rfl).mono ?_);rintro e w2 ⟨rfl,hM2⟩;go_wp2_with fail;go_ret2;exact ⟨by rw [fin.out]; rfl,hMx.trans hM2⟩
   ·have hY2:NotYet (l.map Tbl.name) s (i + 1):=hY.next hml (by rw [hme]; exact heq);have z2:¬ c.name.toList=s.toList:=by
     rw [ByteArray.toList_eq,ByteArray.toList_eq];intro h;exact heq (ByteArray.ext (Array.toList_inj.1 h))
    have z1:(c.name.toList == s.toList)=false:=by rw [beq_eq_false_iff_ne]; exact z2
    clear hY hme hml;go_wp2_with fail;(with_reducible refine (zfg _ _ _ rfl).mono ?_);rintro e w2 ⟨rfl,hM2⟩;go_wp2_with fail;go_roundw
    case measure => simp [intOf]; omega
    case rel => exact ⟨i + 1,by omega,by go_num,hMx.trans hM2,hY2⟩
  ·obtain rfl:n=i:=by omega
   have fin:Hid (zcx (l.map Tbl.name) s = .tuple #[.int .i64 0,.bool false]):=QH (zfZ (fun j hj => hY j hj (by have:=HN.out; simp at hj; omega)));clear hY;go_wp2_with fail;go_ret2;exact ⟨by rw [fin.out]; rfl,hM⟩
theorem zf0 (l:List ByteArray) (s:ByteArray):∃ (i:Nat) (b:Bool),zcx l s = .tuple #[.int .i64 i,.bool b]:=by
 unfold zcx;split
 ·exact ⟨_,_,rfl⟩
 ·exact ⟨0,false,rfl⟩
theorem zfh (w:World) (l:List Tbl) (n:Nat) (hn:l.length=n) (hn63:n ≤ 9223372036854775807) (ao:Option Addr) (cap:Nat) (hI:TblsIn w ao l []) (s:ByteArray) :
  Calls Tryz.prog 54 #[.slice ao n cap,.string s] w fun e w' => e = .returned (zcx (l.map Tbl.name) s) ∧ Mods [] w w':=by
 have hf:=zig w l n hn hn63 ao cap hI s;obtain ⟨i,b,hib⟩:=zf0 (l.map Tbl.name) s;rw [hib] at hf ⊢;clear hib;go_enter Tryz.func54, Tryz.ntmps54;go_wp2_with fail;(with_reducible refine hf.mono ?_);rintro e w2 ⟨rfl,hM2⟩;go_wp2_with fail;go_ret2;exact ⟨rfl,hM2⟩
theorem Adding.go {Lx Sl:List Nat} {w0 w w':World} {sb:Nat} {cv:Value} {mb d pos e d' pos' e':Nat} {env:List EC} (h:Adding Lx Sl w0 w sb cv mb d pos e env) (hM:Mods [sb] w w') (hS:zaX w' sb cv mb d' pos' e'):Adding Lx Sl w0 w' sb cv mb d' pos' e' env:=
 ⟨hS,h.map.mods (hM.mono),h.row.mods hM (fun g hg => by simpa using (h.old.2.2 g hg).2),h.mods.trans hM (fun x hx => .inl (by simp at hx; rw [hx]; exact h.old.1)),h.old,h.far⟩
theorem Adding.later {Lx Sl:List Nat} {w0 w w':World} {sb:Nat} {cv:Value} {mb d pos e:Nat} {env:List EC} (h:Adding Lx Sl w0 w sb cv mb d pos e env) (hM:Mods [] w w'):Adding Lx Sl w0 w' sb cv mb d pos e env:=
 h.go (hM.mono) (hM.heap h.st)
def zax (t:Tbl):TblT:=⟨t.nm,t.cols.map fun c => (c.nm,⟨c.k.toNat,c.s.toNat⟩)⟩
theorem ColsIn.weaken {w:World} {ao:Option Addr} {cs:List Col} {L L':List Nat} (h:ColsIn w ao cs L) (hL:∀ x ∈ L',x ∈ L):ColsIn w ao cs L':=fun hne => by obtain ⟨b,off,h1,h2,h3⟩:=h hne;exact ⟨b,off,h1,fun hm => h2 (hL _ hm),h3⟩
theorem TblsIn.weaken {w:World} {ao:Option Addr} {ts:List Tbl} {L L':List Nat} (h:TblsIn w ao ts L) (hL:∀ x ∈ L',x ∈ L):TblsIn w ao ts L':=fun hne => by
 obtain ⟨b,off,h1,h2,h3⟩:=h hne
 exact ⟨b,off,h1,fun hm => h2 (hL _ hm),fun i hi => by
  obtain ⟨h4,co,c,h5,h6⟩:=h3 i hi
  exact ⟨h4,co,c,h5,h6.weaken hL⟩⟩
theorem zi0 (b:ByteArray):(⟨b.data.toList.toArray⟩ : ByteArray)=b:=by cases b; simp
theorem zi1 (l:List Tbl) (s:Bs):(l.map Tbl.name).findIdx? (fun x => decide (x=(⟨s.toArray⟩ : ByteArray)))=zbw (l.map zax) s:=by
 unfold zbw;rw [List.findIdx?_map,List.findIdx?_map];congr 1;funext t;show decide (t.name=_)=(t.name.data.toList == s);rw [Bool.eq_iff_iff,decide_eq_true_iff,beq_iff_eq];constructor
 ·intro h;rw [h]
 ·intro h;rw [← h,zi0]
theorem zc1 {l:List Tbl} {s:Bs} {k:Nat} (h:zbw (l.map zax) s=some k):zcx (l.map Tbl.name) ⟨s.toArray⟩ = .tuple #[.int .i64 k,.bool true]:=by unfold zcx;rw [zi1,h]
theorem zfG {l:List Tbl} {s:Bs} (h:zbw (l.map zax) s=none):zcx (l.map Tbl.name) ⟨s.toArray⟩ = .tuple #[.int .i64 0,.bool false]:=by unfold zcx;rw [zi1,h]
theorem zd0 {l:List Tbl} {s:Bs} {k:Nat} (h:zbw (l.map zax) s=some k):∃ hk:k < l.length,l[k].nm=s:=by unfold zbw at h;rw [List.findIdx?_eq_some_iff_getElem] at h;obtain ⟨hk,h1,-⟩:=h;refine ⟨by simpa using hk,?_⟩;simpa [zax] using h1
theorem zih (Lx Sl:List Nat) (w0 w:World) (sb:Nat) (cv:Value) (mb pos:Nat) (env:List EC) (hA:Adding Lx Sl w0 w sb cv mb 0 pos 0 env) (l:List Tbl) (n:Nat) (hn:l.length=n) (hn63:n ≤ 9223372036854775807) (ao:Option Addr) (cap:Nat) (hI:TblsIn w0 ao l Sl) (s:Bs) (at':Nat) (but:Int) (hf:zbw (l.map zax) s=none) :
  Calls Tryz.prog 23 #[zh sb,.slice ao n cap,.string ⟨s.toArray⟩,.int .i64 at',.int .i64 but] w fun r w' => r = .returned (.int .i64 0) ∧ Adding Lx Sl w0 w' sb cv mb 0 at' 13 env:=by
 have hcall:=zfh w l n hn hn63 ao cap ((hI.mods hA.mods).weaken (by simp)) ⟨s.toArray⟩;rw [zfG hf] at hcall;have HA:=QH hA;generalize (⟨s.toArray⟩ : ByteArray)=S at *;clear hA hI hn hf;unfold zh;go_enter Tryz.func23, Tryz.ntmps23;go_wp2_with fail;(with_reducible refine hcall.mono ?_);rintro e w1 ⟨rfl,hM1⟩;have hA1:=HA.out.later hM1;have hc1:=zF w1 sb cv mb 0 pos 0 hA1.st true 13 at';have HA1:=QH hA1;unfold zh at hc1;clear hA1 hM1 hcall;go_wp2_with fail;refine hc1.mono ?_;rintro e w2 ⟨rfl,hM2,hS2⟩;have hA2:=HA1.out.go hM2 hS2;rw [show zaa true 13 at' pos 0=(at',13) from rfl] at hA2;have hc2:=zF w2 sb cv mb 0 at' 13 hA2.st false 4 at';have HA2:=QH hA2;unfold zh at hc2;clear hA2 hM2 hS2 hc1;go_wp2_with fail;refine hc2.mono ?_;rintro e w3 ⟨rfl,hM3,hS3⟩;have hA3:=HA2.out.go hM3 hS3;rw [show zaa false 4 at' at' 13=(at',13) from rfl] at hA3;have c4:=za hA3.st 4;change w3.cell? _=some (.int .i64 13) at c4;have HA3:=QH hA3;clear hA3 hM3 hS3 hc2;go_wp2_with fail;go_ret;exact ⟨rfl,HA3.out⟩
theorem zii (Lx Sl:List Nat) (w0 w:World) (sb:Nat) (cv:Value) (mb pos:Nat) (env:List EC) (hA:Adding Lx Sl w0 w sb cv mb 0 pos 0 env) (l:List Tbl) (n:Nat) (hn:l.length=n) (hn63:n ≤ 9223372036854775807) (ao:Option Addr) (cap:Nat) (hI:TblsIn w0 ao l Sl) (s:Bs) (at':Nat) (k:Nat) (hf:zbw (l.map zax) s=some k) :
  Calls Tryz.prog 23 #[zh sb,.slice ao n cap,.string ⟨s.toArray⟩,.int .i64 at',.int .i64 k] w fun r w' => r = .returned (.int .i64 k) ∧ Adding Lx Sl w0 w' sb cv mb 0 at' 4 env:=by
 have hcall:=zfh w l n hn hn63 ao cap ((hI.mods hA.mods).weaken (by simp)) ⟨s.toArray⟩;rw [zc1 hf] at hcall;have HA:=QH hA;generalize (⟨s.toArray⟩ : ByteArray)=S at *;clear hA hI hn hf;unfold zh;go_enter Tryz.func23, Tryz.ntmps23;go_wp2_with fail;(with_reducible refine hcall.mono ?_);rintro e w1 ⟨rfl,hM1⟩;have hA1:=HA.out.later hM1;have hc1:=zF w1 sb cv mb 0 pos 0 hA1.st false 13 at';have HA1:=QH hA1;unfold zh at hc1;clear hA1 hM1 hcall;go_wp2_with fail;refine hc1.mono ?_;rintro e w2 ⟨rfl,hM2,hS2⟩;have hA2:=HA1.out.go hM2 hS2;rw [show zaa false 13 at' pos 0=(pos,0) from rfl] at hA2;have hc2:=zF w2 sb cv mb 0 pos 0 hA2.st true 4 at';have HA2:=QH hA2;unfold zh at hc2;clear hA2 hM2 hS2 hc1;go_wp2_with fail;refine hc2.mono ?_;rintro e w3 ⟨rfl,hM3,hS3⟩;have hA3:=HA2.out.go hM3 hS3;rw [show zaa true 4 at' pos 0=(at',4) from rfl] at hA3;have c4:=za hA3.st 4;change w3.cell? _=some (.int .i64 4) at c4;have HA3:=QH hA3;clear hA3 hM3 hS3 hc2;go_wp2_with fail;go_ret;exact ⟨rfl,HA3.out⟩
def AddT (Lx Sl:List Nat) (w0 wr:World) (sb mb pos:Nat) (env es:List EC) (i:Nat):Prop:=∃ cv',Adding Lx Sl w0 wr sb cv' mb 0 pos 0 (env ++ es.take i)
theorem zij (Lx Sl:List Nat) (w0 w:World) (sb:Nat) (cv:Value) (mb pos:Nat) (env:List EC) (hA:Adding Lx Sl w0 w sb cv mb 0 pos 0 env) (l:List Tbl) (n:Nat) (hn:l.length=n) (hn63:n ≤ 9223372036854775807) (ao:Option Addr) (cap:Nat) (hI:TblsIn w0 ao l Sl) (s:Bs) (at':Nat) (but:Int) (k:Nat) (hf:zbw (l.map zax) s=some k) (hbut:but ≠ k)
  (hs:s ≠ []) (hsl:s.length ≤ 5000) (t:Tbl) (ht:l[k]? = some t) (hlen:env.length + t.cols.length ≤ 1000) (hfit:∀ c ∈ t.cols,c.nm.length ≤ 5000 ∧ 0 ≤ c.k ∧ 0 ≤ c.s) (hnew:∀ c ∈ t.cols,∀ e ∈ env,e.name ≠ c.nm) (hnd:(t.cols.map Col.nm).Nodup) :
  Calls Tryz.prog 23 #[zh sb,.slice ao n cap,.string ⟨s.toArray⟩,.int .i64 at',.int .i64 but] w fun r w' => r = .returned (.int .i64 k) ∧ ∃ cv',Adding Lx Sl w0 w' sb cv' mb 0 pos 0 (env ++ (zax t).env):=by
 have hcall:=zfh w l n hn hn63 ao cap ((hI.mods hA.mods).weaken (by simp)) ⟨s.toArray⟩;rw [zc1 hf] at hcall;obtain ⟨hk,hnm⟩:=zd0 hf;have htk:l[k]=t:=by rw [List.getElem?_eq_getElem hk] at ht;exact Option.some.inj ht
 rw [htk] at hnm;obtain ⟨tb,off,rfl,htb,hcells⟩:=hI (by intro h; rw [h] at hk; simp at hk);obtain ⟨hc0,co,cc,hc1,hcols⟩:=hcells k hk;rw [htk] at hc1 hcols;rw [hn] at hk;obtain ⟨m,hm⟩:=EX (t.cols.length);rw [hm] at hc1;have hes:(zax t).env.length=m:=by simp [TblT.env,zax,hm]
 have hbf:((k:Int) == but)=false:=by rw [beq_eq_false_iff_ne]; exact fun h => hbut h.symm
 have HA:=QH (AI hA (AI hnm (AI hcols (AI hm (AI hes (AI hs (AI hsl (AI hlen (AI hfit (AI hnew (AI hnd (AI hc1 htb))))))))))));obtain ⟨S,hS⟩:=EX ((⟨s.toArray⟩ : ByteArray):ByteArray);rw [hS] at hcall ⊢;have HS:=QH hS;have hm63:m ≤ 9223372036854775807:=by omega
 clear hA hI hn hf hnm hcells hc0 hc1 hcols hm hes hs hsl hlen hfit hnew hnd hS htk ht hbut htb;unfold zh;go_enter Tryz.func23, Tryz.ntmps23;go_wp2_with fail;(with_reducible refine hcall.mono ?_);rintro e w1 ⟨rfl,hM1⟩;have hA1:=HA.out.1.later hM1;have hc1:=zF w1 sb cv mb 0 pos 0 hA1.st false 13 at';have HA1:=QH hA1;unfold zh at hc1;clear hA1 hM1 hcall;go_wp2_with fail;refine hc1.mono ?_;rintro e w2 ⟨rfl,hM2,hS2⟩;have hA2:=HA1.out.go hM2 hS2;rw [show zaa false 13 at' pos 0=(pos,0) from rfl] at hA2;have hc2:=zF w2 sb cv mb 0 pos 0 hA2.st false 4 at';have HA2:=QH hA2;unfold zh at hc2;clear hA2 hM2 hS2 hc1;go_wp2_with fail;refine hc2.mono ?_;rintro e w3 ⟨rfl,hM3,hS3⟩;have hA3:=HA2.out.go hM3 hS3;rw [show zaa false 4 at' pos 0=(pos,0) from rfl] at hA3;have c4:=za hA3.st 4;change w3.cell? _=some (.int .i64 0) at c4;have kc:=hA3.mods.cell HA.out.2.2.2.2.2.2.2.2.2.2.2.1 HA.out.2.2.2.2.2.2.2.2.2.2.2.2;have HA3:=QH hA3;clear hA3 hM3 hS3 hc2;go_wp2_with fail;clear c4 kc;go_loopg [46] m (fun gk t46 wr => ∃ i:Nat,i + gk=m ∧ t46 = .int .i64 i ∧ AddT Lx Sl w0 wr sb mb pos env (zax t).env i)
 case atStart => exact ⟨0,by omega,rfl,cv,by simpa using HA3.out⟩
 obtain ⟨i,hi,rfl,hAd⟩:=hrel;by_cases hlt:i < m
 ·obtain ⟨cvi,hAi⟩:=hAd;obtain ⟨-,hnm,hcols,hm,hes,hs,hsl,hlen,hfit,hnew,hnd,-⟩:=HA.out;have hic:i < t.cols.length:=by rw [hm]; exact hlt
  obtain ⟨cb,coff,rfl,hcb,hcc⟩:=hcols (by intro h; rw [h] at hic; simp at hic);obtain ⟨x0,x1,x2,x3⟩:=hcc i hic;have k0:=hAi.mods.cell x0 hcb;have k1:=hAi.mods.cell x1 hcb;have k2:=hAi.mods.cell x2 hcb;have k3:=hAi.mods.cell x3 hcb;obtain ⟨hf1,hf2,hf3⟩:=hfit _ (List.getElem_mem hic);have heq:(zax t).env[i]'(by rw [hes]; exact hlt) = ⟨s,t.cols[i].nm,⟨t.cols[i].k.toNat,t.cols[i].s.toNat⟩⟩:=by simp [TblT.env,zax,hnm]
  obtain ⟨nm,hnme⟩:=EX (t.cols[i].nm);obtain ⟨a,ha⟩:=EX (t.cols[i].k.toNat);obtain ⟨b,hb⟩:=EX (t.cols[i].s.toNat);obtain ⟨nl,hnl⟩:=EX (t.cols[i].null);have hnB:t.cols[i].name=(⟨nm.toArray⟩ : ByteArray):=by rw [← hnme]; exact (zi0 _).symm
  rw [hnB] at k0;rw [show t.cols[i].k=(a:Int) by omega] at k1;rw [show t.cols[i].s=(b:Int) by omega] at k2;rw [hnl] at k3;have hAz:=hAi.later ((QM [] wr).alloc (.cells #[.string ⟨nm.toArray⟩,.int .i64 a,.int .i64 b,.bool nl] 96));have hstep:(env ++ (zax t).env.take i) ++ [⟨s,nm,⟨a,b⟩⟩]=env ++ (zax t).env.take (i + 1):=by rw [List.append_assoc,List.take_succ_eq_append_getElem (by rw [hes]; exact hlt),heq,hnme,ha,hb]
  have hcl:=zmT Lx Sl w0 _ sb cvi mb 0 pos 0 _ hAz (by simp only [List.length_append,List.length_take,hes]; omega) s nm a b nl hs hsl (by rw [← hnme]; exact hf1) (by
   intro e he;rw [List.mem_append] at he;rcases he with he | he
   ·rw [← hnme];exact hnew _ (List.getElem_mem hic) e he
   ·obtain ⟨j,hj,hje⟩:=List.mem_iff_getElem.1 he;rw [List.length_take,hes] at hj;rw [List.getElem_take] at hje;have hjc:j < t.cols.length:=by omega
    have:e.name=(t.cols.map Col.nm)[j]'(by simpa using hjc):=by rw [← hje];simp [TblT.env,zax]
    rw [this,← hnme];have h2:t.cols[i].nm=(t.cols.map Col.nm)[i]'(by simpa using hic):=by simp
    rw [h2]
    exact (List.pairwise_iff_getElem.1 hnd) j i _ _ (by omega))
  rw [hstep] at hcl;rw [HS.out] at hcl;generalize (⟨nm.toArray⟩ : ByteArray)=N at *;unfold zh at hcl;clear hAi hnm hcols hes hs hsl hlen hfit hnew hnd x0 x1 x2 x3 hcc hf1 hf2 hf3 heq hnme ha hb hnl hnB hstep hAz hic hm;go_wp2_with fail;(with_reducible refine hcl.mono ?_);rintro e w5 ⟨rfl,hAd5⟩;have HD:=QH hAd5;clear hcl hAd5;go_wp2_with fail;go_roundg (m - (i + 1))
  case measure => omega
  case rel => exact ⟨i + 1,by omega,by go_num,HD.out⟩
 ·obtain rfl:i=m:=by omega
  have hfin:∃ cv',Adding Lx Sl w0 wr sb cv' mb 0 pos 0 (env ++ (zax t).env):=by obtain ⟨cvi,hAi⟩:=hAd;refine ⟨cvi,?_⟩;rw [← HA.out.2.2.2.2.1,List.take_length] at hAi;exact hAi
  have HF:=QH hfin;clear hAd hfin;go_wp2_with fail;go_ret;exact ⟨rfl,HF.out⟩
end Go.Proofs.YtgdpaieechgahaaGreatDoor
