/-
  check.table, walked. No condition.
-/
import Derived.Test.YtgdpaieechgahaaGreatDoorQ35
import Derived.Test.YtgdpaieechgahaaGreatDoorQ37
import Derived.Test.YtgdpaieechgahaaGreatDoorQ34
namespace Go.Proofs.YtgdpaieechgahaaGreatDoor
open Go.RowKit
set_option linter.unusedVariables false
theorem Adding.go {Lx Sl:List Nat} {w0 w w':World} {sb:Nat} {cv:Value} {mb d pos e d' pos' e':Nat} {env:List EC} (h:Adding Lx Sl w0 w sb cv mb d pos e env) (hM:Mods [sb] w w') (hS:ScSt w' sb cv mb d' pos' e'):Adding Lx Sl w0 w' sb cv mb d' pos' e' env:=
 ⟨hS,h.map.mods (hM.mono (by simp)),h.row.mods hM (fun g hg => by simpa using (h.old.2.2 g hg).2),h.mods.trans hM (fun x hx => .inl (by simp at hx; rw [hx]; exact h.old.1)),h.old,h.far⟩
theorem Adding.later {Lx Sl:List Nat} {w0 w w':World} {sb:Nat} {cv:Value} {mb d pos e:Nat} {env:List EC} (h:Adding Lx Sl w0 w sb cv mb d pos e env) (hM:Mods [] w w'):Adding Lx Sl w0 w' sb cv mb d pos e env:=
 h.go (hM.mono (by simp)) (hM.heap h.st (by simp))
def tblT (t:Tbl):TblT:=⟨t.nm,t.cols.map fun c => (c.nm,⟨c.k.toNat,c.s.toNat⟩)⟩
theorem ColsIn.weaken {w:World} {ao:Option Addr} {cs:List Col} {L L':List Nat} (h:ColsIn w ao cs L) (hL:∀ x ∈ L',x ∈ L):ColsIn w ao cs L':=fun hne => by
 obtain ⟨b,off,h1,h2,h3⟩:=h hne
 exact ⟨b,off,h1,fun hm => h2 (hL _ hm),h3⟩
theorem TblsIn.weaken {w:World} {ao:Option Addr} {ts:List Tbl} {L L':List Nat} (h:TblsIn w ao ts L) (hL:∀ x ∈ L',x ∈ L):TblsIn w ao ts L':=fun hne => by
 obtain ⟨b,off,h1,h2,h3⟩:=h hne
 exact ⟨b,off,h1,fun hm => h2 (hL _ hm),fun i hi => by
  obtain ⟨h4,co,c,h5,h6⟩:=h3 i hi
  exact ⟨h4,co,c,h5,h6.weaken hL⟩⟩
theorem zfu (b:ByteArray):(⟨b.data.toList.toArray⟩ : ByteArray)=b:=by
 cases b; simp
theorem zfv (l:List Tbl) (s:Bs):(l.map Tbl.name).findIdx? (fun x => decide (x=(⟨s.toArray⟩ : ByteArray)))=tblFind (l.map tblT) s:=by
 unfold tblFind
 rw [List.findIdx?_map,List.findIdx?_map]
 congr 1
 funext t
 show decide (t.name=_)=(t.name.data.toList == s)
 rw [Bool.eq_iff_iff,decide_eq_true_iff,beq_iff_eq]
 constructor
 ·intro h
  rw [h]
 ·intro h
  rw [← h,zfu]
theorem zaZ {l:List Tbl} {s:Bs} {k:Nat} (h:tblFind (l.map tblT) s=some k):findV (l.map Tbl.name) ⟨s.toArray⟩ = .tuple #[.int .i64 k,.bool true]:=by
 unfold findV
 rw [zfv,h]
theorem zcR {l:List Tbl} {s:Bs} (h:tblFind (l.map tblT) s=none):findV (l.map Tbl.name) ⟨s.toArray⟩ = .tuple #[.int .i64 0,.bool false]:=by
 unfold findV
 rw [zfv,h]
theorem zbG {l:List Tbl} {s:Bs} {k:Nat} (h:tblFind (l.map tblT) s=some k):∃ hk:k < l.length,l[k].nm=s:=by
 unfold tblFind at h
 rw [List.findIdx?_eq_some_iff_getElem] at h
 obtain ⟨hk,h1,-⟩:=h
 refine ⟨by simpa using hk,?_⟩
 simpa [tblT] using h1
set_option maxRecDepth 100000 in
set_option maxHeartbeats 4000000 in
theorem zeV (Lx Sl:List Nat) (w0 w:World) (sb:Nat) (cv:Value) (mb pos:Nat) (env:List EC) (hA:Adding Lx Sl w0 w sb cv mb 0 pos 0 env) (l:List Tbl) (n:Nat) (hn:l.length=n) (hn63:n ≤ 9223372036854775807) (ao:Option Addr) (cap:Nat) (hI:TblsIn w0 ao l Sl) (s:Bs) (at':Nat) (but:Int) (hf:tblFind (l.map tblT) s=none) :
  Calls Tryz.prog 23 #[PtrV sb,.slice ao n cap,.string ⟨s.toArray⟩,.int .i64 at',.int .i64 but] w fun r w' => r = .returned (.int .i64 0) ∧ Adding Lx Sl w0 w' sb cv mb 0 at' 13 env:=by
 have hcall:=zcF w l n hn hn63 ao cap ((hI.mods hA.mods).weaken (by simp)) ⟨s.toArray⟩
 rw [zcR hf] at hcall
 have HA:=Lib.hid hA
 generalize (⟨s.toArray⟩ : ByteArray)=S at *
 clear hA hI hn hf
 unfold PtrV
 go_enter Tryz.func23, Tryz.ntmps23
 go_wp2_with fail
 (with_reducible refine hcall.mono ?_)
 rintro e w1 ⟨rfl,hM1⟩
 have hA1:=HA.out.later hM1
 have hc1:=zx w1 sb cv mb 0 pos 0 hA1.st true 13 at'
 have HA1:=Lib.hid hA1
 unfold PtrV at hc1
 clear hA1 hM1 hcall
 go_wp2_with fail
 refine hc1.mono ?_
 rintro e w2 ⟨rfl,hM2,hS2⟩
 have hA2:=HA1.out.go hM2 hS2
 rw [show failE true 13 at' pos 0=(at',13) from rfl] at hA2
 have hc2:=zx w2 sb cv mb 0 at' 13 hA2.st false 4 at'
 have HA2:=Lib.hid hA2
 unfold PtrV at hc2
 clear hA2 hM2 hS2 hc1
 go_wp2_with fail
 refine hc2.mono ?_
 rintro e w3 ⟨rfl,hM3,hS3⟩
 have hA3:=HA2.out.go hM3 hS3
 rw [show failE false 4 at' at' 13=(at',13) from rfl] at hA3
 have c4:=za hA3.st 4
 change w3.cell? _=some (.int .i64 13) at c4
 have HA3:=Lib.hid hA3
 clear hA3 hM3 hS3 hc2
 go_wp2_with fail
 go_ret
 exact ⟨rfl,HA3.out⟩
set_option maxRecDepth 100000 in
set_option maxHeartbeats 4000000 in
theorem zeW (Lx Sl:List Nat) (w0 w:World) (sb:Nat) (cv:Value) (mb pos:Nat) (env:List EC) (hA:Adding Lx Sl w0 w sb cv mb 0 pos 0 env) (l:List Tbl) (n:Nat) (hn:l.length=n) (hn63:n ≤ 9223372036854775807) (ao:Option Addr) (cap:Nat) (hI:TblsIn w0 ao l Sl) (s:Bs) (at':Nat) (k:Nat) (hf:tblFind (l.map tblT) s=some k) :
  Calls Tryz.prog 23 #[PtrV sb,.slice ao n cap,.string ⟨s.toArray⟩,.int .i64 at',.int .i64 k] w fun r w' => r = .returned (.int .i64 k) ∧ Adding Lx Sl w0 w' sb cv mb 0 at' 4 env:=by
 have hcall:=zcF w l n hn hn63 ao cap ((hI.mods hA.mods).weaken (by simp)) ⟨s.toArray⟩
 rw [zaZ hf] at hcall
 have HA:=Lib.hid hA
 generalize (⟨s.toArray⟩ : ByteArray)=S at *
 clear hA hI hn hf
 unfold PtrV
 go_enter Tryz.func23, Tryz.ntmps23
 go_wp2_with fail
 (with_reducible refine hcall.mono ?_)
 rintro e w1 ⟨rfl,hM1⟩
 have hA1:=HA.out.later hM1
 have hc1:=zx w1 sb cv mb 0 pos 0 hA1.st false 13 at'
 have HA1:=Lib.hid hA1
 unfold PtrV at hc1
 clear hA1 hM1 hcall
 go_wp2_with fail
 refine hc1.mono ?_
 rintro e w2 ⟨rfl,hM2,hS2⟩
 have hA2:=HA1.out.go hM2 hS2
 rw [show failE false 13 at' pos 0=(pos,0) from rfl] at hA2
 have hc2:=zx w2 sb cv mb 0 pos 0 hA2.st true 4 at'
 have HA2:=Lib.hid hA2
 unfold PtrV at hc2
 clear hA2 hM2 hS2 hc1
 go_wp2_with fail
 refine hc2.mono ?_
 rintro e w3 ⟨rfl,hM3,hS3⟩
 have hA3:=HA2.out.go hM3 hS3
 rw [show failE true 4 at' pos 0=(at',4) from rfl] at hA3
 have c4:=za hA3.st 4
 change w3.cell? _=some (.int .i64 4) at c4
 have HA3:=Lib.hid hA3
 clear hA3 hM3 hS3 hc2
 go_wp2_with fail
 go_ret
 exact ⟨rfl,HA3.out⟩
def AddT (Lx Sl:List Nat) (w0 wr:World) (sb mb pos:Nat) (env es:List EC) (i:Nat):Prop:=∃ cv',Adding Lx Sl w0 wr sb cv' mb 0 pos 0 (env ++ es.take i)
set_option maxRecDepth 100000 in
set_option maxHeartbeats 8000000 in
theorem zeX (Lx Sl:List Nat) (w0 w:World) (sb:Nat) (cv:Value) (mb pos:Nat) (env:List EC) (hA:Adding Lx Sl w0 w sb cv mb 0 pos 0 env) (l:List Tbl) (n:Nat) (hn:l.length=n) (hn63:n ≤ 9223372036854775807) (ao:Option Addr) (cap:Nat) (hI:TblsIn w0 ao l Sl) (s:Bs) (at':Nat) (but:Int) (k:Nat) (hf:tblFind (l.map tblT) s=some k) (hbut:but ≠ k)
  (hs:s ≠ []) (hsl:s.length ≤ 5000) (t:Tbl) (ht:l[k]? = some t) (hlen:env.length + t.cols.length ≤ 1000) (hfit:∀ c ∈ t.cols,c.nm.length ≤ 5000 ∧ 0 ≤ c.k ∧ 0 ≤ c.s) (hnew:∀ c ∈ t.cols,∀ e ∈ env,e.name ≠ c.nm) (hnd:(t.cols.map Col.nm).Nodup) :
  Calls Tryz.prog 23 #[PtrV sb,.slice ao n cap,.string ⟨s.toArray⟩,.int .i64 at',.int .i64 but] w fun r w' => r = .returned (.int .i64 k) ∧ ∃ cv',Adding Lx Sl w0 w' sb cv' mb 0 pos 0 (env ++ (tblT t).env):=by
 have hcall:=zcF w l n hn hn63 ao cap ((hI.mods hA.mods).weaken (by simp)) ⟨s.toArray⟩
 rw [zaZ hf] at hcall
 obtain ⟨hk,hnm⟩:=zbG hf
 have htk:l[k]=t:=by
  rw [List.getElem?_eq_getElem hk] at ht
  exact Option.some.inj ht
 rw [htk] at hnm
 obtain ⟨tb,off,rfl,htb,hcells⟩:=hI (by intro h; rw [h] at hk; simp at hk)
 obtain ⟨hc0,co,cc,hc1,hcols⟩:=hcells k hk
 rw [htk] at hc1 hcols
 rw [hn] at hk
 obtain ⟨m,hm⟩ : ∃ m,t.cols.length=m:=⟨_,rfl⟩
 rw [hm] at hc1
 have hes:(tblT t).env.length=m:=by simp [TblT.env,tblT,hm]
 have hbf:((k:Int) == but)=false:=by rw [beq_eq_false_iff_ne]; exact fun h => hbut h.symm
 have HA:=Lib.hid (And.intro hA (And.intro hnm (And.intro hcols (And.intro hm (And.intro hes (And.intro hs (And.intro hsl (And.intro hlen (And.intro hfit (And.intro hnew (And.intro hnd (And.intro hc1 htb))))))))))))
 obtain ⟨S,hS⟩ : ∃ S:ByteArray,(⟨s.toArray⟩ : ByteArray)=S:=⟨_,rfl⟩
 rw [hS] at hcall ⊢
 have HS:=Lib.hid hS
 have hm63:m ≤ 9223372036854775807:=by omega
 clear hA hI hn hf hnm hcells hc0 hc1 hcols hm hes hs hsl hlen hfit hnew hnd hS htk ht hbut htb
 unfold PtrV
 go_enter Tryz.func23, Tryz.ntmps23
 go_wp2_with fail
 (with_reducible refine hcall.mono ?_)
 rintro e w1 ⟨rfl,hM1⟩
 have hA1:=HA.out.1.later hM1
 have hc1:=zx w1 sb cv mb 0 pos 0 hA1.st false 13 at'
 have HA1:=Lib.hid hA1
 unfold PtrV at hc1
 clear hA1 hM1 hcall
 go_wp2_with fail
 refine hc1.mono ?_
 rintro e w2 ⟨rfl,hM2,hS2⟩
 have hA2:=HA1.out.go hM2 hS2
 rw [show failE false 13 at' pos 0=(pos,0) from rfl] at hA2
 have hc2:=zx w2 sb cv mb 0 pos 0 hA2.st false 4 at'
 have HA2:=Lib.hid hA2
 unfold PtrV at hc2
 clear hA2 hM2 hS2 hc1
 go_wp2_with fail
 refine hc2.mono ?_
 rintro e w3 ⟨rfl,hM3,hS3⟩
 have hA3:=HA2.out.go hM3 hS3
 rw [show failE false 4 at' pos 0=(pos,0) from rfl] at hA3
 have c4:=za hA3.st 4
 change w3.cell? _=some (.int .i64 0) at c4
 have kc:=hA3.mods.cell HA.out.2.2.2.2.2.2.2.2.2.2.2.1 HA.out.2.2.2.2.2.2.2.2.2.2.2.2
 have HA3:=Lib.hid hA3
 clear hA3 hM3 hS3 hc2
 go_wp2_with fail
 clear c4 kc
 go_loopg [46] m (fun gk t46 wr => ∃ i:Nat,i + gk=m ∧ t46 = .int .i64 i ∧ AddT Lx Sl w0 wr sb mb pos env (tblT t).env i)
 case atStart => exact ⟨0,by omega,rfl,cv,by simpa using HA3.out⟩
 obtain ⟨i,hi,rfl,hAd⟩:=hrel
 by_cases hlt:i < m
 ·obtain ⟨cvi,hAi⟩:=hAd
  obtain ⟨-,hnm,hcols,hm,hes,hs,hsl,hlen,hfit,hnew,hnd,-⟩:=HA.out
  have hic:i < t.cols.length:=by rw [hm]; exact hlt
  obtain ⟨cb,coff,rfl,hcb,hcc⟩:=hcols (by intro h; rw [h] at hic; simp at hic)
  obtain ⟨x0,x1,x2,x3⟩:=hcc i hic
  have k0:=hAi.mods.cell x0 hcb
  have k1:=hAi.mods.cell x1 hcb
  have k2:=hAi.mods.cell x2 hcb
  have k3:=hAi.mods.cell x3 hcb
  obtain ⟨hf1,hf2,hf3⟩:=hfit _ (List.getElem_mem hic)
  have heq:(tblT t).env[i]'(by rw [hes]; exact hlt) = ⟨s,t.cols[i].nm,⟨t.cols[i].k.toNat,t.cols[i].s.toNat⟩⟩:=by
   simp [TblT.env,tblT,hnm]
  obtain ⟨nm,hnme⟩ : ∃ nm,t.cols[i].nm=nm:=⟨_,rfl⟩
  obtain ⟨a,ha⟩ : ∃ a,t.cols[i].k.toNat=a:=⟨_,rfl⟩
  obtain ⟨b,hb⟩ : ∃ b,t.cols[i].s.toNat=b:=⟨_,rfl⟩
  obtain ⟨nl,hnl⟩ : ∃ nl,t.cols[i].null=nl:=⟨_,rfl⟩
  have hnB:t.cols[i].name=(⟨nm.toArray⟩ : ByteArray):=by rw [← hnme]; exact (zfu _).symm
  rw [hnB] at k0
  rw [show t.cols[i].k=(a:Int) by omega] at k1
  rw [show t.cols[i].s=(b:Int) by omega] at k2
  rw [hnl] at k3
  have hAz:=hAi.later ((Mods.refl [] wr).alloc (.cells #[.string ⟨nm.toArray⟩,.int .i64 a,.int .i64 b,.bool nl] 96))
  have hstep:(env ++ (tblT t).env.take i) ++ [⟨s,nm,⟨a,b⟩⟩]=env ++ (tblT t).env.take (i + 1):=by
   rw [List.append_assoc,List.take_succ_eq_append_getElem (by rw [hes]; exact hlt),heq,hnme,ha,hb]
  have hcl:=ziF Lx Sl w0 _ sb cvi mb 0 pos 0 _ hAz (by simp only [List.length_append,List.length_take,hes]; omega) s nm a b nl hs hsl (by rw [← hnme]; exact hf1) (by
   intro e he
   rw [List.mem_append] at he
   rcases he with he | he
   ·rw [← hnme]
    exact hnew _ (List.getElem_mem hic) e he
   ·obtain ⟨j,hj,hje⟩:=List.mem_iff_getElem.1 he
    rw [List.length_take,hes] at hj
    rw [List.getElem_take] at hje
    have hjc:j < t.cols.length:=by omega
    have:e.name=(t.cols.map Col.nm)[j]'(by simpa using hjc):=by
     rw [← hje]
     simp [TblT.env,tblT]
    rw [this,← hnme]
    have h2:t.cols[i].nm=(t.cols.map Col.nm)[i]'(by simpa using hic):=by simp
    rw [h2]
    exact (List.pairwise_iff_getElem.1 hnd) j i _ _ (by omega))
  rw [hstep] at hcl
  rw [HS.out] at hcl
  generalize (⟨nm.toArray⟩ : ByteArray)=N at *
  unfold PtrV at hcl
  clear hAi hnm hcols hes hs hsl hlen hfit hnew hnd x0 x1 x2 x3 hcc hf1 hf2 hf3 heq hnme ha hb hnl hnB hstep hAz hic hm
  go_wp2_with fail
  (with_reducible refine hcl.mono ?_)
  rintro e w5 ⟨rfl,hAd5⟩
  have HD:=Lib.hid hAd5
  clear hcl hAd5
  go_wp2_with fail
  go_roundg (m - (i + 1))
  case measure => omega
  case rel => exact ⟨i + 1,by omega,by go_num,HD.out⟩
 ·obtain rfl:i=m:=by omega
  have hfin:∃ cv',Adding Lx Sl w0 wr sb cv' mb 0 pos 0 (env ++ (tblT t).env):=by
   obtain ⟨cvi,hAi⟩:=hAd
   refine ⟨cvi,?_⟩
   rw [← HA.out.2.2.2.2.1,List.take_length] at hAi
   exact hAi
  have HF:=Lib.hid hfin
  clear hAd hfin
  go_wp2_with fail
  go_ret
  exact ⟨rfl,HF.out⟩
open Go.RowKit
set_option linter.unusedVariables false
def OptN (w:World) (L:List Nat) (v:Value):Option NT → Prop
 | none => v = .pointer none
 | some n => NAt w L v n
def CondRes (w:World) (sb:Nat) (cv:Value) (mb pos e:Nat) (r0:Chk (Option NT)) (r:Ending) (w':World):Prop:=
 ∃ v,r = .returned v ∧ ((∃ b,v=PtrV b) ∨ v = .pointer none) ∧ Mods [sb] w w' ∧ ScSt w' sb cv mb 0 (chkE r0 pos e).1 (chkE r0 pos e).2 ∧ (e=0 → ∀ o,r0 = .ok o → ∀ L:List Nat,(∀ x ∈ L,x < w.heap.size) → OptN w' L v o)
theorem zdO (env:List EC) (o:Option Tree):NZ (condQ env o):=by
 cases o with
 | none => exact NZ.ok _
 | some t =>
  refine NZ.bind (zbF env t 0) fun n _ => ?_
  split
  ·exact NZ.four _
  ·exact NZ.ok _
set_option maxRecDepth 100000 in
set_option maxHeartbeats 8000000 in
theorem zhv (w:World) (sb:Nat) (cv:Value) (mb pos e:Nat) (env:List EC) (hS:ScSt w sb cv mb 0 pos e) :
  Calls Tryz.prog 24 #[PtrV sb,.pointer none] w (CondRes w sb cv mb pos e (condQ env none)):=by
 have hfin:CondRes w sb cv mb pos e (condQ env none) (.returned (.pointer none)) w:=⟨_,rfl,.inr rfl,Mods.refl _ _,by show ScSt w sb cv mb 0 (chkE (.ok _) pos e).1 (chkE (.ok _) pos e).2; rw [z9]; exact hS,fun _ o ho L _ => by cases ho; rfl⟩
 have HFIN:=Lib.hid hfin
 obtain ⟨PP,hPP⟩ : ∃ PP,CondRes w sb cv mb pos e (condQ env none)=PP:=⟨_,rfl⟩
 rw [hPP] at HFIN ⊢
 unfold PtrV
 clear hfin hPP hS
 go_enter Tryz.func24, Tryz.ntmps24
 go_wp2_with fail
 exact HFIN.out
set_option maxRecDepth 100000 in
set_option maxHeartbeats 8000000 in
theorem zhw (w:World) (sb:Nat) (cv:Value) (mb pos e:Nat) (env:List EC) (hS:ScSt w sb cv mb 0 pos e) (he:e ≠ 0) (xb:Nat) (t:Tree) :
  Calls Tryz.prog 24 #[PtrV sb,PtrV xb] w (CondRes w sb cv mb pos e (condQ env (some t))):=by
 have hfin:CondRes w sb cv mb pos e (condQ env (some t)) (.returned (.pointer none)) w:=⟨_,rfl,.inr rfl,Mods.refl _ _,by unfold chkE; rw [if_pos he]; exact hS,fun h => absurd h he⟩
 have HFIN:=Lib.hid hfin
 obtain ⟨PP,hPP⟩ : ∃ PP,CondRes w sb cv mb pos e (condQ env (some t))=PP:=⟨_,rfl⟩
 rw [hPP] at HFIN ⊢
 have c4:=za hS 4
 change w.cell? _=some (.int .i64 (e:Nat)) at c4
 have z0:((e:Int) != 0)=true:=bne_iff_ne.2 (by omega)
 unfold PtrV
 clear hfin hPP hS he
 go_enter Tryz.func24, Tryz.ntmps24
 go_wp2_with fail
 exact HFIN.out
set_option maxRecDepth 100000 in
set_option maxHeartbeats 16000000 in
theorem zhx (w:World) (hV:CkVars w) (sb:Nat) (hsg : 0 ≠ sb ∧ 2 ≠ sb) (cv:Value) (mb pos:Nat) (env:List EC) (hS:Scope w sb cv mb 0 pos 0 env) (xb:Nat) (t:Tree) (hA:ExprAt 133 82 w [sb] (PtrV xb) t) (hE:ExprOk sb cv mb env t 0) :
  Calls Tryz.prog 24 #[PtrV sb,PtrV xb] w (CondRes w sb cv mb pos 0 (condQ env (some t))):=by
 have he:=hE w pos 0 (PtrV xb) hV hS hA
 obtain ⟨va,hxb,hxs⟩ : ∃ va,w.heap[xb]? = some (.cells (hdC t.hd va).toArray 133 (0,0)) ∧ xb ≠ sb:=by
  cases t with
  | leaf h => obtain ⟨b,h1,h2,h3⟩:=hA; cases h1; exact ⟨_,h3,by simpa using h2⟩
  | un h a => obtain ⟨b,c,u,h1,h2,h3,h4,-⟩:=hA; cases h1; exact ⟨_,h4,by simpa using h2⟩
  | bin h a d => obtain ⟨b,c,u,x,h1,h2,h3,h4,-⟩:=hA; cases h1; exact ⟨_,h4,by simpa using h2⟩
 have c4:=za hS.st 4
 change w.cell? _=some (.int .i64 ((0:Nat):Int)) at c4
 change w.cell? _=some (.int .i64 0) at c4
 obtain ⟨PP,hPP⟩ : ∃ PP,CondRes w sb cv mb pos 0 (condQ env (some t))=PP:=⟨_,rfl⟩
 rw [hPP]
 have HH:=Lib.hid (And.intro hPP (And.intro hS (And.intro hV (And.intro hxb hsg))))
 unfold PtrV at *
 clear hPP hS hV hA hE hxb hsg
 go_enter Tryz.func24, Tryz.ntmps24
 go_wp2_with fail
 (with_reducible refine he.mono ?_)
 rintro r w2 ⟨nb,rfl,hnb,hM2,hst2,hk⟩
 unfold PtrV
 have hV2:=HH.out.2.2.1.past hM2 HH.out.2.2.2.2
 have hx2:=hM2.heap HH.out.2.2.2.1 (by simpa using hxs)
 have x1:=za hx2 1
 change w2.cell? _=some (.int .i64 t.hd.pos) at x1
 obtain ⟨⟨v0,v1⟩,-⟩:=hV2
 have HE:=Lib.hid (And.intro hnb (And.intro hM2 (And.intro hst2 hk)))
 clear he hnb hM2 hst2 hk hx2 c4
 obtain ⟨PX,hPX⟩ : ∃ PX,chkE (exprQ env t 0) pos 0=PX:=⟨_,rfl⟩
 obtain ⟨p1,e1⟩:=PX
 have hst:ScSt w2 sb cv mb 0 p1 e1:=by have:=HE.out.2.2.1; rw [hPX] at this; exact this
 have c4:=za hst 4
 change w2.cell? _=some (.int .i64 (e1:Nat)) at c4
 have HX:=Lib.hid (And.intro hPX hst)
 clear hPX hst
 go_upto_region 4 with fail
 by_cases he1:e1=0
 ·obtain ⟨-,hp,n,hn⟩:=zab (zbF env t 0) (show chkE (exprQ env t 0) pos 0=(p1,0) from by have h9:=HX.out.1; rw [he1] at h9; exact h9)
  have hNA:=HE.out.2.2.2 (by simp) n hn [sb] (by simp; exact zi HH.out.2.1.st)
  obtain ⟨b',args,hb',hbs,hnd⟩:=hNA.head
  cases hb'
  have hbs:nb ≠ sb:=by simpa using hbs
  have t0:=za hnd 1
  have t1:=za hnd 2
  change w2.cell? _=some (.int .i64 n.hd.t.k) at t0
  change w2.cell? _=some (.int .i64 n.hd.t.s) at t1
  have z1:((e1:Int) == 0)=true:=by rw [beq_iff_eq]; omega
  have hq:condQ env (some t)=if n.hd.t ≠ tyBool ∨ hasN n=true then .bad t.hd.pos 4 else .ok (some n):=by
   show (exprQ env t 0).bind _=_
   rw [hn]; rfl
  have HN:=Lib.hid (And.intro hq (And.intro hn (And.intro hNA (And.intro hbs (And.intro hp he1)))))
  clear hq hn hNA hnd hp hbs he1
  have htri:=zdB n.hd.t
  obtain ⟨T,hT⟩ : ∃ T,n.hd.t=T:=⟨_,rfl⟩
  rw [hT] at htri t0 t1
  have HT:=Lib.hid hT
  clear hT
  rcases htri with ⟨a1,a2,a3⟩ | ⟨a1,a2,a3⟩ | ⟨a1,a3⟩
  ·subst a3
   change w2.cell? _=some (.int .i64 4) at t0
   change w2.cell? _=some (.int .i64 0) at t1
   have a3:tyBool=tyBool:=rfl
   have HA3:=Lib.hid a3
   clear a1 a2 a3
   cases hh:hasN n with
   | true =>
    apply zm (by kernel_rfl) [0,1,2,3,4,5,6,7,8,9,10,11,12,13,14,18,19,20,21] [(15,[16,17]),(22,[])] false (by kernel_rfl) (fun y => y.cell? ⟨sb,4,none⟩ = some (.int .i64 e1) ∧ y.cell? ⟨nb,1,none⟩ = some (.int .i64 4) ∧ y.cell? ⟨nb,2,none⟩ = some (.int .i64 0) ∧ y.cell? ⟨0, 0,none⟩ = some (.int .i64 4) ∧ y.cell? ⟨0, 1,none⟩ = some (.int .i64 0) ∧ y.cell? ⟨xb,1,none⟩ = some (.int .i64 t.hd.pos))
    case hC => exact ⟨c4,t0,t1,v0,v1,x1⟩
    case hwalk =>
     rintro y ⟨y4,y1,y2,g0,g1,yx⟩
     change wpQuiet _ _ _ _ [_,_,_,_,_,_,_,_,_,_,_,_,_,_,_,_,_,_,_] (Act.mk _ _)
     repeat (go_big_quiet_step (fail))
     refine wpQuiet_nil ?_
     exact rfl
    case hrun =>
     change segI _ _ _ _ _ [(_,[_,_]),(_,[])] _ _
     refine zs fun R1 hR1 => ?_
     have hha:=zdG n w2.drew (PtrV nb) ((HN.out.2.2.1.weaken (by simp)).mods (Mods.refl [] w2).drew)
     rw [hh] at hha
     unfold PtrV at hha
     go_wp2_with fail
     (with_reducible refine hha.mono ?_)
     rintro r w3 ⟨rfl,hM3⟩
     clear hha
     go_wp2_with fail
     refine zc ?_
     apply hR1 _ w3 (.inr ⟨hM3.cell (show w2.drew.cell? _=_ from c4) (by simp),hM3.cell (show w2.drew.cell? _=_ from t0) (by simp),hM3.cell (show w2.drew.cell? _=_ from t1) (by simp),hM3.cell (show w2.drew.cell? _=_ from v0) (by simp),hM3.cell (show w2.drew.cell? _=_ from v1) (by simp),hM3.cell (show w2.drew.cell? _=_ from x1) (by simp)⟩)
     ·rintro y ⟨y4,y1,y2,g0,g1,yx⟩
      change wpQuiet _ _ _ _ [_,_] (Act.mk _ _)
      repeat (go_big_quiet_step (fail))
      refine wpQuiet_nil ?_
      exact rfl
     ·clear hR1 R1
      refine zq fun R2 hR2 => ?_
      have hcl:=zx w3 sb cv mb 0 p1 e1 (hM3.heap (show w2.drew.heap[sb]? = _ from HX.out.2) (by simp)) true 4 t.hd.pos
      change Calls _ _ #[.pointer (some ⟨sb,0,none⟩),.bool true,.int .i64 4,.int .i64 t.hd.pos] _ _ at hcl
      go_wp2_with fail
      (with_reducible refine hcl.mono ?_)
      rintro r w8 ⟨rfl,hM8,st8⟩
      clear hcl
      have hfin:PP (.returned (.pointer (some ⟨nb,0,none⟩))) w8:=by
       rw [← HH.out.1]
       have hqq:condQ env (some t) = .bad t.hd.pos 4:=by rw [HN.out.1,if_pos (.inr hh)]
       rw [hqq]
       refine ⟨_,rfl,.inl ⟨nb,rfl⟩,HE.out.2.1.trans ((((Mods.refl [] w2).drew.mono (L':=[sb]) (by simp)).trans (hM3.mono (L':=[sb]) (by simp)) (by simp)).trans hM8 (by simp)) (by simp),?_,fun _ o ho => by cases ho⟩
       have hce:chkE (.bad t.hd.pos 4:Chk (Option NT)) pos 0=failE true 4 t.hd.pos p1 e1:=by unfold chkE failE; rw [if_neg (by omega),if_pos ⟨rfl,HN.out.2.2.2.2.2⟩]
       rw [hce]
       exact st8
      have HFIN:=Lib.hid hfin
      clear hfin hM8 st8
      go_wp2_with fail
      refine zc (hR2 _ _ (by simp) ?_)
      clear hR2 R2
      refine zt ?_
      go_wp2_with fail
      exact HFIN.out
   | false =>
    apply zm (by kernel_rfl) [0,1,2,3,4,5,6,7,8,9,10,11,12,13,14,18,19,20,21] [(15,[16,17]),(22,[])] false (by kernel_rfl) (fun y => y.cell? ⟨sb,4,none⟩ = some (.int .i64 e1) ∧ y.cell? ⟨nb,1,none⟩ = some (.int .i64 4) ∧ y.cell? ⟨nb,2,none⟩ = some (.int .i64 0) ∧ y.cell? ⟨0, 0,none⟩ = some (.int .i64 4) ∧ y.cell? ⟨0, 1,none⟩ = some (.int .i64 0) ∧ y.cell? ⟨xb,1,none⟩ = some (.int .i64 t.hd.pos))
    case hC => exact ⟨c4,t0,t1,v0,v1,x1⟩
    case hwalk =>
     rintro y ⟨y4,y1,y2,g0,g1,yx⟩
     change wpQuiet _ _ _ _ [_,_,_,_,_,_,_,_,_,_,_,_,_,_,_,_,_,_,_] (Act.mk _ _)
     repeat (go_big_quiet_step (fail))
     refine wpQuiet_nil ?_
     exact rfl
    case hrun =>
     change segI _ _ _ _ _ [(_,[_,_]),(_,[])] _ _
     refine zs fun R1 hR1 => ?_
     have hha:=zdG n w2.drew (PtrV nb) ((HN.out.2.2.1.weaken (by simp)).mods (Mods.refl [] w2).drew)
     rw [hh] at hha
     unfold PtrV at hha
     go_wp2_with fail
     (with_reducible refine hha.mono ?_)
     rintro r w3 ⟨rfl,hM3⟩
     clear hha
     go_wp2_with fail
     refine zc ?_
     apply hR1 _ w3 (.inr ⟨hM3.cell (show w2.drew.cell? _=_ from c4) (by simp),hM3.cell (show w2.drew.cell? _=_ from t0) (by simp),hM3.cell (show w2.drew.cell? _=_ from t1) (by simp),hM3.cell (show w2.drew.cell? _=_ from v0) (by simp),hM3.cell (show w2.drew.cell? _=_ from v1) (by simp),hM3.cell (show w2.drew.cell? _=_ from x1) (by simp)⟩)
     ·rintro y ⟨y4,y1,y2,g0,g1,yx⟩
      change wpQuiet _ _ _ _ [_,_] (Act.mk _ _)
      repeat (go_big_quiet_step (fail))
      refine wpQuiet_nil ?_
      exact rfl
     ·clear hR1 R1
      refine zq fun R2 hR2 => ?_
      have hcl:=zx w3 sb cv mb 0 p1 e1 (hM3.heap (show w2.drew.heap[sb]? = _ from HX.out.2) (by simp)) false 4 t.hd.pos
      change Calls _ _ #[.pointer (some ⟨sb,0,none⟩),.bool false,.int .i64 4,.int .i64 t.hd.pos] _ _ at hcl
      go_wp2_with fail
      (with_reducible refine hcl.mono ?_)
      rintro r w8 ⟨rfl,hM8,st8⟩
      clear hcl
      have hfin:PP (.returned (.pointer (some ⟨nb,0,none⟩))) w8:=by
       rw [← HH.out.1]
       have hqq:condQ env (some t) = .ok (some n):=by rw [HN.out.1,if_neg (fun h => h.elim (fun h => h (HT.out)) (fun h => by rw [hh] at h; cases h))]
       rw [hqq]
       refine ⟨_,rfl,.inl ⟨nb,rfl⟩,HE.out.2.1.trans ((((Mods.refl [] w2).drew.mono (L':=[sb]) (by simp)).trans (hM3.mono (L':=[sb]) (by simp)) (by simp)).trans hM8 (by simp)) (by simp),?_,fun _ o ho L hL => ?_⟩
       ·rw [z9]
        rw [zU,HN.out.2.2.2.2.1,HN.out.2.2.2.2.2] at st8
        exact st8
       ·cases ho
        have h1:=HE.out.2.2.2 (by simp) n HN.out.2.1 (sb :: L) (fun x hx => by
         rcases List.mem_cons.1 hx with rfl | hx
         ·exact zi HH.out.2.1.st
         ·exact hL x hx)
        have hM28:Mods [sb] w2 w8:=(((Mods.refl [] w2).drew.mono (L':=[sb]) (by simp)).trans (hM3.mono (L':=[sb]) (by simp)) (by simp)).trans hM8 (by simp)
        exact (h1.mods (hM28.mono (by simp))).weaken (fun x hx => List.mem_cons_of_mem _ hx)
      have HFIN:=Lib.hid hfin
      clear hfin hM8 st8
      go_wp2_with fail
      refine zc (hR2 _ _ (by simp) ?_)
      clear hR2 R2
      refine zt ?_
      go_wp2_with fail
      exact HFIN.out
  ·have hnt:n.hd.t ≠ tyBool:=by rw [HT.out]; exact a3
   apply zm (by kernel_rfl) [0,1,2,3,4,5,6,7,8,9,10,11,12,13,14,18,19,20,21] [(15,[16,17]),(22,[])] false (by kernel_rfl) (fun y => y.cell? ⟨sb,4,none⟩ = some (.int .i64 e1) ∧ y.cell? ⟨nb,1,none⟩ = some (.int .i64 T.k) ∧ y.cell? ⟨nb,2,none⟩ = some (.int .i64 T.s) ∧ y.cell? ⟨0, 0,none⟩ = some (.int .i64 4) ∧ y.cell? ⟨0, 1,none⟩ = some (.int .i64 0) ∧ y.cell? ⟨xb,1,none⟩ = some (.int .i64 t.hd.pos))
   case hC => exact ⟨c4,t0,t1,v0,v1,x1⟩
   case hwalk =>
    rintro y ⟨y4,y1,y2,g0,g1,yx⟩
    change wpQuiet _ _ _ _ [_,_,_,_,_,_,_,_,_,_,_,_,_,_,_,_,_,_,_] (Act.mk _ _)
    repeat (go_big_quiet_step (fail))
    refine wpQuiet_nil ?_
    exact rfl
   case hrun =>
    change segI _ _ _ _ _ [(_,[_,_]),(_,[])] _ _
    refine zs fun R1 hR1 => ?_
    go_wp2_with fail
    refine zc ?_
    apply hR1 _ w2.drew (.inr ⟨c4,t0,t1,v0,v1,x1⟩)
    ·rintro y ⟨y4,y1,y2,g0,g1,yx⟩
     change wpQuiet _ _ _ _ [_,_] (Act.mk _ _)
     repeat (go_big_quiet_step (fail))
     refine wpQuiet_nil ?_
     exact rfl
    ·clear hR1 R1
     refine zq fun R2 hR2 => ?_
     have hcl:=zx w2.drew sb cv mb 0 p1 e1 (HX.out.2) true 4 t.hd.pos
     change Calls _ _ #[.pointer (some ⟨sb,0,none⟩),.bool true,.int .i64 4,.int .i64 t.hd.pos] _ _ at hcl
     go_wp2_with fail
     (with_reducible refine hcl.mono ?_)
     rintro r w8 ⟨rfl,hM8,st8⟩
     clear hcl
     have hfin:PP (.returned (.pointer (some ⟨nb,0,none⟩))) w8:=by
      rw [← HH.out.1]
      have hqq:condQ env (some t) = .bad t.hd.pos 4:=by rw [HN.out.1,if_pos (.inl hnt)]
      rw [hqq]
      refine ⟨_,rfl,.inl ⟨nb,rfl⟩,HE.out.2.1.trans (((Mods.refl [] w2).drew.mono (L':=[sb]) (by simp)).trans hM8 (by simp)) (by simp),?_,fun _ o ho => by cases ho⟩
      have hce:chkE (.bad t.hd.pos 4:Chk (Option NT)) pos 0=failE true 4 t.hd.pos p1 e1:=by unfold chkE failE; rw [if_neg (by omega),if_pos ⟨rfl,HN.out.2.2.2.2.2⟩]
      rw [hce]
      exact st8
     have HFIN:=Lib.hid hfin
     clear hfin hM8 st8
     go_wp2_with fail
     refine zc (hR2 _ _ (by simp) ?_)
     clear hR2 R2
     refine zt ?_
     go_wp2_with fail
     exact HFIN.out
  ·have hnt:n.hd.t ≠ tyBool:=by rw [HT.out]; exact a3
   apply zm (by kernel_rfl) [0,1,2,3,4,5,6,7,8,9,10,11,12,13,14,18,19,20,21] [(15,[16,17]),(22,[])] false (by kernel_rfl) (fun y => y.cell? ⟨sb,4,none⟩ = some (.int .i64 e1) ∧ y.cell? ⟨nb,1,none⟩ = some (.int .i64 T.k) ∧ y.cell? ⟨nb,2,none⟩ = some (.int .i64 T.s) ∧ y.cell? ⟨0, 0,none⟩ = some (.int .i64 4) ∧ y.cell? ⟨0, 1,none⟩ = some (.int .i64 0) ∧ y.cell? ⟨xb,1,none⟩ = some (.int .i64 t.hd.pos))
   case hC => exact ⟨c4,t0,t1,v0,v1,x1⟩
   case hwalk =>
    rintro y ⟨y4,y1,y2,g0,g1,yx⟩
    change wpQuiet _ _ _ _ [_,_,_,_,_,_,_,_,_,_,_,_,_,_,_,_,_,_,_] (Act.mk _ _)
    repeat (go_big_quiet_step (fail))
    refine wpQuiet_nil ?_
    exact rfl
   case hrun =>
    change segI _ _ _ _ _ [(_,[_,_]),(_,[])] _ _
    refine zs fun R1 hR1 => ?_
    go_wp2_with fail
    refine zc ?_
    apply hR1 _ w2.drew (.inr ⟨c4,t0,t1,v0,v1,x1⟩)
    ·rintro y ⟨y4,y1,y2,g0,g1,yx⟩
     change wpQuiet _ _ _ _ [_,_] (Act.mk _ _)
     repeat (go_big_quiet_step (fail))
     refine wpQuiet_nil ?_
     exact rfl
    ·clear hR1 R1
     refine zq fun R2 hR2 => ?_
     have hcl:=zx w2.drew sb cv mb 0 p1 e1 (HX.out.2) true 4 t.hd.pos
     change Calls _ _ #[.pointer (some ⟨sb,0,none⟩),.bool true,.int .i64 4,.int .i64 t.hd.pos] _ _ at hcl
     go_wp2_with fail
     (with_reducible refine hcl.mono ?_)
     rintro r w8 ⟨rfl,hM8,st8⟩
     clear hcl
     have hfin:PP (.returned (.pointer (some ⟨nb,0,none⟩))) w8:=by
      rw [← HH.out.1]
      have hqq:condQ env (some t) = .bad t.hd.pos 4:=by rw [HN.out.1,if_pos (.inl hnt)]
      rw [hqq]
      refine ⟨_,rfl,.inl ⟨nb,rfl⟩,HE.out.2.1.trans (((Mods.refl [] w2).drew.mono (L':=[sb]) (by simp)).trans hM8 (by simp)) (by simp),?_,fun _ o ho => by cases ho⟩
      have hce:chkE (.bad t.hd.pos 4:Chk (Option NT)) pos 0=failE true 4 t.hd.pos p1 e1:=by unfold chkE failE; rw [if_neg (by omega),if_pos ⟨rfl,HN.out.2.2.2.2.2⟩]
      rw [hce]
      exact st8
     have HFIN:=Lib.hid hfin
     clear hfin hM8 st8
     go_wp2_with fail
     refine zc (hR2 _ _ (by simp) ?_)
     clear hR2 R2
     refine zt ?_
     go_wp2_with fail
     exact HFIN.out
 ·have z1:((e1:Int) == 0)=false:=by rw [beq_eq_false_iff_ne]; omega
  apply zm (by kernel_rfl) [0,1,2,3,4,5,6,7,8,9,10,11,12,13,14,18,19,20,21] [(15,[16,17]),(22,[])] false (by kernel_rfl) (fun y => y.cell? ⟨sb,4,none⟩ = some (.int .i64 e1) ∧ y.cell? ⟨xb,1,none⟩ = some (.int .i64 t.hd.pos))
  case hC => exact ⟨c4,x1⟩
  case hwalk =>
   rintro y ⟨y4,yx⟩
   change wpQuiet _ _ _ _ [_,_,_,_,_,_,_,_,_,_,_,_,_,_,_,_,_,_,_] (Act.mk _ _)
   repeat (go_big_quiet_step (fail))
   refine wpQuiet_nil ?_
   exact rfl
  case hrun =>
   change segI _ _ _ _ _ [(_,[_,_]),(_,[])] _ _
   refine zs fun R1 hR1 => ?_
   go_wp2_with fail
   refine zc ?_
   apply hR1 _ w2.drew (.inr ⟨c4,x1⟩)
   ·rintro y ⟨y4,yx⟩
    change wpQuiet _ _ _ _ [_,_] (Act.mk _ _)
    repeat (go_big_quiet_step (fail))
    refine wpQuiet_nil ?_
    exact rfl
   ·clear hR1 R1
    refine zq fun R2 hR2 => ?_
    have hcl:=zx w2.drew sb cv mb 0 p1 e1 (HX.out.2) false 4 t.hd.pos
    change Calls _ _ #[.pointer (some ⟨sb,0,none⟩),.bool false,.int .i64 4,.int .i64 t.hd.pos] _ _ at hcl
    go_wp2_with fail
    (with_reducible refine hcl.mono ?_)
    rintro r w8 ⟨rfl,hM8,st8⟩
    clear hcl
    have hfin:PP (.returned (.pointer (some ⟨nb,0,none⟩))) w8:=by
     rw [← HH.out.1]
     have hst:=zbp (zbF env t 0) HX.out.1 he1 (f:=fun n => if n.hd.t ≠ tyBool ∨ hasN n=true then Chk.bad t.hd.pos 4 else Chk.ok (some n))
     have hst:chkE (condQ env (some t)) pos 0=(p1,e1):=hst
     refine ⟨_,rfl,.inl ⟨nb,rfl⟩,HE.out.2.1.trans (((Mods.refl [] w2).drew.mono (L':=[sb]) (by simp)).trans hM8 (by simp)) (by simp),?_,fun _ o ho => ?_⟩
     ·rw [hst]
      rw [zU] at st8
      exact st8
     ·exfalso
      rw [ho,z9] at hst
      simp only [Prod.mk.injEq] at hst
      omega
    have HFIN:=Lib.hid hfin
    clear hfin hM8 st8
    go_wp2_with fail
    refine zc (hR2 _ _ (by simp) ?_)
    clear hR2 R2
    refine zt ?_
    go_wp2_with fail
    exact HFIN.out
end Go.Proofs.YtgdpaieechgahaaGreatDoor
