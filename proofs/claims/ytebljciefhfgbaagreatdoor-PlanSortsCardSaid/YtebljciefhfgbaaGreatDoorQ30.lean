/-
  schema's plain law: which names were met, table by table; when tables are right. And how columns, tables, values and rows lie in memory. No condition.
-/
import Derived.Test.YtebljciefhfgbaaGreatDoorQ29
set_option linter.unusedVariables false
set_option maxRecDepth 100000
set_option maxHeartbeats 1000000
namespace Go.Proofs.YtebljciefhfgbaaGreatDoor
open Go.RowKit
theorem ybK {p:Prop} (h:p:=by
  intro h0;obtain ⟨tb,off,h1,h2,h3⟩:=h h0;refine ⟨tb,off,h1,fun hm => ?_,h3⟩;have h4:tb < w.heap.size:=zD (h3 0 (List.length_pos_iff.2 h0)).1;have:=hL tb hm;omega
 ):p:=h
theorem ycj {p:Prop} (h:p:=by
  rw [List.mem_reverse,List.mem_map] at h;obtain ⟨c,-,hc⟩:=h;have:=congrArg Prod.fst hc;simp at this; omega
 ):p:=h
structure Col where
 name:ByteArray
 k:Int
 s:Int
 null:Bool
def Col.nm (c:Col):List UInt8:=c.name.data.toList
def Col.good (c:Col):Bool:=zbj c.nm && zaN c.k c.s
structure Tbl where
 name:ByteArray
 cols:List Col
def Tbl.nm (t:Tbl):List UInt8:=t.name.data.toList
abbrev Met:=List (Int × List UInt8)
def zeH (k:Int):Met → List Col → Option Met
 | met,[] => some met
 | met,c :: cs => if (k,c.nm) ∈ met then none else if zbj c.nm=true then (if zaN c.k c.s=true then zeH k ((k,c.nm) :: met) cs else none) else none
def tblK (k:Int) (met:Met) (t:Tbl):Option Met:=
 match zeH k met t.cols with
 | none => none
 | some m => if (-1,t.nm) ∈ m then none else if zbj t.nm=true ∧ 1 ≤ t.cols.length ∧ t.cols.length ≤ 16 then some ((-1,t.nm) :: m) else none
def tblsK:Int → Met → List Tbl → Option Met
 | _,met,[] => some met
 | k,met,t :: ts => if 16 < t.cols.length then none else match tblK k met t with
  | none => none
  | some m => tblsK (k + 1) m ts
def tblOK (t:Tbl):Bool:=zbj t.nm && (decide (1 ≤ t.cols.length) && (decide (t.cols.length ≤ 16) && (t.cols.all Col.good && decide (t.cols.map Col.nm).Nodup)))
def zd4 (l:List Tbl):Bool:=l.all tblOK && (decide (l.map Tbl.nm).Nodup && decide (l.length ≤ 16))
theorem zfX (k:Int) (cs:List Col):∀ (met m:Met),zeH k met cs=some m ↔ (∀ c ∈ cs,c.good=true) ∧ (cs.map Col.nm).Nodup ∧ (∀ c ∈ cs,(k,c.nm) ∉ met) ∧ m=(cs.map fun c => (k,c.nm)).reverse ++ met:=by
 induction cs with
 | nil => intro met m; simp [zeH]; exact eq_comm
 | cons c cs ih =>
  intro met m;unfold zeH;by_cases h1:(k,c.nm) ∈ met
  ·rw [if_pos h1];constructor
   ·intro h; cases h
   ·intro h; exact absurd h1 (h.2.2.1 c List.mem_cons_self)
  rw [if_neg h1];by_cases h2:zbj c.nm=true
  ·rw [if_pos h2];by_cases h3:zaN c.k c.s=true
   ·rw [if_pos h3,ih];have hg:c.good=true:=by simp [Col.good,h2,h3]
    constructor
    ·rintro ⟨a1,a2,a3,a4⟩;refine ⟨fun x hx => ?_,?_,fun x hx => ?_,?_⟩
     ·rcases MC hx with rfl | hx
      ·exact hg
      ·exact a1 x hx
     ·rw [List.map_cons,List.nodup_cons];refine ⟨fun hm => ?_,a2⟩;obtain ⟨x,hx,hxe⟩:=List.mem_map.1 hm;exact a3 x hx (by rw [hxe]; exact List.mem_cons_self)
     ·rcases MC hx with rfl | hx
      ·exact h1
      ·exact fun hm => a3 x hx (CM _ hm)
     ·rw [a4]; simp
    ·rintro ⟨a1,a2,a3,a4⟩;rw [List.map_cons,List.nodup_cons] at a2;refine ⟨fun x hx => a1 x (CM _ hx),a2.2,fun x hx hm => ?_,by rw [a4]; simp⟩;rcases MC hm with h | h
     ·have:x.nm=c.nm:=by simpa using h
      exact a2.1 (List.mem_map.2 ⟨x,hx,this⟩)
     ·exact a3 x (CM _ hx) h
   ·rw [if_neg h3];constructor
    ·intro h; cases h
    ·intro h;have:=h.1 c List.mem_cons_self;simp [Col.good,h3] at this
  ·rw [if_neg h2];constructor
   ·intro h; cases h
   ·intro h;have:=h.1 c List.mem_cons_self;simp [Col.good,h2] at this
theorem zhy {k:Int} (hk:0 ≤ k) {met:Met} (hm:∀ p ∈ met,p.1 < k) (t:Tbl) (m:Met):tblK k met t=some m ↔ tblOK t=true ∧ (-1,t.nm) ∉ met ∧ m=(-1,t.nm) :: ((t.cols.map fun c => (k,c.nm)).reverse ++ met):=by
 unfold tblK
 cases hc:zeH k met t.cols with
 | none =>
  constructor
  ·intro h; cases h
  ·rintro ⟨h1,h2,h3⟩;simp only [tblOK,Bool.and_eq_true,decide_eq_true_eq,List.all_eq_true] at h1;have:=(zfX k t.cols met _).2 ⟨h1.2.2.2.1,h1.2.2.2.2,fun c hc hx => by have:=hm _ hx; simp at this,rfl⟩;rw [hc] at this; cases this
 | some m0 =>
  obtain ⟨a1,a2,a3,a4⟩:=(zfX k t.cols met m0).1 hc;have hmem:(-1,t.nm) ∈ m0 ↔ (-1,t.nm) ∈ met:=by
   rw [a4,List.mem_append];constructor
   ·rintro (h | h)
    ·exact ycj
    ·exact h
   ·exact .inr
  have hok:tblOK t=true ↔ (zbj t.nm=true ∧ 1 ≤ t.cols.length ∧ t.cols.length ≤ 16):=by simp only [tblOK,Bool.and_eq_true,decide_eq_true_eq,List.all_eq_true];exact ⟨fun h => ⟨h.1,h.2.1,h.2.2.1⟩,fun h => ⟨h.1,h.2.1,h.2.2,a1,a2⟩⟩
  rw [hok];simp only;by_cases h1:(-1,t.nm) ∈ m0
  ·rw [if_pos h1];constructor
   ·intro h; cases h
   ·intro h; exact absurd (hmem.1 h1) h.2.1
  ·rw [if_neg h1];by_cases h2:zbj t.nm=true ∧ 1 ≤ t.cols.length ∧ t.cols.length ≤ 16
   ·rw [if_pos h2,Option.some.injEq];constructor
    ·intro h;exact ⟨h2,fun hx => h1 (hmem.2 hx),by rw [← h,a4]⟩
    ·intro h;rw [h.2.2,a4]
   ·rw [if_neg h2];constructor
    ·intro h; cases h
    ·intro h; exact absurd h.1 h2
theorem zjN (ts:List Tbl):∀ {k:Int} (hk:0 ≤ k) {met:Met} (hm:∀ p ∈ met,p.1 < k),(tblsK k met ts).isSome=true ↔ (∀ t ∈ ts,tblOK t=true) ∧ (ts.map Tbl.nm).Nodup ∧ (∀ t ∈ ts,(-1,t.nm) ∉ met):=by
 induction ts with
 | nil => intro k hk met hm; simp [tblsK]
 | cons t ts ih =>
  intro k hk met hm;unfold tblsK;by_cases h16:16 < t.cols.length
  ·rw [if_pos h16];constructor
   ·intro h; cases h
   ·intro h;have:=h.1 t List.mem_cons_self;simp only [tblOK,Bool.and_eq_true,decide_eq_true_eq,List.all_eq_true] at this;omega
  rw [if_neg h16]
  cases ht:tblK k met t with
  | none =>
   simp only [Option.isSome_none];constructor
   ·intro h; cases h
   ·intro h;have:=(zhy hk hm t _).2 ⟨h.1 t List.mem_cons_self,h.2.2 t List.mem_cons_self,rfl⟩;rw [ht] at this; cases this
  | some m =>
   obtain ⟨b1,b2,b3⟩:=(zhy hk hm t m).1 ht;have hm':∀ p ∈ m,p.1 < k + 1:=by
    intro p hp;rw [b3] at hp;rcases MC hp with rfl | hp
    ·simp; omega
    ·rcases List.mem_append.1 hp with hp | hp
     ·rw [List.mem_reverse,List.mem_map] at hp;obtain ⟨c,-,rfl⟩:=hp;simp; omega
     ·have:=hm p hp; omega
   have hmem:∀ x:List UInt8,(-1,x) ∈ m ↔ x=t.nm ∨ (-1,x) ∈ met:=by
    intro x;rw [b3,List.mem_cons,List.mem_append];constructor
    ·rintro (h | h | h)
     ·left; simpa using h
     ·exact ycj
     ·exact .inr h
    ·rintro (h | h)
     ·left; rw [h]
     ·exact .inr (.inr h)
   simp only;rw [ih AA hm'];constructor
   ·rintro ⟨a1,a2,a3⟩;refine ⟨fun x hx => ?_,?_,fun x hx => ?_⟩
    ·rcases MC hx with rfl | hx
     ·exact b1
     ·exact a1 x hx
    ·rw [List.map_cons,List.nodup_cons];refine ⟨fun hx => ?_,a2⟩;obtain ⟨x,hx,hxe⟩:=List.mem_map.1 hx;exact a3 x hx ((hmem x.nm).2 (.inl hxe))
    ·rcases MC hx with rfl | hx
     ·exact b2
     ·exact fun h => a3 x hx ((hmem x.nm).2 (.inr h))
   ·rintro ⟨a1,a2,a3⟩;rw [List.map_cons,List.nodup_cons] at a2;refine ⟨fun x hx => a1 x (CM _ hx),a2.2,fun x hx h => ?_⟩;rcases (hmem x.nm).1 h with h | h
    ·exact a2.1 (List.mem_map.2 ⟨x,hx,h⟩)
    ·exact a3 x (CM _ hx) h
theorem zld (l:List Tbl):zd4 l=((tblsK 0 [] l).isSome && decide (l.length ≤ 16)):=by
 have h:=zjN l (k:=0) AA (met:=[]) AB;rw [Bool.eq_iff_iff];simp only [zd4,Bool.and_eq_true,decide_eq_true_eq,List.all_eq_true,h];constructor
 ·rintro ⟨h1,h2,h3⟩; exact ⟨⟨h1,h2,by simp⟩,h3⟩
 ·rintro ⟨⟨h1,h2,-⟩,h3⟩; exact ⟨h1,h2,h3⟩
def Col.ok (c:Col):Prop:=((-9223372036854775808 ≤ c.k ∧ c.k ≤ 9223372036854775807) ∧ (-9223372036854775808 ≤ c.s ∧ c.s ≤ 9223372036854775807)) ∧ c.name.size ≤ 9223372036854775807
def Tbl.ok (t:Tbl):Prop:=t.name.size ≤ 9223372036854775807 ∧ t.cols.length ≤ 9223372036854775807 ∧ ∀ c ∈ t.cols,c.ok
def colC (c:Col):List Value:=[.string c.name,.int .i64 c.k,.int .i64 c.s,.bool c.null]
def ColsIn (w:World) (ao:Option Addr) (cs:List Col) (L:List Nat):Prop:=
 cs ≠ [] → ∃ b off,ao=some ⟨b,off,none⟩ ∧ b ∉ L ∧ ∀ i (h:i < cs.length),w.cell? ⟨b,off + i * 4,none⟩ = some (.string cs[i].name) ∧ w.cell? ⟨b,off + i * 4 + 1,none⟩ = some (.int .i64 cs[i].k) ∧ w.cell? ⟨b,off + i * 4 + 2,none⟩ = some (.int .i64 cs[i].s) ∧ w.cell? ⟨b,off + i * 4 + 3,none⟩ = some (.bool cs[i].null)
def TblsIn (w:World) (ao:Option Addr) (ts:List Tbl) (L:List Nat):Prop:=
 ts ≠ [] → ∃ b off,ao=some ⟨b,off,none⟩ ∧ b ∉ L ∧ ∀ i (h:i < ts.length),w.cell? ⟨b,off + i * 2,none⟩ = some (.string ts[i].name) ∧ ∃ co c,w.cell? ⟨b,off + i * 2 + 1,none⟩ = some (.slice co ts[i].cols.length c) ∧ ColsIn w co ts[i].cols L
theorem ColsIn.mods {w w':World} {ao:Option Addr} {cs:List Col} {L:List Nat} (h:ColsIn w ao cs L) (hM:Mods L w w'):ColsIn w' ao cs L:=by intro h0;obtain ⟨tb,off,h1,h2,h3⟩:=h h0;exact ⟨tb,off,h1,h2,fun i hi => ⟨hM.cell (h3 i hi).1 h2,hM.cell (h3 i hi).2.1 h2,hM.cell (h3 i hi).2.2.1 h2,hM.cell (h3 i hi).2.2.2 h2⟩⟩
theorem TblsIn.mods {w w':World} {ao:Option Addr} {ts:List Tbl} {L:List Nat} (h:TblsIn w ao ts L) (hM:Mods L w w'):TblsIn w' ao ts L:=by intro h0;obtain ⟨tb,off,h1,h2,h3⟩:=h h0;refine ⟨tb,off,h1,h2,fun i hi => ?_⟩;obtain ⟨q1,co,c,q2,q3⟩:=h3 i hi;exact ⟨hM.cell q1 h2,co,c,hM.cell q2 h2,q3.mods hM⟩
theorem ColsIn.apart {w:World} {ao:Option Addr} {cs:List Col} (h:ColsIn w ao cs []) {L:List Nat} (hL:∀ k ∈ L,w.heap.size ≤ k):ColsIn w ao cs L:=by exact ybK
theorem TblsIn.apart {w:World} {ao:Option Addr} {ts:List Tbl} (h:TblsIn w ao ts []) {L:List Nat} (hL:∀ k ∈ L,w.heap.size ≤ k):TblsIn w ao ts L:=by
 intro h0;obtain ⟨tb,off,h1,h2,h3⟩:=h h0;refine ⟨tb,off,h1,fun hm => ?_,fun i hi => ?_⟩
 ·have h4:tb < w.heap.size:=zD (h3 0 (List.length_pos_iff.2 h0)).1;have:=hL tb hm;omega
 ·obtain ⟨q1,co,c,q2,q3⟩:=h3 i hi;exact ⟨q1,co,c,q2,q3.apart hL⟩
structure V where
 z:Bool
 n:Int
 s:ByteArray
def V.ok (v:V):Prop:=(-9223372036854775808 ≤ v.n ∧ v.n ≤ 9223372036854775807) ∧ v.s.size ≤ 9223372036854775807
def ValsIn (w:World) (ao:Option Addr) (vs:List V) (L:List Nat):Prop:=
 vs ≠ [] → ∃ tb off,ao=some ⟨tb,off,none⟩ ∧ tb ∉ L ∧ ∀ i (h:i < vs.length),w.cell? ⟨tb,off + i * 3,none⟩ = some (.bool vs[i].z) ∧ w.cell? ⟨tb,off + i * 3 + 1,none⟩ = some (.int .i64 vs[i].n) ∧ w.cell? ⟨tb,off + i * 3 + 2,none⟩ = some (.string vs[i].s)
def RowsIn (w:World) (ao:Option Addr) (rs:List (List V)) (L:List Nat):Prop:=
 rs ≠ [] → ∃ rb off,ao=some ⟨rb,off,none⟩ ∧ rb ∉ L ∧ ∀ i (h:i < rs.length),∃ vo c,rs[i].length ≤ c ∧ w.cell? ⟨rb,off + i,none⟩ = some (.slice vo rs[i].length c) ∧ ValsIn w vo rs[i] L
theorem ValsIn.mods {w w':World} {ao:Option Addr} {vs:List V} {L:List Nat} (h:ValsIn w ao vs L) (hM:Mods L w w'):ValsIn w' ao vs L:=by intro h0;obtain ⟨tb,off,h1,h2,h3⟩:=h h0;exact ⟨tb,off,h1,h2,fun i hi => ⟨hM.cell (h3 i hi).1 h2,hM.cell (h3 i hi).2.1 h2,hM.cell (h3 i hi).2.2 h2⟩⟩
theorem RowsIn.mods {w w':World} {ao:Option Addr} {rs:List (List V)} {L:List Nat} (h:RowsIn w ao rs L) (hM:Mods L w w'):RowsIn w' ao rs L:=by intro h0;obtain ⟨rb,off,h1,h2,h3⟩:=h h0;refine ⟨rb,off,h1,h2,fun i hi => ?_⟩;obtain ⟨vo,c,hl,q1,q2⟩:=h3 i hi;exact ⟨vo,c,hl,hM.cell q1 h2,q2.mods hM⟩
theorem ValsIn.apart {w:World} {ao:Option Addr} {vs:List V} (h:ValsIn w ao vs []) {L:List Nat} (hL:∀ k ∈ L,w.heap.size ≤ k):ValsIn w ao vs L:=by exact ybK
open Go.Maps
def NMap (w:World) (mb:Nat) (met:Met):Prop:=∃ es clock,w.heap[mb]? = some (.map es clock) ∧ NRow es clock met
theorem NMap.mods {w w':World} {mb:Nat} {met:Met} {L:List Nat} (h:NMap w mb met) (hM:Mods L w w') (hn:mb ∉ L):NMap w' mb met:=by obtain ⟨es,c,h1,h2⟩:=h;exact ⟨es,c,hM.heap h1 hn,h2⟩
theorem zhz (w0 w:World) (hT:Tabs w0) (hM0:Mods [] w0 w) (mb:Nat) (hmb:w0.heap.size ≤ mb) (met:Met) (hN:NMap w mb met) (t:Int) (s:ByteArray) (hp:okP (t,s.data.toList)) :
  Calls Tryz.prog 74 #[.map (some mb),.int .i64 t,.string s] w fun e w' => e = .returned (.bool (!decide ((t,s.data.toList) ∈ met) && zbj s.data.toList)) ∧ Mods [mb] w w' ∧ ((t,s.data.toList) ∉ met → NMap w' mb ((t,s.data.toList) :: met)):=by
 obtain ⟨es,clock,hb,hR⟩:=hN;by_cases hn:(t,s.data.toList) ∈ met
 ·refine (zlc w mb es clock hb met hR t s hp hn).mono fun e w' h => ⟨?_,h.2,fun h2 => absurd hn h2⟩;rw [h.1]; simp [hn]
 ·refine (zlb w0 w hT hM0 mb hmb es clock hb met hR t s hp hn).mono fun e w' h => ⟨?_,h.2.1,fun _ => h.2.2⟩;rw [h.1]; simp [hn]
theorem ziZ {α:Type} {l:List α} {i:Nat} (h:i < l.length):l.drop i=l[i] :: l.drop (i + 1):=List.drop_eq_getElem_cons h
theorem zjO (k:Int) (met:Met) (c:Col) (cs:List Col):zeH k met (c :: cs)=if (k,c.nm) ∈ met then none else if zbj c.nm=true then (if zaN c.k c.s=true then zeH k ((k,c.nm) :: met) cs else none) else none:=rfl
theorem zle (w0 w:World) (hT:Tabs w0) (hM0:Mods [] w0 w) (mb:Nat) (hmb:w0.heap.size ≤ mb) (hmw:mb < w.heap.size) (met:Met) (hN:NMap w mb met) (k:Int) (hk : -9223372036854775808 ≤ k ∧ k ≤ 9223372036854775807) (t:Tbl) (ht:t.ok) (n:Nat) (hn:t.cols.length=n) (co:Option Addr) (cap:Nat) (hC:ColsIn w co t.cols [mb]) :
  Calls Tryz.prog 35 #[.map (some mb),.int .i64 k,.agg #[.string t.name,.slice co n cap]] w fun e w' => e = .returned (.bool (tblK k met t).isSome) ∧ Mods [mb] w w' ∧ ∀ m,tblK k met t=some m → NMap w' mb m:=by
 obtain ⟨hnm,hcl,hco⟩:=ht;have hMA:=((QM [mb] w).alloc (.cells #[.string t.name,.slice co n cap] 28));have hb5:=QN w (.cells #[.string t.name,.slice co n cap] 28);have hNA:=hN.mods ((QM [] w).alloc (.cells #[.string t.name,.slice co n cap] 28)) AB;have hneq:w.heap.size ≠ mb:=by omega
 have hmw1:mb < (w.alloc (.cells #[.string t.name,.slice co n cap] 28)).heap.size:=by rw [zl]; omega
 have HC:=QH hC;have HN:=QH hn;have HCO:=QH hco;have HRES:Hid (∀ x w',tblK k met t=x → Mods [mb] w w' → (∀ m,x=some m → NMap w' mb m) → (Ending.returned (.bool x.isSome):Ending) = .returned (.bool (tblK k met t).isSome) ∧ Mods [mb] w w' ∧ ∀ m,tblK k met t=some m → NMap w' mb m):=QH (fun x w' h1 h2 h3 => ⟨by rw [h1],h2,fun m hm => h3 m (by rw [← h1,hm])⟩);clear hC hn hN hco;go_enter Tryz.func35, Tryz.ntmps35;go_wp2_with fail;generalize w.alloc (.cells #[.string t.name,.slice co n cap] 28)=w1 at *;generalize w.heap.size=tb at *;go_loopw [12] (fun t12 wr => ∃ (i:Nat) (m:Met),i ≤ n ∧ t12 = .int .i64 i ∧ Mods [mb] w1 wr ∧ NMap wr mb m ∧ Hid (zeH k met t.cols=zeH k m (t.cols.drop i))) (fun t12 _ => n - (intOf t12).toNat)
 case atStart => exact ⟨0,met,by omega,rfl,QM _ _,hNA,QH rfl⟩
 case round =>
  clear hNA;obtain ⟨i,m,hi,rfl,hM,hN,HK⟩:=hrel;by_cases hlt:i < n
  ·have hil:i < t.cols.length:=by rw [HN.out]; exact hlt
   have hne:t.cols ≠ []:=fun h => by rw [h] at hil; simp at hil
   obtain ⟨cb,off,rfl,hcb,hcells⟩:=HC.out hne;obtain ⟨c0,c1,c2,c3⟩:=hcells i hil;have hMx:=hMA.trans hM;have d0:=hMx.cell c0 hcb;have d1:=hMx.cell c1 hcb;have d2:=hMx.cell c2 hcb;have d3:=hMx.cell c3 hcb;have hK:=HK.out;rw [ziZ hil,zjO] at hK;have hcok:=HCO.out _ (List.getElem_mem hil);obtain ⟨c,hc⟩:=EX (t.cols[i]);rw [hc] at d0 d1 d2 d3 hK hcok;clear c0 c1 c2 c3 hc hcells HK;have hp:okP (k,c.name.data.toList):=⟨hk,hcok.2⟩;have hMB:=(QM [] wr).alloc (.cells #[.string c.name,.int .i64 c.k,.int .i64 c.s,.bool c.null] 64);have hM0r:Mods [] w0 (wr.alloc (.cells #[.string c.name,.int .i64 c.k,.int .i64 c.s,.bool c.null] 64)):=(hM0.trans (hMx.trans hMB) (fun x hx => .inr AP));have hfr:=zhz w0 _ hT hM0r mb hmb m (hN.mods hMB AB) k c.name hp;have hty:=fun W => zdg c.k c.s W;have hKK:=QH hK;clear hM0r hK hp hcok;go_wp2_with fail;(with_reducible refine hfr.mono ?_);rintro e w2 ⟨rfl,hM2,hN2⟩;clear hfr;have hM2x:=hMx.trans (hMB.mono (L':=[mb]) AB);have hM3:=hM2x.trans hM2;have hlt2:=hM.size;have hne2:wr.heap.size ≠ mb:=by omega
   have hb9:=hM2.heap (QN wr (.cells #[.string c.name,.int .i64 c.k,.int .i64 c.s,.bool c.null] 64)) (by simpa using hne2);have e1:=za hb9 1;have e2:=za hb9 2;change w2.cell? _=some (.int .i64 c.k) at e1;change w2.cell? _=some (.int .i64 c.s) at e2;generalize wr.heap.size=cbk at *
   cases hb:(!decide ((k,c.name.data.toList) ∈ m) && zbj c.name.data.toList) with
   | false =>
    have hno:tblK k met t=none:=by
     unfold tblK;rw [hKK.out];by_cases h1:(k,c.nm) ∈ m
     ·rw [if_pos h1]
     ·rw [if_neg h1];have:¬ zbj c.nm=true:=by
       intro h2;have:(!decide ((k,c.nm) ∈ m) && zbj c.nm)=true:=by rw [h2]; simp [h1]
       rw [show (!decide ((k,c.nm) ∈ m) && zbj c.nm)=false from hb] at this;cases this
      rw [if_neg this]
    have fin:=QH (fun w' h => HRES.out none w' hno h (fun m hm => by cases hm));clear hno hKK HRES hN2 hM2 hM2x hb;go_wp2_with fail;go_ret;exact fin.out _ hM3
   | true =>
    simp only [Bool.and_eq_true,Bool.not_eq_true',decide_eq_false_iff_not] at hb;obtain ⟨hb1,hb2⟩:=hb;have hN3:=hN2 hb1;have hK:=hKK.out;rw [if_neg (show ¬ (k,c.nm) ∈ m from hb1),if_pos (show zbj c.nm=true from hb2)] at hK;clear hKK hN2 hb1 hb2
    cases htr:zaN c.k c.s with
    | false =>
     rw [htr] at hK hty;rw [if_neg AD] at hK;have hno:tblK k met t=none:=by unfold tblK;rw [hK]
     have fin:=QH (fun w' h => HRES.out none w' hno h (fun m hm => by cases hm));clear hno hK HRES hM2 hM2x htr hN3;go_wp2_with fail;(with_reducible refine (hty _).mono ?_);rintro e w3 ⟨rfl,hM4⟩;go_wp2_with fail;go_ret;exact fin.out _ (hM3.trans hM4)
    | true =>
     rw [htr] at hK hty;rw [if_pos rfl] at hK;have hKn:=QH hK;have hM12:=(hM.trans (hMB.mono (L':=[mb]) AB)).trans hM2;clear hK HRES hM2 hM2x htr;go_wp2_with fail;(with_reducible refine (hty _).mono ?_);rintro e w3 ⟨rfl,hM4⟩;have hM1:Mods [mb] w1 w3:=hM12.trans hM4;go_wp2_with fail;go_roundw
     case measure => simp [intOf]; omega
     case rel => exact ⟨i + 1,_,by omega,by go_num,hM1,hN3.mods hM4 AB,hKn⟩
  ·obtain rfl:n=i:=by omega
   have hK:=HK.out;have hnl:t.cols.length=n:=HN.out;rw [List.drop_of_length_le AA] at hK;change zeH k met t.cols=some m at hK;have hMx:=hMA.trans hM;have hbr:=hM.heap hb5 (by simpa using hneq);have hM0r:Mods [] w0 wr:=hM0.trans hMx (fun x hx => .inr AP);have hp:okP (-1,t.name.data.toList):=⟨⟨by show (-9223372036854775808:Int) ≤ -1; omega,by show (-1:Int) ≤ _; omega⟩,hnm⟩;have hfr:=zhz w0 _ hT hM0r mb hmb m hN (-1) t.name hp;have hT1:tblK k met t=if (-1,t.nm) ∈ m then none else if zbj t.nm=true ∧ 1 ≤ t.cols.length ∧ t.cols.length ≤ 16 then some ((-1,t.nm) :: m) else none:=by unfold tblK;rw [hK]
   rw [hnl] at hT1;have HT1:=QH hT1;clear hT1 hK HK hM0r hp hnl;have e0:=za hbr 0;have e1:=za hbr 1;change wr.cell? _=some (.string t.name) at e0;change wr.cell? _=some (.slice co n cap) at e1;go_wp2_with fail;(with_reducible refine hfr.mono ?_);rintro e w2 ⟨rfl,hM2,hN2⟩;clear hfr;have g1:=hM2.cell e1 (by simpa using hneq);have hM3:=hMx.trans hM2
   cases hb:(!decide ((-1,t.name.data.toList) ∈ m) && zbj t.name.data.toList) with
   | false =>
    have hno:tblK k met t=none:=by
     rw [HT1.out];by_cases h1:(-1,t.nm) ∈ m
     ·rw [if_pos h1]
     ·rw [if_neg h1];have:¬ zbj t.nm=true:=by
       intro h2;have:(!decide ((-1,t.nm) ∈ m) && zbj t.nm)=true:=by rw [h2]; simp [h1]
       rw [show (!decide ((-1,t.nm) ∈ m) && zbj t.nm)=false from hb] at this;cases this
      rw [if_neg (fun h => this h.1)]
    have fin:=QH (fun w' h => HRES.out none w' hno h (fun m hm => by cases hm));clear hno HT1 HRES hN2 hM2 hb;go_wp2_with fail;go_ret;exact fin.out _ hM3
   | true =>
    simp only [Bool.and_eq_true,Bool.not_eq_true',decide_eq_false_iff_not] at hb;obtain ⟨hb1,hb2⟩:=hb;have hN3:=hN2 hb1;have hK:=HT1.out;rw [if_neg (show ¬ (-1,t.nm) ∈ m from hb1)] at hK;by_cases hrng:1 ≤ n ∧ n ≤ 16
    ·rw [if_pos ⟨hb2,hrng⟩] at hK;have fin:=QH (fun w' h h2 => HRES.out _ w' hK h h2);clear hK HT1 HRES hN2 hM2 hb1 hb2;have z1:(1:Int) ≤ n:=by omega
     have z2:(n:Int) ≤ 16:=by omega
     go_wp2_with fail;go_ret;exact fin.out _ hM3 (fun m' hm => by cases hm; exact hN3)
    ·rw [if_neg (fun h => hrng h.2)] at hK;have fin:=QH (fun w' h => HRES.out none w' hK h (fun m hm => by cases hm));clear hK HT1 HRES hN2 hM2 hb1 hb2;by_cases z1:(1:Int) ≤ n
     ·have z2:=decide_eq_false (show ¬ (n:Int) ≤ 16 by omega);go_wp2_with fail;go_ret;exact fin.out _ hM3
     ·have z3:=decide_eq_false z1;go_wp2_with fail;go_ret;exact fin.out _ hM3
open Go.Maps
theorem zjP (k:Int) (met:Met) (t:Tbl) (ts:List Tbl):tblsK k met (t :: ts)=if 16 < t.cols.length then none else match tblK k met t with
  | none => none
  | some m => tblsK (k + 1) m ts:=rfl
theorem zmU:NRow #[] 0 []:=⟨⟨by simp,by simp,by simp⟩,by simp,by simp,by simp⟩
theorem zjQ (w:World) (hT:Tabs w) (l:List Tbl) (hl:∀ t ∈ l,t.ok) (n:Nat) (hn:l.length=n) (hn63:n ≤ 9223372036854775807) (ao:Option Addr) (cap:Nat) (hI:TblsIn w ao l []) :
  Calls Tryz.prog 19 #[.slice ao n cap] w fun e w' => e = .returned (.bool (zd4 l)) ∧ Mods [] w w':=by
 have hN0:NMap (w.alloc (.map #[] 0)) w.heap.size []:=⟨#[],0,QN w _,zmU⟩;have hMA:=(QM [] w).alloc (.map #[] 0);have hsz:=zl w (.map #[] 0);have FIN:Hid (∀ x w',(tblsK 0 [] l).isSome=x → Mods [] w w' → (x && decide (n ≤ 16))=zd4 l ∧ Mods [] w w'):=QH (fun x w' h1 h2 => ⟨by rw [zld,h1,hn],h2⟩);have HN:=QH hn;have HI:=QH (AI hI hl);clear hn hI hl;have hmm:=@run_makeMap Tryz.prog;go_enter Tryz.func19, Tryz.ntmps19;go_wp2_with fail;clear hmm;obtain ⟨mb,hmb⟩:=EX (w.heap.size);rw [hmb] at hN0 hsz ⊢;have hge:w.heap.size ≤ mb:=by omega
 generalize w.alloc (.map #[] 0)=w1 at *;go_loopw [9] (fun t9 wr => ∃ (i:Nat) (m:Met),i ≤ n ∧ t9 = .int .i64 i ∧ Mods [mb] w1 wr ∧ NMap wr mb m ∧ Hid (tblsK 0 [] l=tblsK i m (l.drop i))) (fun t9 _ => n - (intOf t9).toNat)
 case atStart => exact ⟨0,[],by omega,rfl,QM _ _,hN0,QH rfl⟩
 case round =>
  clear hN0;obtain ⟨i,m,hi,rfl,hM,hN,HK⟩:=hrel;have hMx:Mods [] w wr:=hMA.trans hM (fun x hx => .inr AP);have hsr:=hM.size;by_cases hlt:i < n
  ·have hil:i < l.length:=by rw [HN.out]; exact hlt
   have hne:l ≠ []:=fun h => by rw [h] at hil; simp at hil
   obtain ⟨lb,off,rfl,hlb,hcells⟩:=HI.out.1 hne;obtain ⟨c0,co,cc,c1,hC⟩:=hcells i hil;have d0:=hMx.cell c0;have d1:=hMx.cell c1;have hC2:=(hC.apart (L:=[mb]) (fun x hx => by simp at hx; omega)).mods (hMx.mono);have htok:=HI.out.2 _ (List.getElem_mem hil);have hK:=HK.out;rw [ziZ hil,zjP] at hK;obtain ⟨t,ht⟩:=EX (l[i]);rw [ht] at d0 d1 hC2 htok hK;obtain ⟨nc,hnc⟩:=EX (t.cols.length);rw [hnc] at d1 hK;have hnc63:nc ≤ 9223372036854775807:=by rw [← hnc]; exact htok.2.1
   clear c0 c1 hC ht hcells HK;have hMB:=(QM [] wr).alloc (.cells #[.string t.name,.slice co nc cc] 28);have hrg:=zle w _ hT (hMx.trans hMB) mb hge (by rw [zl]; omega) m (hN.mods hMB AB) i AA t htok nc hnc co cc (hC2.mods (hMB.mono));have HKK:=QH hK;have hMB1:=hM.trans (hMB.mono (L':=[mb]) AB);clear hK hC2 htok hN hnc hMB;by_cases h16:16 < nc
   ·have hno:(tblsK 0 [] l).isSome=false:=by rw [HKK.out,if_pos h16]; rfl
    have fin:=QH (fun w' h => FIN.out false w' hno h);have z1:(16:Int) < nc:=by omega
    clear hno HKK FIN hrg;go_wp2_with fail;go_ret;exact ⟨zbC (fin.out _ hMx).1,hMx.alloc _⟩
   ·have z1:¬ (16:Int) < nc:=by omega
    have z2:=decide_eq_false z1;have hK2:=HKK.out;rw [if_neg h16] at hK2;go_wp2_with fail;(with_reducible refine hrg.mono ?_);rintro e w2 ⟨rfl,hM2,hN2⟩;clear hrg;have hM3:=hMB1.trans hM2
    cases htb:tblK i m t with
    | none =>
     rw [htb] at hK2;have hno:(tblsK 0 [] l).isSome=false:=by rw [hK2]; rfl
     have fin:=QH (fun w' h => FIN.out false w' hno h);have hMf:Mods [] w w2:=hMA.trans hM3 (fun x hx => .inr AP);clear hno HKK FIN hK2;go_wp2_with fail;go_ret;exact ⟨zbC (fin.out _ hMf).1,hMf⟩
    | some m2 =>
     rw [htb] at hK2;have HK3:=QH hK2;have hN3:=hN2 m2 htb;clear HKK hK2 hN2 FIN;go_wp2_with fail;go_roundw
     case measure => simp [intOf]; omega
     case rel => exact ⟨i + 1,m2,by omega,by go_num,hM3,hN3,QH (by rw [HK3.out]; congr 1)⟩
  ·obtain rfl:n=i:=by omega
   have hK:=HK.out;rw [List.drop_of_length_le (by have:=HN.out; omega)] at hK;change tblsK 0 [] l=some m at hK;have hyes:(tblsK 0 [] l).isSome=true:=by rw [hK]; rfl
   have fin:=QH (fun w' h => FIN.out true w' hyes h);clear hK HK hyes FIN;go_wp2_with fail;go_ret;refine ⟨zbC ?_,hMx⟩;rw [← (fin.out _ hMx).1,Bool.true_and,decide_eq_decide];omega
open Go.Maps
def zcx (l:List ByteArray) (s:ByteArray):Value:=
 match l.findIdx? (fun x => decide (x=s)) with
 | some i => .tuple #[.int .i64 i,.bool true]
 | none => .tuple #[.int .i64 0,.bool false]
theorem zfY {l:List ByteArray} {s:ByteArray} {i:Nat} (hi:i < l.length) (h:l[i]=s) (hb:∀ j (hj:j < l.length),j < i → l[j] ≠ s):zcx l s = .tuple #[.int .i64 i,.bool true]:=by
 have:l.findIdx? (fun x => decide (x=s))=some i:=by rw [List.findIdx?_eq_some_iff_getElem];exact ⟨hi,by simp [h],fun j hj => by simpa using hb j AA hj⟩
 unfold zcx;rw [this]
theorem zfZ {l:List ByteArray} {s:ByteArray} (hb:∀ j (hj:j < l.length),l[j] ≠ s):zcx l s = .tuple #[.int .i64 0,.bool false]:=by
 have:l.findIdx? (fun x => decide (x=s))=none:=by rw [List.findIdx?_eq_none_iff];intro x hx;obtain ⟨j,hj,rfl⟩:=List.getElem_of_mem hx;simpa using hb j hj
 unfold zcx;rw [this]
def NotYet (l:List ByteArray) (s:ByteArray) (i:Nat):Prop:=∀ j (hj:j < l.length),j < i → l[j] ≠ s
theorem NotYet.next {l:List ByteArray} {s:ByteArray} {i:Nat} (h:NotYet l s i) (hi:i < l.length) (hn:l[i] ≠ s):NotYet l s (i + 1):=by
 intro j hj hji;by_cases he:j=i
 ·subst he; exact hn
 ·exact h j hj AA
theorem zfg (w:World) (x:ByteArray) (v:Value) (hv:v.oneCell'=true):Calls Tryz.prog 97 #[.agg #[.string x,v]] w fun e w' => e = .returned (.string x) ∧ Mods [] w w':=by
 have hM:=(QM [] w).alloc (.cells #[.string x,v] 28);go_enter Tryz.func97, Tryz.ntmps97;go_wp2_with fail;go_ret
 exact ⟨rfl,hM⟩
theorem zig (w:World) (l:List Tbl) (n:Nat) (hn:l.length=n) (hn63:n ≤ 9223372036854775807) (ao:Option Addr) (cap:Nat) (hI:TblsIn w ao l []) (s:ByteArray) :
  Calls Tryz.prog 96 #[.slice ao n cap,.string s,.func (.func 97) #[] #[]] w fun e w' => e = .returned (zcx (l.map Tbl.name) s) ∧ Mods [] w w':=by
 have HN:=QH hn;have HI:=QH hI;clear hn hI;go_enter Tryz.func96, Tryz.ntmps96;go_wp2_with fail;go_loopw [12] (fun t12 wr => ∃ (i:Nat),i ≤ n ∧ t12 = .int .i64 i ∧ Mods [] w wr ∧ NotYet (l.map Tbl.name) s i) (fun t12 _ => n - (intOf t12).toNat)
 case atStart => exact ⟨0,by omega,rfl,QM _ _,fun j _ h => by omega⟩
 case round =>
  obtain ⟨i,hi,rfl,hM,hY⟩:=hrel;by_cases hlt:i < n
  ·have hil:i < l.length:=by rw [HN.out]; exact hlt
   have hne:l ≠ []:=fun h => by rw [h] at hil; simp at hil
   obtain ⟨cb,off,rfl,hcb,hcells⟩:=HI.out hne;obtain ⟨c0,co,cc,c1,hC⟩:=hcells i hil;have d0:=hM.cell c0;have d1:=hM.cell c1;have hml:i < (l.map Tbl.name).length:=by simpa using hil
   have hme:(l.map Tbl.name)[i]=l[i].name:=by simp
   obtain ⟨c,hc⟩:=EX (l[i]);rw [hc] at d0 d1 hme;obtain ⟨nc,hnc⟩:=EX (c.cols.length);rw [hnc] at d1;clear c0 c1 hC hc hcells hcb hnc;have hMB:=(QM [] wr).alloc (.cells #[.string c.name,.slice co nc cc] 28);have hMx:=hM.trans hMB;by_cases heq:c.name=s
   ·have fin:Hid (zcx (l.map Tbl.name) s = .tuple #[.int .i64 i,.bool true]):=QH (zfY hml (by rw [hme,heq]) hY);obtain rfl:=heq;clear hY hme hml;go_wp2_with fail;(with_reducible refine (zfg _ _ _ rfl).mono ?_);rintro e w2 ⟨rfl,hM2⟩;go_wp2_with fail;go_ret2;exact ⟨by rw [fin.out]; rfl,hMx.trans hM2⟩
   ·have hY2:NotYet (l.map Tbl.name) s (i + 1):=hY.next hml (by rw [hme]; exact heq);have z2:¬ c.name.toList=s.toList:=by
     rw [ByteArray.toList_eq,ByteArray.toList_eq];intro h;exact heq (ByteArray.ext (Array.toList_inj.1 h))
    have z1:(c.name.toList == s.toList)=false:=by rw [beq_eq_false_iff_ne]; exact z2
    clear hY hme hml;go_wp2_with fail;(with_reducible refine (zfg _ _ _ rfl).mono ?_);rintro e w2 ⟨rfl,hM2⟩;go_wp2_with fail;go_roundw
    case measure => simp [intOf]; omega
    case rel => exact ⟨i + 1,by omega,by go_num,hMx.trans hM2,hY2⟩
  ·obtain rfl:n=i:=by omega
   have fin:Hid (zcx (l.map Tbl.name) s = .tuple #[.int .i64 0,.bool false]):=QH (zfZ (fun j hj => hY j hj (by have:=HN.out; simp at hj; omega)));clear hY;go_wp2_with fail;go_ret2;exact ⟨by rw [fin.out]; rfl,hM⟩
theorem zf0 (l:List ByteArray) (s:ByteArray):∃ (i:Nat) (b:Bool),zcx l s = .tuple #[.int .i64 i,.bool b]:=by
 unfold zcx;split
 ·exact ⟨_,_,rfl⟩
 ·exact ⟨0,false,rfl⟩
theorem zfh (w:World) (l:List Tbl) (n:Nat) (hn:l.length=n) (hn63:n ≤ 9223372036854775807) (ao:Option Addr) (cap:Nat) (hI:TblsIn w ao l []) (s:ByteArray) :
  Calls Tryz.prog 67 #[.slice ao n cap,.string s] w fun e w' => e = .returned (zcx (l.map Tbl.name) s) ∧ Mods [] w w':=by
 have hf:=zig w l n hn hn63 ao cap hI s;obtain ⟨i,b,hib⟩:=zf0 (l.map Tbl.name) s;rw [hib] at hf ⊢;clear hib;go_enter Tryz.func67, Tryz.ntmps67;go_wp2_with fail;(with_reducible refine hf.mono ?_);rintro e w2 ⟨rfl,hM2⟩;go_wp2_with fail;go_ret2;exact ⟨rfl,hM2⟩
end Go.Proofs.YtebljciefhfgbaaGreatDoor
