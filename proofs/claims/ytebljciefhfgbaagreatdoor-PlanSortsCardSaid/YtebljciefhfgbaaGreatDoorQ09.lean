/-
  parse's aggregate, walked. No condition.
-/
import Derived.Test.YtebljciefhfgbaaGreatDoorQ08
import Derived.Deep.RegionHeld3
import Derived.Orders
import Derived.Maps.Keyed
set_option linter.unusedVariables false
namespace Go.Proofs.YtebljciefhfgbaaGreatDoor
open Go.RowKit
theorem AU {p:Prop} (h:p:=by rw [h.size]; exact hn):p:=h
theorem yaH {p:Prop} (h:p:=by
  have h1:(listed.setIfInBounds i true).toList=listed.toList.set i true:=by simp
  rw [h1];have:=zcI listed.toList i (by simpa using hun);omega
 ):p:=h
theorem yaO {p:Prop} (h:p:=by
  intro k;rw [Array.getElem?_setIfInBounds];by_cases hk:i=k
  ·subst hk; simp [hnl]
  ·rw [if_neg hk,if_neg (fun e => hk e.symm)]
 ):p:=h
theorem Mods.rules0 {w w':World} (h:Mods [] w w'):(∀ b o,b < w.heap.size → w'.cell? ⟨b,o,none⟩ = w.cell? ⟨b,o,none⟩) ∧ (∀ b o,b < w.heap.size → w'.frozen? ⟨b,o,none⟩ = w.frozen? ⟨b,o,none⟩) ∧ w.heap.size ≤ w'.heap.size:=
 ⟨fun b o hb => World.cell?_of_block (h.block b hb AB),fun b o hb => World.frozen?_of_block (h.block b hb AB),h.size⟩
theorem keepS1 {W w':World} {p:Addr} {x:Value} (h0:W.cell? p=some x) (h:Mods [] W w'):w'.cell? p=some x ∧ W.heap.size ≤ w'.heap.size ∧ Mods [] W w':=⟨h.cell h0,h.size,h⟩
theorem zfR (w:World):w.drew.heap=w.heap:=rfl
def CutAgg (W0:World) (op:Bs) (pos:Nat) (s3:Value) (wx:World):Prop:=
 ∃ xb xc,s3 = .pointer (some ⟨xc,0,none⟩) ∧ W0.heap.size ≤ xb ∧ W0.heap.size ≤ xc ∧ xb ≠ xc ∧ Mods [] W0 wx ∧ wx.heap[xc]? = some (.cells #[zh xb] 107 (0,0)) ∧ wx.heap[xb]? = some (.cells (hdC { op:=op,pos:=pos } (.slice none 0 0)).toArray 175 (0,0))
theorem zpf {L L':List Nat} {a b c:World} (h:Mods L a b) (k:Mods L' b c) (hs:∀ x ∈ L',x ∈ L ∨ a.heap.size ≤ x):Mods L a c:=Mods.trans h k hs
theorem cutAggA {W0 W w1:World} {op:Bs} {pos:Nat} (h:Mods [] W0 W) (h':Mods [] (W.alloc (.cells #[.pointer none] 107)) w1) :
  CutAgg W0 op pos (.pointer (some ⟨W.heap.size,0,none⟩)) ((w1.setCell ⟨W.heap.size,0,none⟩ (.pointer (some ⟨w1.heap.size,0,none⟩))).alloc (.cells #[.string ⟨op.toArray⟩,.int .i64 pos,.string ⟨#[]⟩,.string ⟨#[]⟩,.int .i64 0,.int .i64 0,.string ⟨#[]⟩,.slice none 0 0] 175)):=by
 have hs:=h'.size;rw [zl] at hs;have hm:=h.size;have hx:=h'.heap (QN W (.cells #[.pointer none] 107));have hx2:=zb hx 0 (.pointer (some ⟨w1.heap.size,0,none⟩));have hw:=((h.alloc (.cells #[.pointer none] 107)).trans h').setCell (p:=⟨W.heap.size,0,none⟩) (.inr (by show W0.heap.size ≤ W.heap.size; omega)) (.pointer (some ⟨w1.heap.size,0,none⟩));have hz:(w1.setCell ⟨W.heap.size,0,none⟩ (.pointer (some ⟨w1.heap.size,0,none⟩))).heap.size=w1.heap.size:=by simp [World.setCell]
 generalize w1.setCell ⟨W.heap.size,0,none⟩ (.pointer (some ⟨w1.heap.size,0,none⟩))=w2 at *;rw [← hz] at hx2;exact ⟨w2.heap.size,W.heap.size,rfl,by omega,by omega,by omega,hw.alloc _,((QM [] w2).alloc _).heap hx2,QN w2 _⟩
theorem cutAggD {W0 W w1:World} {op:Bs} {pos:Nat} (h:Mods [] W0 W) (h':Mods [] (W.alloc (.cells #[.pointer none] 107)).drew w1) :
  CutAgg W0 op pos (.pointer (some ⟨W.heap.size,0,none⟩)) ((w1.setCell ⟨W.heap.size,0,none⟩ (.pointer (some ⟨w1.heap.size,0,none⟩))).alloc (.cells #[.string ⟨op.toArray⟩,.int .i64 pos,.string ⟨#[]⟩,.string ⟨#[]⟩,.int .i64 0,.int .i64 0,.string ⟨#[]⟩,.slice none 0 0] 175)):=
 cutAggA h ((QM [] _).drew.trans h')
theorem cutAggC {W0 w1:World} {op:Bs} {pos:Nat} (h:Mods [] W0 w1) :
  CutAgg W0 op pos (.pointer (some ⟨w1.heap.size,0,none⟩)) ((w1.alloc (.cells #[.pointer (some ⟨w1.heap.size + 1,0,none⟩)] 107)).alloc (.cells #[.string ⟨op.toArray⟩,.int .i64 pos,.string ⟨#[]⟩,.string ⟨#[]⟩,.int .i64 0,.int .i64 0,.string ⟨#[]⟩,.slice none 0 0] 175)):=by
 have hm:=h.size;obtain ⟨h1,h2⟩:=zck w1 (.cells #[.pointer (some ⟨w1.heap.size + 1,0,none⟩)] 107) (.cells #[.string ⟨op.toArray⟩,.int .i64 pos,.string ⟨#[]⟩,.string ⟨#[]⟩,.int .i64 0,.int .i64 0,.string ⟨#[]⟩,.slice none 0 0] 175);exact ⟨w1.heap.size + 1,w1.heap.size,rfl,by omega,by omega,by omega,(h.alloc _).alloc _,h1,h2⟩
theorem cutAggB {W0 w1:World} {op:Bs} {pos:Nat} (h:Mods [] W0 w1) :
  CutAgg W0 op pos (.pointer (some ⟨w1.heap.size + 1,0,none⟩)) ((w1.alloc (.cells #[.string ⟨op.toArray⟩,.int .i64 pos,.string ⟨#[]⟩,.string ⟨#[]⟩,.int .i64 0,.int .i64 0,.string ⟨#[]⟩,.slice none 0 0] 175)).alloc (.cells #[.pointer (some ⟨w1.heap.size,0,none⟩)] 107)):=by
 have hm:=h.size;obtain ⟨h1,h2⟩:=zck w1 (.cells #[.string ⟨op.toArray⟩,.int .i64 pos,.string ⟨#[]⟩,.string ⟨#[]⟩,.int .i64 0,.int .i64 0,.string ⟨#[]⟩,.slice none 0 0] 175) (.cells #[.pointer (some ⟨w1.heap.size,0,none⟩)] 107);exact ⟨w1.heap.size,w1.heap.size + 1,rfl,by omega,by omega,by omega,(h.alloc _).alloc _,h2,h1⟩
set_option maxRecDepth 100000 in
set_option maxHeartbeats 4000000 in
theorem zgw (w:World) (pb tg:Nat) (f:Nat) (s:PS) (h:PSt w pb tg s f) (he:s.e=0) (hk:s.now.kind ≠ 0) (hlen:s.now.s.length ≤ 1000) (hasc:∀ b ∈ s.now.s,b.toNat < 128)
  (hexpr:∀ f',f=f' + 1 → ∀ W s1,PSt W pb tg s1 f' → Calls Tryz.prog 59 #[zh pb] W (PRes pb tg f' (lvl f').expr s1 W)) :
  Calls Tryz.prog 228 #[zh pb] w (PRes pb tg f (zK (subOf f)) s w):=by
 have hpw:=h.lt;have hlow:=fun W => zcH s.now.s hlen hasc W;have hMa:=(QM [] w).alloc (.cells #[.pointer (some ⟨pb,0,none⟩)] 97);have hb0:=QN w (.cells #[.pointer (some ⟨pb,0,none⟩)] 97);have hP0:=h.later hMa;have hfd1:=zaA s.now;have hfd2:=zjx s.now;have c0:(w.alloc (.cells #[.pointer (some ⟨pb,0,none⟩)] 97)).cell? ⟨w.heap.size,0,none⟩ = some (.pointer (some ⟨pb,0,none⟩)):=za hb0 0;have HO:=QH hexpr
 have hnowG:∀ W,Mods [] (w.alloc (.cells #[.pointer (some ⟨pb,0,none⟩)] 97)) W → Calls Tryz.prog 57 #[.pointer (some ⟨pb,0,none⟩)] W fun e w' => e = .returned (.agg #[.int .i64 s.now.kind,.int .i64 s.now.pos,.string ⟨s.now.s.toArray⟩,.int .i64 s.now.n,.int .i64 s.now.scale]) ∧ Mods [] (w.alloc (.cells #[.pointer (some ⟨pb,0,none⟩)] 97)) w' ∧ Mods [] W w':=
  fun W hM => (zaO W pb tg s f (hP0.later hM)).mono fun e w' h => ⟨h.1,hM.trans h.2,h.2⟩
 have hlowG:∀ W,Mods [] (w.alloc (.cells #[.pointer (some ⟨pb,0,none⟩)] 97)) W → Calls Tryz.prog 132 #[.string ⟨s.now.s.toArray⟩] W fun e w' => e = .returned (.string ⟨(s.now.s.map zb5).toArray⟩) ∧ Mods [] (w.alloc (.cells #[.pointer (some ⟨pb,0,none⟩)] 97)) w' ∧ Mods [] W w':=
  fun W hM => (hlow W).mono fun e w' h => ⟨h.1,hM.trans h.2,h.2⟩
 have HM0:=QH hMa;have HP0:=QH (AI hP0 hb0);have hsz:(w.alloc (.cells #[.pointer (some ⟨pb,0,none⟩)] 97)).heap.size=w.heap.size + 1:=zl _ _;have HSZ:=QH hsz;clear hsz;unfold zh at *;clear h hexpr hMa hb0 hP0 hlow;go_enter Tryz.func228, Tryz.ntmps228;go_upto_region 1 with fail;generalize w.alloc (.cells #[.pointer (some ⟨pb,0,none⟩)] 97)=W0 at *;obtain ⟨op,hop⟩:=EX (s.now.s.map zb5);obtain ⟨t,ht⟩:=EX (s.now);rw [hop] at hlowG;rw [ht] at hlowG hnowG hfd1 hfd2;have HOP:=QH (AI hop ht);clear hop ht;go_cut [3] (fun s3 wx => CutAgg W0 op t.pos s3 wx)
 case first =>
  go_region_held3 (fun w' => w'.cell? ⟨w.heap.size,0,none⟩ = some (.pointer (some ⟨pb,0,none⟩)) ∧ W0.heap.size ≤ w'.heap.size ∧ Mods [] W0 w')
   (((with_reducible refine keepS1 c0 ?_); (repeat (first | (with_reducible refine Mods.drew ?_) | (with_reducible refine Mods.alloc ?_ _) | (with_reducible refine Mods.setCell ?_ (.inr (by show _ ≤ (_:Nat); dsimp only; omega)) _))); first | assumption | exact QM _ _ | simp only [*]))
   (first | (go_at_call 57; refine (hnowG _ ?_).mono ?_; (first | assumption | simp only [*]); rintro e w'' ⟨rfl,hm1,hr1⟩; have hs1:=hm1.size; obtain ⟨ha1,hb1,hc1⟩:=hr1.rules0; (try simp only [zfR] at ha1 hb1 hc1); (try simp only [zl] at ha1 hb1 hc1); (first | (have hd1:=Nat.lt_of_succ_le hc1; skip) | (have hd1:=LL hd2 hc1; skip) | skip)) | (go_at_call 132; refine (hlowG _ ?_).mono ?_; (first | assumption | simp only [*]); rintro e w'' ⟨rfl,hm2,hr2⟩; have hs2:=hm2.size; obtain ⟨ha2,hb2,hc2⟩:=hr2.rules0; (try simp only [zfR] at ha2 hb2 hc2); (try simp only [zl] at ha2 hb2 hc2); (first | (have hd2:=Nat.lt_of_succ_le hc2; skip) | (have hd2:=LL hd1 hc2; skip) | skip)))
  all_goals
   go_wp2_with fail
   go_meet
   first
    | exact cutAggB (by assumption)
    | exact cutAggC (by assumption)
    | exact cutAggA (QM _ _) (by assumption)
    | exact cutAggA (by assumption) (by assumption)
    | (refine cutAggA (by first | assumption | exact QM _ _) ?_; apply zpf (L':=[]); assumption; (first | assumption | (apply zpf (L':=[]); assumption; assumption; simp)); simp)
    | (refine cutAggD (by first | assumption | exact QM _ _) ?_; apply zpf (L':=[]); assumption; (first | assumption | (apply zpf (L':=[]); assumption; assumption; simp)); simp)
 case rest =>
  obtain ⟨xb,xc,rfl,hxb,hxc,hne,hMx,hcx,hbx⟩:=hcut;have c0x:wc.cell? ⟨w.heap.size,0,none⟩ = some (.pointer (some ⟨pb,0,none⟩)):=hMx.cell c0;have hPx:=HP0.out.1.later hMx;have hsz:=HSZ.out;have hMw:Mods [pb] w wc:=((HM0.out.trans hMx).mono);obtain ⟨hop,ht⟩:=HOP.out;have ccx:wc.cell? ⟨xc,0,none⟩ = some (zh xb):=za hcx 0;clear hnowG hlowG hfd1 hfd2 c0
  cases f with
  | zero =>
   have hin:=zcj wc pb tg s hPx (.func (.func 231) #[] #[.pointer (some ⟨w.heap.size,0,none⟩),.pointer (some ⟨xc,0,none⟩)]);have HF:Hid (zK (subOf 0) s=(.leaf { op:=op,pos:=t.pos },s.fail 9)):=QH (by rw [← hop,← ht]; rfl);have he9:(s.fail 9).e ≠ 0:=by unfold PS.fail; rw [if_pos he]; simp
   unfold zh at hin;clear HO hPx hop ht;go_wp2_with fail;(with_reducible refine hin.mono ?_);rintro e w5 ⟨rfl,hM5,hP5⟩;have c5:=hM5.cell ccx AE;unfold zh at c5;clear hin;go_wp2_with fail;go_ret;exact ⟨xb,rfl,hMw.trans hM5,by rw [HF.out]; exact hP5,by rw [HF.out]; exact fun h => absurd h he9⟩
  | succ f =>
   have HF:Hid (zK (subOf (f + 1)) s=aggB (lvl f).expr op t.pos s.next):=QH (by
    rw [← hop,← ht];show (if s.e=0 then _ else _)=_;rw [if_pos he]
    rfl)
   have hin:=zdu wc pb tg s f hPx he hk 231 (.inr (.inr rfl)) (.pointer (some ⟨w.heap.size,0,none⟩)) (.pointer (some ⟨xc,0,none⟩)) (aggB (lvl f).expr op t.pos s.next).2
    (fun W' => ∃ W,Mods [pb] wc W ∧ Mods [pb,xb] W W' ∧ AggAt xb (lvl f).expr op t.pos s.next W W')
    (fun W hM hP => (aggregate1 W pb tg f (lvl f).expr s.next w.heap.size xc xb op t.pos hP (hM.cell c0x AE) (hM.cell ccx AE) (hM.heap hbx AE) AA AA AA AA AA (fun W2 s2 hP2 => HO.out f rfl W2 s2 hP2)).mono fun e W' h => ⟨h.1,h.2.1,W,hM,h.2.2.1,h.2.2.2⟩)
   unfold zh at hin;clear HO hPx hop ht;go_wp2_with fail;(with_reducible refine hin.mono ?_);rintro e w5 ⟨rfl,hP5,W1,⟨W,hMa,hMb,hfe⟩,hMc⟩;clear hin;have hsa:=hMa.size;have hsx:=hMx.size;have c5:=hMc.cell (hMb.cell (hMa.cell ccx AE) AE) AE;unfold zh at c5;have hMw5:Mods [pb] w w5:=((hMw.trans hMa).trans hMb (fun y hy => by simp at hy; rcases hy with rfl | rfl; exact .inl AB; exact .inr AA)).trans hMc;have hfin:PRes pb tg (f + 1) (zK (subOf (f + 1))) s w (.returned (.pointer (some ⟨xb,0,none⟩))) w5:=by
    refine ⟨xb,rfl,hMw5,by rw [HF.out]; exact hP5,?_⟩;rw [HF.out];intro he L hL
    exact ((hfe he (pb :: L) (fun y hy => by
     rcases MC hy with rfl | hy
     ·exact ⟨by omega,by omega⟩
     ·have:=hL _ hy; exact ⟨by omega,by omega⟩)).mods (hMc.mono)).weaken (fun y hy => CM _ hy)
   have HFIN:=QH hfin;clear hfin hfe hP5 hMa hMb hMc hMw hMw5 hMx;go_wp2_with fail;go_ret;exact HFIN.out
def zbL (D:List Nat) (f:Nat → Value):Nat → List Value → List Value
 | _,[] => []
 | i,v :: l => (if D.contains i=true then f i else v) :: zbL D f (i + 1) l
def upd (f:Nat → Value) (d:Option Nat) (v:Value):Nat → Value:=match d with | none => f | some d => fun j => if j=d then v else f j
theorem zhW (D:List Nat) (f:Nat → Value):∀ (l:List Value) (i:Nat),(zbL D f i l).length=l.length:=by
 intro l
 induction l with
 | nil => intro i; rfl
 | cons v l ih => intro i; simp [zbL,ih]
theorem zdd (D:List Nat) (f:Nat → Value):∀ (l:List Value) (i j:Nat),(zbL D f i l)[j]? = (l[j]?).map fun v => if D.contains (i + j)=true then f (i + j) else v:=by
 intro l
 induction l with
 | nil => intro i j; simp [zbL]
 | cons v l ih =>
  intro i j
  cases j with
  | zero => simp [zbL]
  | succ j =>simp only [zbL,List.getElem?_cons_succ,ih];rw [show i + 1 + j=i + (j + 1) by omega]
theorem zhX (D:List Nat) (f:Nat → Value) (l:List Value) (d:Nat) (hd:D.contains d=true) (v:Value):(zbL D f 0 l).set d v=zbL D (upd f (some d) v) 0 l:=by
 apply List.ext_getElem?;intro j;rw [List.getElem?_set,zdd,zdd,Nat.zero_add,zhW];by_cases hj:d=j
 ·subst hj;rw [if_pos rfl,hd];by_cases hl:d < l.length
  ·rw [if_pos hl,List.getElem?_eq_getElem hl]; simp [upd]
  ·rw [if_neg hl,List.getElem?_eq_none AA]; rfl
 ·rw [if_neg hj];congr 1;funext v';have hj2:¬ j=d:=fun h => hj h.symm;simp only [upd,hj2,if_false]
theorem zhk (D:List Nat):∀ (l:List Value) (i:Nat),zbL D (fun j => (l[j - i]?).getD undef) i l=l:=by
 intro l i;apply List.ext_getElem?;intro j;rw [zdd]
 cases h:l[j]? with
 | none => rfl
 | some v => simp [h]
def zbh (D:List Nat) (l:List Value) (ds:List Deferred) (f:Nat → Value):Act:=⟨(zbL D f 0 l).toArray,ds⟩
theorem zmz (D:List Nat) (l:List Value) (ds:List Deferred) (f:Nat → Value) (d:Option Nat) (hd:∀ x,d=some x → D.contains x=true) (v:Value):(zbh D l ds f).put d v=zbh D l ds (upd f d v):=by
 cases d with
 | none => rfl
 | some d =>unfold zbh Act.put;simp only [Act.mk.injEq,and_true];rw [List.setIfInBounds_toArray,zhX D f l d (hd d rfl)]
def factsOk (md:Region.Mode) (ops:Array Oper) (D:List Nat) (looks:Nat → List Nat):Bool:=
 (List.range ops.size).all fun i => match ops[i]? with
  | none => true
  | some o => o.guard.isNone && (match o.dst with | none => true | some d => D.contains d && (List.range i).all fun j => decide ((ops[j]?).bind (·.dst) ≠ some d)) &&
   (o.after.toList.all fun e => !Region.binds md e || decide (e.on < i)) && ((looks i).all fun s => decide (o.dst=some s) || o.after.toList.any fun e => Region.binds md e && decide ((ops[e.on]?).bind (·.dst)=some s))
theorem zb9 {md:Region.Mode} {ops:Array Oper} {D:List Nat} {looks:Nat → List Nat} (h:factsOk md ops D looks=true) {i:Nat} {o:Oper} (hi:ops[i]? = some o) :
  o.guard=none ∧ (∀ d,o.dst=some d → D.contains d=true ∧ ∀ j,j < i → (ops[j]?).bind (·.dst) ≠ some d) ∧ (∀ e ∈ o.after.toList,Region.binds md e=true → e.on < i) ∧
  (∀ s ∈ looks i,o.dst=some s ∨ ∃ e ∈ o.after.toList,Region.binds md e=true ∧ (ops[e.on]?).bind (·.dst)=some s):=by
 have hlt:i < ops.size:=(Array.getElem?_eq_some_iff.1 hi).1;have h1:=List.all_eq_true.1 h i (List.mem_range.2 hlt);rw [hi] at h1;simp only [Bool.and_eq_true] at h1;obtain ⟨⟨⟨h2,h3⟩,h4⟩,h5⟩:=h1;refine ⟨by simpa using h2,fun d hd => ?_,fun e he hb => ?_,fun s hs => ?_⟩
 ·rw [hd] at h3;simp only [Bool.and_eq_true] at h3;refine ⟨h3.1,fun j hj => ?_⟩;have:=List.all_eq_true.1 h3.2 j (List.mem_range.2 hj);simpa using this
 ·have:=List.all_eq_true.1 h4 e he;rw [hb] at this;simpa using this
 ·have:=List.all_eq_true.1 h5 s hs;simp only [Bool.or_eq_true,decide_eq_true_eq,List.any_eq_true,Bool.and_eq_true] at this;exact this
theorem zcI:∀ (l:List Bool) (i:Nat),l[i]? = some false → (l.set i true).countP (fun b => !b) + 1=l.countP (fun b => !b):=by
 intro l
 induction l with
 | nil => intro i h; simp at h
 | cons b l ih =>
  intro i h
  cases i with
  | zero =>simp at h;subst h;simp
  | succ i =>have:=ih i AX;simp only [List.set_cons_succ,List.countP_cons];omega
section
variable {P:Program} {ops:Array Oper} {md:Region.Mode} {Q:Exit → Act → World → Prop} {D:List Nat} {looks:Nat → List Nat} {l:List Value} {ds:List Deferred}
 {Inv:World → Prop} {Step:World → World → Prop} {F:Nat → (Nat → Value) → World → Prop}
structure FaxAt (P:Program) (ops:Array Oper) (md:Region.Mode) (Inv:World → Prop) (F:Nat → (Nat → Value) → World → Prop) (listed:Array Bool) (f:Nat → Value) (w:World):Prop where
 size:listed.size=ops.size
 inv:Inv w
 fact:∀ i:Nat,listed[i]? = some true → F i f w
 down:∀ (i:Nat) (o:Oper),listed[i]? = some true → ops[i]? = some o → ∀ e ∈ o.after.toList,Region.binds md e=true → listed[e.on]? = some true
theorem zkH (hok:factsOk md ops D looks=true)
  (hstable:∀ (i:Nat) (f f':Nat → Value) (w w':World),Inv w → Inv w' → Step w w' → (∀ s ∈ looks i,f s=f' s) → F i f w → F i f' w')
  (hstep:∀ (i:Nat) (o:Oper),ops[i]? = some o → ∀ (f:Nat → Value) (w:World),Inv w → (∀ e ∈ o.after.toList,Region.binds md e=true → F e.on f w) →
   ∀ K:Act → World → Prop,(∀ (v:Value) (w':World),Inv w' → Step w w' → F i (upd f o.dst v) w' → K ((zbh D l ds f).put o.dst v) w') → Oper.wp P o (zbh D l ds f) w K Q)
  (hend:∀ (f:Nat → Value) (w:World),Inv w → (∀ i,i < ops.size → F i f w) → Q .normal (zbh D l ds f) w) :
  ∀ (fuel:Nat) (listed:Array Bool) (f:Nat → Value) (w:World),FaxAt P ops md Inv F listed f w → listed.toList.countP (fun b => !b) ≤ fuel → wpAny P md ops Q fuel listed (zbh D l ds f) w:=by
 have hall:∀ (listed:Array Bool) (f:Nat → Value) (w:World),FaxAt P ops md Inv F listed f w → Region.ready md ops listed=[] → Q .normal (zbh D l ds f) w:=by
  intro listed f w h hr;refine hend f w h.inv fun i hi => h.fact i ?_;have main:∀ n,n < ops.size → listed[n]? = some true:=by
   intro n
   induction n using Nat.strongRecOn with
   | ind n ih =>
    intro hn;have ho:ops[n]? = some ops[n]:=Array.getElem?_eq_getElem hn;have hs:listed[n]? = some (listed[n]'AU):=Array.getElem?_eq_getElem AU;by_cases hb:listed[n]'AU=true
    ·rw [hs,hb]
    ·exfalso;have hmem:n ∈ Region.ready md ops listed:=by
      unfold Region.ready;rw [List.mem_filter];refine ⟨List.mem_range.2 hn,?_⟩;rw [ho];have hg:listed.getD n true=listed[n]'AU:=by simp [Array.getD,h.size,hn]
      have hb2:listed[n]'AU=false:=by simpa using hb
      rw [hg,hb2];simp only [Bool.not_false,Bool.true_and,Option.map_some,Option.getD_some];rw [← Array.all_toList];rw [List.all_eq_true];intro e he;by_cases hbd:Region.binds md e=true
      ·have hlt:=(zb9 hok ho).2.2.1 e he hbd;have:=ih e.on hlt AA;have hlt2:e.on < listed.size:=by rw [h.size]; omega
       have h3:listed[e.on]'hlt2=true:=by rw [Array.getElem?_eq_getElem hlt2] at this;simpa using this
       simp [Array.getD,hlt2,h3]
      ·simp [hbd]
     rw [hr] at hmem;cases hmem
  exact main i hi
 intro fuel
 induction fuel with
 | zero =>
  intro listed f w h hc;have hr:Region.ready md ops listed=[]:=by
   unfold Region.ready;rw [List.filter_eq_nil_iff];intro i hi;have hlt:i < listed.size:=by rw [h.size]; exact List.mem_range.1 hi
   have h0:listed.toList.countP (fun b => !b)=0:=by omega
   rw [List.countP_eq_zero] at h0;have:=h0 listed[i] AB;have hb:listed[i]=true:=by simpa using this
   simp [Array.getD,hlt,hb]
  exact ⟨hr,hall listed f w h hr⟩
 | succ fuel ih =>
  intro listed f w h hc;refine ⟨hall listed f w h,fun i hi => ?_⟩;unfold Region.ready at hi;rw [List.mem_filter] at hi;obtain ⟨hi1,hi2⟩:=hi;have hn:i < ops.size:=List.mem_range.1 hi1;have hnl:i < listed.size:=by rw [h.size]; exact hn
  have ho:ops[i]? = some ops[i]:=Array.getElem?_eq_getElem hn;rw [ho] at hi2;simp only [Bool.and_eq_true,Option.map_some,Option.getD_some] at hi2;obtain ⟨hu,hd⟩:=hi2;have hun:listed[i]? = some false:=by rw [Array.getElem?_eq_getElem hnl];simp [Array.getD,hnl] at hu;rw [hu]
  have hdep:∀ e ∈ (ops[i]).after.toList,Region.binds md e=true → listed[e.on]? = some true:=by
   intro e he hb;rw [← Array.all_toList,List.all_eq_true] at hd;have:=hd e he;rw [hb] at this;simp only [Bool.not_true,Bool.false_or] at this;have hlt:=(zb9 hok ho).2.2.1 e he hb;have hlt2:e.on < listed.size:=by rw [h.size]; omega
   simp [Array.getD,hlt2] at this;rw [Array.getElem?_eq_getElem hlt2,this]
  have hok1:=zb9 hok ho;have hg:=hok1.1;have hdst:=hok1.2.1;unfold wpOp;rw [ho];simp only;rw [if_pos (by simp [Region.wanted,hg])];refine .inl (hstep i _ ho f w h.inv (fun e he hb => h.fact _ (hdep e he hb)) _ fun v w' hI hS hF => ?_);rw [zmz D l ds f _ (fun d hd2 => (hdst d hd2).1) v];have hset:∀ k,(listed.setIfInBounds i true)[k]? = if k=i then some true else listed[k]?:=by exact yaO
  refine ih _ _ _ ⟨by simp [h.size],hI,fun k hk => ?_,fun k o hk hko e he hb => ?_⟩ ?_
  ·rw [hset] at hk;by_cases hki:k=i
   ·subst hki; exact hF
   ·rw [if_neg hki] at hk;refine hstable k f _ w w' h.inv hI hS (fun s hs => ?_) (h.fact k hk);have hkn:k < ops.size:=by
     rw [← h.size]; exact (Array.getElem?_eq_some_iff.1 hk).1
    have hok2:ops[k]? = some ops[k]:=Array.getElem?_eq_getElem hkn;have hw:∃ m:Nat,listed[m]? = some true ∧ (ops[m]?).bind (·.dst)=some s:=by
     rcases (zb9 hok hok2).2.2.2 s hs with h1 | ⟨e,he,hb,h1⟩
     ·exact ⟨k,hk,by rw [hok2]; exact h1⟩
     ·exact ⟨e.on,h.down k _ hk hok2 e he hb,h1⟩
    obtain ⟨m,hm,hms⟩:=hw;have hmi:m ≠ i:=fun e => by rw [e,hun] at hm; cases hm
    cases hdi:(ops[i]).dst with
    | none => rfl
    | some d =>
     simp only [upd];rw [if_neg];intro hsd;subst hsd;rcases Nat.lt_or_ge m i with hlt | hge
     ·exact (hdst s hdi).2 m hlt hms
     ·have hmn:m < ops.size:=by
       rw [← h.size]; exact (Array.getElem?_eq_some_iff.1 hm).1
      have hom:ops[m]? = some ops[m]:=Array.getElem?_eq_getElem hmn;have hms2:(ops[m]).dst=some s:=by rw [hom] at hms; exact hms
      exact ((zb9 hok hom).2.1 s hms2).2 i AA (by rw [ho]; exact hdi)
  ·rw [hset] at hk ⊢;by_cases hei:e.on=i
   ·rw [if_pos hei]
   ·rw [if_neg hei];by_cases hki:k=i
    ·subst hki;rw [ho] at hko;cases hko;exact hdep e he hb
    ·rw [if_neg hki] at hk;exact h.down k o hk hko e he hb
  ·exact yaH
end
theorem zjD {P:Program} {id:Nat} {ops:Array Oper} {Q:Exit → Act → World → Prop} {w:World} {l:List Value} {ds:List Deferred} (hm:P.follows .mixedOrders=true) (D:List Nat) (looks:Nat → List Nat) (hok:factsOk .any ops D looks=true)
  (Inv:World → Prop) (Step:World → World → Prop) (F:Nat → (Nat → Value) → World → Prop) (h0:Inv w.drew)
  (hstable:∀ (i:Nat) (f f':Nat → Value) (w w':World),Inv w → Inv w' → Step w w' → (∀ s ∈ looks i,f s=f' s) → F i f w → F i f' w')
  (hstep:∀ (i:Nat) (o:Oper),ops[i]? = some o → ∀ (f:Nat → Value) (w:World),Inv w → (∀ e ∈ o.after.toList,Region.binds .any e=true → F e.on f w) →
   ∀ K:Act → World → Prop,(∀ (v:Value) (w':World),Inv w' → Step w w' → F i (upd f o.dst v) w' → K ((zbh D l ds f).put o.dst v) w') → Oper.wp P o (zbh D l ds f) w K Q)
  (hend:∀ (f:Nat → Value) (w:World),Inv w → (∀ i,i < ops.size → F i f w) → Q .normal (zbh D l ds f) w):(Code.region id ops true).wp P Q ⟨l.toArray,ds⟩ w:=by
 refine wp_region_any hm ?_;have hst:(⟨l.toArray,ds⟩ : Act)=zbh D l ds (fun j => (l[j]?).getD undef):=by unfold zbh;have:=zhk D l 0;simp only [Nat.sub_zero] at this;rw [this]
 rw [hst];refine zkH hok hstable hstep hend _ _ _ _ ⟨by simp,h0,fun i hi => ?_,fun i o hi => ?_⟩ ?_
 ·simp [Array.getElem?_replicate] at hi
 ·simp [Array.getElem?_replicate] at hi
 ·refine Nat.le_trans List.countP_le_length ?_;simp
open Go.Maps
def Kept (w w':World):Prop:=w.heap.size ≤ w'.heap.size ∧ ∀ (k:Nat) (o:Obj),w.heap[k]? = some o → (∀ es c,o ≠ .map es c) → w'.heap[k]? = some o
theorem Kept.refl (w:World):Kept w w:=⟨LR _,fun k o h _ => h⟩
theorem Kept.of_mods {w w':World} (h:Mods [] w w'):Kept w w':=⟨h.size,fun k o hk _ => h.heap hk⟩
theorem Kept.cell {w w':World} (h:Kept w w') {p:Addr} {v:Value} (hv:w.cell? p=some v):w'.cell? p=some v:=by
 have h0:=hv;unfold World.cell? at hv;split at hv
 ·rename_i c t fr hg
  have:=h.2 _ _ hg AB;simp only [World.cell?,this];exact hv
 ·cases hv
def MapGood (P:Program) (kt:TypeId) (G:Value → Value → World → Prop) (w:World) (mb:Nat):Prop:=
 ∃ es c,w.heap[mb]? = some (.map es c) ∧ ∀ e ∈ es.toList,(∃ l,keyOf P kt e.key=some l) ∧ G e.key e.val w
def MapHas (w:World) (mb:Nat) (k:Value):Prop:=∃ es c,w.heap[mb]? = some (.map es c) ∧ ∃ e ∈ es.toList,e.key=k
structure MStep (P:Program) (kt:TypeId) (G:Value → Value → World → Prop) (w w':World):Prop where
 kept:Kept w w'
 maps:∀ (k:Nat) es c,w.heap[k]? = some (.map es c) → ∃ es' c',w'.heap[k]? = some (.map es' c') ∧ (∀ e ∈ es'.toList,e ∈ es.toList ∨ ((∃ l,keyOf P kt e.key=some l) ∧ G e.key e.val w')) ∧ ∀ e ∈ es.toList,∃ e' ∈ es'.toList,e'.key=e.key
theorem MStep.of_mods {P:Program} {kt:TypeId} {G:Value → Value → World → Prop} {w w':World} (h:Mods [] w w'):MStep P kt G w w':=
 ⟨Kept.of_mods h,fun k es c hk => ⟨es,c,h.heap hk,fun e he => .inl he,fun e he => ⟨e,he,rfl⟩⟩⟩
theorem MapGood.step {P:Program} {kt:TypeId} {G:Value → Value → World → Prop} {w w':World} {mb:Nat} (h:MapGood P kt G w mb) (hS:MStep P kt G w w') (hG:∀ k v,G k v w → G k v w'):MapGood P kt G w' mb:=by
 obtain ⟨es,c,h1,h2⟩:=h;obtain ⟨es',c',h3,h4,-⟩:=hS.maps mb es c h1;refine ⟨es',c',h3,fun e he => ?_⟩;rcases h4 e he with h5 | h5
 ·exact ⟨(h2 e h5).1,hG _ _ (h2 e h5).2⟩
 ·exact h5
theorem MapHas.step {P:Program} {kt:TypeId} {G:Value → Value → World → Prop} {w w':World} {mb:Nat} {k:Value} (h:MapHas w mb k) (hS:MStep P kt G w w'):MapHas w' mb k:=by obtain ⟨es,c,h1,e,h2,h3⟩:=h;obtain ⟨es',c',h4,-,h5⟩:=hS.maps mb es c h1;obtain ⟨e',h6,h7⟩:=h5 e h2;exact ⟨es',c',h4,e',h6,h7.trans h3⟩
theorem zb8 {P:Program} {T kt et:TypeId} (K:Keyed P kt) (hT:P.underlying T=some (.map kt et)) {w:World} {mb:Nat} {es:Array MapEntry} {clock:Nat} (hb:w.heap[mb]? = some (.map es clock)) {k v:Value} {l:Lit} (hk:keyOf P kt k=some l)
  (hf:(Instr.findKey kt k es.toList).run P w = .ok none w) :
  (Instr.mapUpdate T (.map (some mb)) k v).run P w = .ok () (setHeap w mb (.map (es.push { key:=k,val:=v,born:=clock }) (clock + 1))):=by
 have hc:(Instr.checkKey false 10000 kt k).run P w = .ok () w:=K.check w _ hk;simp [Instr.mapUpdate,run_underlying hT,MapKept.run_getObj_map hb,hc,hf,MapKept.run_setObj_map _ hb,Result.andThen];rfl
theorem zdP {P:Program} {T kt et:TypeId} (K:Keyed P kt) (hT:P.underlying T=some (.map kt et)) {w:World} {mb:Nat} {es:Array MapEntry} {clock:Nat} (hb:w.heap[mb]? = some (.map es clock)) {k v:Value} {l:Lit} (hk:keyOf P kt k=some l)
  {j:Nat} {e:MapEntry} (hf:(Instr.findKey kt k es.toList).run P w = .ok (some (j,e.val)) w) (he:es[j]? = some e) (hek:e.key=k) :
  (Instr.mapUpdate T (.map (some mb)) k v).run P w = .ok () (setHeap w mb (.map (es.modify j fun e => { e with key:=k,val:=v }) clock)):=by
 have hc:(Instr.checkKey false 10000 kt k).run P w = .ok () w:=K.check w _ hk;have hs:(Instr.keyThatStays k k).run P w = .ok k w:=K.stays w hk;simp [Instr.mapUpdate,run_underlying hT,MapKept.run_getObj_map hb,hc,hf,he,hek,hs,MapKept.run_setObj_map _ hb,Result.andThen];rfl
theorem zbU {w:World} {mb:Nat} {es es':Array MapEntry} {c c':Nat} (hb:w.heap[mb]? = some (.map es c)):Kept w (setHeap w mb (.map es' c')):=by
 refine ⟨by simp [setHeap],fun k o hk hn => ?_⟩;have hne:k ≠ mb:=fun e => by subst e; rw [hb] at hk; cases hk; exact hn _ _ rfl
 exact ((MapKept.heap_set (o':=.map es' c') hb).2 k hne).trans hk
theorem zaY {P:Program} {T kt et:TypeId} (K:Keyed P kt) (hT:P.underlying T=some (.map kt et)) {G:Value → Value → World → Prop} (hG:∀ k v w w',Kept w w' → G k v w → G k v w') {w:World} {mb:Nat} (h:MapGood P kt G w mb) {k v:Value} {l:Lit} (hk:keyOf P kt k=some l) (hv:G k v w) :
  ∃ w',(Instr.mapUpdate T (.map (some mb)) k v).run P w = .ok () w' ∧ MStep P kt G w w' ∧ MapHas w' mb k ∧ ∀ W0,Mods [] W0 w → W0.heap.size ≤ mb → Mods [] W0 w':=by
 obtain ⟨es,c,hb,hes⟩:=h;rcases K.find w hk es.toList (fun e he => (hes e he).1) with ⟨hf,hn⟩ | ⟨j,e,hf,he,hek⟩
 ·refine ⟨_,zb8 K hT hb hk hf,⟨zbU hb,fun k' es1 c1 hk' => ?_⟩,⟨_,_,zae hb,{ key:=k,val:=v,born:=c },by simp,rfl⟩,fun W0 hM hW => hM.setHeap (.inr hW) _⟩;by_cases hkm:k'=mb
  ·subst hkm;rw [hb] at hk';cases hk';refine ⟨_,_,zae hb,fun e he => ?_,fun e he => ⟨e,by simp [he],rfl⟩⟩;simp only [Array.toList_push,List.mem_append,List.mem_singleton] at he;rcases he with he | rfl
   ·exact .inl he
   ·exact .inr ⟨⟨l,hk⟩,hG _ _ _ _ (zbU hb) hv⟩
  ·exact ⟨es1,c1,((MapKept.heap_set (o':=Obj.map (es.push { key:=k,val:=v,born:=c }) (c + 1)) hb).2 k' hkm).trans hk',fun e he => .inl he,fun e he => ⟨e,he,rfl⟩⟩
 ·have hes2:∀ e' ∈ (es.modify j fun e => { e with key:=k,val:=v }).toList,e' ∈ es.toList ∨ (e'.key=k ∧ e'.val=v):=by
   intro e' he';rw [Array.toList_modify] at he';obtain ⟨i,hi⟩:=List.mem_iff_getElem?.1 he';rw [List.getElem?_modify] at hi;obtain ⟨x,hx,hxe⟩:=Option.map_eq_some_iff.1 hi;by_cases hij:j=i
   ·rw [if_pos hij] at hxe; subst hxe; exact .inr ⟨rfl,rfl⟩
   ·rw [if_neg hij] at hxe; subst hxe; exact .inl (List.mem_of_getElem? hx)
  have hes3:∀ (i:Nat) (x:MapEntry),es.toList[i]? = some x → ∃ x':MapEntry,(es.modify j fun e => { e with key:=k,val:=v }).toList[i]? = some x' ∧ x'.key=x.key:=by
   intro i x hx;rw [Array.toList_modify,List.getElem?_modify,hx];by_cases hij:j=i
   ·subst hij;rw [hx] at he;cases he;exact ⟨{ e with key:=k,val:=v },by simp,hek.symm⟩
   ·exact ⟨x,by simp [hij],rfl⟩
  have hhas:∀ x ∈ es.toList,∃ x' ∈ (es.modify j fun e => { e with key:=k,val:=v }).toList,x'.key=x.key:=by intro x hx;obtain ⟨i,hi⟩:=List.mem_iff_getElem?.1 hx;obtain ⟨x',h1,h2⟩:=hes3 i x hi;exact ⟨x',List.mem_of_getElem? h1,h2⟩
  refine ⟨_,zdP K hT hb hk hf (by rw [← Array.getElem?_toList]; exact he) hek,⟨zbU hb,fun k' es1 c1 hk' => ?_⟩,?_,fun W0 hM hW => hM.setHeap (.inr hW) _⟩
  ·by_cases hkm:k'=mb
   ·subst hkm;rw [hb] at hk';cases hk';refine ⟨_,_,zae hb,fun e he => ?_,hhas⟩;rcases hes2 e he with h1 | ⟨h1,h2⟩
    ·exact .inl h1
    ·exact .inr (by rw [h1,h2]; exact ⟨⟨l,hk⟩,hG _ _ _ _ (zbU hb) hv⟩)
   ·exact ⟨es1,c1,((MapKept.heap_set (o':=Obj.map (es.modify j fun e => { e with key:=k,val:=v }) c) hb).2 k' hkm).trans hk',fun e he => .inl he,fun e he => ⟨e,he,rfl⟩⟩
  ·obtain ⟨x',h1,h2⟩:=hhas e (List.mem_of_getElem? he);exact ⟨_,_,zae hb,x',h1,h2.trans hek⟩
theorem zjm {P:Program} {T kt et:TypeId} (K:Keyed P kt) (hT:P.underlying T=some (.map kt et)) {G:Value → Value → World → Prop} {w:World} {mb:Nat} (h:MapGood P kt G w mb) {k:Value} {l:Lit} (hk:keyOf P kt k=some l) {z:Value} (hz:∀ w,(zeroValue et).run P w = .ok z w) :
  (∃ v,(Instr.lookup T (.map (some mb)) k true).run P w = .ok (.tuple #[v,.bool true]) w ∧ G k v w) ∨ ((Instr.lookup T (.map (some mb)) k true).run P w = .ok (.tuple #[z,.bool false]) w ∧ ¬ MapHas w mb k):=by
 obtain ⟨es,c,hb,hes⟩:=h;have hc:(Instr.checkKey es.isEmpty 10000 kt k).run P w = .ok () w:=K.check w _ hk;rcases K.find w hk es.toList (fun e he => (hes e he).1) with ⟨hf,hn⟩ | ⟨j,e,hf,he,hek⟩
 ·refine .inr ⟨by simp [Instr.lookup,run_underlying hT,MapKept.run_getObj_map hb,hc,hf,hz,Result.andThen],?_⟩;rintro ⟨es1,c1,h1,e,h2,h3⟩;rw [hb] at h1;cases h1;exact hn e h2 h3
 ·refine .inl ⟨e.val,by simp [Instr.lookup,run_underlying hT,MapKept.run_getObj_map hb,hc,hf,Result.andThen],?_⟩;have:=(hes e (List.mem_of_getElem? he)).2;rw [hek] at this;exact this
end Go.Proofs.YtebljciefhfgbaaGreatDoor
