/-
  How great what parse reads may become. Plain; it speaks of no program; no condition.
-/
import Derived.Test.YtcabeljiobiojaaGreatDoorQ13
import Derived.Lib.ItoaLen
import Derived.Lib.Join
import Derived.Lib.Repeat
import Derived.Lib.Small
import Derived.Lib.AppendIntMem
set_option linter.unusedVariables false
namespace Go.Proofs.YtcabeljiobiojaaGreatDoor
open Go.RowKit
theorem ybA {p:Prop} (h:p:=by
  go_enter Tryz.func15, Tryz.ntmps15;go_wp2_with fail;(with_reducible refine ha.mono ?_);rintro e w2 ⟨rfl,hM2⟩;clear ha;go_wp2_with fail;go_returns;exact FIN.out w2 hM2
 ):p:=h
theorem ybB {p:Prop} (h:p:=by
  exact ⟨⟨Nat.le_of_ble_eq_true rfl,by simp,by simp,by simp,by simp,by simp⟩,by simp only [nodes]; omega⟩
 ):p:=h
def TokOk (t:Tok):Prop:=t.kind ≤ 5 ∧ t.s.length ≤ 300 ∧ t.n ≤ 9223372036854775807 ∧ t.scale ≤ 9
def TokCOk (t:TokC):Prop:=t.kind ≤ 5 ∧ t.s.length ≤ 300 ∧ t.n ≤ 9223372036854775807 ∧ t.scale ≤ 9
theorem zhl:∀ x ∈ keyWords,x.length ≤ 300:=by decide
theorem zn6 {l:List UInt8} {t:TokC} {n:Nat} (h:zc3 l=some (t,n)):TokCOk t ∧ t.kind ≠ 0:=by
 cases l with
 | nil => simp [zc3] at h
 | cons c r =>
  unfold zc3 at h;simp only at h;split at h
  ·unfold wordL at h;split at h
   ·rename_i hk
    simp at h; obtain ⟨rfl,-⟩:=h;have:((c :: r).takeWhile zb0).map upc ∈ keyWords:=by unfold isKey at hk;exact List.contains_iff_mem.1 hk
    exact ⟨⟨Nat.le_of_ble_eq_true rfl,zhl _ this,by simp,by simp⟩,by simp⟩
   ·split at h
    ·simp at h
    ·rename_i h40
     simp at h; obtain ⟨rfl,-⟩:=h;exact ⟨⟨Nat.le_of_ble_eq_true rfl,by show (List.takeWhile zb0 (c :: r)).length ≤ 300; omega,by simp,by simp⟩,by simp⟩
  ·split at h
   ·unfold zbt at h;split at h
    ·simp at h
    ·rename_i hn
     simp only [Option.some.injEq,Prod.mk.injEq] at h; obtain ⟨rfl,-⟩:=h;simp only [not_or] at hn;exact ⟨⟨Nat.le_of_ble_eq_true rfl,by simp,by show numVal _ ≤ _; omega,by show (zbR _).length ≤ _; omega⟩,by simp⟩
   ·split at h
    ·unfold zcV at h;split at h
     ·simp at h
     ·rename_i x hx
      split at h
      ·simp at h
      ·rename_i h2
       simp at h; obtain ⟨rfl,-⟩:=h;exact ⟨⟨Nat.le_of_ble_eq_true rfl,by show x.1.length ≤ 300; omega,by simp,by simp⟩,by simp⟩
    ·unfold zcv at h;split at h
     ·simp at h; obtain ⟨rfl,-⟩:=h;exact ⟨⟨Nat.le_of_ble_eq_true rfl,by simp; omega,by simp,by simp⟩,by simp⟩
     ·simp only at h;split at h
      ·simp at h; obtain ⟨rfl,-⟩:=h;exact ⟨⟨Nat.le_of_ble_eq_true rfl,by simp,by simp,by simp⟩,by simp⟩
      ·simp at h
theorem zn7:∀ (f:Nat) (l:List UInt8) (p:Nat) (L:List Tok),lexF f l p = .good L → ∃ q I,L=I ++ [⟨0,q,[],0,0⟩] ∧ ∀ t ∈ I,TokOk t ∧ t.kind ≠ 0:=by
 intro f
 induction f with
 | zero => intro l p L h; cases h
 | succ f ih =>
  intro l p L h
  cases l with
  | nil => cases h; exact ⟨p,[],rfl,by simp⟩
  | cons c r =>
   unfold lexF at h;simp only at h
   cases ht:zc3 (c :: r) with
   | none => rw [ht] at h; cases h
   | some x =>
    obtain ⟨t,n⟩:=x;rw [ht] at h;simp only at h
    cases hr:lexF f (((c :: r).drop n).dropWhile zbs) (p + n + (((c :: r).drop n).takeWhile zbs).length) with
    | bad q => rw [hr] at h; cases h
    | good L2 =>
     rw [hr] at h;obtain ⟨q,I,rfl,hI⟩:=ih _ _ _ hr;simp only [Lexed.pre,Lexed.good.injEq] at h;refine ⟨q,t.put p :: I,by rw [← h]; rfl,fun u hu => ?_⟩;rcases MC hu with rfl | hu
     ·exact zn6 ht
     ·exact hI u hu
theorem zeX {l:List UInt8} {L:List Tok} (h:za4 l = .good L):∃ q I,L=I ++ [⟨0,q,[],0,0⟩] ∧ ∀ t ∈ I,TokOk t ∧ t.kind ≠ 0:=zn7 _ _ _ _ h
theorem zmF:∀ (f:Nat) (l:List UInt8) (p:Nat) (L:List Tok),lexF f l p = .good L → L.length ≤ l.length + 1:=by
 intro f
 induction f with
 | zero => intro l p L h; cases h
 | succ f ih =>
  intro l p L h
  cases l with
  | nil => cases h; simp
  | cons c r =>
   unfold lexF at h;simp only at h
   cases ht:zc3 (c :: r) with
   | none => rw [ht] at h; cases h
   | some x =>
    obtain ⟨t,n⟩:=x;rw [ht] at h;simp only at h;have hn:=zge ht
    cases hr:lexF f (((c :: r).drop n).dropWhile zbs) (p + n + (((c :: r).drop n).takeWhile zbs).length) with
    | bad q => rw [hr] at h; cases h
    | good L2 =>rw [hr] at h;have:=ih _ _ _ hr;have h3:=zcE zbs ((c :: r).drop n);have h4:((c :: r).drop n).length=(c :: r).length - n:=List.length_drop;simp only [Lexed.pre,Lexed.good.injEq] at h;rw [← h];simp only [List.cons_append,List.nil_append,List.length_cons] at *;omega
theorem zfS {l:List UInt8} {L:List Tok} (h:za4 l = .good L):L.length ≤ l.length + 1:=by have:=zmF _ _ _ _ h;have h3:=zcE zbs l;omega
def ToksOk (s:PS):Prop:=∀ t ∈ s.rest,TokOk t
theorem ToksOk.aft {s s':PS} (h:ToksOk s) (hA:Aft s s'):ToksOk s':=fun t ht => h t (hA.suf.subset ht)
theorem ToksOk.now {s:PS} (h:ToksOk s):TokOk s.now:=by
 unfold PS.now
 cases hr:s.rest with
 | nil => exact ⟨Nat.le_of_ble_eq_true rfl,Nat.le_of_ble_eq_true rfl,Nat.le_of_ble_eq_true rfl,Nat.le_of_ble_eq_true rfl⟩
 | cons t r => exact h t BO
theorem ToksOk.nextk {s:PS} (h:ToksOk s):ToksOk s.next:=fun t ht => h t (List.mem_of_mem_tail ht)
theorem zeu {s:PS} (hk:s.now.kind ≠ 0):s.next.rest.length + 1=s.rest.length:=by
 unfold PS.next
 cases hr:s.rest with
 | nil => unfold PS.now at hk; rw [hr] at hk; exact absurd rfl hk
 | cons t r => simp
def HdOk (h:Hd):Prop:=h.op.length ≤ 300 ∧ h.table.length ≤ 300 ∧ h.name.length ≤ 300 ∧ h.s.length ≤ 300 ∧ h.n ≤ 9223372036854775807 ∧ h.scale ≤ 9
def TreeOk:Tree → Prop
 | .leaf h => HdOk h
 | .un h a => HdOk h ∧ TreeOk a
 | .bin h a b => HdOk h ∧ TreeOk a ∧ TreeOk b
def nodes:Tree → Nat
 | .leaf _ => 1
 | .un _ a => nodes a + 1
 | .bin _ a b => nodes a + nodes b + 1
structure FineR (s:PS) (r:Tree × PS):Prop where
 ok:TreeOk r.1
 cnt:nodes r.1 + 2 * r.2.rest.length ≤ 2 * s.rest.length + 1
def Fine (F:PF):Prop:=∀ s,ToksOk s → FineR s (F s)
theorem zoM {s:PS} (h:ToksOk s) (k:Nat):TokOk (s.of k).1:=by
 unfold PS.of;split
 ·exact h.now
 ·exact ⟨Nat.le_of_ble_eq_true rfl,Nat.le_of_ble_eq_true rfl,Nat.le_of_ble_eq_true rfl,Nat.le_of_ble_eq_true rfl⟩
theorem zdf {s:PS} (h:ToksOk s):s.name.1.length ≤ 300:=(zoM h 2).2.1
theorem zgy {op:Bs} {pos:Nat} (h:op.length ≤ 300):HdOk { op:=op,pos:=pos }:=⟨h,Nat.zero_le _,Nat.zero_le _,Nat.zero_le _,Nat.zero_le _,Nat.zero_le _⟩
theorem fine_column:Fine zY:=by
 intro s h;have h1:=h.aft (Aft.name s);have h2:=h1.aft (Aft.takes s.name.2 wPoint);have l1:=(Aft.name s).len;have l2:=(Aft.takes s.name.2 wPoint).len;have l3:=(Aft.name (s.name.2.takes wPoint).2).len;unfold zY;simp only;split
 ·exact ⟨⟨Nat.le_of_ble_eq_true rfl,zdf h,zdf h2,Nat.zero_le _,Nat.zero_le _,Nat.zero_le _⟩,by simp only [nodes]; omega⟩
 ·exact ⟨⟨Nat.le_of_ble_eq_true rfl,Nat.zero_le _,zdf h,Nat.zero_le _,Nat.zero_le _,Nat.zero_le _⟩,by simp only [nodes]; omega⟩
theorem zh0 {sub:Option Lvl} {body:Lvl → PF} {d:Tree} {s:PS} (hs:ToksOk s) (hk:s.now.kind ≠ 0) (hd:TreeOk d) (hd1:nodes d=1) (h:∀ L,sub=some L → ∀ s1,ToksOk s1 → TreeOk (body L s1).1 ∧ nodes (body L s1).1 + 2 * (body L s1).2.rest.length ≤ 2 * s1.rest.length + 3):FineR s (inF sub body d s):=by
 unfold inF;split
 ·have:=(Aft.fail s 9).len;exact ⟨hd,by simp only; omega⟩
 ·rename_i L
  split
  ·have:=h L rfl s.next hs.nextk;have:=zeu hk;exact ⟨by simp_all,by omega⟩
  ·exact ⟨hd,by simp only; omega⟩
structure LvlFine (L:Lvl):Prop where
 minus:Fine L.minus
 not:Fine L.not
 expr:Fine L.expr
def SubFine (sub:Option Lvl):Prop:=∀ L,sub=some L → LvlFine L
theorem zkT:TreeOk emp:=⟨by decide,by decide,by decide,by decide,by decide,by decide⟩
theorem zgz {sub:Option Lvl} (h:SubFine sub) {s:PS} (hs:ToksOk s) (hk:s.now.kind ≠ 0):FineR s (zaE sub s):=
 zh0 hs hk zkT rfl fun L hL s1 h1 => by have a:=(h L hL).expr s1 h1;have b:=(Aft.wants [wShut] (L.expr s1).2).len;have:=a.cnt;exact ⟨a.ok,by simp only; omega⟩
theorem ziQ (l:Bs):(l.map zb5).length=l.length:=by simp
theorem zfF {sub:Option Lvl} (hg:zaF sub) (h:SubFine sub) {s:PS} (hs:ToksOk s) (hk:s.now.kind ≠ 0):FineR s (zK sub s):=by
 unfold zK;have hop:(s.now.s.map zb5).length ≤ 300:=by rw [ziQ]; exact hs.now.2.1
 refine zh0 hs hk (zgy hop) rfl fun L hL s1 h1 => ?_;simp only;have w1:=Aft.wants [wOpen] s1;have w2:=Aft.takes (s1.wants [wOpen]) wStar;split
 ·have w3:=Aft.wants [wShut] ((s1.wants [wOpen]).takes wStar).2;have:=w1.len; have:=w2.len; have:=w3.len;exact ⟨zgy AD,by simp only [nodes]; omega⟩
 ·split
  ·have a:=(h L hL).expr _ ((h1.aft w1).aft w2);have b:=(Aft.wants [wShut] (L.expr ((s1.wants [wOpen]).takes wStar).2).2).len;have:=a.cnt; have:=w1.len; have:=w2.len;exact ⟨⟨zgy hop,a.ok⟩,by simp only [nodes]; omega⟩
  ·have a:=(h L hL).expr _ (h1.aft w1);have b:=(Aft.wants [wShut] (L.expr (s1.wants [wOpen])).2).len;have:=a.cnt; have:=w1.len;exact ⟨⟨zgy hop,a.ok⟩,by simp only [nodes]; omega⟩
theorem zhm {sub:Option Lvl} (hg:zaF sub) (h:SubFine sub):Fine (zo sub):=by
 intro s hs;have hnow:=hs.now;have hnx:s.next.rest.length ≤ s.rest.length:=by unfold PS.next; simp
 unfold zo;split
 ·exact ⟨zkT,by simp only [emp,nodes]; omega⟩
 split
 ·exact ⟨⟨Nat.le_of_ble_eq_true rfl,by simp,by simp,by simp,hnow.2.2.1,hnow.2.2.2⟩,by simp only [nodes]; omega⟩
 split
 ·exact ⟨⟨Nat.le_of_ble_eq_true rfl,by simp,by simp,hnow.2.1,by simp,by simp⟩,by simp only [nodes]; omega⟩
 split
 ·exact fine_column s hs
 split
 ·exact ybB
 split
 ·exact ybB
 split
 ·exact ybB
 split
 ·rename_i hk; exact zgz h hs AA
 split
 ·rename_i hk; exact zfF hg h hs AA
 ·have:=(Aft.fail s 8).len;exact ⟨zkT,by simp only [emp,nodes]; omega⟩
theorem zeY {sub:Option Lvl} {w op:Bs} {own:Lvl → PF} {rest:PF} (hop:op.length ≤ 300) (h1:∀ L,sub=some L → Fine (own L)) (h2:Fine rest):Fine (zR sub w op own rest):=by
 intro s hs;unfold zR;split
 ·rename_i hi
  refine zh0 hs (zQ hi).2 (zgy hop) rfl fun L hL s1 h1s => ?_;have a:=h1 L hL s1 h1s;have:=a.cnt;exact ⟨⟨zgy hop,a.ok⟩,by simp only [nodes]; omega⟩
 ·exact h2 s hs
theorem zjG {part:PF} (hg:zbn part) (h:Fine part) (ws:List Bs):∀ (n:Nat) (x:Tree) (s:PS) (B:Nat),ToksOk s → TreeOk x → nodes x + 2 * s.rest.length ≤ B → TreeOk (zaq part ws n x s).1 ∧ nodes (zaq part ws n x s).1 + 2 * (zaq part ws n x s).2.rest.length ≤ B:=by
 intro n
 induction n with
 | zero => intro x s B h1 h2 h3; exact ⟨h2,h3⟩
 | succ n ih =>
  intro x s B h1 h2 h3;unfold zaq;split
  ·rename_i hi
   have a:=h s.next h1.nextk;have:=a.cnt;have:=zeu (zQ hi).2;exact ih _ _ _ (h1.nextk.aft (hg _)) ⟨zgy (by rw [ziQ]; exact h1.now.2.1),h2,a.ok⟩ (by simp only [nodes]; omega)
  ·exact ⟨h2,h3⟩
theorem zdz {part:PF} (hg:zbn part) (h:Fine part) (ws:List Bs):Fine (zac part ws):=fun s hs => by have a:=h s hs;have:=zjG hg h ws (part s).2.rest.length (part s).1 (part s).2 _ (hs.aft (hg s)) a.ok a.cnt;exact ⟨this.1,this.2⟩
theorem zkU {s:PS} {x:Bs} (h:(s.takes x).1=true):s.is [x]=true ∧ s.takes x=(true,s.next):=by exact ycl
theorem zkV {sub:Option Lvl} (hg:zbn (zc6 sub)) (h:Fine (zc6 sub)):Fine (zbg sub):=by
 intro s hs;have a:=h s hs;have h1:=hs.aft (hg s);have ac:=a.cnt;unfold zbg;generalize hp:zc6 sub s=p at *;simp only;split
 ·rename_i hi
  have b:=h _ h1.nextk;have:=b.cnt;have:=zeu (zQ hi).2;exact ⟨⟨zgy h1.now.2.1,a.ok,b.ok⟩,by simp only [nodes]; omega⟩
 split
 ·rename_i hi hk
  obtain ⟨hi2,hT⟩:=zkU hk;have:=zeu (zQ hi2).2;have l1:=(Aft.takes (p.2.takes wIs).2 wNot).len;have l2:=(Aft.wants [wNull] ((p.2.takes wIs).2.takes wNot).2).len;rw [hT] at l1 l2 ⊢;refine ⟨⟨zgy (by split <;> decide),a.ok⟩,?_⟩;simp only [nodes] at *;omega
 ·exact ⟨a.ok,ac⟩
theorem zkW {sub:Option Lvl} (hg:zaF sub) (h:SubFine sub):LvlFine (mkLvl sub):=by have h1:Fine (zbo sub):=zeY AD (fun L hL => (h L hL).minus) (zhm hg h);have h2:Fine (zc6 sub):=zdz (zdr hg) (zdz (zbG hg) h1 _) _;have h3:Fine (notF sub):=zeY AD (fun L hL => (h L hL).not) (zkV (zes hg) h2);exact ⟨h1,h3,zdz (zet hg) (zdz (zcO hg) h3 _) _⟩
theorem zmG (f:Nat):LvlFine (lvl f):=by
 induction f with
 | zero => exact zkW (fun L h => by cases h) (fun L h => by cases h)
 | succ f ih => exact zkW (fun L h => by cases h; exact zcP f) (fun L h => by cases h; exact ih)
def zcM (t:Tree):Prop:=TreeOk t ∧ nodes t ≤ 20001
structure zcA (q:zt):Prop where
 items:q.items.length ≤ 10001 ∧ ∀ i ∈ q.items,zcM i.e ∧ i.name.length ≤ 300
 src:q.src.length ≤ 300 ∧ q.join.length ≤ 300
 on:∀ t,q.on=some t → zcM t
 whr:∀ t,q.whr=some t → zcM t
 group:q.group.length ≤ 10001 ∧ ∀ t ∈ q.group,zcM t
 order:q.order.length ≤ 10001 ∧ ∀ k ∈ q.order,k.name.length ≤ 300 ∧ -1 ≤ k.item ∧ k.item ≤ 9223372036854775807
 limit : -1 ≤ q.limit ∧ q.limit ≤ 9223372036854775807
 offset : -1 ≤ q.offset ∧ q.offset ≤ 9223372036854775807
theorem Fine.tree {F:PF} (h:Fine F) {s:PS} (hs:ToksOk s) (hl:s.rest.length ≤ 10000):zcM (F s).1:=⟨(h s hs).ok,by have:=(h s hs).cnt; omega⟩
theorem zkX {α:Type} {one:PS → α × PS} (hg:zcW one) {P:α → Prop} (h:∀ s,ToksOk s → s.rest.length ≤ 10000 → P (one s).1):∀ (n:Nat) (l:List α) (s:PS),ToksOk s → s.rest.length ≤ 10000 → (∀ x ∈ l,P x) → (za3 one n l s).1.length ≤ l.length + n ∧ ∀ x ∈ (za3 one n l s).1,P x:=by
 intro n
 induction n with
 | zero => intro l s h1 h2 h3; exact ⟨LR _,h3⟩
 | succ n ih =>
  intro l s h1 h2 h3;unfold za3;split
  ·have hA:=Aft.takes s wComma;have ha:=h _ (h1.aft hA) (Nat.le_trans hA.len h2)
   have:=ih (l ++ [(one (s.takes wComma).2).1]) (one (s.takes wComma).2).2 ((h1.aft hA).aft (hg _)) (Nat.le_trans (hg _).len (Nat.le_trans hA.len h2)) (fun x hx => by
    rcases List.mem_append.1 hx with hx | hx
    ·exact h3 x hx
    ·simp at hx; rw [hx]; exact ha)
   refine ⟨?_,this.2⟩;have h5:=this.1;simp only [List.length_append,List.length_cons,List.length_nil] at h5;omega
  ·exact ⟨by simp only; omega,h3⟩
theorem zeZ {α:Type} {one:PS → α × PS} (hg:zcW one) {P:α → Prop} (h:∀ s,ToksOk s → s.rest.length ≤ 10000 → P (one s).1) {s:PS} (h1:ToksOk s) (h2:s.rest.length ≤ 10000):(zad one s).1.length ≤ 10001 ∧ ∀ x ∈ (zad one s).1,P x:=by have:=zkX hg h (one s).2.rest.length [(one s).1] (one s).2 (h1.aft (hg s)) (Nat.le_trans (hg s).len h2) (fun x hx => by simp at hx; rw [hx]; exact h s h1 h2);refine ⟨?_,this.2⟩;have h5:=this.1;have:=(hg s).len;unfold zad;simp only [List.length_cons,List.length_nil] at h5;omega
theorem zev {s:PS} (h:ToksOk s) : -1 ≤ s.count.1 ∧ s.count.1 ≤ 9223372036854775807:=by
 unfold PS.count;simp only;have h1:ToksOk (if 0 < s.now.scale then s.fail 8 else s):=by split; exact h.aft (Aft.fail s 8); exact h
 generalize (if 0 < s.now.scale then s.fail 8 else s)=s1 at *;have:=(zoM h1 3).2.2.1;split <;> simp only <;> omega
theorem zn8 {E:PF} (hg:zbn E) (h:Fine E) (s:PS) (h1:ToksOk s) (h2:s.rest.length ≤ 10000):zcM (zbv E s).1.e ∧ (zbv E s).1.name.length ≤ 300:=by
 unfold zbv;split
 ·exact ⟨h.tree h1 h2,zdf ((h1.aft (hg s)).aft (Aft.takes _ _))⟩
 ·exact ⟨h.tree h1 h2,Nat.zero_le _⟩
theorem zoN (s:PS) (h1:ToksOk s) (h2:s.rest.length ≤ 10000):(zfw s).1.name.length ≤ 300 ∧ -1 ≤ (zfw s).1.item ∧ (zfw s).1.item ≤ 9223372036854775807:=by
 unfold zfw zaB;simp only;split
 ·exact ⟨zdf h1,by show (-1:Int) ≤ 0; decide,by show (0:Int) ≤ 9223372036854775807; decide⟩
 ·exact ⟨Nat.zero_le _,(zev h1).1,(zev h1).2⟩
def QSOk (x:QS):Prop:=zcA x.1 ∧ ToksOk x.2 ∧ x.2.rest.length ≤ 10000
theorem zhn:zcA {}:=⟨⟨by decide,by simp⟩,by decide,by simp,by simp,⟨by decide,by simp⟩,⟨by decide,by simp⟩,by decide,by decide⟩
theorem QSOk.aft {q:zt} {s s':PS} (hq:zcA q) (h:ToksOk s) (hl:s.rest.length ≤ 10000) (hA:Aft s s'):QSOk (q,s'):=⟨hq,h.aft hA,Nat.le_trans hA.len hl⟩
theorem zo4 {E:PF} (hg:zbn E) (h:Fine E) {s:PS} (h1:ToksOk s) (h2:s.rest.length ≤ 10000):QSOk (q1 E s):=by
 have hA:=(Aft.wants [wSelect] s).trans (Aft.takes _ wStar);unfold q1;simp only;split
 ·exact QSOk.aft { zhn with } h1 h2 hA
 ·exact QSOk.aft { zhn with items:=zeZ (zca hg) (zn8 hg h) (h1.aft hA) (Nat.le_trans hA.len h2) } h1 h2 (hA.trans (zba (zca hg) _))
theorem zo5 {x:QS} (h:QSOk x):QSOk (q2 x):=by obtain ⟨hq,h1,h2⟩:=h;have hA:=Aft.wants [wFrom] x.2;exact QSOk.aft { hq with src:=⟨zdf (h1.aft hA),hq.src.2⟩ } h1 h2 (ziO x)
theorem zo6 {E:PF} (hg:zbn E) (h:Fine E) {x:QS} (hx:QSOk x):QSOk (q3 E x):=by
 obtain ⟨hq,h1,h2⟩:=hx;have hA:=Aft.takes x.2 wJoin;have hB:=hA.trans (Aft.name _);have hC:=hB.trans (Aft.wants [wOn] _);unfold q3;simp only;split
 ·exact QSOk.aft { hq with src:=⟨hq.src.1,zdf (h1.aft hA)⟩,on:=fun t ht => by cases ht; exact h.tree (h1.aft hC) (Nat.le_trans hC.len h2) } h1 h2 (hC.trans (hg _))
 ·exact QSOk.aft hq h1 h2 hA
theorem zo7 {E:PF} (hg:zbn E) (h:Fine E) {x:QS} (hx:QSOk x):QSOk (q4 E x):=by
 obtain ⟨hq,h1,h2⟩:=hx;have hA:=Aft.takes x.2 wWhere;unfold q4;simp only;split
 ·exact QSOk.aft { hq with whr:=fun t ht => by cases ht; exact h.tree (h1.aft hA) (Nat.le_trans hA.len h2) } h1 h2 (hA.trans (hg _))
 ·exact QSOk.aft hq h1 h2 hA
theorem zo8 {x:QS} (hx:QSOk x):QSOk (q5 x):=by
 obtain ⟨hq,h1,h2⟩:=hx;have hA:=Aft.takes x.2 wGroup;have hB:=hA.trans (Aft.wants [wBy] _);unfold q5;simp only;split
 ·exact QSOk.aft { hq with group:=zeZ zaV (fun s a b => fine_column.tree a b) (h1.aft hB) (Nat.le_trans hB.len h2) } h1 h2 (hB.trans (zba zaV _))
 ·exact QSOk.aft hq h1 h2 hA
theorem zo9 {x:QS} (hx:QSOk x):QSOk (q6 x):=by
 obtain ⟨hq,h1,h2⟩:=hx;have hA:=Aft.takes x.2 wOrder;have hB:=hA.trans (Aft.wants [wBy] _);unfold q6;simp only;split
 ·exact QSOk.aft { hq with order:=zeZ zdx (fun s a b => zoN s a b) (h1.aft hB) (Nat.le_trans hB.len h2) } h1 h2 (hB.trans (zba zdx _))
 ·exact QSOk.aft hq h1 h2 hA
theorem zpa {x:QS} (hx:QSOk x):QSOk (q7 x):=by
 obtain ⟨hq,h1,h2⟩:=hx;have hA:=Aft.takes x.2 wLimit;unfold q7;simp only;split
 ·exact QSOk.aft { hq with limit:=zev (h1.aft hA) } h1 h2 (hA.trans (zbM _))
 ·exact QSOk.aft hq h1 h2 hA
theorem zpb {x:QS} (hx:QSOk x):QSOk (q8 x):=by
 obtain ⟨hq,h1,h2⟩:=hx;have hA:=Aft.takes x.2 wOffset;unfold q8;simp only;split
 ·exact QSOk.aft { hq with offset:=zev (h1.aft hA) } h1 h2 (hA.trans (zbM _))
 ·exact QSOk.aft hq h1 h2 hA
theorem zkY {E:PF} (hg:zbn E) (h:Fine E) {s:PS} (h1:ToksOk s) (h2:s.rest.length ≤ 10000):QSOk (zcz E s):=
 zpb (zpa (zo9 (zo8 (zo7 hg h (zo6 hg h (zo5 (zo4 hg h h1 h2)))))))
theorem zmH {l:List UInt8} {ts:List Tok} (h:za4 l = .good ts) (hl:l.length ≤ 4096):WfT (ts ++ ts.drop (ts.length - 1)) ∧ WfT (ts ++ ts.drop (ts.length - 1)).dropLast ∧ (∀ t ∈ ts ++ ts.drop (ts.length - 1),TokOk t) ∧ (ts ++ ts.drop (ts.length - 1)).length ≤ 10000:=by
 obtain ⟨q,I,rfl,hI⟩:=zeX h;have hn:=zfS h;have e:(I ++ [⟨0,q,[],0,0⟩]:List Tok).drop ((I ++ [⟨0,q,[],0,0⟩]:List Tok).length - 1)=[⟨0,q,[],0,0⟩]:=by simp
 rw [e];have z:TokOk ⟨0,q,[],0,0⟩:=⟨Nat.zero_le _,Nat.zero_le _,Nat.zero_le _,Nat.zero_le _⟩;have hT:∀ t ∈ I ++ [⟨0,q,[],0,0⟩],TokOk t:=fun t ht => by
  rcases List.mem_append.1 ht with ht | ht
  ·exact (hI t ht).1
  ·simp at ht; rw [ht]; exact z
 have hW:WfT (I ++ [⟨0,q,[],0,0⟩]):=⟨⟨_,List.getLast?_concat,rfl⟩,fun t ht => ⟨(hT t ht).1,by have:=(hT t ht).2.1; omega⟩⟩;refine ⟨⟨⟨_,List.getLast?_concat,rfl⟩,fun t ht => ?_⟩,?_,fun t ht => ?_,?_⟩
 ·rcases List.mem_append.1 ht with ht | ht
  ·exact hW.2 t ht
  ·simp at ht; rw [ht]; exact ⟨Nat.zero_le _,Nat.zero_le _⟩
 ·rw [List.dropLast_concat]; exact hW
 ·rcases List.mem_append.1 ht with ht | ht
  ·exact hT t ht
  ·simp at ht; rw [ht]; exact z
 ·simp only [List.length_append,List.length_cons,List.length_nil] at *;omega
def zaj (l:Bs):Parsed:=if 4096 < l.length then .bad 0 5 else zcg l
def zcB (w:World) (r:Parsed) (e:Ending) (w':World):Prop:=
 Mods [] w w' ∧ match r with
  | .bad p k => e = .returned (.tuple #[.pointer none,.int .i64 p,.int .i64 k])
  | .good q => zcA q ∧ ∃ qb,e = .returned (.tuple #[zh qb,.int .i64 0,.int .i64 0]) ∧ w.heap.size ≤ qb ∧ QueryAt w' [] qb q
theorem ze0 {w:World} {T:TypeId} {size g n cap:Nat} {xs:List Value} (h:w.ownsRow 0 T size (.slice (some ⟨g,0,none⟩) n cap) n xs):cap ≤ 9223372036854775807:=by
 rcases h.2 with ⟨hv,-⟩ | ⟨g',cap',cur,hv,-,-,hc,hm,-⟩
 ·cases hv
 ·simp only [Value.slice.injEq] at hv;rw [hv.2.2];unfold maxLen at hm;omega
theorem QueryAt.weaken {w:World} {L L':List Nat} {qb:Nat} {q:zt} (h:QueryAt w L qb q) (hL:∀ x ∈ L',x ∈ L):QueryAt w L' qb q:=by obtain ⟨vi,von,vwh,vg,vo,h1,h2⟩:=h;exact ⟨vi,von,vwh,vg,vo,h1,h2.1.weaken itemRep hL,h2.2.1.weaken hL,h2.2.2.1.weaken hL,h2.2.2.2.1.weaken treeRep hL,h2.2.2.2.2.weaken keyRep hL⟩
theorem QueryAt.later {w w':World} {qb:Nat} {q:zt} (h:QueryAt w [] qb q) (hM:Mods [] w w'):QueryAt w' [] qb q:=by obtain ⟨vi,von,vwh,vg,vo,h1,h2⟩:=h;exact ⟨vi,von,vwh,vg,vo,hM.heap h1,h2.mods hM⟩
theorem zec (ts:List Tok):∃ q s9,(zcz (lvl 64).expr ⟨ts ++ ts.drop (ts.length - 1),0,0⟩).1=q ∧ ((zcz (lvl 64).expr ⟨ts ++ ts.drop (ts.length - 1),0,0⟩).2.of 0).2.2=s9 ∧ parseT ts=if s9.e=0 then .good q else .bad s9.pos s9.e:=⟨_,_,rfl,rfl,rfl⟩
set_option maxRecDepth 100000 in
set_option maxHeartbeats 4000000 in
theorem zho (w:World) (hT:Tabs w) (s:ByteArray) (hsz:s.size ≤ 9223372036854775807) :
  Calls Tryz.prog 15 #[.string s] w (zcB w (zaj s.data.toList)):=by
 have hall:=zkz w hT s AA;obtain ⟨i0,hi,hz0,hz1,hz2⟩:=info_parts (show (Tryz.prog.info? 92).map (fun i => (i.zero,i.size,i.bytes))=some (some (.agg (zn 0 0 ⟨#[]⟩ 0 0)),5,48) by kernel_rfl);have hlen:s.data.toList.length=s.size:=rfl;have HLEN:=QH hlen;by_cases hbig:4096 < s.size
 ·have hv:zaj s.data.toList = .bad 0 5:=by unfold zaj; rw [if_pos (by rw [hlen]; exact hbig)]
  have FIN:Hid (∀ w',Mods [] w w' → zcB w (zaj s.data.toList) (.returned (.tuple #[.pointer none,.int .i64 0,.int .i64 5])) w'):=QH fun w' h => ⟨h,by rw [hv]; rfl⟩;have ha:Calls Tryz.prog 24 #[.string s] w fun e w' => e = .returned (.tuple #[.slice none 0 0,.int .i64 0,.int .i64 5]) ∧ Mods [] w w':=hall.mono fun e w' h => by unfold zbu at h; rw [if_pos hbig] at h; exact h
  clear hall hv hlen hbig;exact ybA
 ·cases hl:za4 s.data.toList with
  | bad p =>
   have hv:zaj s.data.toList = .bad p 8:=by unfold zaj; rw [if_neg (by rw [hlen]; exact hbig)]; unfold zcg; rw [hl]
   have FIN:Hid (∀ w',Mods [] w w' → zcB w (zaj s.data.toList) (.returned (.tuple #[.pointer none,.int .i64 p,.int .i64 8])) w'):=QH fun w' h => ⟨h,by rw [hv]; rfl⟩;have ha:Calls Tryz.prog 24 #[.string s] w fun e w' => e = .returned (.tuple #[.slice none 0 0,.int .i64 p,.int .i64 8]) ∧ Mods [] w w':=hall.mono fun e w' h => by unfold zbu at h; rw [if_neg hbig,hl] at h; exact h
   clear hall hv hlen hbig hl;exact ybA
  | good ts =>
   have hv:zaj s.data.toList=parseT ts:=by unfold zaj; rw [if_neg (by rw [hlen]; exact hbig)]; unfold zcg; rw [hl]
   have hbeg:=zmH hl AA;have hts:ts.length ≤ 4097:=by have:=zfS hl; omega
   obtain ⟨qz,I,hI,-⟩:=zeX hl;have ha:Calls Tryz.prog 24 #[.string s] w fun e w' => ∃ t,e = .returned (.tuple #[t,.int .i64 0,.int .i64 0]) ∧ ToksOwn 92 w w' t ts:=hall.mono fun e w' h => by unfold zbu at h; rw [if_neg hbig,hl] at h; exact h
   rw [hv];have hne:=zhc hl;have hpos:0 < ts.length:=List.length_pos_iff.2 hne;obtain ⟨q,s9,hq,hs9,hpt⟩:=zec ts;obtain ⟨RR,hRR⟩:=EX (parseT ts);rw [hRR];rw [hRR] at hpt;have HQ:=QH (AI hq (AI hs9 (AI hbeg (AI hI hpt))));clear hall hv hlen hbig hl hpt hq hs9 hbeg hI hRR;go_enter Tryz.func15, Tryz.ntmps15;go_wp2_with fail;(with_reducible refine ha.mono ?_);rintro e w2 ⟨t,rfl,hO⟩;obtain ⟨g,cap,rfl,hat,hcap⟩:=hO.at hne;obtain ⟨k0,k1,k2,k3,k4⟩:=hat.tok (ts.length - 1) AA;obtain ⟨u,hu⟩:=EX (ts[ts.length - 1]);rw [hu] at k0 k1 k2 k3 k4;have hdr:ts.drop (ts.length - 1)=[u]:=by rw [List.drop_eq_getElem_cons AA,hu];simp;omega
   have HO:=QH (AI hO (AI hu hdr));have hMw2:Mods [] w w2:=hO.1;have hown2:=hO.2.1;clear ha hO hat hne hu hdr;go_wp2_with (at_builtin; refine zw _ rfl _ _ 88 rfl 92 i0 _ 5 48 Tryz.underlying88 hi hz0 hz1 hz2 rfl AD (.slice (some ⟨g,0,none⟩) ts.length cap) ts.length (zc5 ts) rfl ((hown2.alloc _).alloc _) ⟨w2.heap.size + 1,0,none⟩ 1 1 (zdl u) rfl rfl ?c1 (zeS _) AD ?c3 ?c4 ?_)
   case c1 => exact zeR _ _ _ _ _ _ _ _
   case c3 => unfold maxLen; omega
   case c4 => omega
   intro g' cap2 w7 hown7 hM7 hg7;have hMA:=((QM [] w2).alloc (.cells (zn u.kind u.pos ⟨u.s.toArray⟩ u.n u.scale) 92)).alloc (.cells (zn u.kind u.pos ⟨u.s.toArray⟩ u.n u.scale) 92);have hgw:w.heap.size ≤ g:=HO.out.1.2.2 g rfl;have hMw7:Mods [] w w7:=(hMw2.trans hMA).trans hM7 (fun x hx => .inr ((show x=g by simpa [Value.ownBlock] using hx) ▸ hgw));have hoo:=zar hown7;have hcc:=ze0 hown7;have hhq:=HQ.out;rw [HO.out.2.2] at hhq;obtain ⟨e1,e2,hbeg,hI,hpt⟩:=hhq;have hpb:=QN w7 (.cells #[.slice (some ⟨g',0,none⟩) (ts.length + 1) cap2,.int .i64 0,.int .i64 0,.int .i64 0] 95);have hMb:=(QM [] w7).alloc (.cells #[.slice (some ⟨g',0,none⟩) (ts.length + 1) cap2,.int .i64 0,.int .i64 0,.int .i64 0] 95)
   have hps:PSt (w7.alloc (.cells #[.slice (some ⟨g',0,none⟩) (ts.length + 1) cap2,.int .i64 0,.int .i64 0,.int .i64 0] 95)) w7.heap.size g' ⟨ts ++ [u],0,0⟩ 64:=
    ⟨_,hpb,⟨0,cap2,by simp,by simpa using hoo.2.1,hcc,fun j v hj => hMb.cell (by rw [Nat.zero_add]; exact hoo.2.2 j v (by rw [← zfN]; exact hj))⟩,hbeg.1,by decide,by omega⟩
   have hqa:=zkk _ w7.heap.size g' 64 ⟨ts ++ [u],0,0⟩ hps hbeg.2.2.2 hbeg.2.1;rw [e1,e2] at hqa;have hqok:zcA q:=by rw [← e1];exact (zkY (zcP 64).expr (zmG 64).expr (s:=⟨ts ++ [u],0,0⟩) hbeg.2.2.1 hbeg.2.2.2).1
   have HF:=QH (AI hMw7 (AI hMb (AI hqok (AI hpt hMw7.size))));unfold zh at hqa;clear hps hpb hMb hMw7 hMA hoo hcc hbeg hI hpt hown7 hown2 hM7 hg7 HQ HO e1 e2 hqok hMw2 k0 k1 k2 k3 k4 hgw hcap;go_wp2_with fail;(with_reducible refine hqa.mono ?_);rintro e w9 ⟨qb,rfl,hM9,hP9,hqb,hQA⟩;(try unfold zh);clear hqa;obtain ⟨off,cap9,hb9,-⟩:=hP9.tok;have c2:=za hb9 2;have c3:=za hb9 3;change w9.cell? _=some (.int .i64 s9.pos) at c2;change w9.cell? _=some (.int .i64 s9.e) at c3;have HG:=QH (AI hM9 (AI hqb hQA));clear hb9 hP9 hM9 hqb hQA
   have hMf:Mods [] w w9:=(HF.out.1.trans HF.out.2.1).trans HG.out.1 (fun x hx => .inr (by
    obtain rfl:x=w7.heap.size:=by simpa using hx
    exact HF.out.2.2.2.2))
   by_cases he:s9.e=0
   ·have z0:((s9.e:Int) != 0)=false:=bne_eq_false_iff_eq.2 AA;have hfin:zcB w RR (.returned (.tuple #[zh qb,.int .i64 0,.int .i64 0])) w9:=by
     have hRR:RR = .good q:=by rw [HF.out.2.2.2.1,if_pos he]
     rw [hRR];refine ⟨hMf,HF.out.2.2.1,qb,rfl,?_,(HG.out.2.2 he).weaken AB⟩;have h1:=HG.out.2.1;have h2:=HF.out.2.2.2.2;rw [zl] at h1;omega
    have HFIN:=QH hfin;clear hfin he;go_wp2_with fail;go_returns;exact HFIN.out
   ·have z0:((s9.e:Int) != 0)=true:=bne_iff_ne.2 AA;have hfin:∀ n,zcB w RR (.returned (.tuple #[.pointer none,.int .i64 s9.pos,.int .i64 s9.e])) (w9.drewN n):=fun n => by
     have hRR:RR = .bad s9.pos s9.e:=by rw [HF.out.2.2.2.1,if_neg he]
     rw [hRR];exact ⟨hMf.drewN n,rfl⟩
    have HFIN:=QH hfin;clear hfin he;go_wp2_with fail;go_quiet (fail);generalize hw:w9.drewN nq=wz;go_wp2_with fail;go_returns;rw [← hw];exact HFIN.out _
def numD (n sc:Nat):Bs:=if (0:Int) < (sc:Int) + 1 - (Lib.itoa (n:Int)).length then Lib.repeatL [48] ((sc:Int) + 1 - (Lib.itoa (n:Int)).length).toNat ++ Lib.itoa (n:Int) else Lib.itoa (n:Int)
def numS (n sc:Nat):Bs:=if 0 < sc then (numD n sc).take ((numD n sc).length - sc) ++ [46] ++ (numD n sc).drop ((numD n sc).length - sc) else numD n sc
def nodeS (h:Hd) (xs:List Bs):Bs:=
 if h.op=oNumber then numS h.n h.scale
 else if h.op=oText then [39] ++ h.s ++ [39]
 else if h.op=oBool then Lib.toUpperA (Lib.formatBool (decide (h.n=1)))
 else if h.op=oNull then [78,85,76,76]
 else if h.op=oColumn then (if h.table ≠ [] then h.table ++ [46] ++ h.name else h.name)
 else [40] ++ Lib.join (h.op :: xs) [32] ++ [41]
def showT:Tree → Bs
 | .leaf h => nodeS h []
 | .un h a => nodeS h [showT a]
 | .bin h a b => nodeS h [showT a,showT b]
def Pow (w:World):Prop:=Lib.TabIs Tryz.prog w "internal/strconv.uint64pow10" .u64 Lib.pow10Tab
def zcw (l:List Bs):List Value:=l.map fun x => .string ⟨x.toArray⟩
theorem ze1 (l:List Bs):(zcw l).length=l.length:=by simp [zcw]
theorem Pow.later {w w':World} (h:Pow w) (hM:Mods [] w w'):Pow w':=
 Joins.tab_stays (g:= 4) AC h (hM.below _ (LR _) AB) (LR _)
theorem zcb (w:World) (hT:Tabs w) (l:Bs) (q:zt) (h:zaj l = .good q) (hs:l.length ≤ 9223372036854775807) :
  Calls Tryz.prog 15 #[.string ⟨l.toArray⟩] w fun e w' => ∃ qb,e = .returned (.tuple #[zh qb,.int .i64 0,.int .i64 0]) ∧ Mods [] w w' ∧ QueryAt w' [] qb q ∧ zcA q:=
 (zho w hT ⟨l.toArray⟩ hs).mono fun e w' ⟨h1,h2⟩ => by
  have e1:(⟨l.toArray⟩ : ByteArray).data.toList=l:=by simp
  rw [e1,h] at h2;obtain ⟨h3,qb,h4,-,h5⟩:=h2;exact ⟨qb,h4,h1,h5,h3⟩
def Tabs2 (w:World):Prop:=Tabs w ∧ Pow w
theorem Tabs2.later {w w':World} (h:Tabs2 w) (hM:Mods [] w w'):Tabs2 w':=⟨h.1.mods hM,h.2.later hM⟩
open Go.ChangeShapes Go.WideShapes Go.ChangeAt Go.RowKit
theorem zmL:(Rows.laid_internal_strconv_uint64pow10:DataW Unit)=Lib.tabData .u64 Lib.pow10Tab:=by kernel_rfl
theorem zmM {W:World} (hL:laidMetH Tryz.prog laidL W):Tabs2 W:=by refine ⟨znX hL,?_⟩;rw [MakeChecks.laidMetH_plain _ _ _ AC] at hL;have h2:=hL.tail.tail;exact Lib.tabIs_of_head (rest:=_) (g:= 4) (t:= 317) (e:= 221) (n:=20) AC AC Tryz.underlying317 Tryz.underlying221 AC AC (by rw [← zmL]; exact h2)
theorem zhq {x l:Bs} (h:¬ x=l):(x == l)=false:=by rw [beq_eq_false_iff_ne]; exact h
structure Ty where
 k:Nat
 s:Nat
deriving DecidableEq
def tyInt:Ty:=⟨1,0⟩
def tyBytes:Ty:=⟨3,0⟩
def tyBool:Ty:=⟨4,0⟩
def tyNone:Ty:=⟨0,0⟩
def Ty.num (t:Ty):Bool:=decide (t.k=1) || decide (t.k=2)
def Ty.Right (t:Ty):Prop:=(t.k=2 ∧ 1 ≤ t.s ∧ t.s ≤ 9) ∨ ((t.k=1 ∨ t.k=3 ∨ t.k=4) ∧ t.s=0)
def scaleA (op:UInt8) (a b:Ty):Option Nat:=if op=43 ∨ op=45 then some (max a.s b.s) else if op=42 then some (a.s + b.s) else if op=47 then some a.s else none
def zb7 (op:UInt8) (a b:Ty):Option Ty:=
 match scaleA op a b with
 | none => none
 | some sc => if a.num=true ∧ b.num=true ∧ sc ≤ 9 ∧ ¬ (op=47 ∧ 0 < b.s) then (if sc=0 then some tyInt else some ⟨2,sc⟩) else none
def oSum:Bs:=[115,117,109]
def oMin:Bs:=[109,105,110]
def oMax:Bs:=[109,97,120]
def oAnd:Bs:=[97,110,100]
def oOr:Bs:=[111,114]
def oValue:Bs:=[118,97,108,117,101]
def oPlus:Bs:=[43]
def oMinus:Bs:=[45]
def oTimes:Bs:=[42]
def oOver:Bs:=[47]
def aggOps:List Bs:=[oAll,oCount,oSum,oMin,oMax]
def aggOpB (op:Bs):Bool:=aggOps.contains op
def rels:List Bs:=[[61],[60,62],[60],[60,61],[62],[62,61]]
def ops0:List Bs:=[oNumber,oText,oBool,oNull,oColumn,oAll]
def ops1:List Bs:=[oNeg,oNot,oIs,oIsNot,oCount,oSum,oMin,oMax]
def ops2:List Bs:=[oOr,oAnd,[61],[60,62],[60],[60,61],[62],[62,61],[43],[45],[42],[47]]
def zx (op:Bs) (a b:Ty):Option Ty:=
 if op=oAll ∨ op=oCount then some tyInt
 else if op=oNeg ∨ op=oSum then (if a.num=true then some a else none)
 else if op=oMin ∨ op=oMax then some a
 else if op=oIs ∨ op=oIsNot then some tyBool
 else if op=oNot then (if a=tyBool then some tyBool else none)
 else if op=oAnd ∨ op=oOr then (if a=tyBool ∧ b=tyBool then some tyBool else none)
 else if op=oPlus ∨ op=oMinus ∨ op=oTimes ∨ op=oOver then zb7 (op.headD 0) a b
 else if a=b ∨ (a.num=true ∧ b.num=true) then some tyBool else none
structure NHd where
 op:Bs
 t:Ty
 col:Nat:=0
 null:Bool:=false
 n:Nat:=0
 s:Bs:=[]
deriving DecidableEq
inductive NT where
 | leaf (h:NHd)
 | un (h:NHd) (a:NT)
 | bin (h:NHd) (a b:NT)
deriving DecidableEq
def NT.hd:NT → NHd
 | .leaf h => h
 | .un h _ => h
 | .bin h _ _ => h
def hasN:NT → Bool
 | .leaf h => aggOpB h.op
 | .un h a => aggOpB h.op || hasN a
 | .bin h a b => aggOpB h.op || (hasN a || hasN b)
structure EC where
 table:Bs
 name:Bs
 t:Ty
deriving DecidableEq
def zap (table name:Bs):Nat → List EC → List Nat
 | _,[] => []
 | i,e :: l => if (table=[] ∨ e.table=table) ∧ e.name=name then i :: zap table name (i + 1) l else zap table name (i + 1) l
def zaC (env:List EC) (table name:Bs):List Nat:=zap table name 0 env
inductive Chk (α:Type) where
 | ok (a:α)
 | bad (pos e:Nat)
def Chk.bind {α β:Type} (x:Chk α) (f:α → Chk β):Chk β:=match x with | .ok a => f a | .bad p e => .bad p e
def zbF (env:List EC) (h:Hd):Chk Nat:=
 match zaC env h.table h.name with
 | [] => .bad h.pos 13
 | [k] => .ok k
 | _ => .bad h.pos 4
def zS (h:Hd):Option NHd:=
 if h.op=oNumber then some { op:=oValue,t:=if 0 < h.scale then ⟨2,h.scale⟩ else tyInt,n:=h.n }
 else if h.op=oText then some { op:=oValue,t:=tyBytes,s:=h.s }
 else if h.op=oNull then some { op:=oValue,t:=tyBool,null:=true }
 else if h.op=oBool then some { op:=oValue,t:=tyBool,n:=h.n }
 else none
def zcX (d:Nat) (h:Hd) (a b:Ty) (mk:NHd → NT):Chk NT:=
 match zx h.op a b with
 | none => .bad h.pos 4
 | some t => if aggOpB h.op=true ∧ 0 < d then .bad h.pos 4 else .ok (mk { op:=h.op,t:=t })
def zy (d:Nat) (h:Hd):Nat:=if aggOpB h.op=true then d + 1 else d
def zq (env:List EC):Tree → Nat → Chk NT
 | .leaf h,d =>
  match zS h with
  | some n => .ok (.leaf n)
  | none => if h.op=oColumn then (zbF env h).bind (fun k => .ok (.leaf { op:=oColumn,t:=(env.getD k ⟨[],[],tyNone⟩).t,col:=k })) else zcX d h tyNone tyNone .leaf
 | .un h a,d => (zq env a (zy d h)).bind fun x => zcX d h x.hd.t tyNone (fun n => .un n x)
 | .bin h a b,d => (zq env a (zy d h)).bind fun x => (zq env b (zy d h)).bind fun y => zcX d h x.hd.t y.hd.t (fun n => .bin n x y)
def zT (h:Hd) (k:Nat):Bool:=(if ops0.contains h.op=true then decide (k=0) else if ops1.contains h.op=true then decide (k=1) else if ops2.contains h.op=true then decide (k=2) else false) && !(decide (h.op=oBool) && decide (1 < h.n)) && decide (h.scale ≤ 9) && decide (h.s.length ≤ 200)
def formedT:Tree → Bool
 | .leaf h => zT h 0
 | .un h a => zT h 1 && formedT a
 | .bin h a b => zT h 2 && (formedT a && formedT b)
def Tree.hd:Tree → Hd
 | .leaf h => h
 | .un h _ => h
 | .bin h _ _ => h
def zbB (env:List EC):Option Tree → Chk (Option NT)
 | none => .ok none
 | some t => (zq env t 0).bind fun n => if n.hd.t ≠ tyBool ∨ hasN n=true then .bad t.hd.pos 4 else .ok (some n)
structure TblT where
 name:Bs
 cols:List (Bs × Ty)
def TblT.env (t:TblT):List EC:=t.cols.map fun c => ⟨t.name,c.1,c.2⟩
def zbw (l:List TblT) (name:Bs):Option Nat:=l.findIdx? (fun t => t.name == name)
def zbd (l:List TblT) (name:Bs) (pos:Nat) (but:Option Nat):Chk Nat:=
 match zbw l name with
 | none => .bad pos 13
 | some k => if but=some k then .bad pos 4 else .ok k
def zcC (l:List TblT) (k:Nat):List EC:=(l.getD k ⟨[],[]⟩).env
structure KeyC where
 item:Nat
 desc:Bool
deriving DecidableEq
structure CQ where
 left:Nat
 right:Option Nat
 on:Option NT
 whr:Option NT
 grouped:Bool
 group:List Nat
 items:List NT
 names:List Bs
 order:List KeyC
 limit:Int
 offset:Int
def zbe (env:List EC):List Tree → Chk (List Nat)
 | [] => .ok []
 | g :: l => (zbF env g.hd).bind fun k => (zbe env l).bind fun ks => .ok (k :: ks)
def nameQ (env:List EC) (k:Nat) (i:za2) (n:NT):Bs:=if i.name ≠ [] then i.name else if n.hd.op=oColumn then (env.getD n.hd.col ⟨[],[],tyNone⟩).name else [99] ++ Lib.itoa ((k:Int) + 1)
def za5 (env:List EC):Nat → List za2 → Chk (List (NT × Bs))
 | _,[] => .ok []
 | k,i :: l => if k=64 then .bad i.e.hd.pos 4 else (zq env i.e 0).bind fun n => (za5 env (k + 1) l).bind fun r => .ok ((n,nameQ env k i n) :: r)
def fitsQ (group:List Nat):List za2 → List NT → Chk Unit
 | i :: l,n :: ns => if aggOpB n.hd.op=false ∧ (n.hd.op ≠ oColumn ∨ n.hd.col ∉ group) then .bad i.e.hd.pos 4 else fitsQ group l ns
 | _,_ => .ok ()
def zbi (env:List EC):List (NT × Bs):=(List.range env.length).map fun k => (.leaf { op:=oColumn,t:=(env.getD k ⟨[],[],tyNone⟩).t,col:=k },(env.getD k ⟨[],[],tyNone⟩).name)
def keyQ (items:List NT) (names:List Bs) (k:zfI):Chk KeyC:=
 let n:Int:=if k.name ≠ [] then (match names.findIdx? (· == k.name) with | some j => (j:Int) | none => -1) else k.item - 1
 if n < 0 ∨ (items.length:Int) ≤ n then .bad k.pos 13 else .ok ⟨n.toNat,k.desc⟩
def za6 (items:List NT) (names:List Bs):List zfI → Chk (List KeyC)
 | [] => .ok []
 | k :: l => (keyQ items names k).bind fun x => (za6 items names l).bind fun r => .ok (x :: r)
def zem (q:zt) (env:List EC) (group:List Nat):Chk (List (NT × Bs) × Bool):=
 (za5 env 0 q.items).bind fun l =>
  let grouped:=decide (0 < q.group.length) || l.any (fun x => hasN x.1)
  if grouped=true then (if q.star=true then .bad 0 4 else (fitsQ group q.items (l.map (·.1))).bind fun _ => .ok (l,true))
  else .ok ((if q.star=true then zbi env else []) ++ l,false)
def zao (tb:List TblT) (q:zt):Chk CQ:=
 (zbd tb q.src q.srcAt none).bind fun left =>
 (if q.join=[] then .ok none else (zbd tb q.join q.joinAt (some left)).bind fun k => .ok (some k)).bind fun (right:Option Nat) =>
 let env:=zcC tb left ++ (match right with | none => [] | some k => zcC tb k)
 (zbB env q.on).bind fun on =>
 (zbB env q.whr).bind fun whr =>
 (zbe env q.group).bind fun group =>
 (zem q env group).bind fun x =>
 (za6 (x.1.map (·.1)) (x.1.map (·.2)) q.order).bind fun order =>
 .ok ⟨left,right,on,whr,x.2,group,x.1.map (·.1),x.1.map (·.2),order,q.limit,q.offset⟩
structure zay (w:World) where
 val:World
 mods:Mods [] w val
instance {w:World}:Nonempty (zay w):=⟨⟨w,QM [] w⟩⟩
theorem zcK {P:Program} {id:Nat} {Q:Exit → Act → World → Prop} {a:Act} {w:World} {l:List Oper} (hm:P.follows .mixedOrders=true) (hB:Region.lexB .any l.toArray=true)
  (h:wpQuiet P l.toArray (fun w' => ∃ k:zay w,w'=k.val) (fun a' => ∀ w',(∃ k:zay w,w'=k.val) → Q .normal a' w') l a):(Code.region id l.toArray true).wp P Q a w:=
 wp_region_quiet (C:=fun w' => ∃ k:zay w,w'=k.val) hm hB ⟨⟨w.drew,(QM [] w).drew⟩,rfl⟩ AN
end Go.Proofs.YtcabeljiobiojaaGreatDoor
