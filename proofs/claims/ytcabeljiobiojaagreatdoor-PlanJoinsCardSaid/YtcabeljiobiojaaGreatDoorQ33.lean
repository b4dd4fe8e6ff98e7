/-
  What was read is formed: each expr of a query that a text is may be checked. It speaks of no program; no condition.
-/
import Derived.Test.YtcabeljiobiojaaGreatDoorQ32
import Derived.Deep.AppendLies
set_option linter.unusedVariables false
namespace Go.Proofs.YtcabeljiobiojaaGreatDoor
open Go.RowKit
theorem BL {p:Prop} (h:p:=by unfold zd5; decide):p:=h
theorem ybL {p:Prop} (h:p:=by
  simp only;split
  ·intro _; exact ⟨hq.items,hq.on,hq.whr,hq.group⟩
  ·intro _; exact hq
 ):p:=h
theorem ybO {p:Prop} (h:p:=by
  go_wp2_with fail;(with_reducible refine hfo2.mono ?_);rintro e w5 ⟨rfl,hM5⟩;clear hfo2;go_wp2_with fail;go_ret;exact ⟨rfl,hMs.trans hM5⟩
 ):p:=h
def TxtOk (s:PS):Prop:=∀ t ∈ s.rest,t.scale ≤ 9 ∧ (t.kind=4 → t.s.length ≤ 200)
theorem TxtOk.aft {s s':PS} (h:TxtOk s) (hA:Aft s s'):TxtOk s':=fun t ht => h t (hA.suf.subset ht)
theorem TxtOk.now {s:PS} (h:TxtOk s):s.now.scale ≤ 9 ∧ (s.now.kind=4 → s.now.s.length ≤ 200):=by
 unfold PS.now
 cases hr:s.rest with
 | nil => exact ⟨Nat.le_of_ble_eq_true rfl,fun _ => Nat.le_of_ble_eq_true rfl⟩
 | cons t r => exact h t BO
theorem TxtOk.nextk {s:PS} (h:TxtOk s):TxtOk s.next:=fun t ht => h t (List.mem_of_mem_tail ht)
theorem zag {a b:PS} (h:Aft a b) (hb:b.e=0):a.e=0:=by
 by_cases ha:a.e=0
 ·exact ha
 ·rw [h.err ha] at hb; exact hb
theorem zgR (s:PS) (k:Nat) (hk:k ≠ 0):(s.fail k).e ≠ 0:=by
 unfold PS.fail;split
 ·exact hk
 ·assumption
theorem zbb {h:Hd} {k:Nat} (ha:(if ops0.contains h.op=true then decide (k=0) else if ops1.contains h.op=true then decide (k=1) else if ops2.contains h.op=true then decide (k=2) else false)=true)
  (hb:h.op ≠ oBool ∨ h.n ≤ 1) (hs:h.scale ≤ 9) (hl:h.s.length ≤ 200):zT h k=true:=by
 unfold zT;rw [ha,decide_eq_true hs,decide_eq_true hl];rcases hb with h1 | h1
 ·rw [decide_eq_false h1]; rfl
 ·rw [decide_eq_false (by omega:¬ 1 < h.n),Bool.and_false]; rfl
def zb1 (F:PF):Prop:=∀ s,TxtOk s → (F s).2.e=0 → formedT (F s).1=true
theorem zfk:zb1 zY:=by
 intro s h he;unfold zY;simp only;split
 ·exact zbb (h:={ op:=oColumn,pos:=s.now.pos,table:=s.name.1,name:=(s.name.2.takes wPoint).2.name.1 }) (k:=0) rfl (.inl (by show oColumn ≠ oBool; decide)) (Nat.zero_le _) (Nat.zero_le _)
 ·exact zbb (h:={ op:=oColumn,pos:=s.now.pos,name:=s.name.1 }) (k:=0) rfl (.inl (by show oColumn ≠ oBool; decide)) (Nat.zero_le _) (Nat.zero_le _)
theorem zil (s:PS):∃ h,(zY s).1 = .leaf h ∧ h.op=oColumn:=by
 unfold zY;simp only;split
 ·exact ⟨_,rfl,rfl⟩
 ·exact ⟨_,rfl,rfl⟩
theorem zim {sub:Option Lvl} {body:Lvl → PF} {d:Tree} {s:PS} (hs:TxtOk s) (h:∀ L,sub=some L → ∀ s1,TxtOk s1 → (body L s1).2.e=0 → formedT (body L s1).1=true):(inF sub body d s).2.e=0 → formedT (inF sub body d s).1=true:=by
 unfold inF;split
 ·intro he; exact absurd he (zgR s 9 AD)
 ·rename_i L
  split
  ·exact h L rfl s.next hs.nextk
  ·rename_i hn; intro he; exact absurd he hn
structure LvlForm (L:Lvl):Prop where
 minus:zb1 L.minus
 not:zb1 L.not
 expr:zb1 L.expr
def SubForm (sub:Option Lvl):Prop:=∀ L,sub=some L → LvlForm L
theorem zfH {sub:Option Lvl} (hg:zaF sub) (h:SubForm sub) {s:PS} (hs:TxtOk s) (ho:s.now.s=wCount ∨ s.now.s=wSum ∨ s.now.s=wMin ∨ s.now.s=wMax):(zK sub s).2.e=0 → formedT (zK sub s).1=true:=by
 have hop:ops1.contains (s.now.s.map zb5)=true ∧ ops0.contains (s.now.s.map zb5)=false ∧ s.now.s.map zb5 ≠ oBool:=by rcases ho with h1 | h1 | h1 | h1 <;> rw [h1] <;> decide
 have hF:zT { op:=s.now.s.map zb5,pos:=s.now.pos } 1=true:=zbb (by
  show (if ops0.contains (s.now.s.map zb5)=true then _ else if ops1.contains (s.now.s.map zb5)=true then _ else _)=true
  rw [hop.1,hop.2.1]; rfl) (.inl hop.2.2) (Nat.zero_le _) (Nat.zero_le _)
 unfold zK;generalize s.now.s.map zb5=op at *;refine zim hs fun L hL s1 h1 => ?_;simp only;have w1:=Aft.wants [wOpen] s1;have w2:=Aft.takes (s1.wants [wOpen]) wStar;split
 ·intro _;exact zbb (h:={ op:=oAll,pos:=s.now.pos }) (k:=0) rfl (.inl (by show oAll ≠ oBool; decide)) (Nat.zero_le _) (Nat.zero_le _)
 ·split
  ·intro he;have a:=(h L hL).expr _ ((h1.aft w1).aft w2) (zag (Aft.wants [wShut] _) he);show (_ && _)=true;rw [hF,a]; rfl
  ·intro he;have a:=(h L hL).expr _ (h1.aft w1) (zag (Aft.wants [wShut] _) he);show (_ && _)=true;rw [hF,a]; rfl
theorem zhA {sub:Option Lvl} (hg:zaF sub) (h:SubForm sub):zb1 (zo sub):=by
 intro s hs;have hnow:=hs.now;unfold zo;split
 ·rename_i hn; intro he; exact absurd he hn
 split
 ·intro _;exact zbb (h:={ op:=oNumber,pos:=s.now.pos,n:=s.now.n,scale:=s.now.scale }) (k:=0) rfl (.inl (by show oNumber ≠ oBool; decide)) hnow.1 (Nat.zero_le _)
 split
 ·rename_i h4; intro _
  exact zbb (h:={ op:=oText,pos:=s.now.pos,s:=s.now.s }) (k:=0) rfl (.inl (by show oText ≠ oBool; decide)) (Nat.zero_le _) (hnow.2 h4)
 split
 ·exact zfk s hs
 split
 ·intro _;exact zbb (h:={ op:=oBool,pos:=s.now.pos,n:=1 }) (k:=0) rfl (.inr (LR _)) (Nat.zero_le _) (Nat.zero_le _)
 split
 ·intro _;exact zbb (h:={ op:=oBool,pos:=s.now.pos }) (k:=0) rfl (.inr (Nat.zero_le _)) (Nat.zero_le _) (Nat.zero_le _)
 split
 ·intro _;exact zbb (h:={ op:=oNull,pos:=s.now.pos }) (k:=0) rfl (.inl (by show oNull ≠ oBool; decide)) (Nat.zero_le _) (Nat.zero_le _)
 split
 ·exact zim hs fun L hL s1 h1 he => (h L hL).expr s1 h1 (zag (Aft.wants [wShut] _) he)
 split
 ·rename_i hk; exact zfH hg h hs hk.2
 ·intro he; exact absurd he (zgR s 8 AD)
theorem zlo {op:Bs} {p:Nat} {a:Tree} (ho:op=oNeg ∨ op=oNot ∨ op=oIs ∨ op=oIsNot) (ha:formedT a=true):formedT (.un { op:=op,pos:=p } a)=true:=by
 have h1:zT { op:=op,pos:=p } 1=true:=by
  rcases ho with rfl | rfl | rfl | rfl
  ·exact zbb (h:={ op:=oNeg,pos:=p }) (k:=1) rfl (.inl (by show oNeg ≠ oBool; decide)) (Nat.zero_le _) (Nat.zero_le _)
  ·exact zbb (h:={ op:=oNot,pos:=p }) (k:=1) rfl (.inl (by show oNot ≠ oBool; decide)) (Nat.zero_le _) (Nat.zero_le _)
  ·exact zbb (h:={ op:=oIs,pos:=p }) (k:=1) rfl (.inl (by show oIs ≠ oBool; decide)) (Nat.zero_le _) (Nat.zero_le _)
  ·exact zbb (h:={ op:=oIsNot,pos:=p }) (k:=1) rfl (.inl (by show oIsNot ≠ oBool; decide)) (Nat.zero_le _) (Nat.zero_le _)
 show (_ && _)=true;rw [h1,ha]; rfl
theorem zfl {sub:Option Lvl} {w op:Bs} {own:Lvl → PF} {rest:PF} (ho:op=oNeg ∨ op=oNot ∨ op=oIs ∨ op=oIsNot) (h1:∀ L,sub=some L → zb1 (own L)) (h2:zb1 rest):zb1 (zR sub w op own rest):=by
 intro s hs;unfold zR;split
 ·exact zim hs fun L hL s1 h1s he => zlo ho (h1 L hL s1 h1s he)
 ·exact h2 s hs
def zd5 (ws:List Bs):Prop:=∀ w ∈ ws,ops2.contains w=true ∧ ops1.contains w=false ∧ ops0.contains w=false ∧ w ≠ oBool
theorem zi4 {op:Bs} {p:Nat} {a b:Tree} {ws:List Bs} (hw:zd5 ws) (ho:op ∈ ws) (ha:formedT a=true) (hb:formedT b=true):formedT (.bin { op:=op,pos:=p } a b)=true:=by
 obtain ⟨q1,q2,q3,q4⟩:=hw op ho
 have h1:zT { op:=op,pos:=p } 2=true:=zbb (by
  show (if ops0.contains op=true then _ else if ops1.contains op=true then _ else if ops2.contains op=true then _ else _)=true
  rw [q1,q2,q3]; rfl) (.inl q4) (Nat.zero_le _) (Nat.zero_le _)
 show (_ && (_ && _))=true;rw [h1,ha,hb]; rfl
theorem zlp {s:PS} {l:List Bs} (h:s.is l=true):s.now.s ∈ l:=by exact ycp
theorem zjU {part:PF} (hg:zbn part) (h:zb1 part) {ws:List Bs} (hw:zd5 (ws.map (·.map zb5))):∀ (n:Nat) (x:Tree) (s:PS),TxtOk s → formedT x=true → (zaq part ws n x s).2.e=0 → formedT (zaq part ws n x s).1=true:=by
 intro n
 induction n with
 | zero => intro x s h1 h2 h3; exact h2
 | succ n ih =>
  intro x s h1 h2;unfold zaq;split
  ·rename_i hi
   intro he;have a:=h s.next h1.nextk (zag (zdV hg ws n _ _) he);exact ih _ _ (h1.nextk.aft (hg _)) (zi4 hw (List.mem_map.2 ⟨_,zlp hi,rfl⟩) h2 a) he
  ·intro _; exact h2
theorem zdE {part:PF} (hg:zbn part) (h:zb1 part) {ws:List Bs} (hw:zd5 (ws.map (·.map zb5))):zb1 (zac part ws):=fun s hs he =>
 zjU hg h hw _ _ _ (hs.aft (hg s)) (h s hs (zag (zdV hg ws _ _ _) he)) he
theorem zlq {sub:Option Lvl} (hg:zbn (zc6 sub)) (h:zb1 (zc6 sub)):zb1 (zbg sub):=by
 intro s hs;have h1:=hs.aft (hg s);have hx:=h s hs;unfold zbg;generalize hp:zc6 sub s=p at *;simp only;split
 ·rename_i hi
  intro he;have b:=h _ h1.nextk he;have a:=hx (zag ((Aft.next (zQ hi).1 (zQ hi).2).trans (hg _)) he);exact zi4 (ws:=relWords) BL (zlp hi) a b
 split
 ·intro he;have a:=hx (zag (((Aft.takes _ wIs).trans (Aft.takes _ wNot)).trans (Aft.wants [wNull] _)) he);exact zlo (by split <;> simp) a
 ·intro he; exact hx he
theorem zlr {sub:Option Lvl} (hg:zaF sub) (h:SubForm sub):LvlForm (mkLvl sub):=by have h1:zb1 (zbo sub):=zfl (.inl rfl) (fun L hL => (h L hL).minus) (zhA hg h);have h2:zb1 (zc6 sub):=zdE (zdr hg) (zdE (zbG hg) h1 BL) BL;have h3:zb1 (notF sub):=zfl (.inr (.inl rfl)) (fun L hL => (h L hL).not) (zlq (zes hg) h2);exact ⟨h1,h3,zdE (zet hg) (zdE (zcO hg) h3 BL) BL⟩
theorem zm1 (f:Nat):LvlForm (lvl f):=by
 induction f with
 | zero => exact zlr (fun L h => by cases h) (fun L h => by cases h)
 | succ f ih => exact zlr (fun L h => by cases h; exact zcP f) (fun L h => by cases h; exact ih)
structure FormQ (q:zt):Prop where
 items:∀ i ∈ q.items,formedT i.e=true
 on:∀ t,q.on=some t → formedT t=true
 whr:∀ t,q.whr=some t → formedT t=true
 group:∀ t ∈ q.group,formedT t=true ∧ ∃ h,t = .leaf h ∧ h.op=oColumn
theorem zjV {α:Type} {one:PS → α × PS} (hg:zcW one) {P:α → Prop} (h:∀ s,TxtOk s → (one s).2.e=0 → P (one s).1):∀ (n:Nat) (l:List α) (s:PS),TxtOk s → (∀ x ∈ l,P x) → (za3 one n l s).2.e=0 → ∀ x ∈ (za3 one n l s).1,P x:=by
 intro n
 induction n with
 | zero => intro l s h1 h3 _; exact h3
 | succ n ih =>
  intro l s h1 h3;unfold za3;split
  ·intro he;have hA:=Aft.takes s wComma;have ha:=h _ (h1.aft hA) (zag (zdX hg n _ _) he)
   exact ih (l ++ [(one (s.takes wComma).2).1]) (one (s.takes wComma).2).2 ((h1.aft hA).aft (hg _)) (fun x hx => by
    rcases List.mem_append.1 hx with hx | hx
    ·exact h3 x hx
    ·simp at hx; rw [hx]; exact ha) he
  ·intro _; exact h3
theorem zf1 {α:Type} {one:PS → α × PS} (hg:zcW one) {P:α → Prop} (h:∀ s,TxtOk s → (one s).2.e=0 → P (one s).1) {s:PS} (h1:TxtOk s) (he:(zad one s).2.e=0):∀ x ∈ (zad one s).1,P x:=
 zjV hg h _ _ _ (h1.aft (hg s)) (fun x hx => by
  simp at hx; rw [hx]
  exact h s h1 (zag (zdX hg _ _ _) he)) he
theorem zls {E:PF} (hg:zbn E) (h:zb1 E) (s:PS) (h1:TxtOk s):(zbv E s).2.e=0 → formedT (zbv E s).1.e=true:=by
 unfold zbv;split
 ·intro he; exact h s h1 (zag ((Aft.takes _ wAs).trans (Aft.name _)) he)
 ·intro he; exact h s h1 (zag (Aft.takes _ wAs) he)
def zcZ (x:QS):Prop:=TxtOk x.2 ∧ (x.2.e=0 → FormQ x.1)
theorem zof {E:PF} (hg:zbn E) (h:zb1 E) {s:PS} (h1:TxtOk s):zcZ (q1 E s):=by
 refine ⟨h1.aft (znJ hg s),?_⟩;unfold q1;simp only;split
 ·intro _; exact ⟨by simp,by simp,by simp,by simp⟩
 ·intro he;exact ⟨zf1 (zca hg) (P:=fun i => formedT i.e=true) (zls hg h) ((h1.aft (Aft.wants _ _)).aft (Aft.takes _ _)) he,by simp,by simp,by simp⟩
theorem zog {x:QS} (h:zcZ x):zcZ (q2 x):=by refine ⟨h.1.aft (ziO x),fun he => ?_⟩;have hq:=h.2 (zag (ziO x) he);exact ⟨hq.items,hq.on,hq.whr,hq.group⟩
theorem zoh {E:PF} (hg:zbn E) (hE:zb1 E) {x:QS} (h:zcZ x):zcZ (q3 E x):=by
 refine ⟨h.1.aft (zkL hg x),fun he => ?_⟩;have hq:=h.2 (zag (zkL hg x) he)
 revert he
 unfold q3;simp only;split
 ·intro he;have a:=hE _ (((h.1.aft (Aft.takes _ wJoin)).aft (Aft.name _)).aft (Aft.wants [wOn] _)) he;exact ⟨hq.items,fun t ht => by cases ht; exact a,hq.whr,hq.group⟩
 ·intro _; exact hq
theorem zoi {E:PF} (hg:zbn E) (hE:zb1 E) {x:QS} (h:zcZ x):zcZ (q4 E x):=by
 refine ⟨h.1.aft (zkM hg x),fun he => ?_⟩;have hq:=h.2 (zag (zkM hg x) he)
 revert he
 unfold q4;simp only;split
 ·intro he;have a:=hE _ (h.1.aft (Aft.takes _ wWhere)) he;exact ⟨hq.items,hq.on,fun t ht => by cases ht; exact a,hq.group⟩
 ·intro _; exact hq
theorem zoj {x:QS} (h:zcZ x):zcZ (q5 x):=by
 refine ⟨h.1.aft (zkN x),fun he => ?_⟩;have hq:=h.2 (zag (zkN x) he)
 revert he
 unfold q5;simp only;split
 ·intro he;exact ⟨hq.items,hq.on,hq.whr,zf1 zaV (P:=fun t => formedT t=true ∧ ∃ h,t = .leaf h ∧ h.op=oColumn) (fun s h1 h2 => ⟨zfk s h1 h2,zil s⟩) ((h.1.aft (Aft.takes _ wGroup)).aft (Aft.wants [wBy] _)) he⟩
 ·intro _; exact hq
theorem zok {x:QS} (h:zcZ x):zcZ (q6 x):=by
 refine ⟨h.1.aft (zkO x),fun he => ?_⟩;have hq:=h.2 (zag (zkO x) he)
 revert he
 unfold q6;exact ybL
theorem zol {x:QS} (h:zcZ x):zcZ (q7 x):=by
 refine ⟨h.1.aft (zkP x),fun he => ?_⟩;have hq:=h.2 (zag (zkP x) he)
 revert he
 unfold q7;exact ybL
theorem zom {x:QS} (h:zcZ x):zcZ (q8 x):=by
 refine ⟨h.1.aft (zkQ x),fun he => ?_⟩;have hq:=h.2 (zag (zkQ x) he)
 revert he
 unfold q8;exact ybL
theorem zin {E:PF} (hg:zbn E) (h:zb1 E) {s:PS} (h1:TxtOk s):zcZ (zcz E s):=
 zom (zol (zok (zoj (zoi hg h (zoh hg h (zog (zof hg h h1)))))))
theorem zm2 {l:List UInt8} {t:TokC} {n:Nat} (h:zc3 l=some (t,n)):t.kind=4 → t.s.length ≤ 200:=by
 cases l with
 | nil => simp [zc3] at h
 | cons c r =>
  unfold zc3 at h;simp only at h;split at h
  ·unfold wordL at h;split at h
   ·simp at h; obtain ⟨rfl,-⟩:=h; intro h; cases h
   ·split at h
    ·simp at h
    ·simp at h; obtain ⟨rfl,-⟩:=h; intro h; cases h
  ·split at h
   ·unfold zbt at h;split at h
    ·simp at h
    ·simp only [Option.some.injEq,Prod.mk.injEq] at h; obtain ⟨rfl,-⟩:=h; intro h; cases h
   ·split at h
    ·unfold zcV at h;split at h
     ·simp at h
     ·rename_i x hx
      split at h
      ·simp at h
      ·rename_i h2
       simp at h; obtain ⟨rfl,-⟩:=h;intro _;show x.1.length ≤ 200;omega
    ·unfold zcv at h;split at h
     ·simp at h; obtain ⟨rfl,-⟩:=h; intro h; cases h
     ·simp only at h;split at h
      ·simp at h; obtain ⟨rfl,-⟩:=h; intro h; cases h
      ·simp at h
theorem zm3:∀ (f:Nat) (l:List UInt8) (p:Nat) (L:List Tok),lexF f l p = .good L → ∀ t ∈ L,t.kind=4 → t.s.length ≤ 200:=by
 intro f
 induction f with
 | zero => intro l p L h; cases h
 | succ f ih =>
  intro l p L h
  cases l with
  | nil => cases h; intro t ht; simp at ht; subst ht; intro h; cases h
  | cons c r =>
   unfold lexF at h;simp only at h
   cases ht:zc3 (c :: r) with
   | none => rw [ht] at h; cases h
   | some x =>
    obtain ⟨t,n⟩:=x;rw [ht] at h;simp only at h
    cases hr:lexF f (((c :: r).drop n).dropWhile zbs) (p + n + (((c :: r).drop n).takeWhile zbs).length) with
    | bad q => rw [hr] at h; cases h
    | good L2 =>
     rw [hr] at h;simp only [Lexed.pre,Lexed.good.injEq] at h;intro u hu;rw [← h] at hu;rcases MC hu with rfl | hu
     ·exact zm2 ht
     ·exact ih _ _ _ hr u hu
theorem zon {s:PS} {k:Nat} (h:(s.of k).2.2.e=0):s.e=0:=by
 unfold PS.of at h;split at h
 ·rename_i h1; exact h1.1
 ·exact absurd h (zgR s 8 AD)
theorem zjW {l:Bs} {q:zt} (h:zcg l = .good q):FormQ q:=by
 unfold zcg at h
 cases hl:za4 l with
 | bad p => rw [hl] at h; cases h
 | good ts =>
  rw [hl] at h;simp only at h;obtain ⟨p,I,hI,hok⟩:=zeX hl;have ht:TxtOk ⟨ts ++ ts.drop (ts.length - 1),0,0⟩:=by
   intro t ht;have hm:t ∈ ts:=by
    rcases List.mem_append.1 ht with h1 | h1
    ·exact h1
    ·exact List.mem_of_mem_drop h1
   refine ⟨?_,zm3 _ _ _ _ hl t hm⟩;rw [hI] at hm;rcases List.mem_append.1 hm with h1 | h1
   ·exact (hok t h1).1.2.2.2
   ·simp at h1; subst h1; exact Nat.zero_le _
  have hq:=zin (zcP 64).expr (zm1 64).expr ht;unfold parseT at h;simp only at h;split at h
  ·rename_i he
   simp only [Parsed.good.injEq] at h;rw [← h];exact hq.2 (zon he)
  ·cases h
theorem zf2 {w W:World} {v:Value} {o:Option Tree} (h:OptAt w [] v o) (hM:Mods [] w W) (hf:∀ t,o=some t → formedT t=true):∃ p,v = .pointer p ∧ (p=none ∨ Calls Tryz.prog 64 #[v] W fun e w' => e = .returned (.bool true) ∧ Mods [] W w'):=by
 cases o with
 | none => exact ⟨none,h,.inl rfl⟩
 | some t =>obtain ⟨b,rfl,hA⟩:=h;exact ⟨_,rfl,.inr (zd1 t (hf t rfl) W [] _ (hA.mods hM))⟩
set_option maxRecDepth 100000 in
set_option maxHeartbeats 16000000 in
theorem zlt (w:World) (qb:Nat) (q:zt) (hQ:QueryAt w [] qb q) (hF:FormQ q) (hi1:q.items.length ≤ 100000) (hg1:q.group.length ≤ 100000) :
  Calls Tryz.prog 26 #[zh qb] w fun e w' => e = .returned (.bool true) ∧ Mods [] w w':=by
 obtain ⟨vi,von,vwh,vg,vo,hq,hI,hOn,hWh,hG,hO⟩:=hQ;obtain ⟨ai,ci,rfl,hai⟩:=hI.read itemLen;obtain ⟨ag,cg,rfl,hag⟩:=hG.read treeLen;have q1:=za hq 1;have q6:=za hq 6;have q7:=za hq 7;have q8:=za hq 8;change w.cell? _=some (.slice ai q.items.length ci) at q1;change w.cell? _=some von at q6;change w.cell? _=some vwh at q7;change w.cell? _=some (.slice ag q.group.length cg) at q8;obtain ⟨n1,hn1⟩:=EX (q.items.length);obtain ⟨n2,hn2⟩:=EX (q.group.length);rw [hn1] at q1 hi1;rw [hn2] at q8 hg1;have HH:=QH (AI hai (AI hag (AI hn1 (AI hn2 (AI hF (AI hOn (AI hWh (AI q6 (AI q7 q8)))))))));clear hai hag hn1 hn2 hF hOn hWh hq hI hG hO q6 q7 q8;unfold zh;go_enter Tryz.func26, Tryz.ntmps26;go_wp2_with fail;go_loopg [12] n1 (fun gk t12 wr => ∃ i:Nat,i + gk=n1 ∧ t12 = .int .i64 i ∧ Mods [] w wr)
 case atStart => exact ⟨0,by omega,rfl,QM _ _⟩
 obtain ⟨i,hi,rfl,hMr⟩:=hrel;clear q1;by_cases hlt:i < n1
 ·have hil:i < q.items.length:=by rw [HH.out.2.2.1]; exact hlt
  obtain ⟨g,rfl,hcells⟩:=HH.out.1 AA;obtain ⟨c,⟨b,rfl,hA⟩,hc⟩:=hcells i hil;have k0:=hMr.cell (hc 0 _ rfl);have k1:=hMr.cell (hc 1 _ rfl);rw [Nat.add_zero] at k0;have hMz:=(hMr.alloc (.cells #[zh b,.string ⟨q.items[i].name.toArray⟩] 158));have hfc:=zd1 _ (HH.out.2.2.2.2.1.items _ (List.getElem_mem hil)) _ [] _ (hA.mods hMz);generalize (⟨q.items[i].name.toArray⟩ : ByteArray)=nm at *;unfold zh at *;clear hcells hc hA;go_wp2_with fail;(with_reducible refine hfc.mono ?_);rintro e w5 ⟨rfl,hM5⟩;clear hfc;go_wp2_with fail;go_roundg (n1 - (i + 1))
  case measure => omega
  case rel => exact ⟨i + 1,by omega,by go_num,hMz.trans hM5⟩
 ·obtain rfl:i=n1:=by omega
  have q8:=hMr.cell HH.out.2.2.2.2.2.2.2.2.2;go_wp2_with fail
  rename World => w1
  go_loopg [26] n2 (fun gk t26 wr => ∃ j:Nat,j + gk=n2 ∧ t26 = .int .i64 j ∧ Mods [] w wr)
  case atStart => exact ⟨0,by omega,rfl,hMr⟩
  obtain ⟨j,hj,rfl,hMs⟩:=hrel;clear q8;by_cases hlt2:j < n2
  ·have hil:j < q.group.length:=by rw [HH.out.2.2.2.1]; exact hlt2
   obtain ⟨g,rfl,hcells⟩:=HH.out.2.1 AA;obtain ⟨c,⟨b,rfl,hA⟩,hc⟩:=hcells j hil;have k0:=hMs.cell (hc 0 _ rfl);rw [Nat.mul_one,Nat.add_zero] at k0;obtain ⟨hf1,hd,hd1,hd2⟩:=HH.out.2.2.2.2.1.group _ (List.getElem_mem hil);have hA2:=hA.mods hMs;have hfc:=zd1 _ hf1 _ [] _ hA2;rw [hd1] at hA2;obtain ⟨b',hb',-,hx⟩:=hA2;cases hb';have x0:=za hx 0;change wr.cell? _=some (.string ⟨hd.op.toArray⟩) at x0;rw [hd2] at x0;change wr.cell? _=some (.string ⟨#[99,111,108,117,109,110]⟩) at x0;unfold zh at *;clear hcells hc hA hx hd1 hd2 hf1;go_wp2_with fail;(with_reducible refine hfc.mono ?_);rintro e w5 ⟨rfl,hM5⟩;have y0:=hM5.cell x0;clear hfc x0;go_wp2_with fail;go_roundg (n2 - (j + 1))
   case measure => omega
   case rel => exact ⟨j + 1,by omega,by go_num,hMs.trans hM5⟩
  ·obtain rfl:j=n2:=by omega
   have q6:=hMs.cell HH.out.2.2.2.2.2.2.2.1;have q7:=hMs.cell HH.out.2.2.2.2.2.2.2.2.1;obtain ⟨p,hp,hfo⟩:=zf2 HH.out.2.2.2.2.2.1 hMs HH.out.2.2.2.2.1.on;rw [hp] at q6 hfo;clear hp;have hwp:∀ W,Mods [] w W → ∃ p,vwh = .pointer p ∧ (p=none ∨ Calls Tryz.prog 64 #[vwh] W fun e w' => e = .returned (.bool true) ∧ Mods [] W w'):=fun W hM => zf2 HH.out.2.2.2.2.2.2.1 hM HH.out.2.2.2.2.1.whr;have HW:=QH hwp;clear hwp;rcases hfo with rfl | hfo
   ·obtain ⟨p2,hp2,hfo2⟩:=HW.out wr hMs;rw [hp2] at q7 hfo2;clear hp2;rcases hfo2 with rfl | hfo2
    ·go_wp2_with fail;go_ret;exact ⟨rfl,hMs⟩
    ·cases p2 with
     | none =>go_wp2_with fail;go_ret;exact ⟨rfl,hMs⟩
     | some ad =>exact ybO
   ·cases p with
    | none =>
     obtain ⟨p2,hp2,hfo2⟩:=HW.out wr hMs;rw [hp2] at q7 hfo2;clear hp2 hfo
     cases p2 with
     | none =>go_wp2_with fail;go_ret;exact ⟨rfl,hMs⟩
     | some ad =>
      rcases hfo2 with h | hfo2
      ·cases h
      ·exact ybO
    | some ad0 =>
     go_wp2_with fail;(with_reducible refine hfo.mono ?_);rintro e w5 ⟨rfl,hM5⟩;have y7:=hM5.cell q7;obtain ⟨p2,hp2,hfo2⟩:=HW.out w5 (hMs.trans hM5);rw [hp2] at y7 hfo2;clear hp2 hfo q7
     cases p2 with
     | none =>go_wp2_with fail;go_ret;exact ⟨rfl,hMs.trans hM5⟩
     | some ad =>
      rcases hfo2 with h | hfo2
      ·cases h
      ·go_wp2_with fail;(with_reducible refine hfo2.mono ?_);rintro e w6 ⟨rfl,hM6⟩;clear hfo2;go_wp2_with fail;go_ret;exact ⟨rfl,(hMs.trans hM5).trans hM6⟩
def ListIn {α:Type} (R:zel α) (w:World) (L:List Nat) (v:Value) (l:List α) (k:Nat):Prop:=
 ∃ ao cap,v = .slice ao l.length cap ∧ (0 < l.length → ∃ g,ao=some ⟨g,0,none⟩ ∧ g ∉ L ∧ l.length ≤ cap ∧ ∀ j (hj:j < l.length),∃ c,R w L c l[j] ∧ c.length=k ∧ ∀ i u,c[i]? = some u → w.cell? ⟨g,j * k + i,none⟩ = some u)
theorem ListAt.inL {α:Type} {R:zel α} {w:World} {L:List Nat} {k:Nat} {v:Value} {l:List α} (hk:∀ c x,R w L c x → c.length=k) (h:ListAt R w L v l):ListIn R w L v l k:=by
 obtain ⟨ao,cap,rfl,hr⟩:=h.readL hk
 exact ⟨ao,cap,rfl,fun h0 => by
  obtain ⟨g,h1,h2,h3,h4⟩:=hr h0
  exact ⟨g,h1,h2,h3,fun j hj => by
   obtain ⟨c,h5,h6⟩:=h4 j hj
   exact ⟨c,h5,hk _ _ h5,h6⟩⟩⟩
theorem ListIn.mods {α:Type} {R:zel α} (hR:Rep R) {w w':World} {L:List Nat} {v:Value} {l:List α} {k:Nat} (h:ListIn R w L v l k) (hM:Mods L w w'):ListIn R w' L v l k:=by
 obtain ⟨ao,cap,rfl,h⟩:=h
 exact ⟨ao,cap,rfl,fun h0 => by
  obtain ⟨g,h1,h2,h3,h4⟩:=h h0
  exact ⟨g,h1,h2,h3,fun j hj => by
   obtain ⟨c,h5,h6,h7⟩:=h4 j hj
   exact ⟨c,hR.mods h5 hM,h6,fun i u hi => hM.cell (h7 i u hi) h2⟩⟩⟩
theorem ListIn.weaken {α:Type} {R:zel α} (hR:Rep R) {w:World} {L L':List Nat} (hL:∀ x ∈ L',x ∈ L) {v:Value} {l:List α} {k:Nat} (h:ListIn R w L v l k):ListIn R w L' v l k:=by
 obtain ⟨ao,cap,rfl,h⟩:=h
 exact ⟨ao,cap,rfl,fun h0 => by
  obtain ⟨g,h1,h2,h3,h4⟩:=h h0
  exact ⟨g,h1,fun hm => h2 (hL _ hm),h3,fun j hj => by
   obtain ⟨c,h5,h6,h7⟩:=h4 j hj
   exact ⟨c,hR.weaken hL h5,h6,h7⟩⟩⟩
theorem zio {w:World} {b o:Nat} {u:Value} (h:w.cell? ⟨b,o,none⟩ = some u):b < w.heap.size:=by
 rcases Nat.lt_or_ge b w.heap.size with h1 | h1
 ·exact h1
 ·have:w.heap[b]? = none:=by rw [Array.getElem?_eq_none_iff]; exact h1
  simp [World.cell?,this] at h
theorem ListIn.fresh {α:Type} {R:zel α} (hR:Rep R) {w:World} {L:List Nat} {v:Value} {l:List α} {k g:Nat} (hk:0 < k) (h:ListIn R w L v l k) (hg:w.heap.size ≤ g):ListIn R w (g :: L) v l k:=by
 obtain ⟨ao,cap,rfl,h⟩:=h
 exact ⟨ao,cap,rfl,fun h0 => by
  obtain ⟨b,h1,h2,h3,h4⟩:=h h0;refine ⟨b,h1,fun hm => ?_,h3,fun j hj => ?_⟩
  ·rcases MC hm with rfl | hm
   ·obtain ⟨c,h5,h6,h7⟩:=h4 0 h0;have hc:0 < c.length:=by omega
    have:=zio (h7 0 c[0] (List.getElem?_eq_getElem hc));omega
   ·exact h2 hm
  ·obtain ⟨c,h5,h6,h7⟩:=h4 j hj
   exact ⟨c,hR.fresh hg h5,h6,h7⟩⟩
def QIn (w:World) (L:List Nat) (qb:Nat) (q:zt):Prop:=
 qb ∉ L ∧ ∃ vi von vwh vg vo,w.heap[qb]? = some (.cells (queryC q vi von vwh vg vo).toArray 107 (0,0)) ∧ ListIn ItemR w L vi q.items 2 ∧ OptAt w L von q.on ∧ OptAt w L vwh q.whr ∧ ListIn TreeR w L vg q.group 1 ∧ ListIn KeyR w L vo q.order 4
theorem QueryAt.qin {w:World} {qb:Nat} {q:zt} (h:QueryAt w [] qb q):QIn w [] qb q:=by obtain ⟨vi,von,vwh,vg,vo,h1,h2,h3,h4,h5,h6⟩:=h;exact ⟨by simp,vi,von,vwh,vg,vo,h1,h2.inL itemLen,h3,h4,h5.inL treeLen,h6.inL keyLen⟩
theorem OptAt.fresh {w:World} {L:List Nat} {v:Value} {o:Option Tree} {g:Nat} (h:OptAt w L v o) (hg:w.heap.size ≤ g):OptAt w (g :: L) v o:=by
 cases o with
 | none => exact h
 | some t => obtain ⟨b,rfl,hE⟩:=h; exact ⟨b,rfl,ExprAt.fresh hg hE⟩
theorem QIn.mods {w w':World} {L:List Nat} {qb:Nat} {q:zt} (h:QIn w L qb q) (hM:Mods L w w'):QIn w' L qb q:=by obtain ⟨h0,vi,von,vwh,vg,vo,h1,h2,h3,h4,h5,h6⟩:=h;exact ⟨h0,vi,von,vwh,vg,vo,hM.heap h1 h0,h2.mods itemRep hM,h3.mods hM,h4.mods hM,h5.mods treeRep hM,h6.mods keyRep hM⟩
theorem QIn.fresh {w:World} {L:List Nat} {qb:Nat} {q:zt} {g:Nat} (h:QIn w L qb q) (hg:w.heap.size ≤ g):QIn w (g :: L) qb q:=by
 obtain ⟨h0,vi,von,vwh,vg,vo,h1,h2,h3,h4,h5,h6⟩:=h;refine ⟨fun hm => ?_,vi,von,vwh,vg,vo,h1,h2.fresh itemRep AD hg,h3.fresh hg,h4.fresh hg,h5.fresh treeRep AD hg,h6.fresh keyRep AD hg⟩;rcases MC hm with rfl | hm
 ·have:=zj h1; omega
 ·exact h0 hm
theorem QIn.weaken {w:World} {L L':List Nat} {qb:Nat} {q:zt} (h:QIn w L qb q) (hL:∀ x ∈ L',x ∈ L):QIn w L' qb q:=by obtain ⟨h0,vi,von,vwh,vg,vo,h1,h2,h3,h4,h5,h6⟩:=h;exact ⟨fun hm => h0 (hL _ hm),vi,von,vwh,vg,vo,h1,h2.weaken itemRep hL,h3.weaken hL,h4.weaken hL,h5.weaken treeRep hL,h6.weaken keyRep hL⟩
structure ChkA (wB w:World) (sb rb:Nat) (cv:Value) (mb pos e:Nat) (env:List EC):Prop where
 st:zaX w sb cv mb 0 pos e
 map:EnvMap w (sb :: (cv.ownBlock.toList ++ [rb])) mb env
 row:EnvOwn w cv env
 mods:Mods [sb,mb,rb] wB w
 own:∀ g,cv.ownBlock=some g → wB.heap.size ≤ g
 sbl:sb < wB.heap.size
 mbl:mb < wB.heap.size
 rbl:rb < wB.heap.size
 sne:sb ≠ rb
theorem EnvMap.ne {w:World} {L:List Nat} {mb:Nat} {env:List EC} (h:EnvMap w L mb env):mb ∉ L:=by obtain ⟨es,c,h1,h2,h3⟩:=h; exact h2
section
variable {wB w:World} {sb rb:Nat} {cv:Value} {mb pos e:Nat} {env:List EC}
theorem ChkA.adding (h:ChkA wB w sb rb cv mb pos e env):Adding [rb] (sb :: mb :: cv.ownBlock.toList) w w sb cv mb 0 pos e env:=
 ⟨h.st,h.map,h.row,QM _ _,⟨by simp,by simp,fun g hg => ⟨.inl (by simp [hg]),by have h1:=h.own g hg; have h2:=h.sbl; omega⟩⟩,fun x hx => by
  simp at hx; rw [hx]; exact LL h.rbl h.mods.size⟩
theorem ChkA.rne (h:ChkA wB w sb rb cv mb pos e env):rb ∉ sb :: mb :: cv.ownBlock.toList:=fun hm => by
 have h1:=h.map.ne;rcases MC hm with h2 | hm
 ·exact h.sne h2.symm
 ·rcases MC hm with h2 | hm
  ·exact h1 (by simp [← h2])
  ·have h3:=h.own rb AH; have h4:=h.rbl; omega
theorem ChkA.add (h:ChkA wB w sb rb cv mb pos e env) {w':World} {cv':Value} {pos' e':Nat} {env':List EC} (hA:Adding [rb] (sb :: mb :: cv.ownBlock.toList) w w' sb cv' mb 0 pos' e' env'):ChkA wB w' sb rb cv' mb pos' e' env':=
 ⟨hA.st,hA.map,hA.row,h.mods.trans hA.mods (fun x hx => by
  rcases MC hx with rfl | hx
  ·exact .inl AB
  ·rcases MC hx with rfl | hx
   ·exact .inl AB
   ·exact .inr (h.own x AJ)),fun g hg => by
  obtain ⟨h1,h2⟩:=hA.old.2.2 g hg;rcases h1 with h1 | h1
  ·rcases MC h1 with h3 | h1
   ·exact absurd h3 h2
   ·rcases MC h1 with h3 | h1
    ·exact absurd (show mb ∈ sb :: (cv'.ownBlock.toList ++ [rb]) by simp [hg,h3]) hA.map.ne
    ·exact h.own g (by simpa using h1)
  ·exact Nat.le_trans h.mods.size h1,h.sbl,h.mbl,h.rbl,h.sne⟩
theorem ChkA.put (h:ChkA wB w sb rb cv mb pos e env) {w':World} (hM:Mods [rb] w w'):ChkA wB w' sb rb cv mb pos e env:=
 ⟨hM.heap h.st (by simpa using h.sne),h.map.mods (hM.mono),h.row.mods hM (fun g hg => by have h1:=h.own g hg; have h2:=h.rbl; simp; omega),h.mods.trans hM,h.own,h.sbl,h.mbl,h.rbl,h.sne⟩
theorem ChkA.go (h:ChkA wB w sb rb cv mb pos e env) {w':World} {pos' e':Nat} (hM:Mods [sb] w w') (hS:zaX w' sb cv mb 0 pos' e'):ChkA wB w' sb rb cv mb pos' e' env:=
 ⟨hS,h.map.mods (hM.mono),h.row.mods hM (fun g hg => by have h1:=h.own g hg; have h2:=h.sbl; simp; omega),h.mods.trans hM,h.own,h.sbl,h.mbl,h.rbl,h.sne⟩
theorem ChkA.later (h:ChkA wB w sb rb cv mb pos e env) {w':World} (hM:Mods [] w w'):ChkA wB w' sb rb cv mb pos e env:=h.go (hM.mono) (hM.heap h.st)
theorem ChkA.scope (h:ChkA wB w sb rb cv mb pos e env):Scope w sb cv mb 0 pos e env:=
 ⟨h.st,h.map.weaken AB,h.row.cols fun g hg => by have h1:=h.own g hg; have h2:=h.sbl; simp; omega⟩
theorem ChkA.cols (h:ChkA wB w sb rb cv mb pos e env):EnvCols w [sb,rb] cv env:=h.row.cols fun g hg => by have h1:=h.own g hg; have h2:=h.sbl; have h3:=h.rbl; simp; omega
theorem ChkA.map2 (h:ChkA wB w sb rb cv mb pos e env):EnvMap w [sb,rb] mb env:=h.map.weaken AB
theorem ChkA.two (h:ChkA wB w sb rb cv mb pos e env) {w':World} {pos' e':Nat} (hM:Mods [sb,rb] w w') (hS:zaX w' sb cv mb 0 pos' e'):ChkA wB w' sb rb cv mb pos' e' env:=
 ⟨hS,h.map.mods (hM.mono),h.row.mods hM (fun g hg => by have h1:=h.own g hg; have h2:=h.sbl; have h3:=h.rbl; simp; omega),h.mods.trans hM,h.own,h.sbl,h.mbl,h.rbl,h.sne⟩
end
def itemS (i:za2):Bs:=showT i.e ++ (if i.name=[] then [] else [32,97,115,32] ++ i.name)
def showO:Option Tree → Bs
 | none => [45]
 | some t => showT t
def keyS (k:zfI):Bs:=(if k.name=[] then Lib.itoa k.item else k.name) ++ (if k.desc=true then [45] else [])
def starL (q:zt):List Bs:=if q.star=true then [[42]] else []
def itemsL (q:zt):List Bs:=starL q ++ q.items.map itemS
def t1 (q:zt):List Bs:=[Lib.join (itemsL q) [44,32],[102,114,111,109],q.src]
def t2 (q:zt):List Bs:=t1 q ++ (if q.join=[] then [] else [[106,111,105,110],q.join,[111,110],showO q.on])
def t3 (q:zt):List Bs:=t2 q ++ (match q.whr with | none => [] | some t => [[119,104,101,114,101],showT t])
def headL (w:Bs) (l:List Bs):List Bs:=if l=[] then [] else w :: l
def t4 (q:zt):List Bs:=t3 q ++ headL [103,114,111,117,112] (q.group.map showT)
def t5 (q:zt):List Bs:=t4 q ++ headL [111,114,100,101,114] (q.order.map keyS)
def t6 (q:zt):List Bs:=t5 q ++ (if 0 ≤ q.limit then [[108,105,109,105,116],Lib.itoa q.limit] else [])
def t7 (q:zt):List Bs:=t6 q ++ (if 0 ≤ q.offset then [[111,102,102,115,101,116],Lib.itoa q.offset] else [])
def StrsOwn (w wr:World) (t:Value) (l:List Bs):Prop:=
 Mods [] w wr ∧ wr.ownsRow 0 9 1 t l.length (zcw l) ∧ ∀ g,t.ownBlock=some g → w.heap.size ≤ g
theorem StrsOwn.start (w:World):StrsOwn w w (.slice none 0 0) []:=⟨QM _ _,World.ownsRow_nil _ _ _ _,fun g hg => by cases hg⟩
theorem StrsOwn.quiet {w wr w':World} {t:Value} {l:List Bs} (h:StrsOwn w wr t l) (hM:Mods [] wr w'):StrsOwn w w' t l:=⟨h.1.trans hM,zm h.2.1 hM AB,h.2.2⟩
theorem StrsOwn.push {w wr w':World} {t:Value} {l:List Bs} (h:StrsOwn w wr t l) {l2:List Bs} {g cap m:Nat} (hm:l2.length=m) (hown:w'.ownsRow 0 9 1 (.slice (some ⟨g,0,none⟩) (l.length + m) cap) (l.length + m) (zcw l ++ zcw l2))
  (hM:Mods t.ownBlock.toList wr w') (hg:t.ownBlock=some g ∨ wr.heap.size ≤ g):StrsOwn w w' (.slice (some ⟨g,0,none⟩) (l.length + m) cap) (l ++ l2):=by
 refine ⟨h.1.trans hM (fun x hx => .inr (h.2.2 x AJ)),?_,fun g' hg' => ?_⟩
 ·have e:zcw (l ++ l2)=zcw l ++ zcw l2:=by simp [zcw]
  rw [e,List.length_append,hm]; exact hown
 ·obtain rfl:g=g':=by simpa [Value.ownBlock] using hg'
  rcases hg with h2 | h2
  ·exact h.2.2 g h2
  ·have:=h.1.size; omega
theorem StrsOwn.base {w w1 wr:World} {t:Value} {l:List Bs} (h:StrsOwn w1 wr t l) (hM:Mods [] w w1):StrsOwn w wr t l:=⟨hM.trans h.1,h.2.1,fun g hg => Nat.le_trans hM.size (h.2.2 g hg)⟩
theorem StrsOwn.made (w:World) (l:List Bs) (hl:l.length ≤ 100) (n:Nat) (hn:l.length=n):StrsOwn w (w.alloc (.cells (zcw l).toArray 9)) (.slice (some ⟨w.heap.size,0,none⟩) n n) l:=by
 subst hn
 exact ⟨(QM _ _).alloc _,⟨by rw [ze1]; omega,.inr ⟨_,_,_,rfl,Nat.zero_le _,QN w _,LR _,by unfold maxLen; omega,by simp [ze1],by
  rw [Nat.mul_one,← ze1 l]
  simp⟩⟩,fun g hg => by
  obtain rfl:w.heap.size=g:=by simpa [Value.ownBlock] using hg
  exact LR _⟩
theorem cat2 (a b:Bs):(⟨a.toArray⟩ : ByteArray) ++ ⟨b.toArray⟩ = ⟨(a ++ b).toArray⟩:=by apply ByteArray.ext; apply Array.toList_inj.1; simp [ByteArray.data_append]
theorem zi5 (n:Int) (h0 : -9223372036854775808 ≤ n) (h1:n ≤ 9223372036854775807) (w:World) (hT:Pow w):Calls Tryz.prog 69 #[.int .i64 n] w fun e w' => e = .returned (.string ⟨(Lib.itoa n).toArray⟩) ∧ Mods [] w w':=
 (Tryz.strconv_Itoa n h0 h1 w hT).mono fun e w' he => by obtain ⟨rfl,k,os,rfl⟩:=he;exact ⟨rfl,Mods.of_below (Lib.below_grow w.heap.size w (LR _) k os) (LR _) []⟩
def joinQ (tb:List TblT) (q:zt) (left:Nat):Chk (Option Nat):=if q.join=[] then .ok none else (zbd tb q.join q.joinAt (some left)).bind fun k => .ok (some k)
def zbS (tb:List TblT) (left:Nat) (right:Option Nat):List EC:=zcC tb left ++ (match right with | none => [] | some k => zcC tb k)
section
variable (tb:List TblT) (q:zt)
def ck6 (left:Nat) (right:Option Nat) (on whr:Option NT) (group:List Nat) (x:List (NT × Bs) × Bool):Chk CQ:=
 (za6 (x.1.map (·.1)) (x.1.map (·.2)) q.order).bind fun order => .ok ⟨left,right,on,whr,x.2,group,x.1.map (·.1),x.1.map (·.2),order,q.limit,q.offset⟩
def ck5 (left:Nat) (right:Option Nat) (on whr:Option NT) (group:List Nat):Chk CQ:=(zem q (zbS tb left right) group).bind fun x => ck6 q left right on whr group x
def ck4 (left:Nat) (right:Option Nat) (on whr:Option NT):Chk CQ:=(zbe (zbS tb left right) q.group).bind fun group => ck5 tb q left right on whr group
def ck3 (left:Nat) (right:Option Nat) (on:Option NT):Chk CQ:=(zbB (zbS tb left right) q.whr).bind fun whr => ck4 tb q left right on whr
def ck2 (left:Nat) (right:Option Nat):Chk CQ:=(zbB (zbS tb left right) q.on).bind fun on => ck3 tb q left right on
def ck1 (left:Nat):Chk CQ:=(joinQ tb q left).bind fun right => ck2 tb q left right
theorem ck0:zao tb q=(zbd tb q.src q.srcAt none).bind fun left => ck1 tb q left:=rfl
end
theorem Chk.bad_of {α β:Type} {x:Chk α} {f:α → Chk β} {y:Chk β} {p k:Nat} (hy:y=x.bind f) (h:x = .bad p k):y = .bad p k:=by rw [hy,h]; rfl
theorem Chk.ok_of {α β:Type} {x:Chk α} {f:α → Chk β} {y:Chk β} {a:α} (hy:y=x.bind f) (h:x = .ok a):y=f a:=by rw [hy,h]; rfl
theorem zeA {tb:List TblT} {name:Bs} {pos:Nat} {but:Option Nat} {p e:Nat} (h:zbd tb name pos but = .bad p e):e ≠ 0:=by
 unfold zbd at h;split at h
 ·cases h; decide
 ·split at h
  ·cases h; decide
  ·cases h
def rightV:Option Nat → Int
 | none => -1
 | some k => (k:Nat)
def NameR:zel Bs:=fun w L cs s => cs=[.string ⟨s.toArray⟩]
def KeyCR:zel KeyC:=fun w L cs k => cs=[.int .i64 (k.item:Nat),.bool k.desc]
theorem nameRep:Rep NameR:=⟨fun h _ => h,fun _ h => h,fun _ h => h⟩
theorem keyCRep:Rep KeyCR:=⟨fun h _ => h,fun _ h => h,fun _ h => h⟩
def CheckedAt (w:World) (L:List Nat) (cb:Nat) (c:CQ):Prop:=
 cb ∉ L ∧ ∃ von vwh vg its nms vo,CSt w cb c.left (rightV c.right) von vwh c.grouped vg its nms vo c.limit c.offset ∧ OptN w L von c.on ∧ OptN w L vwh c.whr ∧ GroupAt w L vg c.group ∧ ListIn NodR w L its c.items 1 ∧ ListIn NameR w L nms c.names 1 ∧ ListIn KeyCR w L vo c.order 2
def zeo (w:World) (tb:List TblT) (q:zt) (r:Ending) (w':World):Prop:=
 Mods [] w w' ∧ match zao tb q with
  | .bad p k => r = .returned (.tuple #[.pointer none,.int .i64 (p:Nat),.int .i64 (k:Nat)])
  | .ok c => ∃ cb,r = .returned (.tuple #[zh cb,.int .i64 0,.int .i64 0]) ∧ w.heap.size ≤ cb ∧ c.items.length=c.names.length ∧ ∀ L:List Nat,(∀ x ∈ L,x < w.heap.size) → CheckedAt w' L cb c
def QBlk (wB w:World) (rb:Nat) (q:zt):Prop:=
 ∃ lf rt von vwh gr vg its nms ns ss,CSt w rb lf rt von vwh gr vg its nms (.slice none 0 0) q.limit q.offset ∧ Coll wB w its nms ns ss ∧ ns.length=ss.length
def zc0 (wB:World) (sb rb:Nat) (mb:Nat) (tb:List TblT) (q:zt) (w:World):Prop:=
 ∃ cv env p e,e ≠ 0 ∧ ChkA wB w sb rb cv mb p e env ∧ zao tb q = .bad p e ∧ QBlk wB w rb q
structure Good1 (wB w:World) (sb rb mb:Nat) (tb:List TblT) (q:zt) (gr:Bool) (cv:Value) (left:Nat):Prop where
 eq:zao tb q=ck1 tb q left
 tbl:zbd tb q.src q.srcAt none = .ok left
 ch:ChkA wB w sb rb cv mb 0 0 (zcC tb left)
 st:CSt w rb left (-1) (.pointer none) (.pointer none) gr (.slice none 0 0) (.slice none 0 0) (.slice none 0 0) (.slice none 0 0) q.limit q.offset
structure Good2 (wB w:World) (sb rb mb:Nat) (tb:List TblT) (q:zt) (gr:Bool) (cv:Value) (left:Nat) (right:Option Nat):Prop where
 eq:zao tb q=ck2 tb q left right
 env:zbT (zbS tb left right) ∧ (zbS tb left right).length ≤ 1000
 ch:ChkA wB w sb rb cv mb 0 0 (zbS tb left right)
 st:CSt w rb left (rightV right) (.pointer none) (.pointer none) gr (.slice none 0 0) (.slice none 0 0) (.slice none 0 0) (.slice none 0 0) q.limit q.offset
structure Good3 (wB w:World) (sb rb mb:Nat) (tb:List TblT) (q:zt) (gr:Bool) (cv:Value) (left:Nat) (right:Option Nat) (on:Option NT) (von:Value):Prop where
 eq:zao tb q=ck3 tb q left right on
 env:zbT (zbS tb left right) ∧ (zbS tb left right).length ≤ 1000
 ch:ChkA wB w sb rb cv mb 0 0 (zbS tb left right)
 st:CSt w rb left (rightV right) von (.pointer none) gr (.slice none 0 0) (.slice none 0 0) (.slice none 0 0) (.slice none 0 0) q.limit q.offset
 on:∀ L:List Nat,(∀ x ∈ L,x < wB.heap.size) → OptN w L von on
structure Good4 (wB w:World) (sb rb mb:Nat) (tb:List TblT) (q:zt) (gr:Bool) (cv:Value) (left:Nat) (right:Option Nat) (on whr:Option NT) (von vwh:Value):Prop where
 eq:zao tb q=ck4 tb q left right on whr
 env:zbT (zbS tb left right) ∧ (zbS tb left right).length ≤ 1000
 ch:ChkA wB w sb rb cv mb 0 0 (zbS tb left right)
 st:CSt w rb left (rightV right) von vwh gr (.slice none 0 0) (.slice none 0 0) (.slice none 0 0) (.slice none 0 0) q.limit q.offset
 on:∀ L:List Nat,(∀ x ∈ L,x < wB.heap.size) → OptN w L von on
 whr:∀ L:List Nat,(∀ x ∈ L,x < wB.heap.size) → OptN w L vwh whr
theorem OptN.mods {w w':World} {L:List Nat} {v:Value} {o:Option NT} (h:OptN w L v o) (hM:Mods L w w'):OptN w' L v o:=by
 cases o with
 | none => exact h
 | some n => exact NAt.mods hM h
theorem OptN.weaken {w:World} {L L':List Nat} {v:Value} {o:Option NT} (h:OptN w L v o) (hL:∀ x ∈ L',x ∈ L):OptN w L' v o:=by
 cases o with
 | none => exact h
 | some n => exact NAt.weaken hL h
structure Good5 (wB w:World) (sb rb mb:Nat) (tb:List TblT) (q:zt) (gr:Bool) (cv:Value) (left:Nat) (right:Option Nat) (on whr:Option NT) (von vwh:Value) (group:List Nat) (vg:Value):Prop where
 eq:zao tb q=ck5 tb q left right on whr group
 env:zbT (zbS tb left right) ∧ (zbS tb left right).length ≤ 1000
 ch:ChkA wB w sb rb cv mb 0 0 (zbS tb left right)
 st:CSt w rb left (rightV right) von vwh gr vg (.slice none 0 0) (.slice none 0 0) (.slice none 0 0) q.limit q.offset
 on:∀ L:List Nat,(∀ x ∈ L,x < wB.heap.size) → OptN w L von on
 whr:∀ L:List Nat,(∀ x ∈ L,x < wB.heap.size) → OptN w L vwh whr
 grp:∀ L:List Nat,(∀ x ∈ L,x < wB.heap.size) → GroupAt w L vg group
 len:group.length ≤ 20000
theorem OptN.past {wB w w':World} {sb rb:Nat} {v:Value} {o:Option NT} (h:∀ L:List Nat,(∀ x ∈ L,x < wB.heap.size) → OptN w L v o) (hM:Mods [sb,rb] w w') (hs:sb < wB.heap.size) (hr:rb < wB.heap.size):∀ L:List Nat,(∀ x ∈ L,x < wB.heap.size) → OptN w' L v o:=fun L hL =>
 ((
  h (sb :: rb :: L) (fun x hx => by
  rcases MC hx with rfl | hx
  ·exact hs
  ·rcases MC hx with rfl | hx
   ·exact hr
   ·exact hL x hx)).mods (hM.mono)).weaken (fun x hx => by simp [hx])
structure TbsOk (l:List Tbl):Prop where
 ok:zd4 l=true
 each:∀ t ∈ l,t.ok ∧ ∀ c ∈ t.cols,c.nm.length ≤ 5000 ∧ 0 ≤ c.k ∧ 0 ≤ c.s
 apart:∀ (i j:Nat) (hi:i < l.length) (hj:j < l.length),i ≠ j → ∀ c ∈ l[i].cols,∀ d ∈ l[j].cols,c.nm ≠ d.nm
end Go.Proofs.YtcabeljiobiojaaGreatDoor
