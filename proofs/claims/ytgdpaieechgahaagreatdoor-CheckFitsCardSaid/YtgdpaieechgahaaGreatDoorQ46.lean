/-
  CheckFits, in plain words: an expr's text, its turn, its test. It speaks of no program; no condition.
-/
import Derived.Test.YtgdpaieechgahaaGreatDoorQ45
set_option linter.unusedVariables false
namespace Go.Proofs.YtgdpaieechgahaaGreatDoor
open Go.RowKit
def Chk.val {α:Type}:Chk α → Option α
 | .ok a => some a
 | .bad _ _ => none
theorem zbE {α β:Type} (x:Chk α) (f:α → Chk β):(x.bind f).val=x.val.bind fun a => (f a).val:=by cases x <;> rfl
theorem zft (d:Nat) (h:Hd) (a b:Ty) (mk:NHd → NT):(zcX d { h with pos:=0 } a b mk).val=(zcX d h a b mk).val:=by
 unfold zcX;show Chk.val (match zx h.op a b with | none => _ | some t => _)=_
 cases zx h.op a b with
 | none => rfl
 | some t =>show Chk.val (if aggOpB h.op=true ∧ 0 < d then _ else _)=Chk.val (if aggOpB h.op=true ∧ 0 < d then _ else _);split <;> rfl
theorem zlT (env:List EC) (h:Hd):(zbF env { h with pos:=0 }).val=(zbF env h).val:=by
 unfold zbF;show Chk.val (match zaC env h.table h.name with | [] => _ | [k] => _ | _ => _)=_
 cases zaC env h.table h.name with
 | nil => rfl
 | cons k l => cases l <;> rfl
theorem ziu (h:Hd):zS { h with pos:=0 }=zS h:=rfl
theorem zga (env:List EC):∀ (t:Tree) (d:Nat),(zq env (stripT t) d).val=(zq env t d).val:=by
 intro t
 induction t with
 | leaf h =>
  intro d;unfold stripT zq;rw [ziu]
  cases zS h with
  | some n => rfl
  | none =>
   show Chk.val (if h.op=oColumn then _ else _)=Chk.val (if h.op=oColumn then _ else _);split
   ·rw [zbE,zbE,zlT]
   ·exact zft _ _ _ _ _
 | un h a ih =>intro d;show Chk.val ((zq env (stripT a) (zy d h)).bind _)=Chk.val ((zq env a (zy d h)).bind _);rw [zbE,zbE,ih];congr 1;funext x;exact zft _ _ _ _ _
 | bin h a b iha ihb =>intro d;show Chk.val ((zq env (stripT a) (zy d h)).bind fun x => (zq env (stripT b) (zy d h)).bind _)=Chk.val ((zq env a (zy d h)).bind fun x => (zq env b (zy d h)).bind _);rw [zbE,zbE,iha];congr 1;funext x;rw [zbE,zbE,ihb];congr 1;funext y;exact zft _ _ _ _ _
def noAgg:Tree → Bool
 | .leaf h => !aggOpB h.op
 | .un h a => !aggOpB h.op && noAgg a
 | .bin h a b => !aggOpB h.op && (noAgg a && noAgg b)
theorem zaK {d:Nat} {h:Hd} {a b:Ty} {mk:NHd → NT} (ha:aggOpB h.op=false):zcX d h a b mk=(match zx h.op a b with | none => .bad h.pos 4 | some t => .ok (mk { op:=h.op,t:=t })):=by
 unfold zcX
 cases zx h.op a b with
 | none => rfl
 | some t => show (if aggOpB h.op=true ∧ 0 < d then _ else _)=_; rw [if_neg (by rw [ha]; simp)]
theorem zau {d:Nat} {h:Hd} (ha:aggOpB h.op=false):zy d h=d:=by unfold zy; rw [ha,if_neg (by decide)]
theorem zlU (env:List EC):∀ (t:Tree) (d:Nat),noAgg t=true → zq env t d=zq env t 0:=by
 intro t
 induction t with
 | leaf h =>
  intro d hn;have ha:aggOpB h.op=false:=by simpa [noAgg] using hn
  unfold zq;rw [zaK ha,zaK ha]
 | un h a ih =>
  intro d hn;have h2:=Bool.and_eq_true_iff.1 (show (!aggOpB h.op && noAgg a)=true from hn);have ha:aggOpB h.op=false:=by simpa using h2.1
  show (zq env a (zy d h)).bind _=(zq env a (zy 0 h)).bind _;rw [zau ha,zau ha,ih d h2.2];congr 1;funext x;rw [zaK ha,zaK ha]
 | bin h a b iha ihb =>
  intro d hn;have h2:=Bool.and_eq_true_iff.1 (show (!aggOpB h.op && (noAgg a && noAgg b))=true from hn);have h3:=Bool.and_eq_true_iff.1 h2.2;have ha:aggOpB h.op=false:=by simpa using h2.1
  show ((zq env a (zy d h)).bind fun x => (zq env b (zy d h)).bind _)=((zq env a (zy 0 h)).bind fun x => (zq env b (zy 0 h)).bind _);rw [zau ha,zau ha,iha d h3.1,ihb d h3.2];congr 1;funext x;congr 1;funext y;rw [zaK ha,zaK ha]
theorem ziv {h:Hd} {n:NHd} (hc:zS h=some n):aggOpB n.op=false:=by
 have h1:n.op=oValue:=by
  unfold zS at hc;split at hc
  ·cases hc; rfl
  ·split at hc
   ·cases hc; rfl
   ·split at hc
    ·cases hc; rfl
    ·split at hc
     ·cases hc; rfl
     ·cases hc
 rw [h1]; decide
theorem znr (env:List EC):∀ (t:Tree) (n:NT),noAgg t=true → zq env t 0 = .ok n → hasN n=false:=by
 intro t
 induction t with
 | leaf h =>
  intro n hn he;have ha:aggOpB h.op=false:=by simpa [noAgg] using hn
  unfold zq at he
  cases hc:zS h with
  | some x => rw [hc] at he; cases he; exact ziv hc
  | none =>
   rw [hc] at he;simp only at he;split at he
   ·rename_i ho
    cases hq:zbF env h with
    | bad p k => rw [hq] at he; cases he
    | ok k => rw [hq] at he; cases he; show aggOpB oColumn=false; decide
   ·rw [zaK ha] at he
    cases ht:zx h.op tyNone tyNone with
    | none => rw [ht] at he; cases he
    | some t => rw [ht] at he; cases he; exact ha
 | un h a ih =>
  intro n hn he;have h2:=Bool.and_eq_true_iff.1 (show (!aggOpB h.op && noAgg a)=true from hn);have ha:aggOpB h.op=false:=by simpa using h2.1
  change (zq env a (zy 0 h)).bind _ = .ok n at he;rw [zau ha] at he
  cases hx:zq env a 0 with
  | bad p k => rw [hx] at he; cases he
  | ok x =>
   rw [hx] at he;change zcX 0 h x.hd.t tyNone (fun m => .un m x) = .ok n at he;rw [zaK ha] at he
   cases ht:zx h.op x.hd.t tyNone with
   | none => rw [ht] at he; cases he
   | some t => rw [ht] at he; cases he; show (aggOpB h.op || hasN x)=false; rw [ha,ih x h2.2 hx]; rfl
 | bin h a b iha ihb =>
  intro n hn he;have h2:=Bool.and_eq_true_iff.1 (show (!aggOpB h.op && (noAgg a && noAgg b))=true from hn);have h3:=Bool.and_eq_true_iff.1 h2.2;have ha:aggOpB h.op=false:=by simpa using h2.1
  change ((zq env a (zy 0 h)).bind fun x => (zq env b (zy 0 h)).bind _) = .ok n at he;rw [zau ha] at he
  cases hx:zq env a 0 with
  | bad p k => rw [hx] at he; cases he
  | ok x =>
   rw [hx] at he;change ((zq env b 0).bind _) = .ok n at he
   cases hy:zq env b 0 with
   | bad p k => rw [hy] at he; cases he
   | ok y =>
    rw [hy] at he;change zcX 0 h x.hd.t y.hd.t (fun m => .bin m x y) = .ok n at he;rw [zaK ha] at he
    cases ht:zx h.op x.hd.t y.hd.t with
    | none => rw [ht] at he; cases he
    | some t => rw [ht] at he; cases he; show (aggOpB h.op || (hasN x || hasN y))=false; rw [ha,iha x h3.1 hx,ihb y h3.2 hy]; rfl
theorem ziw (p:zbc):∃ X T,Pr 0 (zb2 p) X T ∧ noAgg T=true:=by
 unfold zb2;split
 ·have h:=zit p.n;have hv:=za0 h.2.1 (by omega);exact ⟨_,_,⟨zgY h.1 h.2.1 hv,fun f _ => zlA _ _ _,⟨_,_,rfl,rfl⟩,h.1,zjf hv (by omega),rfl,zlN h.2.1 (by omega)⟩,rfl⟩
 split
 ·have h:=zit p.n;have k:=zit (p.n % 1000);have hd:∀ x ∈ zdo p.n ++ zdo (p.n % 1000),zC x=true:=fun x hx => by
   rcases List.mem_append.1 hx with hx | hx
   ·exact h.2.1 x hx
   ·exact k.2.1 x hx
  have hv:=za0 hd (by rw [List.length_append]; omega);have e:zdo p.n ++ [46] ++ zdo (p.n % 1000)=zdo p.n ++ 46 :: zdo (p.n % 1000):=by simp
  rw [e];exact ⟨_,_,⟨zf9 h.1 k.1 h.2.1 k.2.1 hv (by omega),fun f _ => zlA _ _ _,⟨_,_,rfl,rfl⟩,by simp,zjf hv (by omega),rfl,zlO h.1 h.2.1 k.2.1 (by omega) (by omega)⟩,rfl⟩
 split
 ·have h:=zow p.s;have e:[39] ++ letV p.s ++ [39]=39 :: (letV p.s ++ [39]):=by simp
  rw [e];exact ⟨_,_,⟨zlP h.1 (by omega),fun f _ => zne _ _,⟨_,_,rfl,rfl⟩,by simp,zlQ (o:=oText) _ rfl (by decide),rfl,znp h.1⟩,rfl⟩
 split
 ·have h3:p.n % 3=0 ∨ p.n % 3=1 ∨ p.n % 3=2:=by omega
  rcases h3 with h | h | h <;> rw [h]
  ·exact ⟨_,_,⟨zas (c:=84) (q:=[82,85,69]) (by decide) (by decide) (by decide),fun f _ => znf _,⟨_,_,rfl,rfl⟩,by decide,by decide +kernel,rfl,zbZ (by decide) (by decide) (by decide) (by decide)⟩,rfl⟩
  ·exact ⟨_,_,⟨zas (c:=102) (q:=[97,108,115,101]) (by decide) (by decide) (by decide),fun f _ => zlB _,⟨_,_,rfl,rfl⟩,by decide,by decide +kernel,rfl,zbZ (by decide) (by decide) (by decide) (by decide)⟩,rfl⟩
  ·exact ⟨_,_,⟨zas (c:=78) (q:=[85,76,76]) (by decide) (by decide) (by decide),fun f _ => zng _,⟨_,_,rfl,rfl⟩,by decide,zcp _ (by decide) (by decide) (by decide),rfl,zbZ (by decide) (by decide) (by decide) (by decide)⟩,rfl⟩
 ·have h:p.n % 14 < 14:=Nat.mod_lt _ (by decide);refine ⟨_,_,⟨znM h,fun f _ => znN h _,zlI h _,(zdI h).2,by rw [zlJ h]; exact (zdI h).2,zoU h,znP h⟩,?_⟩;unfold wdE;split <;> rfl
theorem zns {j:Nat} (h:j < 12):aggOpB ((opN j).s.map zb5)=false:=by rcases op12 h with rfl | rfl | rfl | rfl | rfl | rfl | rfl | rfl | rfl | rfl | rfl | rfl <;> rfl
theorem znt {d:Nat} {s:Bs} {p:zbc} (h:∃ X T,Ex d s X T ∧ noAgg T=true):∃ X T,Ex (d + 2) (zfB s p) X T ∧ noAgg T=true:=by
 obtain ⟨X,T,h,hT⟩:=h;obtain ⟨Z,U,ha,hU⟩:=ziw p;have hb:=h.brk;have hbin:∀ {j:Nat} (hj:j < 12) (A B:Tree),noAgg A=true → noAgg B=true → noAgg (.bin { op:=(opN j).s.map zb5,pos:=0 } A B)=true:=fun hj A B h1 h2 => by show (!aggOpB _ && (noAgg A && noAgg B))=true;rw [zns hj,h1,h2]; rfl
 unfold zfB;split
 ·exact ⟨_,_,(Pr.op (Nat.mod_lt _ (by decide)) hb (ha.mono (by omega))).mono (by omega),hbin (Nat.mod_lt _ (by decide)) _ _ hT hU⟩
 split
 ·exact ⟨_,_,(Pr.op (Nat.mod_lt _ (by decide)) (ha.mono (by omega)) hb).mono (by omega),hbin (Nat.mod_lt _ (by decide)) _ _ hU hT⟩
 split
 ·exact ⟨_,_,hb.notx,by show (!aggOpB oNot && noAgg T)=true; rw [hT]; rfl⟩
 split
 ·exact ⟨_,_,hb.negx,by show (!aggOpB oNeg && noAgg T)=true; rw [hT]; rfl⟩
 split
 ·exact ⟨_,_,hb.isnull.mono (by omega),by show (!aggOpB oIs && noAgg T)=true; rw [hT]; rfl⟩
 split
 ·exact ⟨_,_,hb.notnull.mono (by omega),by show (!aggOpB oIsNot && noAgg T)=true; rw [hT]; rfl⟩
 ·exact ⟨_,_,(Pr.op (j:=p.n % 4) (by omega) hb (ha.mono (by omega))).mono (by omega),hbin (j:=p.n % 4) (by omega) _ _ hT hU⟩
theorem znu (l:List zbc):∀ i,∃ X T,Ex (2 * i) (zaS l i) X T ∧ noAgg T=true:=by
 intro i
 induction i with
 | zero =>
  unfold zaS
  cases l with
  | nil =>obtain ⟨X,T,h,hT⟩:=ziw ⟨0,1,[]⟩;exact ⟨X,T,h.ex,hT⟩
  | cons p l =>obtain ⟨X,T,h,hT⟩:=ziw p;exact ⟨X,T,h.ex,hT⟩
 | succ i ih =>
  unfold zaS;split
  ·obtain ⟨X,T,h,hT⟩:=ih;exact ⟨X,T,h.mono (by omega),hT⟩
  ·rename_i p _
   obtain ⟨X,T,h,hT⟩:=znt ih (p:=p);exact ⟨X,T,h.mono (by omega),hT⟩
theorem znv (l:List zbc):∃ X T,Ex 22 (zc8 l) X T ∧ noAgg T=true:=znu l 11
def fromJ:Bs:=[32,70,82,79,77,32,116,32,74,79,73,78,32,117,32,79,78,32]
def joinX (X Z:List TokC):List TokC:=[⟨1,wSelect,0,0⟩] ++ X ++ ([⟨1,wFrom,0,0⟩,⟨2,[116],0,0⟩,⟨1,wJoin,0,0⟩,⟨2,[117],0,0⟩,⟨1,wOn,0,0⟩] ++ Z)
theorem lex_fromJ:LexAny fromJ [⟨1,wFrom,0,0⟩,⟨2,[116],0,0⟩,⟨1,wJoin,0,0⟩,⟨2,[117],0,0⟩,⟨1,wOn,0,0⟩]:=by have w1:LexStop [70,82,79,77] [⟨1,wFrom,0,0⟩]:=zas (by decide) (by decide) (by decide);have w2:LexStop [116] [⟨2,[116],0,0⟩]:=zbN (by decide) (by decide) (by decide) (by decide);have w3:LexStop [74,79,73,78] [⟨1,wJoin,0,0⟩]:=zas (by decide) (by decide) (by decide);have w4:LexStop [117] [⟨2,[117],0,0⟩]:=zbN (by decide) (by decide) (by decide) (by decide);have w5:LexStop [79,78] [⟨1,wOn,0,0⟩]:=zas (by decide) (by decide) (by decide);have sp:∀ {a:Bs} {X:List TokC},LexStop a X → LexAny (a ++ [32]) (X ++ []):=fun h => h.app lex_sp (.inr ⟨32,[],rfl,.inl (by decide)⟩) (by decide);have h:=lex_sp.app ((sp w1).app ((sp w2).app ((sp w3).app ((sp w4).app (sp w5)))));exact h
theorem znw {l m:Bs} {X Z:List TokC} (h:LexStop l X) (k:LexStop m Z):LexStop (selS ++ l ++ fromJ ++ m) (joinX X Z):=by
 have h1:LexStop [83,69,76,69,67,84] [⟨1,wSelect,0,0⟩]:=zas (by decide) (by decide) (by decide);have h2:LexAny ([83,69,76,69,67,84] ++ [32]) ([⟨1,wSelect,0,0⟩] ++ []):=h1.app lex_sp (.inr ⟨32,[],rfl,.inl (by decide)⟩) (by decide);have h6:=lex_fromJ.appS k;have h7:=(h2.appS h).appS h6 (.inr ⟨32,_,rfl,.inl (by decide)⟩) (by simp [fromJ]);have e1:selS ++ l ++ fromJ ++ m=[83,69,76,69,67,84] ++ [32] ++ l ++ (fromJ ++ m):=by simp [selS]
 have e2:joinX X Z=[⟨1,wSelect,0,0⟩] ++ [] ++ X ++ ([⟨1,wFrom,0,0⟩,⟨2,[116],0,0⟩,⟨1,wJoin,0,0⟩,⟨2,[117],0,0⟩,⟨1,wOn,0,0⟩] ++ Z):=by simp [joinX]
 rw [e1,e2];exact h7
theorem zj2 (E:PF) {x:TokC} {X' Y:List Tok} {t u:Tree} {a b c d e f g z:Nat} (hx:isC x [wStar]=false)
  (e1:E ⟨x.put b :: X',0,0⟩ = (t,⟨(⟨1,wFrom,0,0⟩ : TokC).put c :: (⟨2,[116],0,0⟩ : TokC).put d :: (⟨1,wJoin,0,0⟩ : TokC).put e :: (⟨2,[117],0,0⟩ : TokC).put f :: (⟨1,wOn,0,0⟩ : TokC).put g :: Y,0,0⟩))
  (e2:E ⟨Y,0,0⟩ = (u,⟨[(⟨0,z,[],0,0⟩ : Tok),(⟨0,z,[],0,0⟩ : Tok)],0,0⟩)) :
  zcz E ⟨(⟨1,wSelect,0,0⟩ : TokC).put a :: x.put b :: X',0,0⟩ = ({ items:=[⟨t,[]⟩],src:=[116],srcAt:=d,join:=[117],joinAt:=f,on:=some u },⟨[(⟨0,z,[],0,0⟩ : Tok),(⟨0,z,[],0,0⟩ : Tok)],0,0⟩):=by
 have hli:zad (zbv E) ⟨x.put b :: X',0,0⟩ = ([⟨t,[]⟩],⟨(⟨1,wFrom,0,0⟩ : TokC).put c :: (⟨2,[116],0,0⟩ : TokC).put d :: (⟨1,wJoin,0,0⟩ : TokC).put e :: (⟨2,[117],0,0⟩ : TokC).put f :: (⟨1,wOn,0,0⟩ : TokC).put g :: Y,0,0⟩):=by
  have hit:zbv E ⟨x.put b :: X',0,0⟩ = (⟨t,[]⟩,⟨(⟨1,wFrom,0,0⟩ : TokC).put c :: (⟨2,[116],0,0⟩ : TokC).put d :: (⟨1,wJoin,0,0⟩ : TokC).put e :: (⟨2,[117],0,0⟩ : TokC).put f :: (⟨1,wOn,0,0⟩ : TokC).put g :: Y,0,0⟩):=by unfold zbv;rw [e1];rfl
  unfold zad;rw [hit];rfl
 have hq1:q1 E ⟨(⟨1,wSelect,0,0⟩ : TokC).put a :: x.put b :: X',0,0⟩ = ({ items:=[⟨t,[]⟩] },⟨(⟨1,wFrom,0,0⟩ : TokC).put c :: (⟨2,[116],0,0⟩ : TokC).put d :: (⟨1,wJoin,0,0⟩ : TokC).put e :: (⟨2,[117],0,0⟩ : TokC).put f :: (⟨1,wOn,0,0⟩ : TokC).put g :: Y,0,0⟩):=by have ht:(⟨x.put b :: X',0,0⟩ : PS).takes wStar=(false,⟨x.put b :: X',0,0⟩):=zdH (show okB [wStar] (x.put b :: X') from hx);unfold q1;rw [zcd (by decide)];simp only [ht,hli];rfl
 show q8 (q7 (q6 (q5 (q4 E (q3 E (q2 (q1 E _)))))))=_;rw [hq1];have h2:q2 ({ items:=[⟨t,[]⟩] },⟨(⟨1,wFrom,0,0⟩ : TokC).put c :: (⟨2,[116],0,0⟩ : TokC).put d :: (⟨1,wJoin,0,0⟩ : TokC).put e :: (⟨2,[117],0,0⟩ : TokC).put f :: (⟨1,wOn,0,0⟩ : TokC).put g :: Y,0,0⟩)=({ items:=[⟨t,[]⟩],src:=[116],srcAt:=d },⟨(⟨1,wJoin,0,0⟩ : TokC).put e :: (⟨2,[117],0,0⟩ : TokC).put f :: (⟨1,wOn,0,0⟩ : TokC).put g :: Y,0,0⟩):=by unfold q2;simp only;rw [zcd (by decide),zgV];rfl
 rw [h2];have h3:q3 E ({ items:=[⟨t,[]⟩],src:=[116],srcAt:=d },⟨(⟨1,wJoin,0,0⟩ : TokC).put e :: (⟨2,[117],0,0⟩ : TokC).put f :: (⟨1,wOn,0,0⟩ : TokC).put g :: Y,0,0⟩)=({ items:=[⟨t,[]⟩],src:=[116],srcAt:=d,join:=[117],joinAt:=f,on:=some u },⟨[(⟨0,z,[],0,0⟩ : Tok),(⟨0,z,[],0,0⟩ : Tok)],0,0⟩):=by have hk:(⟨(⟨1,wJoin,0,0⟩ : TokC).put e :: (⟨2,[117],0,0⟩ : TokC).put f :: (⟨1,wOn,0,0⟩ : TokC).put g :: Y,0,0⟩ : PS).takes wJoin=(true,⟨(⟨2,[117],0,0⟩ : TokC).put f :: (⟨1,wOn,0,0⟩ : TokC).put g :: Y,0,0⟩):=zlz (by decide);unfold q3;simp only [hk];simp only [if_true,zgV];rw [zcd (by decide),e2];rfl
 rw [h3];obtain ⟨Z,hZ⟩:=EX ([(⟨0,z,[],0,0⟩ : Tok),(⟨0,z,[],0,0⟩ : Tok)]:List Tok);have hk:∀ w,(⟨Z,0,0⟩ : PS).takes w=(false,⟨Z,0,0⟩):=fun w => zdH (by rw [← hZ]; rfl);rw [hZ];generalize ({ items:=[⟨t,[]⟩],src:=[116],srcAt:=d,join:=[117],joinAt:=f,on:=some u }:zt)=Q;have h4:q4 E (Q,⟨Z,0,0⟩)=(Q,⟨Z,0,0⟩):=by unfold q4; simp only [hk]; rfl
 have h5:q5 (Q,⟨Z,0,0⟩)=(Q,⟨Z,0,0⟩):=by unfold q5; simp only [hk]; rfl
 have h6:q6 (Q,⟨Z,0,0⟩)=(Q,⟨Z,0,0⟩):=by unfold q6; simp only [hk]; rfl
 have h7:q7 (Q,⟨Z,0,0⟩)=(Q,⟨Z,0,0⟩):=by unfold q7; simp only [hk]; rfl
 have h8:q8 (Q,⟨Z,0,0⟩)=(Q,⟨Z,0,0⟩):=by unfold q8; simp only [hk]; rfl
 rw [h4,h5,h6,h7,h8]
theorem zj3 {l m:Bs} {X Z:List TokC} {T U:Tree} (h:LexStop l X) (hp:Par (zdO (subOf 64)) bE X T) (hh:hdB [wStar] X) (hl:l.length ≤ 3000) (k:LexStop m Z) (kp:Par (zdO (subOf 64)) bE Z U) (km:m.length ≤ 1000) :
  ∃ t u d f,zaj (selS ++ l ++ fromJ ++ m) = .good { items:=[⟨t,[]⟩],src:=[116],srcAt:=d,join:=[117],joinAt:=f,on:=some u } ∧ stripT t=T ∧ stripT u=U:=by
 obtain ⟨Y0,z,h1,h2⟩:=zos (znw h k);obtain ⟨Y1,Y2,rfl,h3,h4⟩:=zbz h2;obtain ⟨Ya,Yb,rfl,h5,h6⟩:=zbz h3;obtain ⟨q1',Yc,rfl,h7⟩:=zH h5;obtain rfl:=zaQ h7;obtain ⟨Yd,Ye,rfl,h8,h9⟩:=zbz h4;obtain ⟨c,Yf,rfl,h10⟩:=zH h8;obtain ⟨d,Yg,rfl,h11⟩:=zH h10;obtain ⟨e,Yh,rfl,h12⟩:=zH h11;obtain ⟨f,Yi,rfl,h13⟩:=zH h12;obtain ⟨g,Yj,rfl,h14⟩:=zH h13;obtain rfl:=zaQ h14;have hE:zdO (subOf 64)=(lvl 64).expr:=by rw [zfP]; rfl
 obtain ⟨t,e1,e2⟩:=hp Yb ((⟨1,wFrom,0,0⟩ : TokC).put c :: (⟨2,[116],0,0⟩ : TokC).put d :: (⟨1,wJoin,0,0⟩ : TokC).put e :: (⟨2,[117],0,0⟩ : TokC).put f :: (⟨1,wOn,0,0⟩ : TokC).put g :: (Ye ++ [(⟨0,z,[],0,0⟩ : Tok),(⟨0,z,[],0,0⟩ : Tok)])) 0 h6 (show isC (⟨1,wFrom,0,0⟩ : TokC) bE=false by decide);obtain ⟨u,e3,e4⟩:=kp Ye [(⟨0,z,[],0,0⟩ : Tok),(⟨0,z,[],0,0⟩ : Tok)] 0 h9 zoR;rw [hE] at e1 e3;have hsz:¬ 4096 < (selS ++ l ++ fromJ ++ m).length:=by simp only [List.length_append,selS,fromJ,List.length_cons,List.length_nil];omega
 obtain ⟨x,X',rfl,hx⟩:=hh;obtain ⟨b,Yk,rfl,h15⟩:=zH h6;obtain ⟨TS,hTS⟩:=EX ([(⟨1,wSelect,0,0⟩ : TokC).put q1'] ++ (x.put b :: Yk) ++ ([(⟨1,wFrom,0,0⟩ : TokC).put c,(⟨2,[116],0,0⟩ : TokC).put d,(⟨1,wJoin,0,0⟩ : TokC).put e,(⟨2,[117],0,0⟩ : TokC).put f,(⟨1,wOn,0,0⟩ : TokC).put g] ++ Ye) ++ [(⟨0,z,[],0,0⟩ : Tok)]);have hps:zaj (selS ++ l ++ fromJ ++ m)=zeF TS:=by unfold zaj;rw [if_neg hsz];unfold zcg;rw [h1,← hTS]
 have hrest:TS ++ TS.drop (TS.length - 1)=(⟨1,wSelect,0,0⟩ : TokC).put q1' :: x.put b :: (Yk ++ (⟨1,wFrom,0,0⟩ : TokC).put c :: (⟨2,[116],0,0⟩ : TokC).put d :: (⟨1,wJoin,0,0⟩ : TokC).put e :: (⟨2,[117],0,0⟩ : TokC).put f :: (⟨1,wOn,0,0⟩ : TokC).put g :: (Ye ++ [(⟨0,z,[],0,0⟩ : Tok),(⟨0,z,[],0,0⟩ : Tok)])):=by
  have hd:∀ (A:List Tok) (b:Tok),(A ++ [b]).drop ((A ++ [b]).length - 1)=[b]:=fun A b => by simp
  rw [← hTS,hd];simp
 rw [List.cons_append] at e1;have hqf:=zj2 (lvl 64).expr (a:=q1') hx e1 e3;refine ⟨t,u,d,f,?_,e2,e4⟩;rw [hps];unfold zeF;rw [hrest];simp only;rw [hqf];rfl
def E2:List EC:=[⟨[116],[97],tyInt⟩,⟨[116],[98],⟨2,2⟩⟩,⟨[116],[99],tyBytes⟩,⟨[116],[100],tyBool⟩,⟨[117],[120],tyInt⟩,⟨[117],[121],⟨2,1⟩⟩,⟨[117],[122],tyBytes⟩]
theorem zoX {i:Nat} (h:i < 14):Pr 0 (wdL i) (wdT (wdL i)) (wdE (wdL i)):=⟨znM h,fun f _ => znN h _,zlI h _,(zdI h).2,by rw [zlJ h]; exact (zdI h).2,zoU h,znP h⟩
def onT:Tree:=.bin { op:=[61],pos:=0 } (.leaf { op:=oColumn,pos:=0,table:=[116],name:=[97] }) (.leaf { op:=oColumn,pos:=0,table:=[117],name:=[120] })
theorem zpd:∃ Z,Ex 0 [116,46,97,32,61,32,117,46,120] Z onT:=⟨_,Pr.op (j:=4) (by decide) (zoX (i:=6) (by decide)) (zoX (i:=8) (by decide))⟩
def onN:NT:=.bin { op:=[61],t:=tyBool } (.leaf { op:=oColumn,t:=tyInt,col:=0 }) (.leaf { op:=oColumn,t:=tyInt,col:=4 })
theorem zoY:(zq E2 onT 0).val=some onN:=by rfl
def zd7 (c:CQ):Option Ty:=match c.items with
 | [n] => some n.hd.t
 | _ => none
theorem zd3 (r:Chk CQ):zd6 (some r)=r.val.bind zd7:=by cases r <;> rfl
theorem zoZ {α:Type} {r:Chk α} {a:α} (h:r.val=some a):r = .ok a:=by
 cases r with
 | ok b => cases h; rfl
 | bad p k => cases h
def qJ (t u:Tree) (d f:Nat):zt:={ items:=[⟨t,[]⟩],src:=[116],srcAt:=d,join:=[117],joinAt:=f,on:=some u }
theorem zoy (t u:Tree) (d f:Nat):zao tblsL (qJ t u d f)=(zbB E2 (some u)).bind fun on => (zem (qJ t u d f) E2 []).bind fun x => .ok ⟨0,some 1,on,none,x.2,[],x.1.map (·.1),x.1.map (·.2),[],-1,-1⟩:=rfl
theorem zpe (t u:Tree) (d f:Nat):zem (qJ t u d f) E2 []=(zq E2 t 0).bind fun n => if hasN n=true then (if aggOpB n.hd.op=false then .bad t.hd.pos 4 else .ok ([(n,zfz E2 0 ⟨t,[]⟩ n)],true)) else .ok ([(n,zfz E2 0 ⟨t,[]⟩ n)],false):=by
 unfold zem;show ((zq E2 t 0).bind _).bind _=_
 cases zq E2 t 0 with
 | bad p k => rfl
 | ok n =>
  show (if (decide (0 < ([]:List Tree).length) || ((hasN n) || false))=true then _ else _)=if hasN n=true then _ else _
  cases hasN n with
  | false => rfl
  | true =>
   show (Chk.bind (if aggOpB n.hd.op=false ∧ (n.hd.op ≠ oColumn ∨ n.hd.col ∉ ([]:List Nat)) then _ else _) _)=(if aggOpB n.hd.op=false then _ else _)
   cases aggOpB n.hd.op with
   | false => rw [if_pos ⟨rfl,.inr (by simp)⟩,if_pos rfl]; rfl
   | true => rw [if_neg (by simp),if_neg (by simp)]; rfl
def outT (n:NT):Option Ty:=if hasN n=true ∧ aggOpB n.hd.op=false then none else some n.hd.t
theorem zhH {l:Bs} {X:List TokC} {T:Tree} (h1:LexStop l X) (h2:Par (zdO (subOf 64)) bE X T) (h3:hdB [wStar] X) (hl:l.length ≤ 3000):zaR l=(zq E2 T 0).val.bind outT:=by
 obtain ⟨Z,hon⟩:=zpd;obtain ⟨t,u,a,b,hp,ht,hu⟩:=zj3 h1 h2 h3 hl hon.lex (hon.par 64 (by omega)) (by decide);have he:selS ++ l ++ joinT=selS ++ l ++ fromJ ++ [116,46,97,32,61,32,117,46,120]:=by rw [show joinT=fromJ ++ [116,46,97,32,61,32,117,46,120] from rfl,List.append_assoc (selS ++ l)]
 have hc:(zbB E2 (some u)) = .ok (some onN):=by apply zoZ;show ((zq E2 u 0).bind _).val=_;rw [zbE,← zga,hu,zoY];rfl
 unfold zaR zaI;rw [he,hp];show zd6 (some (zao tblsL (qJ t u a b)))=_;rw [zd3,zoy,hc];show (Chk.val ((zem (qJ t u a b) E2 []).bind _)).bind zd7=_;rw [zpe,← ht,zga]
 cases zq E2 t 0 with
 | bad p k => rfl
 | ok n =>
  show (Chk.val (Chk.bind (if hasN n=true then _ else _) _)).bind zd7=outT n;unfold outT
  cases hasN n with
  | false => rfl
  | true =>cases aggOpB n.hd.op <;> rfl
theorem znx {l:Bs} {X:List TokC} {T:Tree} {d:Nat} (h:Ex d l X T) (hd:d ≤ 64) (hl:l.length ≤ 3000):zaR l=(zq E2 T 0).val.bind outT:=zhH h.lex (h.par 64 hd) h.head hl
def tyE (T:Tree):Option Ty:=(zq E2 T 0).val.map (·.hd.t)
theorem zbP {l:Bs} {X:List TokC} {T:Tree} {d:Nat} (h:Ex d l X T) (hn:noAgg T=true) (hd:d ≤ 64) (hl:l.length ≤ 3000):zaR l=tyE T:=by
 rw [znx h hd hl];unfold tyE
 cases he:zq E2 T 0 with
 | bad p k => rfl
 | ok n =>show outT n=some n.hd.t;unfold outT;rw [znr E2 T n hn he,if_neg (by simp)]
theorem zoz {op:Bs} {T:Tree} (ha:aggOpB op=false):tyE (.un { op:=op,pos:=0 } T)=(tyE T).bind fun a => zx op a tyNone:=by
 unfold tyE;show (Chk.val ((zq E2 T (zy 0 { op:=op,pos:=0 })).bind _)).map _=_;rw [zau (h:={ op:=op,pos:=0 }) ha]
 cases zq E2 T 0 with
 | bad p k => rfl
 | ok x =>show Option.map (fun m:NT => m.hd.t) (Chk.val (zcX 0 { op:=op,pos:=0 } x.hd.t tyNone (fun m => .un m x)))=zx op x.hd.t tyNone;rw [zaK (h:={ op:=op,pos:=0 }) ha];show Option.map (fun m:NT => m.hd.t) (Chk.val (match zx op x.hd.t tyNone with | none => .bad 0 4 | some t => .ok (.un { op:=op,t:=t } x)))=_;cases zx op x.hd.t tyNone <;> rfl
theorem zo0 {op:Bs} {T U:Tree} (ha:aggOpB op=false):tyE (.bin { op:=op,pos:=0 } T U)=(tyE T).bind fun a => (tyE U).bind fun b => zx op a b:=by
 unfold tyE;show (Chk.val ((zq E2 T (zy 0 { op:=op,pos:=0 })).bind fun x => (zq E2 U (zy 0 { op:=op,pos:=0 })).bind _)).map _=_;rw [zau (h:={ op:=op,pos:=0 }) ha]
 cases zq E2 T 0 with
 | bad p k => rfl
 | ok x =>
  cases zq E2 U 0 with
  | bad p k => rfl
  | ok y =>show Option.map (fun m:NT => m.hd.t) (Chk.val (zcX 0 { op:=op,pos:=0 } x.hd.t y.hd.t (fun m => .bin m x y)))=zx op x.hd.t y.hd.t;rw [zaK (h:={ op:=op,pos:=0 }) ha];show Option.map (fun m:NT => m.hd.t) (Chk.val (match zx op x.hd.t y.hd.t with | none => .bad 0 4 | some t => .ok (.bin { op:=op,t:=t } x y)))=_;cases zx op x.hd.t y.hd.t <;> rfl
theorem zlV {L:Lvl} {X:List TokC} {T:Tree} (h:Par L.expr bE X T) (hh:hdB [wStar] X):Par (zo (some L)) bP ([⟨1,wCount,0,0⟩,⟨5,wOpen,0,0⟩] ++ X ++ [⟨5,wShut,0,0⟩]) (.un { op:=oCount,pos:=0 } T):=by
 intro Y r p hY hr;obtain ⟨Y1,Y2,rfl,h1,h2⟩:=zbz hY;obtain ⟨Ya,Yb,rfl,h3,h4⟩:=zbz h1;obtain ⟨a,Yc,rfl,h5⟩:=zH h3;obtain ⟨b,Yd,rfl,h6⟩:=zH h5;obtain rfl:=zaQ h6;obtain ⟨c,Ye,rfl,h7⟩:=zH h2;obtain rfl:=zaQ h7;obtain ⟨t,e1,e2⟩:=h Yb ((⟨5,wShut,0,0⟩ : TokC).put c :: r) p h4 zjb;obtain ⟨x,X',rfl,hx⟩:=hh;obtain ⟨d,Yf,rfl,h8⟩:=zH h4;refine ⟨.un { op:=oCount,pos:=a } t,?_,by show Tree.un _ (stripT t)=_; rw [e2]⟩;have hst:(⟨x.put d :: Yf ++ (⟨5,wShut,0,0⟩ : TokC).put c :: r,p,0⟩ : PS).takes wStar=(false,⟨x.put d :: Yf ++ (⟨5,wShut,0,0⟩ : TokC).put c :: r,p,0⟩):=zdH (show isC x [wStar]=false from hx);have hw:(⟨(⟨5,wOpen,0,0⟩ : TokC).put b :: (x.put d :: Yf ++ (⟨5,wShut,0,0⟩ : TokC).put c :: r),p,0⟩ : PS).wants [wOpen] = ⟨x.put d :: Yf ++ (⟨5,wShut,0,0⟩ : TokC).put c :: r,p,0⟩:=zcd (by decide);have hpr:zo (some L) ⟨(⟨1,wCount,0,0⟩ : TokC).put a :: (⟨5,wOpen,0,0⟩ : TokC).put b :: (x.put d :: Yf ++ (⟨5,wShut,0,0⟩ : TokC).put c :: r),p,0⟩ = zK (some L) ⟨(⟨1,wCount,0,0⟩ : TokC).put a :: (⟨5,wOpen,0,0⟩ : TokC).put b :: (x.put d :: Yf ++ (⟨5,wShut,0,0⟩ : TokC).put c :: r),p,0⟩:=rfl;have hl:([(⟨1,wCount,0,0⟩ : TokC).put a,(⟨5,wOpen,0,0⟩ : TokC).put b] ++ x.put d :: Yf ++ [(⟨5,wShut,0,0⟩ : TokC).put c]) ++ r=(⟨1,wCount,0,0⟩ : TokC).put a :: (⟨5,wOpen,0,0⟩ : TokC).put b :: (x.put d :: Yf ++ (⟨5,wShut,0,0⟩ : TokC).put c :: r):=by simp
 rw [hl,hpr];unfold zK inF;have hlow:(PS.now ⟨(⟨1,wCount,0,0⟩ : TokC).put a :: (⟨5,wOpen,0,0⟩ : TokC).put b :: (x.put d :: Yf ++ (⟨5,wShut,0,0⟩ : TokC).put c :: r),p,0⟩).s.map zb5=oCount:=(show wCount.map zb5=oCount by decide);have hnx:PS.next ⟨(⟨1,wCount,0,0⟩ : TokC).put a :: (⟨5,wOpen,0,0⟩ : TokC).put b :: (x.put d :: Yf ++ (⟨5,wShut,0,0⟩ : TokC).put c :: r),p,0⟩ = ⟨(⟨5,wOpen,0,0⟩ : TokC).put b :: (x.put d :: Yf ++ (⟨5,wShut,0,0⟩ : TokC).put c :: r),p,0⟩:=rfl;have hps:(PS.now ⟨(⟨1,wCount,0,0⟩ : TokC).put a :: (⟨5,wOpen,0,0⟩ : TokC).put b :: (x.put d :: Yf ++ (⟨5,wShut,0,0⟩ : TokC).put c :: r),p,0⟩).pos=a:=rfl;simp only [hlow,hnx,hw,hst,hps,if_true];rw [if_neg (by simp)];simp only [e1];rw [zcd (by decide)]
theorem zlW {d:Nat} {e:Bs} {X:List TokC} {T:Tree} (h:Ex d e X T):LexStop ([67,79,85,78,84] ++ brk e) ([⟨1,wCount,0,0⟩,⟨5,wOpen,0,0⟩] ++ X ++ [⟨5,wShut,0,0⟩]):=by
 have h1:=(lex_open1.appS h.lex).app zhG (zfr _) (by simp);intro r p hr;have hk:zc3 (([67,79,85,78,84]:Bs) ++ (brk e ++ r))=some (⟨1,wCount,0,0⟩,5):=by
  have e1:([67,79,85,78,84]:Bs) ++ (brk e ++ r)=67 :: 79 :: 85 :: 78 :: 84 :: 40 :: (e ++ ([41] ++ r)):=by simp [brk]
  rw [e1];rfl
 obtain ⟨us,a1,a2,a3⟩:=zby (c:=67) (q:=[79,85,78,84]) (r:=brk e ++ r) (p:=p) (by decide) hk;obtain ⟨vs,b1,b2,b3⟩:=h1 r (p + 5);have hh:=zd2 (a:=[67,79,85,78,84]) (b:=brk e) (ts:=[⟨1,wCount,0,0⟩]) (us:=[⟨5,wOpen,0,0⟩] ++ X ++ [⟨5,wShut,0,0⟩]) (r:=r) (p:=p) ⟨us,a1,a2,a3⟩ ⟨vs,b1,by simpa [brk] using b2,by simpa [brk] using b3⟩;exact hh
theorem zj4 {s:Bs} {X:List TokC} {T:Tree} {d:Nat} (h:Pr d s X T) (hd:d ≤ 60) (hn:noAgg T=true) (hl:s.length ≤ 1000) :
  zaR s=tyE T ∧ zaR (s ++ [32,73,83,32,78,85,76,76])=(tyE T).map (fun _ => tyBool) ∧ zaR (s ++ [32,61,32] ++ s)=(tyE T).map (fun _ => tyBool) ∧ zaR ([78,79,84,32] ++ s)=(tyE T).bind (fun a => if a=tyBool then some tyBool else none) ∧ zaR ([45,32] ++ s)=(tyE T).bind (fun a => if a.num=true then some a else none):=by
 refine ⟨zbP h.ex hn (by omega) (by omega),?_,?_,?_,?_⟩
 ·rw [zbP h.isnull (by show (!aggOpB oIs && noAgg T)=true; rw [hn]; rfl) (by omega) (by rw [List.length_append]; simp; omega),zoz (by decide)];cases tyE T <;> rfl
 ·show zaR (s ++ opS 4 ++ s)=_;rw [zbP (Pr.op (j:=4) (by decide) h h) (by show (!aggOpB _ && (noAgg T && noAgg T))=true; rw [hn]; rfl) (by omega) (by simp [opS]; omega),zo0 (by decide)]
  cases tyE T with
  | none => rfl
  | some a =>show zx [61] a a=some tyBool;unfold zx;rw [if_neg (by decide),if_neg (by decide),if_neg (by decide),if_neg (by decide),if_neg (by decide),if_neg (by decide),if_neg (by decide),if_pos (.inl rfl)]
 ·rw [zbP h.notx (by show (!aggOpB oNot && noAgg T)=true; rw [hn]; rfl) (by omega) (by rw [List.length_append]; simp; omega),zoz (by decide)];cases tyE T <;> rfl
 ·rw [zbP h.negx (by show (!aggOpB oNeg && noAgg T)=true; rw [hn]; rfl) (by omega) (by rw [List.length_append]; simp; omega),zoz (by decide)];cases tyE T <;> rfl
theorem zix {e:Bs} {X:List TokC} {T:Tree} {d:Nat} (h:Ex d e X T) (hd:d ≤ 60) (hn:noAgg T=true) (hl:e.length ≤ 1000):zaR ([67,79,85,78,84] ++ brk e)=(tyE T).map (fun _ => tyInt):=by
 have hp:Par (zo (subOf 64)) bP ([⟨1,wCount,0,0⟩,⟨5,wOpen,0,0⟩] ++ X ++ [⟨5,wShut,0,0⟩]) (.un { op:=oCount,pos:=0 } T):=zlV (L:=lvl 63) (by rw [zfP]; exact h.par 63 (by omega)) h.head;have hh:∀ bs,isC ⟨1,wCount,0,0⟩ bs=false → hdB bs ([⟨1,wCount,0,0⟩,⟨5,wOpen,0,0⟩] ++ X ++ [⟨5,wShut,0,0⟩]):=fun bs hb => ⟨_,_,rfl,hb⟩;rw [zhH (zlW h) (zgW (zjd (zlG (zlF (znL (zlE (zjc hp (hh _ rfl))))) (hh _ rfl)))) (hh _ rfl) (by simp [brk]; omega)];unfold tyE;show Option.bind (Chk.val ((zq E2 T 1).bind _)) outT=_;rw [zlU E2 T 1 hn]
 cases zq E2 T 0 with
 | bad p k => rfl
 | ok x => rfl
theorem zny (l:List zbc):∃ t,zaR (brk (zc8 l))=t ∧ zaR (brk (zc8 l) ++ [32,73,83,32,78,85,76,76])=t.map (fun _ => tyBool) ∧ zaR (brk (zc8 l) ++ [32,61,32] ++ brk (zc8 l))=t.map (fun _ => tyBool) ∧ zaR ([78,79,84,32] ++ brk (zc8 l))=t.bind (fun a => if a=tyBool then some tyBool else none) ∧
  zaR ([45,32] ++ brk (zc8 l))=t.bind (fun a => if a.num=true then some a else none) ∧ zaR ([67,79,85,78,84] ++ brk (zc8 l))=t.map (fun _ => tyInt):=by
 obtain ⟨X,T,h,hn⟩:=znv l;have hs:=zfq l;obtain ⟨h1,h2,h3,h4,h5⟩:=zj4 h.brk (by omega) hn (by simp [brk]; omega);exact ⟨tyE T,h1,h2,h3,h4,h5,zix h (by omega) hn (by omega)⟩
end Go.Proofs.YtgdpaieechgahaaGreatDoor
