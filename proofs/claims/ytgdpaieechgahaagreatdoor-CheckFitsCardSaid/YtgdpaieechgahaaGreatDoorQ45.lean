/-
  The texts of numbers, texts, operators and brackets, as tokens, as exprs, and cut. Plain; it speaks of no program; no condition.
-/
import Derived.Test.YtgdpaieechgahaaGreatDoorQ44
set_option linter.unusedVariables false
namespace Go.Proofs.YtgdpaieechgahaaGreatDoor
open Go.RowKit
def isFrom (t:TokC):Bool:=isC t [wFrom]
def NF (X:List TokC):Prop:=X.all (fun t => !isFrom t)=true
theorem zoS {t:TokC} (h:t.s ≠ wFrom):NF [t]:=by
 unfold NF isFrom isC;simp only [List.all_cons,List.all_nil,Bool.and_true,List.contains_cons,List.contains_nil,Bool.or_false];have h2:(t.s == wFrom)=false:=by simpa using h
 rw [h2,Bool.and_false]; rfl
theorem zhD {t:TokC} (h:t.s.length ≤ 3):NF [t]:=zoS fun h2 => by rw [h2] at h; exact absurd h (by decide)
theorem zot {t:TokC} {k:Nat} (h0:t.kind=k) (h:k ≠ 1 ∧ k ≠ 5):NF [t]:=by unfold NF isFrom isC;rw [List.all_cons,h0,decide_eq_false h.1,decide_eq_false h.2]; rfl
theorem NF.app {X Y:List TokC} (h:NF X) (k:NF Y):NF (X ++ Y):=by unfold NF at *; rw [List.all_append,h,k]; rfl
def NoFrom (x:Lexed):Prop:=∀ ts,x = .good ts → NF (ts.map Tok.strip)
def Cut (a:Bs):Prop:=∀ k p,k < a.length → NoFrom (lexB (a.take k) p)
theorem zbm (p:Nat):NoFrom (lexB [] p):=by intro ts h;have h2:lexB [] p = .good [⟨0,p,[],0,0⟩]:=rfl;rw [h2] at h; cases h; rfl
theorem NoFrom.pre {x:Lexed} (h:NoFrom x) {us:List Tok} (hu:NF (us.map Tok.strip)):NoFrom (x.pre us):=by
 intro ts ht
 cases x with
 | bad p => cases ht
 | good l => cases ht; rw [List.map_append]; exact hu.app (h l rfl)
theorem Stop.take {b:Bs} (h:Stop b) (m:Nat):Stop (b.take m):=by
 rcases h with rfl | ⟨c,q,rfl,hc⟩
 ·left; simp
 ·cases m with
  | zero => left; rfl
  | succ m => right; exact ⟨c,q.take m,by rw [List.take_succ_cons],hc⟩
theorem zis {a b:Bs} (ha:Cut a) (h:∀ m p,m < b.length → NoFrom (lexB (a ++ b.take m) p)):Cut (a ++ b):=by
 intro k p hk;by_cases h1:k < a.length
 ·rw [List.take_append_of_le_length (by omega)];exact ha k p h1
 ·have e:(a ++ b).take k=a ++ b.take (k - a.length):=by
   rw [List.take_append,List.take_of_length_le (by omega)]
  rw [e];exact h _ p (by rw [List.length_append] at hk; omega)
theorem Cut.app {a b:Bs} {X:List TokC} (ha:Cut a) (hl:LexAny a X) (hn:NF X) (hb:Cut b):Cut (a ++ b):=
 zis ha fun m p hm => by obtain ⟨us,h1,-,h3⟩:=hl (b.take m) p;rw [h3];exact (hb m _ hm).pre (by rw [h1]; exact hn)
theorem Cut.appS {a b:Bs} {X:List TokC} (ha:Cut a) (hl:LexStop a X) (hn:NF X) (hb:Cut b) (hs:Stop b):Cut (a ++ b):=
 zis ha fun m p hm => by obtain ⟨us,h1,-,h3⟩:=hl (b.take m) p (hs.take m);rw [h3];exact (hb m _ hm).pre (by rw [h1]; exact hn)
theorem zbO (c:UInt8):Cut [c]:=by
 intro k p hk;obtain rfl:k=0:=by simp at hk; exact hk
 exact zbm p
theorem zaJ {a:Bs} {X:List TokC} (h:LexStop a X) (hn:NF X) (p:Nat):NoFrom (lexB a p):=by obtain ⟨us,h1,-,h3⟩:=h [] p (.inl rfl);rw [List.append_nil] at h3;rw [h3];exact (zbm _).pre (by rw [h1]; exact hn)
theorem zoT {a:Bs} (h0:a ≠ []) (hc:zah (a.headD 0)=true) (hl:∀ x ∈ a,zb0 x=true) (h40:a.length ≤ 40):LexStop a (if zb6 (a.map upc)=true then [⟨1,a.map upc,0,0⟩] else [⟨2,a,0,0⟩]):=by
 cases a with
 | nil => exact absurd rfl h0
 | cons c q =>
  by_cases hk:zb6 ((c :: q).map upc)=true
  ·rw [if_pos hk]; exact zas hc hl hk
  ·rw [if_neg hk]; exact zbN hc hl (by simpa using hk) h40
theorem zbZ {a:Bs} (hc:zah (a.headD 0)=true) (hl:∀ x ∈ a,zb0 x=true) (h40:a.length ≤ 40) (hf:∀ k,k < a.length → (a.take k).map upc ≠ wFrom):Cut a:=by
 intro k p hk
 cases k with
 | zero => exact zbm p
 | succ k =>
  cases a with
  | nil => simp at hk
  | cons c q =>
   have:=hf (k + 1) hk;have ht:∀ x ∈ (c :: q).take (k + 1),zb0 x=true:=fun x hx => hl x (List.mem_of_mem_take hx);have hlt:((c :: q).take (k + 1)).length ≤ 40:=by rw [List.length_take]; omega
   refine zaJ (zoT (a:=(c :: q).take (k + 1)) (by simp) hc ht hlt) ?_ p;split
   ·exact zoS this
   ·exact zot (k:=2) rfl (by decide)
theorem zhE {r:Bs} (hr:Stop r ∨ r=[46]):zbR r=[] ∧ zdM r=false ∧ r.takeWhile zC=[] ∧ r.dropWhile zC=r:=by
 rcases hr with (rfl | ⟨c,q,rfl,hc⟩) | rfl
 ·exact ⟨rfl,rfl,rfl,rfl⟩
 ·have hd:=znc c hc;have hl:=zgU c hc;simp only [zb0,Bool.or_eq_false_iff] at hl;refine ⟨?_,hl.1,?_,?_⟩
  ·unfold zbR;rw [List.head?_cons,if_neg];intro h;injection h with h
   subst h
   revert hc; decide
  ·rw [List.takeWhile_cons,if_neg (by rw [hd]; decide)]
  ·rw [List.dropWhile_cons,if_neg (by rw [hd]; decide)]
 ·exact ⟨rfl,rfl,rfl,rfl⟩
theorem zlK {d r:Bs} (hd:∀ x ∈ d,zC x=true) (hr:r.takeWhile zC=[] ∧ r.dropWhile zC=r):(d ++ r).takeWhile zC=d ∧ (d ++ r).dropWhile zC=r:=by
 induction d with
 | nil => exact hr
 | cons x d ih =>have hx:=hd x List.mem_cons_self;have:=ih (fun y hy => hd y (CM _ hy));simp [hx,this.1,this.2]
theorem zlL {c:UInt8} {r q:Bs} (hd:∀ x ∈ (c :: q),zC x=true) (hv:numVal (c :: q) ≤ 9223372036854775807) (hr:Stop r ∨ r=[46]):zc3 ((c :: q) ++ r)=some (⟨3,[],numVal (c :: q),0⟩,(c :: q).length):=by
 have hc:=hd c (by simp);obtain ⟨h1,h2⟩:=zdS hc;show (if zah c=true then zcf ((c :: q) ++ r) else if zC c=true then zbt ((c :: q) ++ r) else if c=39 then zcV ((c :: q) ++ r) else zcv ((c :: q) ++ r))=_;rw [if_neg (by rw [h1]; decide),if_pos hc];obtain ⟨g1,g2,g3,g4⟩:=zhE hr;obtain ⟨ht,hw⟩:=zlK hd ⟨g3,g4⟩;have hf:zbR (((c :: q) ++ r).dropWhile zC)=[]:=by rw [hw]; exact g1
 have hl:zbK ((c :: q) ++ r)=(c :: q).length:=by unfold zbK; rw [hf,if_pos rfl,ht]
 have hg:zab ((c :: q) ++ r)=c :: q:=by unfold zab; rw [hf,ht,List.append_nil]
 unfold zbt;rw [hl,hg,hf,List.drop_left,if_neg (by rw [g2]; simp; omega)];rfl
theorem zgY {d:Bs} (h0:d ≠ []) (hd:∀ x ∈ d,zC x=true) (hv:numVal d ≤ 9223372036854775807):LexStop d [⟨3,[],numVal d,0⟩]:=by
 cases d with
 | nil => exact absurd rfl h0
 | cons c q => exact fun r p hr => zby (zdS (hd c (by simp))).2 (zlL hd hv (.inl hr))
theorem zf9 {a b:Bs} (h0:a ≠ []) (hb0:b ≠ []) (ha:∀ x ∈ a,zC x=true) (hb:∀ x ∈ b,zC x=true) (hv:numVal (a ++ b) ≤ 9223372036854775807) (h9:b.length ≤ 9):LexStop (a ++ 46 :: b) [⟨3,[],numVal (a ++ b),b.length⟩]:=by
 cases a with
 | nil => exact absurd rfl h0
 | cons c q =>
  intro r p hr;have hc:=ha c (by simp);obtain ⟨h1,h2⟩:=zdS hc;refine zby (q:=q ++ 46 :: b) h2 ?_;show (if zah c=true then zcf ((c :: (q ++ 46 :: b)) ++ r) else if zC c=true then zbt ((c :: (q ++ 46 :: b)) ++ r) else if c=39 then zcV ((c :: (q ++ 46 :: b)) ++ r) else zcv ((c :: (q ++ 46 :: b)) ++ r))=_;rw [if_neg (by rw [h1]; decide),if_pos hc];have e:(c :: (q ++ 46 :: b)) ++ r=(c :: q) ++ (46 :: (b ++ r)):=by simp
  rw [e];obtain ⟨g1,g2,g3,g4⟩:=zhE (.inl hr);obtain ⟨ht,hw⟩:=zlK (r:=46 :: (b ++ r)) ha ⟨rfl,rfl⟩;obtain ⟨ht2,hw2⟩:=zlK hb ⟨g3,g4⟩;have hf:zbR (((c :: q) ++ (46 :: (b ++ r))).dropWhile zC)=b:=by rw [hw]; unfold zbR; rw [List.head?_cons,if_pos rfl]; exact ht2
  have hl:zbK ((c :: q) ++ (46 :: (b ++ r)))=(c :: q).length + 1 + b.length:=by unfold zbK; rw [hf,if_neg hb0,ht]
  have hg:zab ((c :: q) ++ (46 :: (b ++ r)))=(c :: q) ++ b:=by unfold zab; rw [hf,ht]
  have hd:((c :: q) ++ (46 :: (b ++ r))).drop ((c :: q).length + 1 + b.length)=r:=by
   have e2:(c :: q) ++ (46 :: (b ++ r))=((c :: q) ++ 46 :: b) ++ r:=by simp
   rw [e2,show (c :: q).length + 1 + b.length=((c :: q) ++ 46 :: b).length by simp; omega,List.drop_left]
  unfold zbt;rw [hl,hg,hf,hd,if_neg (by rw [g2]; simp; simp at hv; omega)];have e3:(c :: q).length + 1 + b.length=(c :: (q ++ 46 :: b)).length:=by simp; omega
  rw [e3]
theorem zlM (d:Bs) (hd:∀ x ∈ d,zC x=true):numVal d < 10 ^ d.length:=by
 have h:∀ (l:Bs) (a:Nat),(∀ x ∈ l,zC x=true) → l.foldl (fun a c => a * 10 + (c.toNat - 48)) a < (a + 1) * 10 ^ l.length:=by
  intro l
  induction l with
  | nil => intro a _; simp
  | cons c l ih =>
   intro a hl;have hc:48 ≤ c.toNat ∧ c.toNat ≤ 57:=by simpa [zC] using hl c (by simp)
   have:=ih (a * 10 + (c.toNat - 48)) (fun x hx => hl x (by simp [hx]));refine LL this ?_;rw [List.length_cons,Nat.pow_succ,Nat.mul_comm (10 ^ l.length) 10,← Nat.mul_assoc];exact Nat.mul_le_mul_right _ (by omega)
 have:=h d 0 hd;simpa [numVal] using this
theorem za0 {d:Bs} (hd:∀ x ∈ d,zC x=true) (hl:d.length ≤ 14):numVal d ≤ 9223372036854775807:=by have h1:=zlM d hd;have h2:10 ^ d.length ≤ 10 ^ 14:=Nat.pow_le_pow_right (by decide) hl;omega
theorem zlN {d:Bs} (hd:∀ x ∈ d,zC x=true) (hl:d.length ≤ 14):Cut d:=by
 intro k p hk
 cases k with
 | zero => exact zbm p
 | succ k =>
  have ht:∀ x ∈ d.take (k + 1),zC x=true:=fun x hx => hd x (List.mem_of_mem_take hx);refine zaJ (zgY ?_ ht (za0 ht (by rw [List.length_take]; omega))) rfl p
  cases d with
  | nil => simp at hk
  | cons c q => simp
theorem lex_pt:LexAny [46] [⟨5,[46],0,0⟩]:=zeC (by decide) (by decide) (by decide) (by decide) (by decide) (by intro d; simp [marks2])
theorem zlO {a b:Bs} (h0:a ≠ []) (ha:∀ x ∈ a,zC x=true) (hb:∀ x ∈ b,zC x=true) (hla:a.length ≤ 7) (hlb:b.length ≤ 7):Cut (a ++ 46 :: b):=by
 refine zis (zlN ha (by omega)) fun m p hm => ?_
 cases m with
 | zero =>rw [List.take_zero,List.append_nil];exact zaJ (zgY h0 ha (za0 ha (by omega))) rfl p
 | succ m =>
  rw [List.take_succ_cons]
  cases m with
  | zero =>
   rw [List.take_zero]
   cases a with
   | nil => exact absurd rfl h0
   | cons c q =>obtain ⟨us,h1,-,h3⟩:=zby (p:=p) (zdS (ha c (by simp))).2 (zlL ha (za0 ha (by omega)) (.inr rfl));rw [h3];exact (zaJ lex_pt.stop rfl _).pre (by rw [h1]; rfl)
  | succ m =>
   cases b with
   | nil => simp at hm
   | cons c b =>
    have ht:∀ x ∈ (c :: b).take (m + 1),zC x=true:=fun x hx => hb x (List.mem_of_mem_take hx);refine zaJ (zf9 h0 (by simp) ha ht (za0 ?_ (by rw [List.length_append,List.length_take]; omega)) (by rw [List.length_take]; omega)) rfl p;intro x hx;rcases List.mem_append.1 hx with h | h
    ·exact ha x h
    ·exact ht x h
theorem znm {s r:Bs} (hs:∀ x ∈ s,x ≠ 39) (hr:Stop r):textL (s ++ (39 :: r))=some (s,s.length + 1):=by
 induction s with
 | nil =>
  rcases hr with rfl | ⟨c,q,rfl,hc⟩
  ·rfl
  ·refine zg3 c q ?_;rintro rfl
   revert hc; decide
 | cons c s ih =>rw [List.cons_append,zcN _ (hs c (by simp)),ih (fun x hx => hs x (by simp [hx]))];rfl
theorem znn {s:Bs} (hs:∀ x ∈ s,x ≠ 39):textL s=none:=by
 induction s with
 | nil => rfl
 | cons c s ih => rw [zcN _ (hs c (by simp)),ih (fun x hx => hs x (by simp [hx]))]; rfl
theorem zlP {s:Bs} (hs:∀ x ∈ s,x ≠ 39) (hl:s.length ≤ 200):LexStop (39 :: (s ++ [39])) [⟨4,s,0,0⟩]:=fun r p hr => by
 refine zby (by decide) ?_;have e:(39 :: (s ++ [39])) ++ r=39 :: (s ++ 39 :: r):=by simp
 rw [e,zfM];unfold zcV;rw [List.drop_succ_cons,List.drop_zero,znm hs hr];simp only;rw [if_neg (by omega)];simp
theorem zno {c:UInt8} {l:Bs} (p:Nat) (hb:zbs c=false) (h:zc3 (c :: l)=none):lexB (c :: l) p = .bad p:=by unfold lexB;rw [List.dropWhile_cons,List.takeWhile_cons,hb];exact zgf _ (by simp) h
theorem znp {s:Bs} (hs:∀ x ∈ s,x ≠ 39):Cut (39 :: (s ++ [39])):=by
 intro k p hk
 cases k with
 | zero => exact zbm p
 | succ k =>
  rw [List.take_succ_cons];have h1:∀ x ∈ (s ++ [39]).take k,x ≠ 39:=by rw [List.take_append_of_le_length (by simp at hk; omega)];exact fun x hx => hs x (List.mem_of_mem_take hx)
  have h2:zc3 (39 :: (s ++ [39]).take k)=none:=by rw [zfM];unfold zcV;rw [List.drop_succ_cons,List.drop_zero,znn h1]
  rw [zno p (by decide) h2];intro ts h; cases h
theorem zhF {c d:UInt8} (h:marks2.contains [c,d]=true):LexAny [c,d] [⟨5,[c,d],0,0⟩]:=fun r p => by
 have h2:(c=60 ∧ d=62) ∨ (c=60 ∧ d=61) ∨ (c=62 ∧ d=61):=by simpa [marks2] using h
 rcases h2 with ⟨rfl,rfl⟩ | ⟨rfl,rfl⟩ | ⟨rfl,rfl⟩ <;> exact zby (by decide) rfl
theorem zou {c d:UInt8} (h:c=60 ∨ c=62):Cut [c,d]:=by
 intro k p hk;have h2:k=0 ∨ k=1:=by simp at hk; omega
 rcases h2 with rfl | rfl
 ·exact zbm p
 ·exact zaJ (zce (c:=c) (by rcases h with rfl | rfl <;> simp)) (zhD (Nat.le_of_ble_eq_true rfl)) p
theorem znq {a:UInt8} (ha:zah a=true) (ka:zb6 [upc a]=false) (r:Bs) (p:Nat):∃ us:List Tok,us.map Tok.strip=[⟨2,[a],0,0⟩] ∧ (∀ t ∈ us,p ≤ t.pos ∧ t.pos < p + [a].length) ∧ lexB ([a] ++ (46 :: r)) p=(lexB (46 :: r) (p + [a].length)).pre us:=by
 refine zby (q:=[]) (zg4 ha) ?_;have hl:=zg5 ha;have e:((a :: ([] ++ 46 :: r)):Bs).takeWhile zb0=[a]:=by rw [List.takeWhile_cons,if_pos hl];show a :: List.takeWhile zb0 (46 :: r)=[a];rw [List.takeWhile_cons,if_neg (by decide)]
 show (if zah a=true then zcf (a :: ([] ++ 46 :: r)) else _)=_;rw [if_pos ha];unfold zcf;rw [e];rw [if_neg (by show ¬ zb6 [upc a]=true; rw [ka]; decide),if_neg (by simp)]
theorem znP {i:Nat} (h:i < 14):Cut (wdL i):=by
 rcases zcT h with ⟨c,h1,h2,e⟩ | e | ⟨a,b,h1,h2,h3,h4,e⟩
 ·rw [e]; exact zbO c
 ·rw [e]; exact zbZ (by decide) (by decide) (by decide) (by decide)
 ·rw [e];intro k p hk;have hk3:k=0 ∨ k=1 ∨ k=2:=by simp at hk; omega
  rcases hk3 with rfl | rfl | rfl
  ·exact zbm p
  ·exact zaJ (zbN (c:=a) (q:=[]) h1 (fun x hx => by simp at hx; rw [hx]; exact zg5 h1) h3 (by simp)) rfl p
  ·obtain ⟨us,g1,-,g3⟩:=znq h1 h3 [] p;have:([a,46,b]:Bs).take 2=[a] ++ (46 :: []):=rfl;rw [this,g3];exact (zaJ lex_pt.stop rfl _).pre (by rw [g1]; rfl)
theorem zoU {i:Nat} (h:i < 14):NF (wdT (wdL i)):=by rcases zcT h with ⟨c,h1,h2,e⟩ | e | ⟨a,b,h1,h2,h3,h4,e⟩ <;> rw [e] <;> rfl
def bH:List Bs:=[wMinus,wNot,wStar]
structure Pr (d:Nat) (a:Bs) (X:List TokC) (T:Tree):Prop where
 lex:LexStop a X
 par:∀ f,d ≤ f → Par (zo (subOf f)) bP X T
 head:hdB bH X
 ne:a ≠ []
 shw:showT T ≠ []
 nf:NF X
 cut:Cut a
structure Ex (d:Nat) (a:Bs) (X:List TokC) (T:Tree):Prop where
 lex:LexStop a X
 par:∀ f,d ≤ f → Par (zdO (subOf f)) bE X T
 head:hdB [wStar] X
 ne:a ≠ []
 shw:showT T ≠ []
 nf:NF X
 cut:Cut a
theorem hdB.sub {bs bs':List Bs} {X:List TokC} (h:hdB bs X) (hs:∀ x ∈ bs',x ∈ bs):hdB bs' X:=by
 obtain ⟨x,X',rfl,hx⟩:=h;refine ⟨x,X',rfl,?_⟩;unfold isC at *;rw [Bool.and_eq_false_iff] at *;rcases hx with h | h
 ·exact .inl h
 ·right;rw [Bool.eq_false_iff] at *;intro h2;exact h (List.contains_iff_mem.2 (hs _ (List.contains_iff_mem.1 h2)))
theorem zcp {h:Hd} (xs:List Bs) (h1:h.op ≠ oNumber) (h2:h.op ≠ oBool) (h3:h.op ≠ oColumn):nodeS h xs ≠ []:=by
 unfold nodeS;rw [if_neg h1];by_cases h4:h.op=oText
 ·rw [if_pos h4]; simp
 rw [if_neg h4,if_neg h2];by_cases h5:h.op=oNull
 ·rw [if_pos h5]; simp
 rw [if_neg h5,if_neg h3];simp
theorem zlQ {h:Hd} {o:Bs} (xs:List Bs) (ho:h.op=o) (h1:o ≠ oNumber ∧ o ≠ oBool ∧ o ≠ oColumn):nodeS h xs ≠ []:=zcp xs (by rw [ho]; exact h1.1) (by rw [ho]; exact h1.2.1) (by rw [ho]; exact h1.2.2)
theorem Pr.lv {d f j:Nat} {a:Bs} {X:List TokC} {T:Tree} (h:Pr d a X T) (hf:d ≤ f) (hj:j ≤ 5):Lv (subOf f) j X T:=by have h5:Lv (subOf f) 5 X T:=zjc (h.par f hf) (h.head.sub (by decide));exact Lv.to (h.head.sub (by decide)) (n:=5 - j) (by omega) (by rw [show j + (5 - j)=5 by omega]; exact h5)
theorem Pr.ex {d:Nat} {a:Bs} {X:List TokC} {T:Tree} (h:Pr d a X T):Ex d a X T:=
 ⟨h.lex,fun f hf => h.lv hf (j:=0) (by omega),h.head.sub (by decide),h.ne,h.shw,h.nf,h.cut⟩
theorem Pr.mono {d d':Nat} {a:Bs} {X:List TokC} {T:Tree} (h:Pr d a X T) (hd:d ≤ d'):Pr d' a X T:={ h with par:=fun f hf => h.par f (by omega) }
theorem Ex.mono {d d':Nat} {a:Bs} {X:List TokC} {T:Tree} (h:Ex d a X T) (hd:d ≤ d'):Ex d' a X T:={ h with par:=fun f hf => h.par f (by omega) }
theorem lex_open1:LexAny [40] [⟨5,wOpen,0,0⟩]:=zeC (by decide) (by decide) (by decide) (by decide) (by decide) (by intro d; simp [marks2])
theorem zhG:LexAny [41] [⟨5,wShut,0,0⟩]:=zeC (by decide) (by decide) (by decide) (by decide) (by decide) (by intro d; simp [marks2])
theorem zfr (r:Bs):Stop (41 :: r):=.inr ⟨41,r,rfl,.inr (.inl rfl)⟩
theorem Ex.brk {d:Nat} {a:Bs} {X:List TokC} {T:Tree} (h:Ex d a X T):Pr (d + 1) (brk a) ([⟨5,wOpen,0,0⟩] ++ X ++ [⟨5,wShut,0,0⟩]) T where
 lex:=((lex_open1.appS h.lex).app zhG (zfr _) (by simp)).stop
 par:=fun f hf => by obtain ⟨g,rfl⟩ : ∃ g,f=g + 1:=⟨f - 1,by omega⟩;exact zor (L:=lvl g) (by rw [zfP]; exact h.par g (by omega))
 head:=⟨_,_,rfl,rfl⟩
 ne:=by simp [Go.Proofs.YtgdpaieechgahaaGreatDoor.brk]
 shw:=h.shw
 nf:=(NF.app (X:=[⟨5,wOpen,0,0⟩]) rfl h.nf).app rfl
 cut:=by have h1:Cut ([40] ++ a):=(zbO 40).app lex_open1 rfl h.cut;exact h1.appS (lex_open1.appS h.lex) (NF.app (X:=[⟨5,wOpen,0,0⟩]) rfl h.nf) (zbO 41) (zfr _)
def opN (j:Nat):TokC:=([⟨5,[43],0,0⟩,⟨5,[45],0,0⟩,⟨5,[42],0,0⟩,⟨5,[47],0,0⟩,⟨5,[61],0,0⟩,⟨5,[60],0,0⟩,⟨1,[65,78,68],0,0⟩,⟨1,[79,82],0,0⟩,⟨5,[60,62],0,0⟩,⟨5,[62,61],0,0⟩,⟨5,[60,61],0,0⟩,⟨5,[62],0,0⟩]:List TokC).getD j ⟨0,[],0,0⟩
theorem zlR {a:Bs} {X:List TokC} (h:LexStop a X):LexAny ([32] ++ (a ++ [32])) X:=by have:=lex_sp.app (h.app lex_sp (.inr ⟨32,[],rfl,.inl (by decide)⟩) (by simp));simpa using this
theorem zlS {a:Bs} {X:List TokC} (h:LexStop a X) (hn:NF X) (hc:Cut a):Cut ([32] ++ (a ++ [32])):=
 (zbO 32).app lex_sp rfl (hc.appS h hn (zbO 32) (.inr ⟨32,[],rfl,.inl (by decide)⟩))
theorem zfs {j:Nat} (h:j < 12):LexAny (opS j) [opN j] ∧ Cut (opS j) ∧ NF [opN j]:=by
 have hw:∀ {c:UInt8} {q:Bs},zah c=true → (∀ x ∈ (c :: q),zb0 x=true) → zb6 ((c :: q).map upc)=true → (c :: q).length ≤ 3 → NF [⟨1,(c :: q).map upc,0,0⟩] → LexAny ([32] ++ ((c :: q) ++ [32])) [⟨1,(c :: q).map upc,0,0⟩] ∧ Cut ([32] ++ ((c :: q) ++ [32])) ∧ NF [⟨1,(c :: q).map upc,0,0⟩]:=fun {c q} h1 h2 h3 h4 h5 =>
  ⟨zlR (zas h1 h2 h3),zlS (zas h1 h2 h3) h5 (zbZ (a:=c :: q) h1 h2 (by omega) (fun k hk he => by
   have:=congrArg List.length he;rw [List.length_map,List.length_take] at this;have h6:wFrom.length=4:=rfl
   omega)),h5⟩
 have h1:∀ {c:UInt8},(c=61 ∨ c=60 ∨ c=62 ∨ c=43 ∨ c=45 ∨ c=42 ∨ c=47) → LexAny ([32] ++ ([c] ++ [32])) [⟨5,[c],0,0⟩] ∧ Cut ([32] ++ ([c] ++ [32])) ∧ NF [⟨5,[c],0,0⟩]:=fun {c} h =>
  ⟨zlR (zce h),zlS (zce h) (zhD (Nat.le_of_ble_eq_true rfl)) (zbO c),zhD (Nat.le_of_ble_eq_true rfl)⟩
 have h2:∀ {c d:UInt8},(c=60 ∨ c=62) → marks2.contains [c,d]=true → LexAny ([32] ++ ([c,d] ++ [32])) [⟨5,[c,d],0,0⟩] ∧ Cut ([32] ++ ([c,d] ++ [32])) ∧ NF [⟨5,[c,d],0,0⟩]:=fun {c d} h k =>
  ⟨zlR (zhF k).stop,zlS (zhF k).stop (zhD (Nat.le_of_ble_eq_true rfl)) (zou h),zhD (Nat.le_of_ble_eq_true rfl)⟩
 rcases op12 h with rfl | rfl | rfl | rfl | rfl | rfl | rfl | rfl | rfl | rfl | rfl | rfl
 ·exact h1 (by simp)
 ·exact h1 (by simp)
 ·exact h1 (by simp)
 ·exact h1 (by simp)
 ·exact h1 (by simp)
 ·exact h1 (by simp)
 ·exact hw (c:=65) (q:=[78,68]) (by decide) (by decide) (by decide) (by decide) rfl
 ·exact hw (c:=79) (q:=[82]) (by decide) (by decide) (by decide) (by decide) rfl
 ·exact h2 (by simp) (by decide)
 ·exact h2 (by simp) (by decide)
 ·exact h2 (by simp) (by decide)
 ·exact h1 (by simp)
theorem zeE {j:Nat} (h:j < 12) (r:Bs):Stop (opS j ++ r) ∧ opS j ≠ [] ∧ (opS j).length ≤ 5:=by
 rcases op12 h with rfl | rfl | rfl | rfl | rfl | rfl | rfl | rfl | rfl | rfl | rfl | rfl
 all_goals exact ⟨.inr ⟨32,_,rfl,.inl (by decide)⟩,by decide,by decide⟩
theorem zoV {f j:Nat} (h:j < 12) {d:Nat} {a b:Bs} {X Z:List TokC} {T U:Tree} (ha:Pr d a X T) (hb:Pr d b Z U) (hf:d ≤ f):Par (zdO (subOf f)) bE (X ++ [opN j] ++ Z) (.bin { op:=(opN j).s.map zb5,pos:=0 } T U):=by
 have hh:hdB [wNot] (X ++ [opN j] ++ Z):=zf8 (zf8 (ha.head.sub (by decide)));have hX:∀ {i},i ≤ 5 → Lv (subOf f) i X T:=fun hi => ha.lv hf hi;have hZ:∀ {i},i ≤ 5 → Lv (subOf f) i Z U:=fun hi => hb.lv hf hi;have hrel:isC (opN j) relWords=true → isC (opN j) bS=false → (opN j).s.map zb5=(opN j).s → Lv (subOf f) 0 (X ++ [opN j] ++ Z) (.bin { op:=(opN j).s.map zb5,pos:=0 } T U):=fun h1 h2 h3 => by rw [h3];exact Lv.to (j:=0) hh (n:=2) (by omega) (zfo ((znj (hX (i:=3) (by omega)) (hZ (i:=3) (by omega)) h1 h2).sub (by decide)) hh)
 rcases op12 h with rfl | rfl | rfl | rfl | rfl | rfl | rfl | rfl | rfl | rfl | rfl | rfl
 ·exact Lv.to (j:=0) hh (n:=3) (by omega) (zcS (part:=zdN (subOf f)) (hX (i:=4) (by omega)) (hZ (i:=4) (by omega)) (by decide) (by decide) (by decide) (by decide))
 ·exact Lv.to (j:=0) hh (n:=3) (by omega) (zcS (part:=zdN (subOf f)) (hX (i:=4) (by omega)) (hZ (i:=4) (by omega)) (by decide) (by decide) (by decide) (by decide))
 ·exact Lv.to (j:=0) hh (n:=4) (by omega) (zcS (part:=zbo (subOf f)) (hX (i:=5) (by omega)) (hZ (i:=5) (by omega)) (by decide) (by decide) (by decide) (by decide))
 ·exact Lv.to (j:=0) hh (n:=4) (by omega) (zcS (part:=zbo (subOf f)) (hX (i:=5) (by omega)) (hZ (i:=5) (by omega)) (by decide) (by decide) (by decide) (by decide))
 ·exact hrel (by decide) (by decide) (by decide)
 ·exact hrel (by decide) (by decide) (by decide)
 ·exact Lv.to (j:=0) hh (n:=1) (by omega) (zcS (part:=notF (subOf f)) (hX (i:=2) (by omega)) (hZ (i:=2) (by omega)) (by decide) (by decide) (by decide) (by decide))
 ·exact zcS (part:=andF (subOf f)) (hX (i:=1) (by omega)) (hZ (i:=1) (by omega)) (by decide) (by decide) (by decide) (by decide)
 ·exact hrel (by decide) (by decide) (by decide)
 ·exact hrel (by decide) (by decide) (by decide)
 ·exact hrel (by decide) (by decide) (by decide)
 ·exact hrel (by decide) (by decide) (by decide)
theorem zpc {j:Nat} (h:j < 12) (T U:Tree):showT (.bin { op:=(opN j).s.map zb5,pos:=0 } T U) ≠ []:=by refine zcp _ ?_ ?_ ?_ <;> rcases op12 h with rfl | rfl | rfl | rfl | rfl | rfl | rfl | rfl | rfl | rfl | rfl | rfl <;> decide
theorem Pr.op {d j:Nat} (h:j < 12) {a b:Bs} {X Z:List TokC} {T U:Tree} (ha:Pr d a X T) (hb:Pr d b Z U):Ex d (a ++ opS j ++ b) (X ++ [opN j] ++ Z) (.bin { op:=(opN j).s.map zb5,pos:=0 } T U) where
 lex:=(ha.lex.app (zfs h).1 (by have:=(zeE h []).1; rwa [List.append_nil] at this) (zeE h []).2.1).appS hb.lex
 par:=fun f hf => zoV h ha hb hf
 head:=zf8 (zf8 (ha.head.sub (by decide)))
 ne:=by simp [ha.ne]
 shw:=zpc h T U
 nf:=(ha.nf.app (zfs h).2.2).app hb.nf
 cut:=by
  have hs:Stop (opS j):=by have:=(zeE h []).1; rwa [List.append_nil] at this
  exact (ha.cut.appS ha.lex ha.nf (zfs h).2.1 hs).app (ha.lex.app (zfs h).1 hs (zeE h []).2.1) (ha.nf.app (zfs h).2.2) hb.cut
theorem zgZ {c:UInt8} {q:Bs} (h1:zah c=true) (h2:∀ x ∈ (c :: q),zb0 x=true) (h3:zb6 ((c :: q).map upc)=true) (h4:(c :: q).length ≤ 40) (h5:NF [⟨1,(c :: q).map upc,0,0⟩]) (hf:∀ k,k < (c :: q).length → ((c :: q).take k).map upc ≠ wFrom) :
  LexAny ((c :: q) ++ [32]) [⟨1,(c :: q).map upc,0,0⟩] ∧ Cut ((c :: q) ++ [32]):=by
 have hl:=zas h1 h2 h3;refine ⟨?_,(zbZ (a:=c :: q) h1 h2 h4 hf).appS hl h5 (zbO 32) (.inr ⟨32,[],rfl,.inl (by decide)⟩)⟩;have:=hl.app lex_sp (.inr ⟨32,[],rfl,.inl (by decide)⟩) (by simp);simpa using this
theorem Pr.notx {d:Nat} {a:Bs} {X:List TokC} {T:Tree} (ha:Pr d a X T):Ex (d + 1) ([78,79,84,32] ++ a) ([⟨1,wNot,0,0⟩] ++ X) (.un { op:=oNot,pos:=0 } T):=by
 have hw:=zgZ (c:=78) (q:=[79,84]) (by decide) (by decide) (by decide) (by decide) rfl (by decide);refine ⟨hw.1.appS ha.lex,fun f hf => ?_,⟨_,_,rfl,rfl⟩,by simp,zcp _ (by decide) (by decide) (by decide),NF.app (X:=[⟨1,wNot,0,0⟩]) rfl ha.nf,hw.2.app hw.1 rfl ha.cut⟩;obtain ⟨g,rfl⟩ : ∃ g,f=g + 1:=⟨f - 1,by omega⟩
 have h1:Par (notF (some (lvl g))) bR ([⟨1,wNot,0,0⟩] ++ X) (.un { op:=oNot,pos:=0 } T):=
  zf6 (L:=lvl g) (own:=Lvl.not) (by decide) (by rw [zfP]; exact ha.lv (j:=2) (by omega) (by omega))
 exact zgW (zjd h1)
theorem Pr.negx {d:Nat} {a:Bs} {X:List TokC} {T:Tree} (ha:Pr d a X T):Ex (d + 1) ([45,32] ++ a) ([⟨5,wMinus,0,0⟩] ++ X) (.un { op:=oNeg,pos:=0 } T):=by
 have hl:LexAny ([45] ++ [32]) [⟨5,wMinus,0,0⟩]:=by have:=(zce (c:=45) (by simp)).app lex_sp (.inr ⟨32,[],rfl,.inl (by decide)⟩) (by simp);rw [List.append_nil] at this;exact this
 have hc:Cut ([45] ++ [32]):=(zbO 45).appS (zce (c:=45) (by simp)) rfl (zbO 32) (.inr ⟨32,[],rfl,.inl (by decide)⟩);refine ⟨hl.appS ha.lex,fun f hf => ?_,⟨_,_,rfl,rfl⟩,by simp,zcp _ (by decide) (by decide) (by decide),NF.app (X:=[⟨5,wMinus,0,0⟩]) rfl ha.nf,hc.app hl rfl ha.cut⟩;obtain ⟨g,rfl⟩ : ∃ g,f=g + 1:=⟨f - 1,by omega⟩
 have h1:Par (zbo (some (lvl g))) bP ([⟨5,wMinus,0,0⟩] ++ X) (.un { op:=oNeg,pos:=0 } T):=
  zf6 (L:=lvl g) (own:=Lvl.minus) (by decide) (by rw [zfP]; exact ha.lv (j:=5) (by omega) (by omega))
 exact Lv.to (sub:=some (lvl g)) (j:=0) ⟨_,_,rfl,rfl⟩ (n:=5) (by omega) h1
theorem Pr.post {d:Nat} {a b:Bs} {X Z:List TokC} {T U:Tree} (ha:Pr d a X T) (hl:LexStop b Z) (hs:Stop b) (hb:b ≠ []) (hc:Cut b) (hn:NF Z) (hU:showT U ≠ []) (hp:∀ f,d ≤ f → Par (zbg (subOf f)) bR (X ++ Z) U):Ex d (a ++ b) (X ++ Z) U where
 lex:=ha.lex.appS hl hs hb
 par:=fun f hf => zgW (zjd (zlG (hp f hf) (zf8 (ha.head.sub (by decide)))))
 head:=zf8 (ha.head.sub (by decide))
 ne:=by simp [ha.ne]
 shw:=hU
 nf:=ha.nf.app hn
 cut:=ha.cut.appS ha.lex ha.nf hc hs
theorem Pr.isnull {d:Nat} {a:Bs} {X:List TokC} {T:Tree} (ha:Pr d a X T):Ex d (a ++ [32,73,83,32,78,85,76,76]) (X ++ [⟨1,wIs,0,0⟩,⟨1,wNull,0,0⟩]) (.un { op:=oIs,pos:=0 } T):=by
 have h1:=zgZ (c:=73) (q:=[83]) (by decide) (by decide) (by decide) (by decide) rfl (by decide);have h2:LexStop [78,85,76,76] [⟨1,wNull,0,0⟩]:=zas (by decide) (by decide) (by decide);have h2c:Cut [78,85,76,76]:=zbZ (by decide) (by decide) (by decide) (by decide)
 exact ha.post (lex_sp.appS (h1.1.appS h2)) (.inr ⟨32,_,rfl,.inl (by decide)⟩) (by simp) ((zbO 32).app lex_sp rfl (h1.2.app h1.1 rfl h2c)) rfl (zcp _ (by decide) (by decide) (by decide))
  (fun f hf => zlD (ha.lv hf (j:=3) (by omega)))
theorem Pr.notnull {d:Nat} {a:Bs} {X:List TokC} {T:Tree} (ha:Pr d a X T):Ex d (a ++ [32,105,115,32,110,111,116,32,110,117,108,108]) (X ++ [⟨1,wIs,0,0⟩,⟨1,wNot,0,0⟩,⟨1,wNull,0,0⟩]) (.un { op:=oIsNot,pos:=0 } T):=by
 have h1:=zgZ (c:=105) (q:=[115]) (by decide) (by decide) (by decide) (by decide) rfl (by decide);have h2:=zgZ (c:=110) (q:=[111,116]) (by decide) (by decide) (by decide) (by decide) rfl (by decide);have h3:LexStop [110,117,108,108] [⟨1,wNull,0,0⟩]:=zas (by decide) (by decide) (by decide);have h3c:Cut [110,117,108,108]:=zbZ (by decide) (by decide) (by decide) (by decide)
 exact ha.post (lex_sp.appS (h1.1.appS (h2.1.appS h3))) (.inr ⟨32,_,rfl,.inl (by decide)⟩) (by simp) ((zbO 32).app lex_sp rfl (h1.2.app h1.1 rfl (h2.2.app h2.1 rfl h3c))) rfl (zcp _ (by decide) (by decide) (by decide))
  (fun f hf => zhC (ha.lv hf (j:=3) (by omega)))
theorem zoW (n:Nat):∀ x ∈ dg n,zC x=true:=by
 intro x hx;simp only [dg,List.mem_singleton] at hx;subst hx;have h:(UInt8.ofNat (48 + n % 10)).toNat=48 + n % 10:=by rw [UInt8.toNat_ofNat'];omega
 simp [zC];omega
theorem zov:∀ (f n:Nat) (s:Bs),s ≠ [] → (∀ x ∈ s,zC x=true) → digF f n s ≠ [] ∧ (∀ x ∈ digF f n s,zC x=true) ∧ (digF f n s).length ≤ s.length + f:=by
 intro f
 induction f with
 | zero => intro n s h0 h; exact ⟨h0,h,LR _⟩
 | succ f ih =>
  intro n s h0 h;unfold digF;split
  ·have:=ih (n / 10) (dg (n / 10) ++ s) (by simp [h0]) (fun x hx => by
    rcases List.mem_append.1 hx with hx | hx
    ·exact zoW _ x hx
    ·exact h x hx)
   refine ⟨this.1,this.2.1,?_⟩;have h2:=this.2.2;have h3:(dg (n / 10) ++ s).length=s.length + 1:=by simp [dg]
   omega
  ·exact ⟨h0,h,by omega⟩
theorem zit (n:Nat):zdo n ≠ [] ∧ (∀ x ∈ zdo n,zC x=true) ∧ (zdo n).length ≤ 6:=by have:=zov 5 n (dg n) (by simp [dg]) (zoW n);exact ⟨this.1,this.2.1,by have h:=this.2.2; have h2:(dg n).length=1:=rfl; unfold zdo; omega⟩
theorem zow (s:Bs):(∀ x ∈ letV s,x ≠ 39) ∧ (letV s).length ≤ 20:=by
 constructor
 ·intro x hx;have:=(List.mem_filter.1 hx).2;simpa using this
 ·have h1:(letV s).length ≤ (s.take 20).length:=List.length_filter_le _ _;rw [List.length_take] at h1;omega
theorem zox {n sc:Nat} (hn:n ≤ 9223372036854775807) (hs:sc ≤ 9):numS n sc ≠ []:=by
 have h:=zmI n sc hn hs;unfold numS;split
 ·simp
 ·intro h2; rw [h2] at h; simp at h
theorem zjf {n sc:Nat} (hn:n ≤ 9223372036854775807) (hs:sc ≤ 9):showT (.leaf { op:=oNumber,pos:=0,n:=n,scale:=sc }) ≠ []:=by show nodeS _ [] ≠ [];unfold nodeS;rw [if_pos rfl];exact zox hn hs
end Go.Proofs.YtgdpaieechgahaaGreatDoor
